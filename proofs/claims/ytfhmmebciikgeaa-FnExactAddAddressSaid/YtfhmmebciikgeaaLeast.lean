/-
  CONTRACTS: the least distance of two words.
-/
import Derived.Test.YtfhmmebciikgeaaAddrV
namespace Go.Proofs.Ytfhmmebciikgeaa
open Go.RowKit

def minF (x n : Int) : Int := if x < 0 ∨ n < x then n else x
def rowF (d : ByteArray → ByteArray → Int) (l : List ByteArray) (i : Nat) : Nat → Nat → Int → Int
  | 0, _, x => x
  | m + 1, k, x => rowF d l i m (k + 1) (minF x (d (strAt l i) (strAt l k)))
def allF (d : ByteArray → ByteArray → Int) (l : List ByteArray) : Nat → Nat → Int → Int
  | 0, _, x => x
  | m + 1, i, x => allF d l m (i + 1) (rowF d l i i 0 x)
def farI (s t : ByteArray) : Int := farB s t
def leastA (l : List ByteArray) : Int := allF farI l l.length 0 (-1)
theorem rowF_step {d : ByteArray → ByteArray → Int} {l : List ByteArray} {i k : Nat} (h : k < i) (x : Int) : rowF d l i (i - k) k x = rowF d l i (i - (k + 1)) (k + 1) (minF x (d (strAt l i) (strAt l k))) := by
  rw [show i - k = (i - (k + 1)) + 1 by omega, rowF]
theorem allF_step {d : ByteArray → ByteArray → Int} {l : List ByteArray} {n i : Nat} (h : i < n) (x : Int) : allF d l (n - i) i x = allF d l (n - (i + 1)) (i + 1) (rowF d l i (i - 0) 0 x) := by
  rw [show n - i = (n - (i + 1)) + 1 by omega, allF]
  rfl
/-- All words have one length. -/
def Even (l : List ByteArray) : Prop := ∀ (k : Nat) (h : k < l.length), l[k].size ≤ 8 ∧ l[k].size = (strAt l 0).size
/-- The call returns the least distance; it is small. -/
def RetL (w : World) (l : List ByteArray) (e : Ending) (w' : World) : Prop := e = .returned (.int .i64 (leastA l)) ∧ Below w.heap.size w w' ∧ -1 ≤ leastA l ∧ leastA l ≤ 8
theorem farB_le (s t : ByteArray) : farB s t ≤ s.size := farF_le s t _ _

set_option maxHeartbeats 4000000 in
theorem l05Least_any (A : Option Addr) (n c : Nat) (l : List ByteArray) (w : World) (h : StrsAt w A l) (hl : n = l.length) (hn0 : n ≤ 1048576) (hv : Even l) :
    Calls Try.prog 53 #[.slice A n c] w (RetL w l) := by
  have H := Lib.hid h
  have HL := Lib.hid hl
  have HV := Lib.hid hv
  have E : Hid (allF farI l (n - 0) 0 (-1) = leastA l) := by show _ = _; rw [hl]; rfl
  clear h hl hv
  go_enter Try.func53, Try.ntmps53
  go_wp2_with fail
  go_loopw [3, 4] (fun v u w' => ∃ (x : Int) (i : Nat), v = .int .i64 x ∧ u = .int .i64 i ∧ i ≤ n ∧ -1 ≤ x ∧ x ≤ 8 ∧ Hid (allF farI l (n - i) i x = leastA l) ∧ Below w.heap.size w w') (fun _ u _ => n - (intOf u).toNat)
  case atStart => exact ⟨-1, 0, rfl, rfl, by omega, by omega, by omega, E, Below.refl _ _⟩
  case round =>
    clear E
    obtain ⟨x, i, rfl, rfl, hin, hx0, hx1, HE, hbel⟩ := hrel
    by_cases hlt : i < n
    · have HE1 : Hid (allF farI l (n - (i + 1)) (i + 1) (rowF farI l i (i - 0) 0 x) = leastA l) := by show _ = _; rw [← HE.out, allF_step hlt]
      clear HE
      obtain ⟨wp, rfl⟩ : ∃ wp : World, wp = wr := ⟨_, rfl⟩
      obtain ⟨y, hy⟩ : ∃ y, rowF farI l i (i - 0) 0 x = y := ⟨_, rfl⟩
      have HY : Hid (rowF farI l i (i - 0) 0 x = y) := hy
      rw [hy] at HE1
      clear hy
      go_wp2_with fail
      go_loopw [3, 5] (fun v u w' => ∃ (x : Int) (k : Nat), v = .int .i64 x ∧ u = .int .i64 k ∧ k ≤ i ∧ -1 ≤ x ∧ x ≤ 8 ∧ Hid (rowF farI l i (i - k) k x = y) ∧ Below w.heap.size w w') (fun _ u _ => i - (intOf u).toNat)
      case atStart => exact ⟨x, 0, rfl, rfl, by omega, hx0, hx1, HY, hbel⟩
      case round =>
        clear hx0 hx1 HY hbel
        obtain ⟨x, k, rfl, rfl, hki, hx0, hx1, HY, hbel⟩ := hrel
        by_cases hkl : k < i
        · obtain ⟨b, o, rfl, hblt, hc⟩ := (H.out.bel hbel) (by rw [← HL.out]; omega)
          have hil : i < l.length := by rw [← HL.out]; exact hlt
          have hkk : k < l.length := by omega
          have t0 := hc i hil
          have t1 := hc k hkk
          have hst := rowF_step (d := farI) (l := l) hkl x
          rw [strAt_eq hil, strAt_eq hkk] at hst
          obtain ⟨p1, p2⟩ := HV.out i hil
          obtain ⟨q1, q2⟩ := HV.out k hkk
          have hf8 := farB_le l[i] l[k]
          obtain ⟨s, hs⟩ : ∃ s, l[i] = s := ⟨_, rfl⟩
          obtain ⟨t, ht⟩ : ∃ t, l[k] = t := ⟨_, rfl⟩
          rw [hs] at t0 hst p1 p2 hf8
          rw [ht] at t1 hst q1 q2 hf8
          have hsz : s.size = t.size := by omega
          have hF : farI s t = (farB s t : Int) := rfl
          rw [hF] at hst
          have HST : Hid (rowF farI l i (i - (k + 1)) (k + 1) (minF x (farB s t : Int)) = y) := by show _ = _; rw [← hst]; exact HY.out
          have hs48 : s.size ≤ 1048576 := by omega
          have hfb : farB s t ≤ 8 := by omega
          clear hc hs ht hst hF p2 q2 p1 q1 hf8 HY
          go_wp2_with fail
          go_quiet (first | (go_at_call 42; exact qN (l05Far_any s t _ hs48 hsz)))
          generalize farB s t = f at *
          by_cases hmn : x < 0 ∨ (f : Int) < x
          · have HY2 : Hid (rowF farI l i (i - (k + 1)) (k + 1) (f : Int) = y) := by show _ = _; rw [← HST.out, minF, if_pos hmn]
            clear HST
            rcases (show x < 0 ∨ (0 ≤ x ∧ (f : Int) < x) by omega) with h1 | ⟨h1, h2⟩
            all_goals
              clear hmn
              go_wp2_with fail
              go_roundw
              case rel => exact ⟨f, k + 1, rfl, by go_num, by omega, by omega, by omega, HY2, below_drewN hbel _⟩
              case measure => simp [intOf]; omega
          · have HY2 : Hid (rowF farI l i (i - (k + 1)) (k + 1) x = y) := by show _ = _; rw [← HST.out, minF, if_neg hmn]
            clear HST
            have h1 : 0 ≤ x := by omega
            have h2 : x ≤ (f : Int) := by omega
            clear hmn
            go_wp2_with fail
            go_roundw
            case rel => exact ⟨x, k + 1, rfl, by go_num, by omega, by omega, by omega, HY2, below_drewN hbel _⟩
            case measure => simp [intOf]; omega
        · have hxy : x = y := by
            have h1 := HY.out
            rw [show i - k = 0 by omega, rowF] at h1
            exact h1
          subst hxy
          go_wp2_with fail
          go_roundw
          case rel => exact ⟨x, i + 1, rfl, by go_num, by omega, hx0, hx1, HE1, hbel⟩
          case measure => simp [intOf]; omega
    · have HF : Hid (leastA l = x) := by show _ = _; rw [← HE.out, show n - i = 0 by omega, allF]
      go_wp2_with fail
      go_ret
      unfold RetL
      rw [HF.out]
      exact ⟨rfl, hbel, hx0, hx1⟩

set_option maxHeartbeats 4000000 in
theorem leastDistance_any (A : Option Addr) (n c : Nat) (l : List ByteArray) (w : World) (h : StrsAt w A l) (hl : n = l.length) (hn0 : n ≤ 1048576) (hv : Even l) (hcap : n ≤ c) :
    Calls Try.prog 55 #[.slice A n c, .int .i64 (-1)] w (RetL w l) := by
  have H := Lib.hid h
  have HL := Lib.hid hl
  have HV := Lib.hid hv
  have E : Hid (allF farI l (n - 0) 0 (-1) = leastA l) := by show _ = _; rw [hl]; rfl
  clear h hl hv
  go_enter Try.func55, Try.ntmps55
  go_wp2_with fail
  go_loopw [5, 13] (fun v u w' => ∃ (x : Int) (i : Nat), v = .int .i64 x ∧ u = .int .i64 i ∧ i ≤ n ∧ -1 ≤ x ∧ x ≤ 8 ∧ Hid (allF farI l (n - i) i x = leastA l) ∧ Below w.heap.size w w') (fun _ u _ => n - (intOf u).toNat)
  case atStart => exact ⟨-1, 0, rfl, rfl, by omega, by omega, by omega, E, Below.refl _ _⟩
  case round =>
    clear E
    obtain ⟨x, i, rfl, rfl, hin, hx0, hx1, HE, hbel⟩ := hrel
    by_cases hlt : i < n
    · have HE1 : Hid (allF farI l (n - (i + 1)) (i + 1) (rowF farI l i (i - 0) 0 x) = leastA l) := by show _ = _; rw [← HE.out, allF_step hlt]
      clear HE
      obtain ⟨wp, rfl⟩ : ∃ wp : World, wp = wr := ⟨_, rfl⟩
      obtain ⟨y, hy⟩ : ∃ y, rowF farI l i (i - 0) 0 x = y := ⟨_, rfl⟩
      have HY : Hid (rowF farI l i (i - 0) 0 x = y) := hy
      rw [hy] at HE1
      obtain ⟨b, o, rfl, hblt, hc⟩ := (H.out.bel hbel) (by rw [← HL.out]; omega)
      have hil : i < l.length := by rw [← HL.out]; exact hlt
      have t0 := hc i hil
      obtain ⟨p1, p2⟩ := HV.out i hil
      obtain ⟨s, hs⟩ : ∃ s, l[i] = s := ⟨_, rfl⟩
      rw [hs] at t0 p1 p2
      have HSI := Lib.hid hs
      have HC := Lib.hid hc
      have hs48 : s.size ≤ 1048576 := by omega
      clear hy hc hs
      go_wp2_with fail
      go_loopw [5, 22] (fun v u w' => ∃ (x : Int) (k : Nat), v = .int .i64 x ∧ u = .int .i64 k ∧ k ≤ i ∧ -1 ≤ x ∧ x ≤ 8 ∧ Hid (rowF farI l i (i - k) k x = y) ∧ Below wp.heap.size wp w') (fun _ u _ => i - (intOf u).toNat)
      case atStart => exact ⟨x, 0, rfl, rfl, by omega, hx0, hx1, HY, Below.refl _ _⟩
      case round =>
        clear hx0 hx1 HY
        obtain ⟨x, k, rfl, rfl, hki, hx0, hx1, HY, hbel2⟩ := hrel
        by_cases hkl : k < i
        · have hkk : k < l.length := by omega
          have t1 := bel_cell hbel2 (HC.out k hkk)
          have hst := rowF_step (d := farI) (l := l) hkl x
          rw [strAt_eq hil, strAt_eq hkk, HSI.out] at hst
          obtain ⟨q1, q2⟩ := HV.out k hkk
          have hf8 := farB_le s l[k]
          obtain ⟨t, ht⟩ : ∃ t, l[k] = t := ⟨_, rfl⟩
          rw [ht] at t1 hst q1 q2 hf8
          have hsz : s.size = t.size := by omega
          have hF : farI s t = (farB s t : Int) := rfl
          rw [hF] at hst
          have HST : Hid (rowF farI l i (i - (k + 1)) (k + 1) (minF x (farB s t : Int)) = y) := by show _ = _; rw [← hst]; exact HY.out
          have hfb : farB s t ≤ 8 := by omega
          clear ht hst hF q2 q1 hf8 HY
          go_wp2_with fail
          refine (distance_any s t _ hs48 hsz).mono ?_
          rintro e w2 ⟨rfl, m, rfl⟩
          go_wp2_with fail
          go_quiet (fail)
          generalize farB s t = f at *
          by_cases hmn : x < 0 ∨ (f : Int) < x
          · have HY2 : Hid (rowF farI l i (i - (k + 1)) (k + 1) (f : Int) = y) := by show _ = _; rw [← HST.out, minF, if_pos hmn]
            clear HST
            rcases (show x < 0 ∨ (0 ≤ x ∧ (f : Int) < x) by omega) with h1 | ⟨h1, h2⟩
            all_goals
              clear hmn
              go_wp2_with fail
              go_roundw
              case rel => exact ⟨f, k + 1, rfl, by go_num, by omega, by omega, by omega, HY2, below_drewN hbel2 _⟩
              case measure => simp [intOf]; omega
          · have HY2 : Hid (rowF farI l i (i - (k + 1)) (k + 1) x = y) := by show _ = _; rw [← HST.out, minF, if_neg hmn]
            clear HST
            have h1 : 0 ≤ x := by omega
            have h2 : x ≤ (f : Int) := by omega
            clear hmn
            go_wp2_with fail
            go_roundw
            case rel => exact ⟨x, k + 1, rfl, by go_num, by omega, by omega, by omega, HY2, below_drewN hbel2 _⟩
            case measure => simp [intOf]; omega
        · have hxy : x = y := by
            have h1 := HY.out
            rw [show i - k = 0 by omega, rowF] at h1
            exact h1
          subst hxy
          go_wp2_with fail
          go_roundw
          case rel => exact ⟨x, i + 1, rfl, by go_num, by omega, hx0, hx1, HE1, bel_next hbel hbel2⟩
          case measure => simp [intOf]; omega
    · have HF : Hid (leastA l = x) := by show _ = _; rw [← HE.out, show n - i = 0 by omega, allF]
      go_wp2_with fail
      go_ret
      unfold RetL
      rw [HF.out]
      exact ⟨rfl, hbel, hx0, hx1⟩

end Go.Proofs.Ytfhmmebciikgeaa
