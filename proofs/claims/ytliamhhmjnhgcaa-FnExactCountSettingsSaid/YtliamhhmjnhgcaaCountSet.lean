/-
  CONTRACTS: how many settings a network has.
-/
import Derived.Test.YtliamhhmjnhgcaaTubesFrom
namespace Go.Proofs.Ytliamhhmjnhgcaa
open Go.RowKit

def cntF (st : Int) : List Tb → Nat
  | [] => 0
  | t :: ts => if t.1 = st then cntF st ts + 1 else cntF st ts
theorem cntF_le (st : Int) : ∀ l : List Tb, cntF st l ≤ l.length
  | [] => Nat.le_refl _
  | t :: ts => by
    have := cntF_le st ts
    rw [cntF]
    split <;> simp <;> omega
theorem fromI_len (st : Int) : ∀ (l : List Tb) (k : Int), (fromI st l k).length = cntF st l
  | [], _ => rfl
  | t :: ts, k => by
    have := fromI_len st ts (k + 1)
    rw [fromI, cntF]
    split <;> simp [this]
theorem cntF_step {st : Int} {l : List Tb} {i : Nat} (h : i < l.length) : cntF st (l.drop i) = (if l[i].1 = st then cntF st (l.drop (i + 1)) + 1 else cntF st (l.drop (i + 1))) := by
  rw [drop_at' h, cntF]

def settle (l : List Tb) : Nat → Int → Int → Int × Int
  | 0, _, p => (p, 0)
  | k + 1, i, p => if 100000 < p * ((cntF i l : Int) + 1) then (0, 5) else settle l k (i + 1) (p * ((cntF i l : Int) + 1))
def countSet (S : Int) (l : List Tb) : Int × Int := if validN S l then settle l S.toNat 0 1 else (0, 1)
theorem settle_step {S i : Int} (h : i < S) (l : List Tb) (p : Int) : settle l (S - i).toNat i p = (if 100000 < p * ((cntF i l : Int) + 1) then (0, 5) else settle l (S - (i + 1)).toNat (i + 1) (p * ((cntF i l : Int) + 1))) := by
  have e : (S - i).toNat = (S - (i + 1)).toNat + 1 := by omega
  rw [e, settle]
theorem settle_end {S i : Int} (h : S ≤ i) (l : List Tb) (p : Int) : settle l (S - i).toNat i p = (p, 0) := by
  rw [show (S - i).toNat = 0 by omega]; rfl
theorem settle_mul {p : Int} {c : Nat} (h0 : 0 ≤ p) (h1 : p ≤ 100000) (hc : c ≤ 24) : 0 ≤ p * ((c : Int) + 1) ∧ p * ((c : Int) + 1) ≤ 2500000 := by
  refine ⟨Int.mul_nonneg h0 (by omega), ?_⟩
  have h := Int.mul_le_mul h1 (show (c : Int) + 1 ≤ 25 by omega) (by omega) (by omega)
  omega

set_option maxHeartbeats 4000000 in
theorem specCountSettings_any (S : Int) (A : Option Addr) (n c : Nat) (l : List Tb) (w : World) (h : TubesAt w A l) (hl : n = l.length) (hn0 : n ≤ 1048576) :
    Calls Try.prog 44 #[.agg #[.int .i64 S, .slice A n c]] w (Ret w (.tuple #[.int .i64 (countSet S l).1, .int .i64 (countSet S l).2])) := by
  have HL := Lib.hid hl
  have H := Lib.hid h
  clear hl h
  go_enter Try.func44, Try.ntmps44
  go_wp2_with fail
  refine (l02Ok_any _ S A n c l _ (NetAt.box H.out _) HL.out hn0).mono ?_
  rintro e w1 ⟨rfl, hb1⟩
  have D1 : Below w.heap.size w w1 := Below.trans (by go_grown) (hb1.mono (by simp))
  have N1 : Hid (Blk w1 w.heap.size _ _) := bel_blk (Blk.new _ _ _) hb1
  have s1 := N1.out.lt
  obtain ⟨a0, a1, -⟩ := N1.out.c2
  clear hb1
  cases hv : validN S l
  · have E : Hid (countSet S l = (0, 1)) := by show _ = _; simp [countSet, hv]
    go_wp2_with fail
    refine bodyPost_ret (v := .tuple #[.int .i64 0, .int .i64 1]) (by simp [results, Try.results44, go_sem]) rfl ?_
    rw [E.out]
    exact ⟨rfl, D1⟩
  · obtain ⟨v0, v1, v2, -⟩ := validN_true hv
    have E : Hid (countSet S l = settle l (S - 0).toNat 0 1) := by show _ = _; simp [countSet, hv]
    have hn24 : n ≤ 24 := by rw [HL.out]; exact v2
    clear hv v2
    go_wp2_with fail
    go_loopw [4, 5] (fun u v w' => ∃ (p i : Int), u = .int .i64 p ∧ v = .int .i64 i ∧ 0 ≤ i ∧ i ≤ S ∧ 0 ≤ p ∧ p ≤ 100000 ∧ Hid (settle l (S - i).toNat i p = settle l (S - 0).toNat 0 1) ∧ Below w1.heap.size w1 w') (fun _ v _ => (S - intOf v).toNat)
    case atStart => exact ⟨1, 0, rfl, rfl, by omega, by omega, by omega, by omega, rfl, Below.refl _ _⟩
    case round =>
      obtain ⟨p, i, rfl, rfl, hi0, hiS, hp0, hp1, HP, hbel⟩ := hrel
      by_cases hlt : i < S
      · have k0 := bel_cell hbel a0
        have k1 := bel_cell hbel a1
        obtain ⟨wo, rfl⟩ : ∃ wo : World, wo = wr := ⟨_, rfl⟩
        go_wp2_with fail
        go_loopw [6, 7] (fun u v w' => ∃ (q j : Nat), u = .int .i64 q ∧ v = .int .i64 j ∧ j ≤ n ∧ 1 ≤ q ∧ q ≤ j + 1 ∧ Hid (q + cntF i (l.drop j) = 1 + cntF i l) ∧ Below wo.heap.size wo w') (fun _ v _ => n - (intOf v).toNat)
        case atStart => exact ⟨1, 0, rfl, rfl, by omega, by omega, by omega, rfl, Below.refl _ _⟩
        case round =>
          obtain ⟨q, j, rfl, rfl, hjn, hq0, hq1, HQ, hbel2⟩ := hrel
          have m0 := bel_cell hbel2 k0
          have m1 := bel_cell hbel2 k1
          by_cases hjl : j < n
          · have hil : j < l.length := by rw [← HL.out]; exact hjl
            have HT := (H.out.bel D1).bel hbel |>.bel hbel2
            obtain ⟨b', o, rfl, hblt, hc⟩ := HT (by omega)
            obtain ⟨t0, t1, t2⟩ := hc j hil
            clear hc HT
            have hd := cntF_step (st := i) hil
            by_cases hv : l[j].1 = i
            · have HS2 : Hid ((q + 1) + cntF i (l.drop (j + 1)) = 1 + cntF i l) := by show _ = _; rw [← HQ.out, hd, if_pos hv]; omega
              have hb : (l[j].1 == i) = true := by simpa using hv
              clear hd hv HQ
              go_wp2_with fail
              go_roundw
              case rel => exact ⟨q + 1, j + 1, by go_num, by go_num, by omega, by omega, by omega, HS2, hbel2⟩
              case measure => simp [intOf]; omega
            · have HS2 : Hid (q + cntF i (l.drop (j + 1)) = 1 + cntF i l) := by show _ = _; rw [← HQ.out, hd, if_neg hv]
              have hb : (l[j].1 == i) = false := by simpa using hv
              clear hd hv HQ
              go_wp2_with fail
              go_roundw
              case rel => exact ⟨q, j + 1, by go_num, by go_num, by omega, by omega, by omega, HS2, hbel2⟩
              case measure => simp [intOf]; omega
          · have hq : q = cntF i l + 1 := by
              have h1 := HQ.out
              rw [List.drop_of_length_le (by rw [← HL.out]; omega), cntF] at h1
              omega
            have hc24 : cntF i l ≤ 24 := Nat.le_trans (cntF_le i l) (by rw [← HL.out]; exact hn24)
            clear HQ
            have hqi : (cntF i l : Int) + 1 = (q : Int) := by omega
            have hm := settle_mul hp0 hp1 hc24
            have hs := settle_step hlt l p
            rw [hqi] at hm hs
            have e1 : IntKind.i64.wrap (p * (q : Int)) = p * (q : Int) := IntWalk.i64_in _ (by omega)
            clear hq hqi
            generalize hgq : p * (q : Int) = r at *
            have D3 := bel_next hbel hbel2
            by_cases hbig : 100000 < r
            · have E2 : Hid (countSet S l = (0, 5)) := by show _ = _; rw [E.out, ← HP.out, hs, if_pos hbig]
              clear hs
              go_wp2_with fail
              refine bodyPost_ret (v := .tuple #[.int .i64 0, .int .i64 5]) (by simp [results, Try.results44, go_sem]) rfl ?_
              rw [E2.out]
              exact ⟨rfl, bel_next D1 D3⟩
            · have HP2 : Hid (settle l (S - (i + 1)).toNat (i + 1) r = settle l (S - 0).toNat 0 1) := by show _ = _; rw [← HP.out, hs, if_neg hbig]
              clear hs
              go_wp2_with fail
              go_roundw
              case rel => exact ⟨r, i + 1, by go_num, by go_num, by omega, by omega, by omega, by omega, HP2, D3⟩
              case measure => simp [intOf]; omega
      · have E2 : Hid (countSet S l = (p, 0)) := by show _ = _; rw [E.out, ← HP.out, settle_end (by omega)]
        have k0 := bel_cell hbel a0
        go_wp2_with fail
        refine bodyPost_ret (v := .tuple #[.int .i64 p, .int .i64 0]) (by simp [results, Try.results44, go_sem]) rfl ?_
        rw [E2.out]
        exact ⟨rfl, bel_next D1 hbel⟩

set_option maxHeartbeats 4000000 in
theorem implCountSettings_any (S : Int) (A : Option Addr) (n c : Nat) (l : List Tb) (w : World) (h : TubesAt w A l) (hl : n = l.length) (hn0 : n ≤ 1048576) :
    Calls Try.prog 45 #[.agg #[.int .i64 S, .slice A n c]] w (Ret w (.tuple #[.int .i64 (countSet S l).1, .int .i64 (countSet S l).2])) := by
  have HL := Lib.hid hl
  have H := Lib.hid h
  clear hl h
  go_enter Try.func45, Try.ntmps45
  go_wp2_with fail
  refine (implValidNet_any S A n c l _ (H.out.alloc _) HL.out hn0).mono ?_
  rintro e w1 ⟨rfl, hb1⟩
  have D1 : Below w.heap.size w w1 := Below.trans (by go_grown) (hb1.mono (by simp))
  have N1 : Hid (Blk w1 w.heap.size _ _) := bel_blk (Blk.new _ _ _) hb1
  have s1 := N1.out.lt
  obtain ⟨a0, a1, -⟩ := N1.out.c2
  clear hb1
  cases hv : validN S l
  · have E : Hid (countSet S l = (0, 1)) := by show _ = _; simp [countSet, hv]
    go_wp2_with fail
    refine bodyPost_ret (v := .tuple #[.int .i64 0, .int .i64 1]) (by simp [results, Try.results45, go_sem]) rfl ?_
    rw [E.out]
    exact ⟨rfl, D1⟩
  · obtain ⟨v0, v1, v2, -⟩ := validN_true hv
    have E : Hid (countSet S l = settle l (S - 0).toNat 0 1) := by show _ = _; simp [countSet, hv]
    have hn24 : n ≤ 24 := by rw [HL.out]; exact v2
    clear hv v2
    go_wp2_with fail
    go_loopw [4, 11] (fun u v w' => ∃ (p i : Int), u = .int .i64 p ∧ v = .int .i64 i ∧ 0 ≤ i ∧ i ≤ S ∧ 0 ≤ p ∧ p ≤ 100000 ∧ Hid (settle l (S - i).toNat i p = settle l (S - 0).toNat 0 1) ∧ Below w1.heap.size w1 w') (fun _ v _ => (S - intOf v).toNat)
    case atStart => exact ⟨1, 0, rfl, rfl, by omega, by omega, by omega, by omega, rfl, Below.refl _ _⟩
    case round =>
      obtain ⟨p, i, rfl, rfl, hi0, hiS, hp0, hp1, HP, hbel⟩ := hrel
      by_cases hlt : i < S
      · have k0 := bel_cell hbel a0
        have k1 := bel_cell hbel a1
        have hc24 : cntF i l ≤ 24 := Nat.le_trans (cntF_le i l) (by rw [← HL.out]; exact hn24)
        have hm := settle_mul hp0 hp1 hc24
        have hs := settle_step hlt l p
        go_wp2_with fail
        refine (tubesFrom_any S A n c l i _ ((H.out.bel D1).bel hbel) HL.out hn0).mono ?_
        rintro e w2 ⟨A2, c2, rfl, -, hb2⟩
        rw [fromI_len]
        have e0 : IntKind.i64.wrap ((cntF i l : Int) + 1) = (cntF i l : Int) + 1 := IntWalk.i64_in _ (by omega)
        have e1 : IntKind.i64.wrap (p * ((cntF i l : Int) + 1)) = p * ((cntF i l : Int) + 1) := IntWalk.i64_in _ (by omega)
        generalize hgq : p * ((cntF i l : Int) + 1) = q at *
        have D3 := bel_next hbel hb2
        by_cases hbig : 100000 < q
        · have E2 : Hid (countSet S l = (0, 5)) := by show _ = _; rw [E.out, ← HP.out, hs, if_pos hbig]
          clear hs
          go_wp2_with fail
          refine bodyPost_ret (v := .tuple #[.int .i64 0, .int .i64 5]) (by simp [results, Try.results45, go_sem]) rfl ?_
          rw [E2.out]
          exact ⟨rfl, bel_next D1 D3⟩
        · have HP2 : Hid (settle l (S - (i + 1)).toNat (i + 1) q = settle l (S - 0).toNat 0 1) := by show _ = _; rw [← HP.out, hs, if_neg hbig]
          clear hs
          go_wp2_with fail
          go_roundw
          case rel => exact ⟨q, i + 1, by go_num, by go_num, by omega, by omega, by omega, by omega, HP2, D3⟩
          case measure => simp [intOf]; omega
      · have E2 : Hid (countSet S l = (p, 0)) := by show _ = _; rw [E.out, ← HP.out, settle_end (by omega)]
        go_wp2_with fail
        refine bodyPost_ret (v := .tuple #[.int .i64 p, .int .i64 0]) (by simp [results, Try.results45, go_sem]) rfl ?_
        rw [E2.out]
        exact ⟨rfl, bel_next D1 hbel⟩

end Go.Proofs.Ytliamhhmjnhgcaa
