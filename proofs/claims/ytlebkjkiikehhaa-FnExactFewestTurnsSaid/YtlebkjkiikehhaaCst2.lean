/-
  CONTRACT: the least costs to a station (printed by tools/gen_cost.py).
-/
import Derived.Test.YtlebkjkiikehhaaCstP
import Derived.Test.YtlebkjkiikehhaaAid
namespace Go.Proofs.Ytlebkjkiikehhaa.Cst
open Go.RowKit

theorem ints_set (l : List Int) (i : Nat) (x : Int) : (ints l).setIfInBounds i (.int .i64 x) = ints (l.set i x) := by simp [ints, List.map_set]
theorem ints_get {l : List Int} {i : Nat} (h : i < l.length) : (ints l)[i]? = some (.int .i64 (at_ l i)) := by simp [ints, at_, h]
theorem passI_step {wo : Int} {l : List Tb} {i : Nat} (h : i < l.length) (o : List Int) : passI wo (l.drop i) i o = passI wo (l.drop (i + 1)) (i + 1 : Nat) (if (i : Int) = wo then o else relax o l[i]) := by
  rw [drop_at' h, passI]
  rfl
theorem relax_no {o : List Int} {t : Tb} {d : Nat} (hd : t.2.1 = d) (h : at_ o d < 0) : relax o t = o := by simp [relax, hd, h]
theorem relax_keep {o : List Int} {t : Tb} {f d : Nat} (hf : t.1 = f) (hd : t.2.1 = d) (h1 : 0 ≤ at_ o f) (h2 : at_ o f ≤ at_ o d + t.2.2) : relax o t = o := by
  unfold relax
  rw [hf, hd]
  simp only [Int.toNat_natCast]
  split
  · rfl
  · rw [if_neg (by omega)]
theorem relax_yes {o : List Int} {t : Tb} {f d : Nat} (hf : t.1 = f) (hd : t.2.1 = d) (h0 : 0 ≤ at_ o d) (h : at_ o f < 0 ∨ at_ o d + t.2.2 < at_ o f) : relax o t = o.set f (at_ o d + t.2.2) := by
  unfold relax
  rw [hf, hd]
  simp only [Int.toNat_natCast]
  rw [if_neg (by omega), if_pos h]
theorem start_le (S g : Nat) (h : g < S) (v : Nat) : at_ (start S g) v ≤ 0 := by
  rw [start_at S g v h]
  split <;> omega

/-- One tube more has been looked at. -/
structure Seen (wo : Int) (l : List Tb) (s n i : Nat) (o0 o : List Int) (B : Int) : Prop where
  len : o.length = s
  eq : passI wo (l.drop i) i o = passI wo l 0 o0
  le : ∀ v, at_ o v ≤ B + 102000 * (i : Int)
theorem Seen.skip {wo B : Int} {l : List Tb} {s n i : Nat} {o0 o : List Int} (h : Seen wo l s n i o0 o B) (hi : i < l.length) (hr : (i : Int) = wo ∨ relax o l[i] = o) : Seen wo l s n (i + 1) o0 o B := by
  refine ⟨h.len, ?_, fun v => by have := h.le v; omega⟩
  rw [← h.eq, passI_step hi]
  rcases hr with hr | hr
  · rw [if_pos hr]
  · rw [hr]; simp
theorem Seen.take {wo B : Int} {l : List Tb} {s n i : Nat} {o0 o : List Int} (h : Seen wo l s n i o0 o B) (hi : i < l.length) (hw : (i : Int) ≠ wo) {f : Nat} {x : Int} (hr : relax o l[i] = o.set f x) (hx : x ≤ B + 102000 * (i : Int) + 102000) : Seen wo l s n (i + 1) o0 (o.set f x) B := by
  refine ⟨by rw [List.length_set, h.len], ?_, fun v => ?_⟩
  · rw [← h.eq, passI_step hi, if_neg hw, hr]
  · have := h.le v
    rw [at_set]
    split <;> omega


/-- A length has been found or has become less. -/
def Chg (o0 o : List Int) : Prop := ∃ v, 0 ≤ at_ o v ∧ (at_ o0 v < 0 ∨ at_ o v < at_ o0 v)
theorem Chg.take {o0 o : List Int} {f : Nat} {x : Int} (h : o = o0 ∨ Chg o0 o) (hf : f < o.length) (hx : 0 ≤ x) (hz : at_ o f < 0 ∨ x < at_ o f) : Chg o0 (o.set f x) := by
  rcases h with rfl | ⟨v, h1, h2⟩
  · exact ⟨f, by rw [at_set, if_pos ⟨rfl, hf⟩]; omega⟩
  · refine ⟨v, ?_⟩
    rw [at_set]
    split
    · rename_i hc
      rw [hc.1] at hz
      omega
    · exact ⟨h1, h2⟩
theorem chg_lt {s k q : Nat} {E : List Tb} (hE : Good s E) (hq : q < s) (h : Chg (itP E (start s q) k) (itP E (start s q) (k + 1))) : k < s := by
  rcases Nat.lt_or_ge k s with h1 | h1
  · exact h1
  · have h2 := it_stay _ s (A_fix hE hq) (k - s)
    have h3 := it_stay _ s (A_fix hE hq) (k + 1 - s)
    rw [show s + (k - s) = k by omega] at h2
    rw [show s + (k + 1 - s) = k + 1 by omega] at h3
    obtain ⟨v, h4, h5⟩ := h
    rw [h2] at h5
    rw [h3] at h4 h5
    omega
/-- Whether something has changed so far. -/
def ChS (m : Bool) (o0 o : List Int) : Prop := m = false ∧ o = o0 ∨ m = true ∧ Chg o0 o
def StopS (m : Bool) (o z : List Int) : Prop := m = false → o = z
def mb : Value → Bool
  | .bool b => b
  | _ => false
theorem info_int64D : (Try.prog.info? 2).map (fun i => (i.zero, i.size, i.bytes)) = some (some (.int .i64 0), 1, 8) := by kernel_rfl

set_option maxHeartbeats 8000000 in
theorem l02Far_any (b : Nat) (S : Int) (A : Option Addr) (n c : Nat) (l : List Tb) (gl wo : Int) (w : World) (h : NetAt w b S A n c l) (hl : n = l.length) (hv : validC S l) (hg0 : 0 ≤ gl) (hg1 : gl < S) :
    Calls Try.prog 76 #[.pointer (some ⟨b, 0, none⟩), .int .i64 gl, .int .i64 wo] w (Made1 w 2 (distN S l gl wo) S.toNat) := by
  obtain ⟨v0, v1, v2, -⟩ := validC_true hv
  obtain ⟨s, rfl⟩ : ∃ s : Nat, S = s := ⟨S.toNat, by omega⟩
  obtain ⟨q, rfl⟩ : ∃ q : Nat, gl = q := ⟨gl.toNat, by omega⟩
  have hq : q < s := by omega
  have hs2 : 2 ≤ s := by omega
  have hs10 : s ≤ 10 := by omega
  have hn24 : n ≤ 24 := by rw [hl]; exact v2
  have HL := Lib.hid hl
  have HV := Lib.hid hv
  obtain ⟨E, hE⟩ : ∃ E, E = eff wo l 0 := ⟨_, rfl⟩
  have HE := Lib.hid hE
  have HGE : Hid (Good s E) := by show Good s E; rw [hE]; exact good_eff hv wo 0
  have HR : Hid (distN s l q wo = itP E (start s q) s) := by show _ = _; rw [hE]; rfl
  obtain ⟨i0, hi, hz0, hz1, hz2⟩ := info_parts info_int64D
  have hmk := fun W => run_make_rowN (P := Try.prog) 39 2 i0 _ Try.underlying39 hi hz0 .i64 .i64 s s (Nat.le_refl _) (by rw [hz2]; omega) (by omega) W
  have HI := Lib.hid hz1
  obtain ⟨a0, a1, hts⟩ := h
  have H := Lib.hid hts
  obtain ⟨C, hC⟩ : ∃ C, C = (s + 1) * n := ⟨_, rfl⟩
  have HC := Lib.hid hC
  clear hts hl hv hE v0 v1 v2 hg0 hg1 hz1 hz2 hz0 hi hC
  show Calls Try.prog 76 _ w (Made1 w 2 (distN s l q wo) s)
  go_enter Try.func76, Try.ntmps76
  go_wp2_with fail
  go_loopw [8] (fun u w' => ∃ (i : Nat) (cs : Array Value), u = .int .i64 i ∧ i ≤ s ∧ cs.size = s ∧ Hid (Blk w' w.heap.size 2 cs) ∧ Hid (∀ k, k < i → cs[k]? = some (.int .i64 (-1))) ∧ Hid (w'.heap.size = w.heap.size + 1) ∧ Below w.heap.size w w') (fun u _ => s - (intOf u).toNat)
  case atStart => exact ⟨0, _, rfl, by omega, by rw [size_madeCells, HI.out, Nat.mul_one], Blk.new _ _ _, fun k h => absurd h (by omega), by show _ = _; simp, by go_grown⟩
  case round =>
    obtain ⟨i, cs, rfl, his, hcs, HB, HF, hsz, hbel⟩ := hrel
    clear hmk
    by_cases hlt : i < s
    · have x0 : wr.cell? ⟨w.heap.size, i, none⟩ = some (cs[i]'(by omega)) := by rw [HB.out.cell]; exact Array.getElem?_eq_getElem _
      have f0 := HB.out.frozen i
      have HF2 : Hid (∀ k, k < i + 1 → (cs.setIfInBounds i (.int .i64 (-1)))[k]? = some (.int .i64 (-1))) := by
        show ∀ k, _
        intro k hk
        by_cases e : k = i
        · subst e
          simp [Array.getElem?_setIfInBounds]
          omega
        · rw [Array.getElem?_setIfInBounds_ne (by omega)]; exact HF.out k (by omega)
      go_wp2_with fail
      go_roundw
      case rel => exact ⟨i + 1, _, by go_num, by omega, by simpa using hcs, HB.out.set_ _ _, HF2, by have := hsz.out; show _ = _; simpa using this, hbel.setCell (by simp) _⟩
      case measure => simp [intOf]; omega
    · have hie : i = s := by omega
      subst hie
      have x0 : wr.cell? ⟨w.heap.size, q, none⟩ = some (cs[q]'(by omega)) := by rw [HB.out.cell]; exact Array.getElem?_eq_getElem _
      have f0 := HB.out.frozen q
      have HB2 : Hid (Blk (wr.setCell ⟨w.heap.size, q, none⟩ (.int .i64 0)) w.heap.size 2 (ints (itP E (start i q) 0))) := by
        have hce : cs = ints (List.replicate i (-1)) := by
          apply Array.ext
          · simp [ints, hcs]
          · intro k h1 h2
            have := HF.out k (by omega)
            rw [Array.getElem?_eq_getElem h1] at this
            rw [Option.some.inj this]
            simp [ints]
        have h2 := HB.out.set_ q (.int .i64 0)
        rw [hce, ints_set] at h2
        exact h2
      have HLE0 : Hid (∀ v, at_ (itP E (start i q) 0) v ≤ 2448000 * ((0 : Nat) : Int)) := fun v => by have := start_le i q hq v; simpa [itP] using this
      have hb3 : Below w.heap.size w (wr.setCell ⟨w.heap.size, q, none⟩ (.int .i64 0)) := hbel.setCell (by simp) _
      clear HF HB
      go_wp2_with fail
      go_loopw [9] (fun u w' => ∃ (m : Bool) (k p : Nat) (o : List Int), u = .bool m ∧ Hid (o = itP E (start i q) k) ∧ p = k * n ∧ (m = true → k ≤ i) ∧ Hid (StopS m o (itP E (start i q) i)) ∧ k ≤ i + 1 ∧ Hid (Blk w' w.heap.size 2 (ints o)) ∧ Hid (∀ v, at_ o v ≤ 2448000 * (k : Int)) ∧ Hid (w'.heap.size = w.heap.size + 1 + p) ∧ Below w.heap.size w w') (fun u w' => if mb u then 1 + (w.heap.size + 1 + C - w'.heap.size) else 0)
      case atStart => exact ⟨true, 0, 0, _, rfl, rfl, by omega, by omega, (fun h => absurd h (by simp)), by omega, HB2, HLE0, by have := hsz.out; show _ = _; simpa using this, hb3⟩
      case round =>
        clear x0 f0 HB2 hb3 HLE0 hsz hbel hlt
        obtain ⟨m, k, p, o0, rfl, HO0, hp, hk, HM, hk1, HB, HLE, hsz, hbel⟩ := hrel
        have HP := Lib.hid hp
        clear hp
        cases m with
        | false =>
          have hr := HM.out rfl
          subst hr
          go_wp2_with fail
          go_ret
          refine ⟨w.heap.size, rfl, Nat.le_refl _, ?_, hbel⟩
          rw [HR.out]
          exact HB
        | true =>
          have hk2 : k ≤ i := hk rfl
          have hpc : p + n ≤ C := by rw [HP.out, HC.out, ← Nat.succ_mul]; exact Nat.mul_le_mul_right _ (by omega)
          have hl0 : o0.length = i := by rw [HO0.out]; exact A_len k
          have HS0 : Hid (Seen wo l i n 0 o0 o0 (2448000 * (k : Int))) := ⟨hl0, rfl, fun v => by have := HLE.out v; omega⟩
          have HCH : Hid (ChS false o0 o0) := .inl ⟨rfl, rfl⟩
          have b0 := bel_cell hbel a0
          have b1 := bel_cell hbel a1
          clear hk HLE HM
          obtain ⟨wp, rfl⟩ : ∃ wp : World, wp = wr := ⟨_, rfl⟩
          go_wp2_with fail
          go_loopw [9, 10] (fun u v w' => ∃ (m : Bool) (t : Nat) (o : List Int), u = .bool m ∧ v = .int .i64 t ∧ t ≤ n ∧ Hid (Blk w' w.heap.size 2 (ints o)) ∧ Hid (Seen wo l i n t o0 o (2448000 * (k : Int))) ∧ Hid (ChS m o0 o) ∧ Hid (w'.heap.size = w.heap.size + 1 + p + t) ∧ Below w.heap.size w w') (fun _ v _ => n - (intOf v).toNat)
          case atStart => exact ⟨false, 0, o0, rfl, rfl, by omega, HB, HS0, HCH, by have := hsz.out; show _ = _; simpa using this, hbel⟩
          case round =>
            clear HB HS0 HCH b0 b1 hbel
            obtain ⟨m, t, o, rfl, rfl, htn, HB, HS, HCH, hsz2, hbel⟩ := hrel
            have b0 := bel_cell hbel a0
            have b1 := bel_cell hbel a1
            by_cases hil : t < n
            · have hi' : t < l.length := by rw [← HL.out]; exact hil
              have hgd := good_at HV.out hi'
              obtain ⟨y0, y1, y2, y3, y4, y5⟩ := hgd
              obtain ⟨b', o', rfl, hblt, hc⟩ := (H.out.bel hbel) (by omega)
              obtain ⟨t0, t1, t2⟩ := hc t hi'
              obtain ⟨f, hf⟩ : ∃ f : Nat, l[t].1 = f := ⟨l[t].1.toNat, by omega⟩
              obtain ⟨d, hd⟩ : ∃ d : Nat, l[t].2.1 = d := ⟨l[t].2.1.toNat, by omega⟩
              obtain ⟨x, hx⟩ : ∃ x : Int, l[t].2.2 = x := ⟨_, rfl⟩
              have hlen := HS.out.len
              rw [hf] at t0 y0 y1
              rw [hd] at t1 y2 y3
              rw [hx] at t2 y4 y5
              simp only [Int.toNat_natCast] at y1 y3
              have cd : wr.cell? ⟨w.heap.size, d, none⟩ = some (.int .i64 (at_ o d)) := by rw [HB.out.cell]; exact ints_get (by omega)
              have cf : wr.cell? ⟨w.heap.size, f, none⟩ = some (.int .i64 (at_ o f)) := by rw [HB.out.cell]; exact ints_get (by omega)
              have ff := HB.out.frozen f
              have ly := HS.out.le d
              have gls := HB.out.lt
              have HNO := fun h => relax_no (o := o) (t := l[t]'hi') hd h
              have HKE := fun h1 h2 => relax_keep (o := o) (t := l[t]'hi') hf hd h1 h2
              have HYE := fun h1 h2 => relax_yes (o := o) (t := l[t]'hi') hf hd h1 h2
              rw [hx] at HKE HYE
              have HNO := Lib.hid HNO
              have HKE := Lib.hid HKE
              have HYE := Lib.hid HYE
              clear hc hf hd hx
              obtain ⟨y, hy⟩ : ∃ y, at_ o d = y := ⟨_, rfl⟩
              obtain ⟨z, hz⟩ : ∃ z, at_ o f = z := ⟨_, rfl⟩
              have HZ := Lib.hid hz
              rw [hy] at cd ly HNO HKE HYE
              rw [hz] at cf HKE HYE
              clear hy hz
              by_cases hw : (t : Int) = wo
              · have HS2 : Hid (Seen wo l i n (t + 1) o0 o (2448000 * (k : Int))) := HS.out.skip hi' (.inl hw)
                subst hw
                clear HS HNO HKE HYE
                go_wp2_with fail
                go_roundw
                case rel => exact ⟨m, t + 1, o, rfl, by go_num, by omega, HB.out.alloc _, HS2, HCH, by have := hsz2.out; show _ = _; simp; omega, hbel.alloc hbel.size _⟩
                case measure => simp [intOf]; omega
              · by_cases hy0 : y < 0
                · have HS2 : Hid (Seen wo l i n (t + 1) o0 o (2448000 * (k : Int))) := HS.out.skip hi' (.inr (HNO.out hy0))
                  clear HS HNO HKE HYE
                  go_wp2_with fail
                  go_roundw
                  case rel => exact ⟨m, t + 1, o, rfl, by go_num, by omega, HB.out.alloc _, HS2, HCH, by have := hsz2.out; show _ = _; simp; omega, hbel.alloc hbel.size _⟩
                  case measure => simp [intOf]; omega
                · have e1 : IntKind.i64.wrap (y + x) = y + x := IntWalk.i64_in _ (by omega)
                  by_cases hz0 : z < 0 ∨ y + x < z
                  · have HS2 : Hid (Seen wo l i n (t + 1) o0 (o.set f (y + x)) (2448000 * (k : Int))) := HS.out.take hi' hw (HYE.out (by omega) hz0) (by omega)
                    have HCH2 : Hid (ChS true o0 (o.set f (y + x))) := .inr ⟨rfl, Chg.take (by rcases HCH.out with h | h; exact .inl h.2; exact .inr h.2) (by omega) (by omega) (by rw [HZ.out]; exact hz0)⟩
                    clear HS HNO HKE HYE HCH
                    rcases (show z < 0 ∨ (0 ≤ z ∧ y + x < z) by omega) with hz1 | ⟨hz1, hz2⟩
                    all_goals
                      clear hz0
                      go_wp2_with fail
                      go_quiet (fail)
                      go_wp2_with fail
                      go_roundw
                      case rel =>
                        refine ⟨true, t + 1, o.set f (y + x), rfl, by go_num, by omega, ?_, HS2, HCH2, by have := hsz2.out; show _ = _; simp; omega, (below_drewN (hbel.alloc hbel.size _) _).setCell (by simp) _⟩
                        have h3 := ((HB.out.alloc (.cells #[.int .i64 (f : Int), .int .i64 (d : Int), .int .i64 x] 34)).drewN 0).set_ f (.int .i64 (y + x))
                        rw [ints_set] at h3
                        exact h3
                      case measure => simp [intOf]; omega
                  · have HS2 : Hid (Seen wo l i n (t + 1) o0 o (2448000 * (k : Int))) := HS.out.skip hi' (.inr (HKE.out (by omega) (by omega)))
                    clear HS HNO HKE HYE
                    go_wp2_with fail
                    go_quiet (fail)
                    go_wp2_with fail
                    go_roundw
                    case rel => exact ⟨m, t + 1, o, rfl, by go_num, by omega, (HB.out.alloc _).drewN _, HS2, HCH, by have := hsz2.out; show _ = _; simp; omega, below_drewN (hbel.alloc hbel.size _) _⟩
                    case measure => simp [intOf]; omega
            · have hie : t = n := by omega
              have hfin : o = itP E (start i q) (k + 1) := by
                have h1 := HS.out.eq
                rw [List.drop_of_length_le (by rw [← HL.out]; omega)] at h1
                rw [itP, ← HO0.out, HE.out, ← passI_eff, ← h1]
                rfl
              have HFI := Lib.hid hfin
              have HLE2 : Hid (∀ v, at_ o v ≤ 2448000 * ((k + 1 : Nat) : Int)) := by
                show ∀ v, _
                intro v
                have := HS.out.le v
                omega
              have hpn : p + n = (k + 1) * n := by rw [Nat.succ_mul, HP.out]
              rcases HCH.out with ⟨rfl, hoo⟩ | ⟨rfl, hch⟩
              · have HM2 : Hid (StopS false o (itP E (start i q) i)) := by
                  intro _
                  rw [HO0.out, hfin] at hoo
                  rw [hfin, hoo]
                  exact A_stop HGE.out hq k hoo
                clear hoo hfin HS
                go_wp2_with fail
                go_roundw
                case rel => exact ⟨false, k + 1, p + n, o, rfl, HFI, hpn, by simp, HM2, by omega, HB, HLE2, by have := hsz2.out; show _ = _; omega, hbel⟩
                case measure => simp [mb]; omega
              · have hki : k < i := by
                  rw [hfin, HO0.out] at hch
                  exact chg_lt HGE.out hq hch
                have hn1 : 1 ≤ n := by
                  rcases Nat.eq_zero_or_pos n with h0 | h0
                  · exfalso
                    have h1 := HS.out.eq
                    have h2 : l = [] := List.eq_nil_of_length_eq_zero (by rw [← HL.out]; exact h0)
                    subst h2
                    simp [passI] at h1
                    obtain ⟨v, h3, h4⟩ := hch
                    rw [h1] at h3 h4
                    omega
                  · exact h0
                clear hch hfin HS
                go_wp2_with fail
                go_roundw
                case rel => exact ⟨true, k + 1, p + n, o, rfl, HFI, hpn, fun _ => by omega, fun h => absurd h (by simp), by omega, HB, HLE2, by have := hsz2.out; show _ = _; omega, hbel⟩
                case measure => have := hsz.out; have := hsz2.out; simp [mb]; omega

end Go.Proofs.Ytlebkjkiikehhaa.Cst
