/-
  CONTRACT: the specification's search for the greatest number of words with a distance.
-/
import Derived.Test.YtfhmmebciikgeaaDoorGreatQ
import Derived.Test.YtfhmmebciikgeaaDoorAllW2
import Derived.Test.YtfhmmebciikgeaaDoorButR
namespace Go.Proofs.YtfhmmebciikgeaaDoor
open Go.RowKit

theorem StrsAt.tail {w : World} {b o : Nat} {x : ByteArray} {l : List ByteArray} (h : StrsAt w (some ⟨b, o, none⟩) (x :: l)) : StrsAt w (some ⟨b, o + 1, none⟩) l := fun h0 => by
  obtain ⟨b', o', e, hlt, hc⟩ := h (by simp)
  cases e
  refine ⟨b, o + 1, rfl, hlt, fun k hk => ?_⟩
  have := hc (k + 1) (by simp; omega)
  rw [show o + 1 + k = o + (k + 1) by omega]
  simpa using this
theorem filter_step {far : ByteArray → Bool} {l : List ByteArray} {i : Nat} (h : i < l.length) : (l.drop i).filter far = if far l[i] then l[i] :: (l.drop (i + 1)).filter far else (l.drop (i + 1)).filter far := by
  rw [drop_at' h, List.filter_cons]
theorem own_cap {w : World} {base n size c : Nat} {t : TypeId} {A : Option Addr} {xs : List Value} (h : w.ownsRow base t size (.slice A n c) n xs) : n ≤ c := by
  rcases h.2 with ⟨h1, h2⟩ | ⟨g, cap, cur, hv, hg, hB, h5, _⟩
  · omega
  · cases hv; exact h5

set_option maxHeartbeats 2000000 in
set_option maxRecDepth 100000 in
theorem walk_any (p r : Nat) (d : Int) (hr : r ≤ 8) : ∀ (k : Nat) (A : Option Addr) (n c : Nat) (left : List ByteArray) (many best : Nat) (w : World), left.length ≤ k → StrsAt w A left → n = left.length → n ≤ 32 → n ≤ c → (∀ x ∈ left, x.size = r) →
      Blk w p 31 #[.int .i64 d, .int .i64 (best : Int)] → (0 < left.length → ∀ q, A = some q → q.block ≠ p) → many + n ≤ 40 →
    Calls Tryd.prog 9 #[.pointer (some ⟨p, 0, none⟩), .int .i64 (many : Int), .slice A n c] w
      (fun x w' => ∃ v, x = .returned v ∧ Blk w' p 31 #[.int .i64 d, .int .i64 ((max best (many + alL (farR r d) left) : Nat) : Int)] ∧ ButR p (p + 1) w w') := by
  intro k
  induction k with
  | zero =>
    intro A n c left many best w hk hS hn hn32 hnc hx hB hA hm
    have hl : left = [] := List.length_eq_zero_iff.1 (by omega)
    subst hl
    subst hn
    obtain ⟨b0, b1, -, b3⟩ := hB.c2
    by_cases h : many ≤ best
    · have E : Hid (max best (many + alL (farR r d) []) = best) := by show _ = _; rw [alL_nil]; omega
      have HB := Lib.hid hB
      clear hk hS hx hA hB
      go_enter Tryd.func9, Tryd.ntmps9
      go_wp2_with fail
      refine bodyPost_ret (v := .tuple #[]) (by simp [results, Tryd.results9, go_sem]) rfl ?_
      rw [E.out]
      exact ⟨_, rfl, HB.out, ButR.refl _ _ _⟩
    · have E : Hid (max best (many + alL (farR r d) []) = many) := walk_nil (by omega)
      have HB := Lib.hid hB
      have hb2 : best < many := by omega
      clear hk hS hx hA hB h
      go_enter Tryd.func9, Tryd.ntmps9
      go_wp2_with fail
      refine bodyPost_ret (v := .tuple #[]) (by simp [results, Tryd.results9, go_sem]) rfl ?_
      rw [E.out]
      exact ⟨_, rfl, HB.out.set_ 1 _, ButR.set _ ⟨by omega, by omega⟩ _ _⟩
  | succ k ih =>
    intro A n c left many best w hk hS hn hn32 hnc hx hB hA hm
    obtain ⟨b0, b1, -, b3⟩ := hB.c2
    have hpw := hB.lt
    by_cases h : many + n ≤ best
    · have E : Hid (max best (many + alL (farR r d) left) = best) := walk_cut (by rw [← hn]; exact h)
      have HB := Lib.hid hB
      clear hk hS hx hA hB hn ih
      go_enter Tryd.func9, Tryd.ntmps9
      go_wp2_with fail
      refine bodyPost_ret (v := .tuple #[]) (by simp [results, Tryd.results9, go_sem]) rfl ?_
      rw [E.out]
      exact ⟨_, rfl, HB.out, ButR.refl _ _ _⟩
    · cases left with
      | nil =>
        have E : Hid (max best (many + alL (farR r d) []) = many) := walk_nil (by rw [List.length_nil] at hn; omega)
        have HB := Lib.hid hB
        have hn0 : n = 0 := hn
        subst hn0
        have hb2 : best < many := by omega
        clear hk hS hx hA hB h hn ih
        go_enter Tryd.func9, Tryd.ntmps9
        go_wp2_with fail
        refine bodyPost_ret (v := .tuple #[]) (by simp [results, Tryd.results9, go_sem]) rfl ?_
        rw [E.out]
        exact ⟨_, rfl, HB.out.set_ 1 _, ButR.set _ ⟨by omega, by omega⟩ _ _⟩
      | cons x xs =>
        have IH := Lib.hid ih
        have HE := Lib.hid (walk_cons (far := farR r d) (x := x) (xs := xs) (many := many) (best := best))
        have HB := Lib.hid hB
        have hxr : x.size = r := hx x List.mem_cons_self
        have HX := Lib.hid (fun y hy => hx y (List.mem_cons_of_mem x hy))
        have hlen : n = xs.length + 1 := by rw [hn, List.length_cons]
        have HLEN := Lib.hid hlen
        have hxk : xs.length ≤ k := by simpa using hk
        have hx48 : x.size ≤ 1048576 := by omega
        have hap : ∀ q, A = some q → q.block ≠ p := hA (by simp)
        obtain ⟨b, o, rfl, hblt, hc⟩ := hS (by simp)
        have hbp : b ≠ p := hap _ rfl
        have t0 := hc 0 (by simp)
        simp only [Nat.add_zero, List.getElem_cons_zero] at t0
        have HC := Lib.hid hc
        have HS := Lib.hid hS
        obtain ⟨F, hF⟩ : ∃ F, xs.filter (farR r d x) = F := ⟨_, rfl⟩
        have HF : Hid (([] : List ByteArray) ++ ((x :: xs).drop 1).filter (farR r d x) = F) := hF
        have HFE := Lib.hid hF
        rw [hF] at HE
        obtain ⟨i0, hi, hz0, hz1, hz2⟩ := info_parts info_string
        have HI := Lib.hid (And.intro hi (And.intro hz0 (And.intro hz1 hz2)))
        have h1 : best < many + n := by omega
        have hn1 : 1 ≤ n := by omega
        have hnz : ((n : Int) == 0) = false := by rw [beq_eq_false_iff_ne]; omega
        clear hi hz0 hz1 hz2 ih hk hS hn hx hB hA hap hc hF h hlen
        go_enter Tryd.func9, Tryd.ntmps9
        go_wp2_with fail
        go_loopw [6, 7] (fun v u w' => ∃ (i : Nat) (ys : List ByteArray), u = .int .i64 i ∧ 1 ≤ i ∧ i ≤ n ∧ ys.length ≤ i ∧ w'.ownsRow w.heap.size 9 1 v ys.length (ys.map Value.string) ∧ Hid (ys ++ ((x :: xs).drop i).filter (farR r d x) = F) ∧ Below w.heap.size w w') (fun _ u _ => n - (intOf u).toNat)
        case atStart => exact ⟨1, [], rfl, by omega, by omega, by simp, own_nil' _ _ _ rfl (Nat.le_refl _), HF, by go_grown⟩
        case round =>
          clear HF
          obtain ⟨i, ys, rfl, hi1, hin, hyi, hown, HF, hbel⟩ := hrel
          by_cases hlt : i < n
          · have hil : i < (x :: xs).length := by rw [List.length_cons, ← HLEN.out]; exact hlt
            have ti := bel_cell hbel (HC.out i hil)
            have t0 := bel_cell hbel t0
            have tb := bel_cell hbel b0
            have hst := filter_step (far := farR r d x) hil
            have hsz : (x :: xs)[i].size = r := by
              rcases List.mem_cons.1 (List.getElem_mem hil) with h | h
              · rw [h]; exact hxr
              · exact HX.out _ h
            obtain ⟨y, hy⟩ : ∃ y, (x :: xs)[i] = y := ⟨_, rfl⟩
            rw [hy] at ti hst hsz
            have hxy : x.size = y.size := by omega
            have hfe := farR_eq (d := d) (b := y) hxr
            obtain ⟨A2, c2, rfl⟩ := own_form hown
            have HO := Lib.hid hown
            clear hy hown
            by_cases hv : d ≤ (farB x y : Int)
            · have HF2 : Hid ((ys ++ [y]) ++ ((x :: xs).drop (i + 1)).filter (farR r d x) = F) := by show _ = _; rw [← HF.out, hst, hfe, decide_eq_true hv, if_pos rfl, List.append_assoc]; rfl
              have hvd : decide (d ≤ (farB x y : Int)) = true := decide_eq_true hv
              have hvd2 : decide ((farB x y : Int) ≥ d) = true := decide_eq_true hv
              clear hst HF hfe
              go_wp2_with fail
              go_quiet (first | (go_at_call 8; exact qN (l05Far_any x y _ hx48 hxy)))
              have hb6 : Below w.heap.size w (wr.drewN nq) := below_drewN hbel _
              have ho6 : (wr.drewN nq).ownsRow w.heap.size 9 1 (.slice A2 ys.length c2) ys.length (ys.map Value.string) := own_belS HO.out (below_drewN (Below.refl _ _) _)
              have ti6 : (wr.drewN nq).cell? ⟨b, o + i, none⟩ = some (.string y) := ti
              generalize wr.drewN nq = w6 at *
              have HO6 := Lib.hid ho6
              have s6 := hb6.size
              clear ho6
              go_wp2_with (at_builtin; refine wpList_append_own _ rfl _ _ 26 rfl w.heap.size 9 i0 (.string ByteArray.empty) 1 16 Tryd.underlying26 HI.out.1 HI.out.2.1 HI.out.2.2.1 HI.out.2.2.2 rfl (by decide) _ _ _ rfl (HO6.out.alloc _) ⟨w6.heap.size, 0, none⟩ 1 1 [.string y] rfl rfl ?c1 ?c2 ?c3 ?c4 ?c5 ?_)
              try
                case c1 =>
                  intro j u hu
                  cases j with
                  | zero => simp at hu; subst hu; simp [Addr.add]
                  | succ j => simp at hu
              try case c2 => first | exact strs_oneCell [y] | rfl
              try case c3 => unfold maxLen; omega
              try case c4 => omega
              try case c5 => first | (simp; omega) | omega
              intro v' w4 hown1 hgrow _
              have hown2 : w4.ownsRow w.heap.size 9 1 v' (ys ++ [y]).length ((ys ++ [y]).map Value.string) := by simpa using hown1
              have HO4 := Lib.hid hown2
              have hb4 : Below w.heap.size w w4 := Below.grown (show Below w.heap.size w _ from hb6.alloc hb6.size _) hgrow (by simp; omega) (fun k hk => by have := (HO6.out.lt k hk).1; omega)
              have hyl : (ys ++ [y]).length ≤ i + 1 := by simp; omega
              clear hown1 hown2 hgrow
              go_wp2_with fail
              go_roundw
              case rel => exact ⟨i + 1, ys ++ [y], by go_num, by omega, by omega, hyl, HO4.out, HF2, hb4⟩
              case measure => simp [intOf]; omega
            · have HF2 : Hid (ys ++ ((x :: xs).drop (i + 1)).filter (farR r d x) = F) := by show _ = _; rw [← HF.out, hst, hfe, decide_eq_false hv, if_neg Bool.false_ne_true]
              have hvd : decide (d ≤ (farB x y : Int)) = false := decide_eq_false hv
              have hvd2 : decide ((farB x y : Int) ≥ d) = false := decide_eq_false hv
              have hfe : (d ≤ (farB x y : Int)) = False := eq_false hv
              clear hst HF
              go_wp2_with fail
              go_quiet (first | (go_at_call 8; exact qN (l05Far_any x y _ hx48 hxy)))
              have hb6 : Below w.heap.size w (wr.drewN nq) := below_drewN hbel _
              have ho6 : (wr.drewN nq).ownsRow w.heap.size 9 1 (.slice A2 ys.length c2) ys.length (ys.map Value.string) := own_belS HO.out (below_drewN (Below.refl _ _) _)
              generalize wr.drewN nq = w6 at *
              have HO6 := Lib.hid ho6
              have s6 := hb6.size
              clear ho6
              go_wp2_with fail
              go_roundw
              case rel => exact ⟨i + 1, ys, by go_num, by omega, by omega, by omega, HO6.out, HF2, hb6⟩
              case measure => simp [intOf]; omega
          · have hE : ys = F := by
              have h5 := HF.out
              rw [List.drop_of_length_le (by rw [List.length_cons, ← HLEN.out]; omega), List.filter_nil, List.append_nil] at h5
              exact h5
            subst hE
            obtain ⟨A2, c2, rfl⟩ := own_form hown
            have hsub : ys.length ≤ xs.length := by rw [← HFE.out]; exact List.length_filter_le _ _
            have HYX : Hid (∀ y ∈ ys, y.size = r) := by
              show ∀ y ∈ ys, _
              intro y hy
              rw [← HFE.out] at hy
              exact HX.out y (List.mem_filter.1 hy).1
            have HY := Lib.hid (StrsAt.ofOwn hown).1
            have hap2 : 0 < ys.length → ∀ q, A2 = some q → q.block ≠ p := fun _ q hq he => by
              have h6 := hown.lt
              rw [hq] at h6
              have h7 := (h6 _ rfl).1
              have h8 : w.heap.size ≤ q.block := h7
              omega
            have hyc := own_cap hown
            have HB1 := Lib.hid (bel_blk HB.out hbel)
            have HAP := Lib.hid hap2
            have sw := hbel.size
            obtain ⟨m, hm2⟩ : ∃ m, ys.length = m := ⟨_, rfl⟩
            have HM := Lib.hid hm2
            rw [hm2] at hyc hsub hyi ⊢
            clear HF hown hap2 hm2
            have e1 : ((many + 1 : Nat) : Int) = (many : Int) + 1 := by omega
            have hmn : m + 1 ≤ n := by have := HLEN.out; omega
            have I1 := IH.out A2 m c2 ys (many + 1) best wr (by rw [HM.out]; omega) HY.out HM.out.symm (by omega) hyc HYX.out HB1.out HAP.out (by omega)
            rw [e1] at I1
            have I1 := Lib.hid I1
            clear e1
            by_cases hc1 : c = 1
            · subst hc1
              go_wp2_with fail
              refine I1.out.mono ?_
              rintro e w2 ⟨v2, rfl, hB2, hb2⟩
              have hx0 : xs.length = 0 := by have := HLEN.out; omega
              have I2 := Lib.hid (IH.out (some ⟨b, o, none⟩) 0 0 xs many (max best (many + 1 + alL (farR r d) ys)) w2 (by omega) (fun h0 => by omega) hx0.symm (by omega) (by omega) HX.out hB2 (fun _ q hq => by cases hq; exact hbp) (by omega))
              clear hB2 hx0
              go_wp2_with fail
              refine I2.out.mono ?_
              rintro e w3 ⟨v3, rfl, hB3, hb3⟩
              have HB3 := Lib.hid hB3
              clear hB3
              go_wp2_with fail
              refine bodyPost_end (v := .tuple #[]) (by simp [results, Tryd.results9, go_sem]) rfl ?_
              rw [← HE.out]
              exact ⟨_, rfl, HB3.out, ((butR_bel hbel).trans hb2).trans hb3⟩
            · go_wp2_with fail
              refine I1.out.mono ?_
              rintro e w2 ⟨v2, rfl, hB2, hb2⟩
              have HT := ((HS.out.bel hbel).butR hb2 (fun _ q hq => by cases hq; show b < p ∨ p + 1 ≤ b; omega)).tail
              have I2 := Lib.hid (IH.out (some ⟨b, o + 1, none⟩) (n - 1) (c - 1) xs many (max best (many + 1 + alL (farR r d) ys)) w2 (by omega) HT (by have := HLEN.out; omega) (by omega) (by omega) HX.out hB2 (fun _ q hq => by cases hq; exact hbp) (by omega))
              clear hB2 HT
              go_wp2_with fail
              refine I2.out.mono ?_
              rintro e w3 ⟨v3, rfl, hB3, hb3⟩
              have HB3 := Lib.hid hB3
              clear hB3
              go_wp2_with fail
              refine bodyPost_end (v := .tuple #[]) (by simp [results, Tryd.results9, go_sem]) rfl ?_
              rw [← HE.out]
              exact ⟨_, rfl, HB3.out, ((butR_bel hbel).trans hb2).trans hb3⟩
end Go.Proofs.YtfhmmebciikgeaaDoor
