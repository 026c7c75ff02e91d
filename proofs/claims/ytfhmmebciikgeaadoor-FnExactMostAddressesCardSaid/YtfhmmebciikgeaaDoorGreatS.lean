/-
  CONTRACT: the specification's greatest number of words with a distance.
-/
import Derived.Test.YtfhmmebciikgeaaDoorGreatW
namespace Go.Proofs.YtfhmmebciikgeaaDoor
open Go.RowKit

/-- The number and the code. -/
def greatR (g r d : Int) : Int × Int := if wcode g r d 32 = 0 then (((greatW g.toNat r.toNat d : Nat) : Int), 0) else (0, wcode g r d 32)
theorem wcode_ne {g r d : Int} (h : wcode g r d 300 ≠ 0) : wcode g r d 32 = wcode g r d 300 := by
  unfold wcode at h ⊢
  split
  · rename_i h1
    rw [if_pos h1] at h
    split at h
    · rename_i h2
      rw [if_pos h2, if_pos (by omega)]
    · exact absurd rfl h
  · rfl
theorem wcode_zero32 {g r : Nat} {d : Int} (h : wcode g r d 300 = 0) : wcode g r d 32 = if 32 < pw g r then 5 else 0 := by
  unfold wcode at h ⊢
  split at h
  · rename_i h1
    rw [if_pos h1, Int.toNat_natCast, Int.toNat_natCast]
  · exact absurd h (by decide)
theorem greatW_head {g : Nat} (hg : 0 < g) (r : Nat) (d : Int) : ∃ x xs, allW g r = x :: xs ∧ greatW g r d = 1 + alL (farR r d) (xs.filter (farR r d x)) := by
  obtain ⟨t, ht⟩ := lsL_head hg r
  refine ⟨encL (List.replicate r 0), t.map encL, by rw [allW_ls, ht, List.map_cons], ?_⟩
  unfold greatW
  rw [allW_ls, ht, List.map_cons, List.tail_cons]

set_option maxHeartbeats 2000000 in
set_option maxRecDepth 100000 in
theorem specGreat_any (g r d : Int) (w : World) : Calls Tryd.prog 4 #[.int .i64 g, .int .i64 r, .int .i64 d] w (Ret w (.tuple #[.int .i64 (greatR g r d).1, .int .i64 (greatR g r d).2])) := by
  by_cases hc : wcode g r d 300 = 0
  · obtain ⟨h1, h2, h3, h4, -, -⟩ := wcode_zero hc
    obtain ⟨g, rfl⟩ : ∃ q : Nat, g = q := ⟨g.toNat, by omega⟩
    obtain ⟨r, rfl⟩ : ∃ q : Nat, r = q := ⟨r.toNat, by omega⟩
    have HC := Lib.hid hc
    have H32 := Lib.hid (wcode_zero32 hc)
    have hg : g ≤ 4 := by omega
    have hr : r ≤ 8 := by omega
    obtain ⟨x, xs, hW, hG⟩ := greatW_head (g := g) (by omega) r d
    have HSZ : Hid (∀ y ∈ x :: xs, y.size = r) := by
      show ∀ y ∈ x :: xs, _
      intro y hy
      rw [← hW] at hy
      exact allW_size r y hy
    have HPW : Hid (pw g r = (x :: xs).length) := by show _ = _; rw [← hW, allW_len]
    have hxr : x.size = r := HSZ.out x List.mem_cons_self
    have hx48 : x.size ≤ 1048576 := by omega
    obtain ⟨n, hn⟩ : ∃ n, (x :: xs).length = n := ⟨_, rfl⟩
    have HN := Lib.hid hn
    rw [hn] at HPW
    have hn1 : 1 ≤ n := by rw [← hn, List.length_cons]; omega
    have hn2 : n ≤ 65536 := by rw [← hn, ← hW]; exact allW_le hg hr
    have HW := Lib.hid hW
    have HG := Lib.hid hG
    obtain ⟨i0, hi, hz0, hz1, hz2⟩ := info_parts info_string
    have HI := Lib.hid (And.intro hi (And.intro hz0 (And.intro hz1 hz2)))
    clear hc hi hz0 hz1 hz2 hW hG hn
    by_cases h32 : 32 < n
    · have E : Hid (greatR g r d = (0, 5)) := by
        show _ = _
        have h5 := H32.out
        rw [HPW.out, if_pos h32] at h5
        simp [greatR, h5]
      go_enter Tryd.func4, Tryd.ntmps4
      go_wp2_with (go_at_call 6; refine (l05Code_any _ _ _ _).mono ?_; rintro e w2 ⟨rfl, rfl⟩; rw [HC.out])
      refine (l05All_any g r _ hg hr).mono ?_
      rintro e w1 ⟨A, c, rfl, hO, hb⟩
      rw [HW.out, HN.out]
      clear hO
      go_wp2_with fail
      refine bodyPost_ret (v := .tuple #[.int .i64 0, .int .i64 5]) (by simp [results, Tryd.results4, go_sem]) rfl ?_
      rw [E.out]
      exact ⟨rfl, hb⟩
    · have E : Hid (greatR g r d = (((greatW g r d : Nat) : Int), 0)) := by
        show _ = _
        have h5 := H32.out
        rw [HPW.out, if_neg h32] at h5
        simp [greatR, h5]
      obtain ⟨F, hF⟩ : ∃ F, xs.filter (farR r d x) = F := ⟨_, rfl⟩
      have HF : Hid (([] : List ByteArray) ++ ((x :: xs).drop 1).filter (farR r d x) = F) := hF
      have HFE := Lib.hid hF
      rw [hF] at HG
      clear hF
      go_enter Tryd.func4, Tryd.ntmps4
      go_wp2_with (go_at_call 6; refine (l05Code_any _ _ _ _).mono ?_; rintro e w2 ⟨rfl, rfl⟩; rw [HC.out])
      refine (l05All_any g r _ hg hr).mono ?_
      rintro e w1 ⟨A, c, rfl, hO, hb⟩
      rw [HW.out] at hO ⊢
      have HS := Lib.hid (StrsAt.ofOwn hO).1
      obtain ⟨b, o, rfl, hblt, hcs⟩ := HS.out (by simp)
      have HCS := Lib.hid hcs
      have t0 := hcs 0 (by simp)
      simp only [Nat.add_zero, List.getElem_cons_zero] at t0
      rw [HN.out]
      clear hO hcs
      go_wp2_with fail
      go_loopw [10, 11] (fun v u w' => ∃ (i : Nat) (ys : List ByteArray), u = .int .i64 i ∧ 1 ≤ i ∧ i ≤ n ∧ ys.length ≤ i ∧ w'.ownsRow w1.heap.size 9 1 v ys.length (ys.map Value.string) ∧ Hid (ys ++ ((x :: xs).drop i).filter (farR r d x) = F) ∧ Below w1.heap.size w1 w') (fun _ u _ => n - (intOf u).toNat)
      case atStart => exact ⟨1, [], rfl, by omega, by omega, by simp, own_nil' _ _ _ rfl (Nat.le_refl _), HF, by go_grown⟩
      case round =>
        clear HF
        obtain ⟨i, ys, rfl, hi1, hin, hyi, hown, HF, hbel⟩ := hrel
        by_cases hlt : i < n
        · have hil : i < (x :: xs).length := by rw [HN.out]; exact hlt
          have ti := bel_cell hbel (HCS.out i hil)
          have t0 := bel_cell hbel t0
          have hst := filter_step (far := farR r d x) hil
          have hsz : (x :: xs)[i].size = r := HSZ.out _ (List.getElem_mem hil)
          obtain ⟨y, hy⟩ : ∃ y, (x :: xs)[i] = y := ⟨_, rfl⟩
          rw [hy] at ti hst hsz
          have hxy : x.size = y.size := by omega
          have hfe := farR_eq (d := d) (b := y) hxr
          obtain ⟨A2, c2, rfl⟩ := own_form hown
          have HO := Lib.hid hown
          clear hy hown
          by_cases hv : d ≤ (farB x y : Int)
          · have HF2 : Hid ((ys ++ [y]) ++ ((x :: xs).drop (i + 1)).filter (farR r d x) = F) := by show _ = _; rw [← HF.out, hst, hfe, decide_eq_true hv, if_pos rfl, List.append_assoc]; rfl
            have hvd : decide (d ≤ (farB x y : Int)) = true := decide_eq_true hv
            have hvd2 : decide ((farB x y : Int) ≥ d) = true := decide_eq_true hv
            clear hst HF hfe
            go_wp2_with fail
            go_quiet (first | (go_at_call 8; exact qN (l05Far_any x y _ hx48 hxy)))
            have hb6 : Below w1.heap.size w1 (wr.drewN nq) := below_drewN hbel _
            have ho6 : (wr.drewN nq).ownsRow w1.heap.size 9 1 (.slice A2 ys.length c2) ys.length (ys.map Value.string) := own_belS HO.out (below_drewN (Below.refl _ _) _)
            have ti6 : (wr.drewN nq).cell? ⟨b, o + i, none⟩ = some (.string y) := ti
            generalize wr.drewN nq = w6 at *
            have HO6 := Lib.hid ho6
            have s6 := hb6.size
            clear ho6
            go_wp2_with (at_builtin; refine wpList_append_own _ rfl _ _ 26 rfl w1.heap.size 9 i0 (.string ByteArray.empty) 1 16 Tryd.underlying26 HI.out.1 HI.out.2.1 HI.out.2.2.1 HI.out.2.2.2 rfl (by decide) _ _ _ rfl (HO6.out.alloc _) ⟨w6.heap.size, 0, none⟩ 1 1 [.string y] rfl rfl ?c1 ?c2 ?c3 ?c4 ?c5 ?_)
            try
              case c1 =>
                intro j u hu
                cases j with
                | zero => simp at hu; subst hu; simp [Addr.add]
                | succ j => simp at hu
            try case c2 => first | exact strs_oneCell [y] | rfl
            try case c3 => unfold maxLen; omega
            try case c4 => omega
            try case c5 => first | (simp; omega) | omega
            intro v' w4 hown1 hgrow _
            have hown2 : w4.ownsRow w1.heap.size 9 1 v' (ys ++ [y]).length ((ys ++ [y]).map Value.string) := by simpa using hown1
            have HO4 := Lib.hid hown2
            have hb4 : Below w1.heap.size w1 w4 := Below.grown (show Below w1.heap.size w1 _ from hb6.alloc hb6.size _) hgrow (by simp; omega) (fun k hk => by have := (HO6.out.lt k hk).1; omega)
            have hyl : (ys ++ [y]).length ≤ i + 1 := by simp; omega
            clear hown1 hown2 hgrow
            go_wp2_with fail
            go_roundw
            case rel => exact ⟨i + 1, ys ++ [y], by go_num, by omega, by omega, hyl, HO4.out, HF2, hb4⟩
            case measure => simp [intOf]; omega
          · have HF2 : Hid (ys ++ ((x :: xs).drop (i + 1)).filter (farR r d x) = F) := by show _ = _; rw [← HF.out, hst, hfe, decide_eq_false hv, if_neg Bool.false_ne_true]
            have hvd : decide (d ≤ (farB x y : Int)) = false := decide_eq_false hv
            have hvd2 : decide ((farB x y : Int) ≥ d) = false := decide_eq_false hv
            have hfe : (d ≤ (farB x y : Int)) = False := eq_false hv
            clear hst HF
            go_wp2_with fail
            go_quiet (first | (go_at_call 8; exact qN (l05Far_any x y _ hx48 hxy)))
            have hb6 : Below w1.heap.size w1 (wr.drewN nq) := below_drewN hbel _
            have ho6 : (wr.drewN nq).ownsRow w1.heap.size 9 1 (.slice A2 ys.length c2) ys.length (ys.map Value.string) := own_belS HO.out (below_drewN (Below.refl _ _) _)
            generalize wr.drewN nq = w6 at *
            have HO6 := Lib.hid ho6
            have s6 := hb6.size
            clear ho6
            go_wp2_with fail
            go_roundw
            case rel => exact ⟨i + 1, ys, by go_num, by omega, by omega, by omega, HO6.out, HF2, hb6⟩
            case measure => simp [intOf]; omega
        · have hE : ys = F := by
            have h5 := HF.out
            rw [List.drop_of_length_le (by rw [HN.out]; omega), List.filter_nil, List.append_nil] at h5
            exact h5
          subst hE
          obtain ⟨A2, c2, rfl⟩ := own_form hown
          have hsub : ys.length ≤ xs.length := by rw [← HFE.out]; exact List.length_filter_le _ _
          have hxn : xs.length + 1 = n := by have := HN.out; rw [List.length_cons] at this; exact this
          have hm31 : ys.length ≤ 31 := by omega
          have HYX : Hid (∀ y ∈ ys, y.size = r) := by
            show ∀ y ∈ ys, _
            intro y hy
            rw [← HFE.out] at hy
            exact HSZ.out y (List.mem_cons_of_mem _ (List.mem_filter.1 hy).1)
          have HY := Lib.hid (StrsAt.ofOwn hown).1
          have hlt2 := hown.lt
          have hap2 : 0 < ys.length → ∀ q, A2 = some q → q.block ≠ wr.heap.size := fun _ q hq he => by
            rw [hq] at hlt2
            have h8 : q.block < wr.heap.size := (hlt2 _ rfl).2
            omega
          have hyc := own_cap hown
          have HAP := Lib.hid hap2
          have sw := hbel.size
          have I1 := walk_any wr.heap.size r d hr ys.length A2 ys.length c2 ys 1 0 (wr.alloc (.cells #[.int .i64 d, .int .i64 0] 31)) (Nat.le_refl _) (HY.out.alloc _) rfl (by omega) hyc HYX.out (Blk.new _ _ _) HAP.out (by omega)
          rw [show ((1 : Nat) : Int) = 1 from rfl] at I1
          have I1 := Lib.hid I1
          obtain ⟨m, hm2⟩ : ∃ m, ys.length = m := ⟨_, rfl⟩
          rw [hm2] at hyc hm31 hyi I1 ⊢
          clear HF hown hap2 hm2 hxn hsub hlt2
          go_wp2_with fail
          refine I1.out.mono ?_
          rintro e w2 ⟨v2, rfl, hB2, hb2⟩
          obtain ⟨-, q1, -, -⟩ := hB2.c2
          have D2 : Below w.heap.size w w2 := (ButR.below (W := w) (hb2) (bel_next hb (hbel.alloc hbel.size _)) (by have := hb.size; omega))
          have hmx : max 0 (1 + alL (farR r d) ys) = 1 + alL (farR r d) ys := by omega
          rw [hmx] at q1
          have HD := Lib.hid D2
          clear hB2 hb2 D2 hmx
          go_wp2_with fail
          refine bodyPost_ret (v := .tuple #[.int .i64 ((1 + alL (farR r d) ys : Nat) : Int), .int .i64 0]) (by simp [results, Tryd.results4, go_sem]) rfl ?_
          rw [E.out, HG.out]
          exact ⟨rfl, HD.out⟩
  · have E : Hid (greatR g r d = (0, wcode g r d 300)) := by show _ = _; simp [greatR, wcode_ne hc, hc]
    obtain ⟨z, hz⟩ : ∃ z, wcode g r d 300 = z := ⟨_, rfl⟩
    have HZ := Lib.hid hz
    rw [hz] at E hc
    clear hz
    have hb1 : (z != 0) = true := by simpa using hc
    have hb2 : (z == 0) = false := by simpa using hc
    go_enter Tryd.func4, Tryd.ntmps4
    go_wp2_with (go_at_call 6; refine (l05Code_any _ _ _ _).mono ?_; rintro e w2 ⟨rfl, rfl⟩; rw [HZ.out])
    refine bodyPost_ret (v := .tuple #[.int .i64 0, .int .i64 z]) (by simp [results, Tryd.results4, go_sem]) rfl ?_
    rw [E.out]
    exact ⟨rfl, Below.refl _ _⟩

end Go.Proofs.YtfhmmebciikgeaaDoor
