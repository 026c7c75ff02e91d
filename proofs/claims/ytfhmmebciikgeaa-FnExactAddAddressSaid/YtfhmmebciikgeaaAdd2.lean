/-
  CONTRACTS: an address is added (printed by tools/gen_add.py).
-/
import Derived.Test.YtfhmmebciikgeaaAdd
namespace Go.Proofs.Ytfhmmebciikgeaa
open Go.RowKit

set_option maxHeartbeats 1000000 in
set_option maxRecDepth 100000 in
theorem specAdd_any (g : Int) (A : Option Addr) (n c : Nat) (l : List ByteArray) (d : Int) (w : World) (h : StrsAt w A l) (hl : n = l.length) (hs : SmallS l) :
    Calls Try.prog 39 #[.int .i64 g, .slice A n c, .int .i64 d] w (MadeSC w 9 (addR g l d).1 (addR g l d).2) := by
  have hn0 : n ≤ 1048576 := by rw [hl]; exact hs.1
  have HL := Lib.hid hl
  have HS := Lib.hid hs
  have H := Lib.hid h
  obtain ⟨i0, hi, hq0, hq1, hq2⟩ := info_parts info_string
  have HI := Lib.hid (And.intro hi (And.intro hq0 (And.intro hq1 hq2)))
  clear hl hs h hi hq0 hq1 hq2
  go_enter Try.func39, Try.ntmps39
  go_wp2_with fail
  refine (l05Ok_any g A n c l _ H.out HL.out HS.out).mono ?_
  rintro e w1 ⟨rfl, hb1⟩
  cases hv : validA g l
  · have E : Hid (addR g l d = ([], 1)) := by show _ = _; simp [addR, hv]
    clear hv
    go_wp2_with fail
    refine bodyPost_ret (v := .tuple #[.slice none 0 0, .int .i64 1]) (by simp [results, Try.results39, go_sem]) rfl ?_
    rw [E.out]
    exact ⟨none, 0, rfl, own_noneS _ _ _, hb1⟩
  · cases hd : inB d 1 8
    · have E : Hid (addR g l d = ([], 2)) := by show _ = _; simp [addR, hv, hd]
      clear hv
      go_wp2_with (go_at_call 59; (with_reducible refine (l00In_any d _ _ _).mono ?_); rintro e w2 ⟨rfl, rfl⟩; rw [hd])
      refine bodyPost_ret (v := .tuple #[.slice none 0 0, .int .i64 2]) (by simp [results, Try.results39, go_sem]) rfl ?_
      rw [E.out]
      exact ⟨none, 0, rfl, own_noneS _ _ _, hb1⟩
    · rcases Nat.eq_zero_or_pos n with hn | hn
      · have E : Hid (addR g l d = ([], 6)) := by show _ = _; unfold addR; rw [if_pos hv, if_pos hd, if_pos (by rw [← HL.out]; exact hn)]
        have hne : ((n : Int) == 0) = true := by rw [hn]; rfl
        clear hv
        go_wp2_with (go_at_call 59; (with_reducible refine (l00In_any d _ _ _).mono ?_); rintro e w2 ⟨rfl, rfl⟩; rw [hd])
        refine bodyPost_ret (v := .tuple #[.slice none 0 0, .int .i64 6]) (by simp [results, Try.results39, go_sem]) rfl ?_
        rw [E.out]
        exact ⟨none, 0, rfl, own_noneS _ _ _, hb1⟩
      · have h0l : 0 < l.length := by rw [← HL.out]; exact hn
        obtain ⟨hg2, hg4, hl40, hev⟩ := validA_true hv
        have HEV := Lib.hid (even_of hv)
        rw [← HL.out] at hl40
        obtain ⟨z1, z8, -⟩ := hev 0 h0l
        obtain ⟨g, rfl⟩ : ∃ q : Nat, g = q := ⟨g.toNat, by omega⟩
        replace hg4 : g ≤ 4 := by omega
        obtain ⟨b, o, rfl, hblt, hcc⟩ := H.out h0l
        have HC := Lib.hid hcc
        have t0 : w1.cell? ⟨b, o, none⟩ = some (.string l[0]) := by have h5 := bel_cell hb1 (hcc 0 h0l); rw [Nat.add_zero] at h5; exact h5
        have hz0 : (strAt l 0).size = l[0].size := by rw [strAt_eq h0l]
        have E0 : addR g l d = if n = 40 ∨ 300 < pw g l[0].size then ([], 5) else addedL l d (allW g l[0].size) := by
          have h7 : ¬ l.length = 0 := by omega
          unfold addR
          rw [if_pos hv, if_pos hd, if_neg h7, hz0, Int.toNat_natCast, HL.out]
        have HSZ : Hid (Sized l l[0].size) := fun k hk => by rw [(hev k hk).2.2, hz0]
        have HWH : Hid (whole (g : Int) (l[0].size : Int) = if 300 < pw g l[0].size then 5 else 0) := by
          show _ = _
          have h1 : inB (g : Int) 2 4 = true := by simp [inB]; omega
          have h2 : inB (l[0].size : Int) 1 8 = true := by simp [inB]; omega
          simp [whole, h1, h2]
        have hcp := capF_pw (g := g) (r := l[0].size) (.inl rfl : 300 = 300 ∨ 300 = 32) hg4 z8 (by omega)
        obtain ⟨s, hs⟩ : ∃ s, l[0] = s := ⟨_, rfl⟩
        rw [hs] at t0 E0 HSZ HWH hcp z1 z8
        have hz8 : s.size ≤ 8 := z8
        have hne : ((n : Int) == 0) = false := by rw [beq_eq_false_iff_ne]; omega
        have HE0 := Lib.hid E0
        clear hv hev hcc hz0 hs E0
        by_cases h40 : n = 40
        · have E : Hid (addR g l d = ([], 5)) := by show _ = _; rw [HE0.out, if_pos (.inl h40)]
          have hn4 : ((n : Int) == 40) = true := by rw [h40]; rfl
          have hn5 : (40 : Int) ≤ (n : Int) := by omega
          clear h40 hcp
          go_wp2_with (go_at_call 59; (with_reducible refine (l00In_any d _ _ _).mono ?_); rintro e w2 ⟨rfl, rfl⟩; rw [hd])
          refine bodyPost_ret (v := .tuple #[.slice none 0 0, .int .i64 5]) (by simp [results, Try.results39, go_sem]) rfl ?_
          rw [E.out]
          exact ⟨none, 0, rfl, own_noneS _ _ _, hb1⟩
        · have hn4 : ((n : Int) == 40) = false := by rw [beq_eq_false_iff_ne]; omega
          have hn5 : (n : Int) < 40 := by omega
          by_cases h5 : 300 < pw g s.size
          · have E : Hid (addR g l d = ([], 5)) := by show _ = _; rw [HE0.out, if_pos (.inr h5)]
            have hw5 := HWH.out
            rw [if_pos h5] at hw5
            have HWH := Lib.hid hw5
            have h6 := hcp.2 h5
            have hcl := capF_le g 300 s.size
            obtain ⟨y, hy⟩ : ∃ y, capF g 300 s.size = y := ⟨_, rfl⟩
            rw [hy] at h6 hcl
            have HCP := Lib.hid hy
            clear hcp h5 hy h40 hw5 
            go_wp2_with (first | (go_at_call 59; (with_reducible refine (l00In_any d _ _ _).mono ?_); rintro e w2 ⟨rfl, rfl⟩; rw [hd]) | (go_at_call 48; refine (l05Whole_any _ _ _).mono ?_; rintro e w2 ⟨rfl, rfl⟩; rw [HWH.out]))
            refine bodyPost_ret (v := .tuple #[.slice none 0 0, .int .i64 5]) (by simp [results, Try.results39, go_sem]) rfl ?_
            rw [E.out]
            exact ⟨none, 0, rfl, own_noneS _ _ _, hb1⟩
          · have HE1 : Hid (addR g l d = addedL l d (allW g s.size)) := by show _ = _; rw [HE0.out, if_neg (by omega)]
            have hw5 := HWH.out
            rw [if_neg h5] at hw5
            have HWH := Lib.hid hw5
            have h6 : capF g 300 s.size ≤ 300 := by
              rcases Nat.lt_or_ge 300 (capF g 300 s.size) with h | h
              · exact absurd (hcp.1 h) h5
              · exact h
            obtain ⟨y, hy⟩ : ∃ y, capF g 300 s.size = y := ⟨_, rfl⟩
            rw [hy] at h6
            have HCP := Lib.hid hy
            clear hcp h5 hy h40 hw5
            go_wp2_with (first | (go_at_call 59; (with_reducible refine (l00In_any d _ _ _).mono ?_); rintro e w2 ⟨rfl, rfl⟩; rw [hd]) | (go_at_call 48; refine (l05Whole_any _ _ _).mono ?_; rintro e w2 ⟨rfl, rfl⟩; rw [HWH.out]))
            refine (l05All_any g s.size _ hg4 hz8).mono ?_
            rintro e w3 ⟨AW, cW, rfl, hO, hb3⟩
            have HWL := Lib.hid (StrsAt.ofOwn hO).1
            have D3 := bel_next hb1 hb3
            have hwl : (allW g s.size).length ≤ 65536 := allW_le hg4 hz8
            have HWS := Lib.hid (Sized.allW g s.size)
            obtain ⟨W, hW⟩ : ∃ W, allW g s.size = W := ⟨_, rfl⟩
            rw [hW] at HE1 HWL hwl HWS ⊢
            obtain ⟨m, hm⟩ : ∃ m, W.length = m := ⟨_, rfl⟩
            have HM := Lib.hid hm
            obtain ⟨F, hF⟩ : ∃ F, firstFar l d W = F := ⟨_, rfl⟩
            have HF : Hid (firstFar l d (W.drop 0) = F) := hF
            have HFF := Lib.hid hF
            rw [hm] at hwl ⊢
            clear hO hW hm hF hb3 t0
            go_wp2_with fail
            go_loopw [9] (fun u w' => ∃ (i : Nat), u = .int .i64 i ∧ i ≤ m ∧ Hid (firstFar l d (W.drop i) = F) ∧ Below w3.heap.size w3 w') (fun u _ => m - (intOf u).toNat)
            case atStart => exact ⟨0, rfl, by omega, HF, Below.refl _ _⟩
            case round =>
              clear HF
              obtain ⟨i, rfl, him, HF, hbel⟩ := hrel
              have D5 := bel_next D3 hbel
              by_cases hlt : i < m
              · obtain ⟨bw, ow, rfl, hbw, hcw⟩ := (HWL.out.bel hbel) (by rw [HM.out]; omega)
                have hil : i < W.length := by rw [HM.out]; exact hlt
                have u0 := hcw i hil
                have hst := firstFar_step (l := l) (d := d) hil
                have hsz := HWS.out i hil
                obtain ⟨x, hx⟩ : ∃ x, W[i] = x := ⟨_, rfl⟩
                rw [hx] at u0 hst hsz
                have hx48 : x.size ≤ 1048576 := by omega
                have HSX : Hid (Sized l x.size) := by rw [hsz]; exact HSZ.out
                clear hcw hx hsz
                cases hv : farAll l x d
                · have HF2 : Hid (firstFar l d (W.drop (i + 1)) = F) := by show _ = _; rw [← HF.out, hst, if_neg (by rw [hv]; exact Bool.false_ne_true)]
                  clear hst HF
                  go_wp2_with fail
                  refine (l05Near_any (some ⟨b, o, none⟩) n c l x d _ hx48 (H.out.bel D5) HL.out hn0 HSX.out).mono ?_
                  rintro e w5 ⟨rfl, hb5⟩
                  rw [hv]
                  have hbel5 := bel_next hbel hb5
                  clear hb5 u0
                  go_wp2_with fail
                  go_roundw
                  case rel => exact ⟨i + 1, by go_num, by omega, HF2, hbel5⟩
                  case measure => simp [intOf]; omega
                · have E : Hid (addR g l d = (l ++ [x], 0)) := by
                    show _ = _
                    have h8 : F = some x := by rw [← HF.out, hst, if_pos hv]
                    rw [HE1.out]
                    unfold addedL
                    rw [HFF.out, h8]
                  clear hst HF
                  go_wp2_with fail
                  refine (l05Near_any (some ⟨b, o, none⟩) n c l x d _ hx48 (H.out.bel D5) HL.out hn0 HSX.out).mono ?_
                  rintro e w5 ⟨rfl, hb5⟩
                  rw [hv]
                  have hbel5 := bel_next hbel hb5
                  have D6 := bel_next D5 hb5
                  have u5 := bel_cell hb5 u0
                  clear hb5 u0 hbel D5
                  have HC5 : Hid (∀ j u, (l.map Value.string)[j]? = some u → w5.cell? ((⟨b, o, none⟩ : Addr).add j) = some u) := StrsAt.cells HC.out D6
                  have HLL : Hid ((l.map Value.string).length = n * 1) := by show _ = _; rw [List.length_map, HL.out, Nat.mul_one]
                  have HON := Lib.hid (strs_oneCell l)
                  have hbw5 : bw < w5.heap.size := cell_lt u5
                  have hb5' : b < w5.heap.size := by have := D6.size; omega
                  have hcm : n + 1 ≤ 41 := by omega
                  go_wp2_with fail
                  go_region_held3 (fun w' => w'.cell? ⟨bw, ow + i, none⟩ = some (.string x))
                    (first | exact u5 | go_keep | (exact hgrow5.cell (by assumption) (by simp [Value.ownBlock]; have := (hown1.lt g4 rfl).1; omega)) | (exact hgrow.cell (by assumption) (by simp [Value.ownBlock]; omega)) | trivial)
                    (first
                      | (refine step_append_lies _ (by rfl) (.tmp 52) (.tmp 53) 25 (by rfl) w5.heap.size 9 i0 (.string ByteArray.empty) 1 16 Try.underlying25 HI.out.1 HI.out.2.1 HI.out.2.2.1 HI.out.2.2.2 rfl (by decide) _ 0 [] (by rfl) (own_blk0 (by first | exact Blk.new _ _ _ | exact Blk.newAt (by simp) | exact (Blk.new _ _ _).alloc _ ) (by simp)) ⟨b, o, none⟩ n c (l.map Value.string) (by rfl) HLL.out (fun j u hu => cell_later (show Below w5.heap.size w5 _ from by go_grown) (HC5.out j u hu)) HON.out (by omega) (by unfold maxLen; omega) (by omega) (by first | (simp; done) | (simp; omega)) _ rfl ?_; intro g4 cap4 w4 hown1 hgrow hat4 hlt4; (try simp only [Nat.zero_add, List.nil_append] at hown1 ⊢))
                      | (refine step_append_lies _ (by rfl) (.tmp 54) (.tmp 59) 25 (by rfl) w5.heap.size 9 i0 (.string ByteArray.empty) 1 16 Try.underlying25 HI.out.1 HI.out.2.1 HI.out.2.2.1 HI.out.2.2.2 rfl (by decide) _ _ _ (by rfl) (own_belS hown1 (by first | exact Below.refl _ _ | go_grown)) _ 1 1 [.string x] (by rfl) rfl (by intro j u hu; cases j with | zero => simp at hu; subst hu; (first | (simp [Addr.add]; done) | (rw [Addr.add_lit]; exact hgrow.cell (by simp) (by simp [Value.ownBlock]))) | succ j => simp at hu) (strs_oneCell [x]) (by decide) (by unfold maxLen; omega) (by omega) (by have := hgrow.size; simp at this ⊢; omega) _ rfl ?_; intro g5 cap5 w7 hown5 hgrow5 hat5 hlt5))
                  all_goals
                    have hb4 : Below w5.heap.size w5 w4 := Below.grown (show Below w5.heap.size w5 _ from by go_grown) hgrow (by first | (simp; done) | (simp; omega)) (fun k hk => by simp [Value.ownBlock] at hk; omega)
                    have hb7 : Below w5.heap.size w5 w7 := Below.grown (by first | exact hb4 | exact hb4.alloc hb4.size _) hgrow5 (by first | exact hb4.size | (have := hb4.size; simp; omega)) (fun k hk => by have := (hown1.lt k hk).1; omega)
                    have HR : Hid (MadeSC w 9 (l ++ [x]) 0 (.returned (.tuple #[.slice (some ⟨g5, 0, none⟩) (n + 1) cap5, .int .i64 0])) w7) := by
                      refine ⟨some ⟨g5, 0, none⟩, cap5, ?_, ?_, bel_next D6 hb7⟩
                      · rw [List.length_append, ← HL.out]; rfl
                      · have h5 := own_baseS hown5 D6.size
                        rw [List.length_append, ← HL.out, List.map_append]
                        exact h5
                    clear hown1 hgrow hat4 hlt4 hown5 hgrow5 hat5 hlt5
                    go_wp2_with fail
                    refine bodyPost_ret (v := .tuple #[.slice (some ⟨g5, 0, none⟩) (n + 1) cap5, .int .i64 0]) (by simp [results, Try.results39, go_sem]) rfl ?_
                    rw [E.out]
                    exact HR.out
              · have E : Hid (addR g l d = ([], 3)) := by
                  show _ = _
                  have h8 : F = none := by rw [← HF.out, List.drop_of_length_le (by rw [HM.out]; omega), firstFar]
                  rw [HE1.out]
                  unfold addedL
                  rw [HFF.out, h8]
                go_wp2_with fail
                refine bodyPost_ret (v := .tuple #[.slice none 0 0, .int .i64 3]) (by simp [results, Try.results39, go_sem]) rfl ?_
                rw [E.out]
                exact ⟨none, 0, rfl, own_noneS _ _ _, D5⟩

set_option maxHeartbeats 1000000 in
set_option maxRecDepth 100000 in
theorem implAdd_any (g : Int) (A : Option Addr) (n c : Nat) (l : List ByteArray) (d : Int) (w : World) (h : StrsAt w A l) (hl : n = l.length) (hs : SmallS l) (hc : n ≤ c := by omega) :
    Calls Try.prog 40 #[.int .i64 g, .slice A n c, .int .i64 d] w (MadeSC w 9 (addR g l d).1 (addR g l d).2) := by
  have hn0 : n ≤ 1048576 := by rw [hl]; exact hs.1
  have HL := Lib.hid hl
  have HS := Lib.hid hs
  have H := Lib.hid h
  obtain ⟨i0, hi, hq0, hq1, hq2⟩ := info_parts info_string
  have HI := Lib.hid (And.intro hi (And.intro hq0 (And.intro hq1 hq2)))
  clear hl hs h hi hq0 hq1 hq2
  go_enter Try.func40, Try.ntmps40
  go_wp2_with fail
  refine (implValidA_any g A n c l _ H.out HL.out HS.out hc).mono ?_
  rintro e w1 ⟨rfl, hb1⟩
  cases hv : validA g l
  · have E : Hid (addR g l d = ([], 1)) := by show _ = _; simp [addR, hv]
    clear hv
    go_wp2_with fail
    refine bodyPost_ret (v := .tuple #[.slice none 0 0, .int .i64 1]) (by simp [results, Try.results40, go_sem]) rfl ?_
    rw [E.out]
    exact ⟨none, 0, rfl, own_noneS _ _ _, hb1⟩
  · cases hd : inB d 1 8
    · have E : Hid (addR g l d = ([], 2)) := by show _ = _; simp [addR, hv, hd]
      clear hv
      go_wp2_with (go_at_call 60; (with_reducible refine (within_any d _ _ _).mono ?_); rintro e w2 ⟨rfl, rfl⟩; rw [hd])
      refine bodyPost_ret (v := .tuple #[.slice none 0 0, .int .i64 2]) (by simp [results, Try.results40, go_sem]) rfl ?_
      rw [E.out]
      exact ⟨none, 0, rfl, own_noneS _ _ _, hb1⟩
    · rcases Nat.eq_zero_or_pos n with hn | hn
      · have E : Hid (addR g l d = ([], 6)) := by show _ = _; unfold addR; rw [if_pos hv, if_pos hd, if_pos (by rw [← HL.out]; exact hn)]
        have hne : ((n : Int) == 0) = true := by rw [hn]; rfl
        clear hv
        go_wp2_with (go_at_call 60; (with_reducible refine (within_any d _ _ _).mono ?_); rintro e w2 ⟨rfl, rfl⟩; rw [hd])
        refine bodyPost_ret (v := .tuple #[.slice none 0 0, .int .i64 6]) (by simp [results, Try.results40, go_sem]) rfl ?_
        rw [E.out]
        exact ⟨none, 0, rfl, own_noneS _ _ _, hb1⟩
      · have h0l : 0 < l.length := by rw [← HL.out]; exact hn
        obtain ⟨hg2, hg4, hl40, hev⟩ := validA_true hv
        have HEV := Lib.hid (even_of hv)
        rw [← HL.out] at hl40
        obtain ⟨z1, z8, -⟩ := hev 0 h0l
        obtain ⟨g, rfl⟩ : ∃ q : Nat, g = q := ⟨g.toNat, by omega⟩
        replace hg4 : g ≤ 4 := by omega
        obtain ⟨b, o, rfl, hblt, hcc⟩ := H.out h0l
        have HC := Lib.hid hcc
        have t0 : w1.cell? ⟨b, o, none⟩ = some (.string l[0]) := by have h5 := bel_cell hb1 (hcc 0 h0l); rw [Nat.add_zero] at h5; exact h5
        have hz0 : (strAt l 0).size = l[0].size := by rw [strAt_eq h0l]
        have E0 : addR g l d = if n = 40 ∨ 300 < pw g l[0].size then ([], 5) else addedL l d (allW g l[0].size) := by
          have h7 : ¬ l.length = 0 := by omega
          unfold addR
          rw [if_pos hv, if_pos hd, if_neg h7, hz0, Int.toNat_natCast, HL.out]
        have HSZ : Hid (Sized l l[0].size) := fun k hk => by rw [(hev k hk).2.2, hz0]
        have HWH : Hid (whole (g : Int) (l[0].size : Int) = if 300 < pw g l[0].size then 5 else 0) := by
          show _ = _
          have h1 : inB (g : Int) 2 4 = true := by simp [inB]; omega
          have h2 : inB (l[0].size : Int) 1 8 = true := by simp [inB]; omega
          simp [whole, h1, h2]
        have hcp := capF_pw (g := g) (r := l[0].size) (.inl rfl : 300 = 300 ∨ 300 = 32) hg4 z8 (by omega)
        obtain ⟨s, hs⟩ : ∃ s, l[0] = s := ⟨_, rfl⟩
        rw [hs] at t0 E0 HSZ HWH hcp z1 z8
        have hz8 : s.size ≤ 8 := z8
        have hne : ((n : Int) == 0) = false := by rw [beq_eq_false_iff_ne]; omega
        have HE0 := Lib.hid E0
        clear hv hev hcc hz0 hs E0
        by_cases h40 : n = 40
        · have E : Hid (addR g l d = ([], 5)) := by show _ = _; rw [HE0.out, if_pos (.inl h40)]
          have hn4 : ((n : Int) == 40) = true := by rw [h40]; rfl
          have hn5 : (40 : Int) ≤ (n : Int) := by omega
          clear h40 hcp
          go_wp2_with (go_at_call 60; (with_reducible refine (within_any d _ _ _).mono ?_); rintro e w2 ⟨rfl, rfl⟩; rw [hd])
          refine bodyPost_ret (v := .tuple #[.slice none 0 0, .int .i64 5]) (by simp [results, Try.results40, go_sem]) rfl ?_
          rw [E.out]
          exact ⟨none, 0, rfl, own_noneS _ _ _, hb1⟩
        · have hn4 : ((n : Int) == 40) = false := by rw [beq_eq_false_iff_ne]; omega
          have hn5 : (n : Int) < 40 := by omega
          by_cases h5 : 300 < pw g s.size
          · have E : Hid (addR g l d = ([], 5)) := by show _ = _; rw [HE0.out, if_pos (.inr h5)]
            have hw5 := HWH.out
            rw [if_pos h5] at hw5
            have HWH := Lib.hid hw5
            have h6 := hcp.2 h5
            have hcl := capF_le g 300 s.size
            obtain ⟨y, hy⟩ : ∃ y, capF g 300 s.size = y := ⟨_, rfl⟩
            rw [hy] at h6 hcl
            have HCP := Lib.hid hy
            clear hcp h5 hy h40 hw5 
            go_wp2_with (first | (go_at_call 60; (with_reducible refine (within_any d _ _ _).mono ?_); rintro e w2 ⟨rfl, rfl⟩; rw [hd]) | (go_at_call 61; refine (count_any g s.size 300 _ hg4 hz8 (by omega)).mono ?_; rintro e w2 ⟨rfl, rfl⟩; rw [HCP.out]))
            refine bodyPost_ret (v := .tuple #[.slice none 0 0, .int .i64 5]) (by simp [results, Try.results40, go_sem]) rfl ?_
            rw [E.out]
            exact ⟨none, 0, rfl, own_noneS _ _ _, hb1⟩
          · have HE1 : Hid (addR g l d = addedL l d (allW g s.size)) := by show _ = _; rw [HE0.out, if_neg (by omega)]
            have hw5 := HWH.out
            rw [if_neg h5] at hw5
            have HWH := Lib.hid hw5
            have h6 : capF g 300 s.size ≤ 300 := by
              rcases Nat.lt_or_ge 300 (capF g 300 s.size) with h | h
              · exact absurd (hcp.1 h) h5
              · exact h
            obtain ⟨y, hy⟩ : ∃ y, capF g 300 s.size = y := ⟨_, rfl⟩
            rw [hy] at h6
            have HCP := Lib.hid hy
            clear hcp h5 hy h40 hw5
            go_wp2_with (first | (go_at_call 60; (with_reducible refine (within_any d _ _ _).mono ?_); rintro e w2 ⟨rfl, rfl⟩; rw [hd]) | (go_at_call 61; refine (count_any g s.size 300 _ hg4 hz8 (by omega)).mono ?_; rintro e w2 ⟨rfl, rfl⟩; rw [HCP.out]))
            refine (allWords_any g s.size _ hg4 hz8).mono ?_
            rintro e w3 ⟨AW, cW, rfl, hO, hb3⟩
            have HWL := Lib.hid (StrsAt.ofOwn hO).1
            have D3 := bel_next hb1 hb3
            have hwl : (allW g s.size).length ≤ 65536 := allW_le hg4 hz8
            have HWS := Lib.hid (Sized.allW g s.size)
            obtain ⟨W, hW⟩ : ∃ W, allW g s.size = W := ⟨_, rfl⟩
            rw [hW] at HE1 HWL hwl HWS ⊢
            obtain ⟨m, hm⟩ : ∃ m, W.length = m := ⟨_, rfl⟩
            have HM := Lib.hid hm
            obtain ⟨F, hF⟩ : ∃ F, firstFar l d W = F := ⟨_, rfl⟩
            have HF : Hid (firstFar l d (W.drop 0) = F) := hF
            have HFF := Lib.hid hF
            rw [hm] at hwl ⊢
            clear hO hW hm hF hb3 t0
            go_wp2_with fail
            go_loopw [41] (fun u w' => ∃ (i : Nat), u = .int .i64 i ∧ i ≤ m ∧ Hid (firstFar l d (W.drop i) = F) ∧ Below w3.heap.size w3 w') (fun u _ => m - (intOf u).toNat)
            case atStart => exact ⟨0, rfl, by omega, HF, Below.refl _ _⟩
            case round =>
              clear HF
              obtain ⟨i, rfl, him, HF, hbel⟩ := hrel
              have D5 := bel_next D3 hbel
              by_cases hlt : i < m
              · obtain ⟨bw, ow, rfl, hbw, hcw⟩ := (HWL.out.bel hbel) (by rw [HM.out]; omega)
                have hil : i < W.length := by rw [HM.out]; exact hlt
                have u0 := hcw i hil
                have hst := firstFar_step (l := l) (d := d) hil
                have hsz := HWS.out i hil
                obtain ⟨x, hx⟩ : ∃ x, W[i] = x := ⟨_, rfl⟩
                rw [hx] at u0 hst hsz
                have hx48 : x.size ≤ 1048576 := by omega
                have HSX : Hid (Sized l x.size) := by rw [hsz]; exact HSZ.out
                clear hcw hx hsz
                cases hv : farAll l x d
                · have HF2 : Hid (firstFar l d (W.drop (i + 1)) = F) := by show _ = _; rw [← HF.out, hst, if_neg (by rw [hv]; exact Bool.false_ne_true)]
                  clear hst HF
                  go_wp2_with fail
                  refine (isFar_any (some ⟨b, o, none⟩) n c l x d _ hx48 (H.out.bel D5) HL.out hn0 HSX.out).mono ?_
                  rintro e w5 ⟨rfl, hb5⟩
                  rw [hv]
                  have hbel5 := bel_next hbel hb5
                  clear hb5 u0
                  go_wp2_with fail
                  go_roundw
                  case rel => exact ⟨i + 1, by go_num, by omega, HF2, hbel5⟩
                  case measure => simp [intOf]; omega
                · have E : Hid (addR g l d = (l ++ [x], 0)) := by
                    show _ = _
                    have h8 : F = some x := by rw [← HF.out, hst, if_pos hv]
                    rw [HE1.out]
                    unfold addedL
                    rw [HFF.out, h8]
                  clear hst HF
                  go_wp2_with fail
                  refine (isFar_any (some ⟨b, o, none⟩) n c l x d _ hx48 (H.out.bel D5) HL.out hn0 HSX.out).mono ?_
                  rintro e w5 ⟨rfl, hb5⟩
                  rw [hv]
                  have hbel5 := bel_next hbel hb5
                  have D6 := bel_next D5 hb5
                  have u5 := bel_cell hb5 u0
                  clear hb5 u0 hbel D5
                  go_wp2_with fail
                  refine (cloneS_any (some ⟨b, o, none⟩) n c l _ (H.out.bel D6) HL.out hn0 hn).mono ?_
                  rintro e w6 ⟨A6, c6, rfl, hO6, hb6⟩
                  have HO6 := Lib.hid hO6
                  have D7 := bel_next D6 hb6
                  have hln : l.length = n := HL.out.symm
                  have hw6 : w5.heap.size ≤ w6.heap.size := hb6.size
                  have HSW := Lib.hid D6.size
                  clear hO6 u5
                  rw [hln] at HO6 ⊢
                  clear hln
                  go_wp2_with (at_builtin; refine wpList_append_lies _ rfl _ _ 25 rfl w5.heap.size 9 i0 (.string ByteArray.empty) 1 16 Try.underlying25 HI.out.1 HI.out.2.1 HI.out.2.2.1 HI.out.2.2.2 rfl (by decide) _ _ _ rfl (HO6.out.alloc _) ⟨w6.heap.size, 0, none⟩ 1 1 [.string x] rfl rfl ?c1 ?c2 ?c3 ?c4 ?c5 ?c6 (w6.heap.size + 1) (by simp) ?_)
                  try
                    case c1 =>
                      intro j u hu
                      cases j with
                      | zero => simp at hu; subst hu; simp [Addr.add]
                      | succ j => simp at hu
                  try case c2 => first | exact strs_oneCell [x] | rfl
                  try case c3 => omega
                  try case c4 => unfold maxLen; omega
                  try case c5 => omega
                  try case c6 => first | (simp; omega) | omega
                  intro g4 cap4 w4 hown1 hgrow hat4 hlt4
                  have hb4 : Below w5.heap.size w5 w4 := Below.grown (show Below w5.heap.size w5 _ from hb6.alloc hb6.size _) hgrow (by simp; omega) (fun k hk => by have := (HO6.out.lt k hk).1; omega)
                  have HR : Hid (MadeSC w 9 (l ++ [x]) 0 (.returned (.tuple #[.slice (some ⟨g4, 0, none⟩) (n + 1) cap4, .int .i64 0])) w4) := by
                    refine ⟨some ⟨g4, 0, none⟩, cap4, ?_, ?_, bel_next D6 hb4⟩
                    · rw [List.length_append, ← HL.out]; rfl
                    · have h5 := own_baseS hown1 HSW.out
                      rw [List.length_append, ← HL.out, List.map_append]
                      exact h5
                  clear hown1 hgrow hat4 hlt4 hb6
                  go_wp2_with fail
                  refine bodyPost_ret (v := .tuple #[.slice (some ⟨g4, 0, none⟩) (n + 1) cap4, .int .i64 0]) (by simp [results, Try.results40, go_sem]) rfl ?_
                  rw [E.out]
                  exact HR.out
              · have E : Hid (addR g l d = ([], 3)) := by
                  show _ = _
                  have h8 : F = none := by rw [← HF.out, List.drop_of_length_le (by rw [HM.out]; omega), firstFar]
                  rw [HE1.out]
                  unfold addedL
                  rw [HFF.out, h8]
                go_wp2_with fail
                refine bodyPost_ret (v := .tuple #[.slice none 0 0, .int .i64 3]) (by simp [results, Try.results40, go_sem]) rfl ?_
                rw [E.out]
                exact ⟨none, 0, rfl, own_noneS _ _ _, D5⟩

end Go.Proofs.Ytfhmmebciikgeaa
