/-
  CONTRACT: the network that a text spells, the program's way (printed by tools/gen_readn2.py).
-/
import Derived.Test.YtlblnknglplgjaaDoorReadN1
import Derived.Test.YtlblnknglplgjaaDoorNetT2
import Derived.Test.YtlblnknglplgjaaDoorReadI
import Derived.Test.YtlblnknglplgjaaDoorShelfT
import Derived.Test.YtlblnknglplgjaaDoorShelfN
namespace Go.Proofs.YtlblnknglplgjaaDoor
open Go.RowKit

theorem cut_any (q : List UInt8) (c : UInt8) (m : Int) (w : World) (hs : q.length ≤ 1048576) (hm : w.cell? ⟨3, 0, none⟩ = some (.int .i64 m)) :
    Calls Tryd.prog 51 #[.string (mkB q), .string ⟨#[c]⟩] w (RetN w (.tuple #[.string (mkB (Lib.cut q [c]).1), .string (mkB (Lib.cut q [c]).2.1), .bool (Lib.cut q [c]).2.2])) :=
  (Tryd.strings_Cut (mkB q) ⟨#[c]⟩ m w (by rw [mkB_size]; omega) hm).mono fun _ _ h => h
theorem cut_len (q : List UInt8) (c : UInt8) : (Lib.cut q [c]).1.length ≤ q.length ∧ (Lib.cut q [c]).2.1.length ≤ q.length := by
  unfold Lib.cut
  split
  · exact ⟨by rw [List.length_take]; exact Nat.min_le_right _ _, by rw [List.length_drop]; exact Nat.sub_le _ _⟩
  · simp
theorem trimC_len (q : List UInt8) : (trimC q).length ≤ q.length := by
  unfold trimC Lib.trimSuffix
  split
  · simp
  · exact Nat.le_refl _
theorem trim_any (q : List UInt8) (w : World) (hs : q.length ≤ 1048576) : Calls Tryd.prog 43 #[.string (mkB q), .string ⟨#[58]⟩] w (Ret0 w (.string (mkB (trimC q)))) :=
  (Tryd.strings_TrimSuffix (mkB q) ⟨#[58]⟩ w (by rw [mkB_size]; omega)).mono fun _ _ h => ⟨h.1, h.2.symm⟩
theorem splitK_ne (c : UInt8) : ∀ (k : Nat) (l : List UInt8), Lib.splitK [c] 0 k l ≠ []
  | 0, l => by simp [Lib.splitK]
  | k + 1, l => by
    rw [Lib.splitK]
    split <;> simp
theorem splitK_piece (c : UInt8) : ∀ (k : Nat) (l x : List UInt8), x ∈ Lib.splitK [c] 0 k l → x.length ≤ l.length
  | 0, l, x, h => by
    have : x = l := by simpa [Lib.splitK] using h
    rw [this]
    exact Nat.le_refl _
  | k + 1, l, x, h => by
    rw [Lib.splitK] at h
    split at h
    · have : x = l := by simpa using h
      rw [this]
      exact Nat.le_refl _
    · rcases List.mem_cons.1 h with rfl | h
      · rw [List.length_take]; exact Nat.min_le_right _ _
      · have := splitK_piece c k _ x h
        simp at this
        omega
theorem splitK_len (c : UInt8) : ∀ (k : Nat) (l : List UInt8), (Lib.splitK [c] 0 k l).length ≤ k + 1
  | 0, l => by simp [Lib.splitK]
  | k + 1, l => by
    rw [Lib.splitK]
    split
    · simp
    · have := splitK_len c k (l.drop ((Lib.index l [c]).toNat + ([c] : List UInt8).length))
      simp only [List.length_cons] at this ⊢
      omega
theorem splitB_K (c : UInt8) (k : Nat) (s : ByteArray) : Lib.splitB ⟨#[c]⟩ 0 k s = (Lib.splitK [c] 0 k s.data.toList).map mkB := by
  have h4 := congrArg (List.map mkB) (Lib.splitB_data ⟨#[c]⟩ 0 k s)
  rw [List.map_map] at h4
  have h5 : (mkB ∘ fun x : ByteArray => x.data.toList) = id := funext fun x => mkB_data x
  rw [h5, List.map_id] at h4
  exact h4
theorem cellsOf_at {l : List ByteArray} {N j : Nat} (h : j < l.length) : (Lib.cellsOf l N)[j]? = some (.string l[j]) := by
  unfold Lib.cellsOf
  rw [List.getElem?_toArray, List.getElem?_append_left (by simpa using h), List.getElem?_map, List.getElem?_eq_getElem h]
  rfl
theorem splitN_any (s : ByteArray) (m : Int) (w : World) (hs : s.size ≤ 1048576) (hm : w.cell? ⟨3, 0, none⟩ = some (.int .i64 m)) :
    Calls Tryd.prog 50 #[.string s, .string ⟨#[32]⟩, .int .i64 26] w fun e w' => e = .returned (.slice (some ⟨w.heap.size, 0, none⟩) (Lib.splitB ⟨#[32]⟩ 0 (min 26 (s.size + 1) - 1) s).length (min 26 (s.size + 1))) ∧ w' = w.alloc (.cells (Lib.cellsOf (Lib.splitB ⟨#[32]⟩ 0 (min 26 (s.size + 1) - 1) s) (min 26 (s.size + 1))) 9) :=
  Tryd.strings_SplitN s ⟨#[32]⟩ 26 m w (by omega) hm (by decide) (by decide) (by decide)
theorem rn2_3 {s : ByteArray} {p : List UInt8} {ps : List (List UInt8)} (h : Lib.splitK [32] 0 (min 26 (s.size + 1) - 1) s.data.toList = p :: ps) : readNet s = finI s (numD (trimC p)).1 (numD (trimC p)).2 [] ps := by
  rw [← readNet_eq]
  unfold readNet2
  rw [h]
theorem fi_1 {s : ByteArray} {S : Int} {ok : Bool} {ys : List Tb} {q : List UInt8} {ps : List (List UInt8)} {a r b d : List UInt8} (h1 : (Lib.cut q [62]).1 = a) (h2 : (Lib.cut q [62]).2.1 = r) (h3 : (Lib.cut r [42]).1 = b) (h4 : (Lib.cut r [42]).2.1 = d) :
    finI s S ok ys (q :: ps) = finI s S (ok && (numT a b d).2) (ys ++ [(numT a b d).1]) ps := by
  rw [finI]
  unfold tubeI
  rw [h1, h2, h3, h4]

set_option maxHeartbeats 8000000 in
set_option maxRecDepth 100000 in
theorem implReadNet_any (s : ByteArray) (w : World) (hs : s.size ≤ 1048576) (hm : ∃ m, w.cell? ⟨3, 0, none⟩ = some (.int .i64 m)) (ht : Tab w) (he : Errs w) :
    Calls Tryd.prog 26 #[.string s] w (MadeNR w 72 (readNet s)) := by
  obtain ⟨mx, hm⟩ := hm
  have HM := Lib.hid hm
  have HT := Lib.hid ht
  have HE := Lib.hid he
  obtain ⟨P, hP⟩ : ∃ P, Lib.splitK [32] 0 (min 26 (s.size + 1) - 1) s.data.toList = P := ⟨_, rfl⟩
  have hsz : s.data.toList.length = s.size := by simp
  have hpc : ∀ x ∈ P, x.length ≤ 1048576 := fun x hx => by have := splitK_piece 32 (min 26 (s.size + 1) - 1) s.data.toList x (by rw [hP]; exact hx); omega
  have hPl := splitK_len 32 (min 26 (s.size + 1) - 1) s.data.toList
  rw [hP] at hPl
  obtain ⟨p, ps, rfl⟩ : ∃ p ps, P = p :: ps := by
    cases P with
    | nil => exact absurd hP (splitK_ne 32 _ _)
    | cons p ps => exact ⟨p, ps, rfl⟩
  have HR3 : Hid (readNet s = finI s (numD (trimC p)).1 (numD (trimC p)).2 [] ps) := rn2_3 hP
  have HSB : Hid (Lib.splitB ⟨#[32]⟩ 0 (min 26 (s.size + 1) - 1) s = (p :: ps).map mkB) := by show _ = _; rw [splitB_K, hP]
  obtain ⟨R, hR⟩ : ∃ R, readNet s = R := ⟨_, rfl⟩
  rw [hR] at HR3 ⊢
  obtain ⟨n, hn⟩ : ∃ n, ps.length = n := ⟨_, rfl⟩
  have HN := Lib.hid hn
  have hn2 : n ≤ 26 := by simp at hPl; omega
  have HPC := Lib.hid hpc
  have hp0 : p.length ≤ 1048576 := hpc p List.mem_cons_self
  obtain ⟨K, hK⟩ : ∃ K, min 26 (s.size + 1) = K := ⟨_, rfl⟩
  have hKn : n + 1 ≤ K := by rw [← hn, ← hK]; simp at hPl; omega
  have hK2 : K ≤ 26 := by omega
  have HK := Lib.hid hK
  have HLEN : Hid (((p :: ps).map mkB).length = n + 1) := by show _ = _; simp [hn]
  obtain ⟨S0, ok0, hnd⟩ : ∃ S ok, readD (mkB (trimC p)) = (S, ok) := ⟨_, _, rfl⟩
  have HND := Lib.hid hnd
  have hnd2 : numD (trimC p) = (S0, ok0) := hnd
  have HF : Hid (finI s S0 ok0 [] ps = R) := by have := HR3.out; rw [hnd2] at this; exact this.symm
  obtain ⟨i0, hi, hz0, hz1, hz2⟩ := info_parts info_tubeN
  have HI := Lib.hid (And.intro hi (And.intro hz0 (And.intro hz1 hz2)))
  clear hP hPl hsz hpc hR hn hi hz0 hz1 hz2 hm ht he hK hnd hnd2 HR3
  go_enter Tryd.func26, Tryd.ntmps26
  go_wp2_with fail
  refine (splitN_any s mx _ hs (bel_cell (show Below w.heap.size w _ from by go_grown) HM.out)).mono ?_
  rintro e w1 ⟨rfl, hw1⟩
  rw [HSB.out, HK.out] at hw1 ⊢
  rw [HLEN.out]
  have D : Below w.heap.size w w1 := by rw [hw1]; go_grown
  have RB1 : Hid (Blk w1 w.heap.size 42 #[.int .i64 0, .slice none 0 0]) := by rw [hw1]; exact (Blk.new _ _ _).alloc _
  have PB1 : Blk w1 (w.heap.size + 1) 9 (Lib.cellsOf ((p :: ps).map mkB) K) := by rw [hw1]; exact Blk.newAt (by simp)
  have HC1 : Hid (∀ (j : Nat) (hj : j < (p :: ps).length), w1.cell? ⟨w.heap.size + 1, j, none⟩ = some (.string (mkB (p :: ps)[j]))) := fun j hj => by
    have h5 : j < ((p :: ps).map mkB).length := by simpa using hj
    rw [PB1.cell, cellsOf_at h5, List.getElem_map]
  have hg1 : w.heap.size + 1 < w1.heap.size := PB1.lt
  have hp := HC1.out 0 (by simp)
  simp only [List.getElem_cons_zero] at hp
  have es1 : (w.alloc (.cells #[.int .i64 0, .slice none 0 0] 42)).heap.size = w.heap.size + 1 := by simp
  rw [es1]
  clear hw1 PB1 es1
  go_wp2_with fail
  refine (trim_any p _ hp0).mono ?_
  rintro e w2 ⟨rfl, rfl⟩
  go_wp2_with fail
  refine (implReadDecimal_any (mkB (trimC p)) _ (by rw [mkB_size]; have := trimC_len p; omega) (HT.out.bel D) (HE.out.bel D)).mono ?_
  rintro e w3 ⟨rfl, hb⟩
  rw [HND.out]
  have HC3 : Hid (∀ (j : Nat) (hj : j < (p :: ps).length), w3.cell? ⟨w.heap.size + 1, j, none⟩ = some (.string (mkB (p :: ps)[j]))) := fun j hj => bel_cell hb (HC1.out j hj)
  have RB3 := hid_blk RB1 hb
  have q3 := hb.size
  replace D := bel_next D hb
  have hg3 : w.heap.size + 1 < w3.heap.size := by omega
  have hw3 : w.heap.size < w3.heap.size := by omega
  clear hb hp HC1 RB1 hg1 q3
  by_cases hK0 : K = 1
  · subst hK0
    go_wp2_with fail
    have XB : Blk (w3.alloc (.cells #[.int .i64 S0, .slice none 0 0] 42)) w3.heap.size 42 #[.int .i64 S0, .slice none 0 0] := Blk.new _ _ _
    have hb : Below w3.heap.size w3 (w3.alloc (.cells #[.int .i64 S0, .slice none 0 0] 42)) := (Below.refl _ _).alloc (Nat.le_refl _) _
    obtain ⟨bn, hbn⟩ : ∃ bn, w3.heap.size = bn := ⟨_, rfl⟩
    rw [hbn] at XB hg3 hw3 ⊢
    obtain ⟨w4, hw4⟩ : ∃ w4, w3.alloc (.cells #[.int .i64 S0, .slice none 0 0] 42) = w4 := ⟨_, rfl⟩
    rw [hw4] at XB hb ⊢
    have HC4 : Hid (∀ (j : Nat) (hj : j < (p :: ps).length), w4.cell? ⟨w.heap.size + 1, j, none⟩ = some (.string (mkB (p :: ps)[j]))) := fun j hj => bel_cell hb (HC3.out j hj)
    have RB4 := hid_blk RB3 hb
    have XB4 := Lib.hid XB
    have D4 := bel_next D hb
    have hxl := XB.lt
    clear HC3 RB3 XB D hb hbn hw4
    go_wp2_with fail
    go_loopw [6, 37] (fun x u w' => ∃ (i : Nat) (ok : Bool) (ys : List Tb) (V : Value), u = .int .i64 i ∧ x = .bool ok ∧ i ≤ n ∧ ys.length = i ∧ Hid (Blk w' bn 42 #[.int .i64 S0, V]) ∧ Hid (w'.ownsRow (bn + 1) 72 3 V ys.length (cells3 ys)) ∧ Hid (finI s S0 ok ys (ps.drop i) = R) ∧ Below bn w4 w' ∧ bn + 1 ≤ w'.heap.size) (fun _ u _ => n - (intOf u).toNat)
    case atStart => exact ⟨0, ok0, [], .slice none 0 0, rfl, rfl, by omega, rfl, XB4, own_none3N _ _ _, HF, (Below.refl _ _), hxl⟩
    case round =>
      clear XB4 HF
      obtain ⟨i, ok, ys, V, rfl, rfl, hin, hyl, XB, HO, HF, hbel, hsw⟩ := hrel
      have DW : Below w.heap.size w wr := D4.trans (hbel.mono (by omega))
      have RBw : Hid (Blk wr w.heap.size 42 #[.int .i64 0, .slice none 0 0]) := RB4.out.below hbel hw3
      obtain ⟨A5, c5, rfl⟩ := own_formN HO.out
      by_cases hlt : i < n
      · exfalso
        omega
      · have hie : i = n := by omega
        have hF1 := HF.out
        rw [List.drop_of_length_le (by rw [HN.out]; omega), finI] at hF1
        have HF1 := Lib.hid hF1
        have hwl := RBw.out.lt
        have hylen : ys.length ≤ 1048576 := by omega
        have hts := tubes_own HO.out rfl
        have HTS := Lib.hid hts
        obtain ⟨x0, x1, x2, x3⟩ := XB.out.c2
        have hxl2 := XB.out.lt
        clear hF1 HF hts
        cases ok
        · have E : Hid (R = none) := by show _ = _; rw [← HF1.out]; simp
          obtain ⟨z0, z1, z2, z3⟩ := RBw.out.c2
          clear HF1
          go_wp2_with fail
          have DB : Below w.heap.size w ((wr.setCell ⟨w.heap.size, 0, none⟩ (.int .i64 0)).setCell ⟨w.heap.size, 1, none⟩ (.slice none 0 0)) := (DW.setCell (Nat.le_refl _) _).setCell (Nat.le_refl _) _
          have RB : Blk ((wr.setCell ⟨w.heap.size, 0, none⟩ (.int .i64 0)).setCell ⟨w.heap.size, 1, none⟩ (.slice none 0 0)) w.heap.size 42 #[.int .i64 0, .slice none 0 0] := (RBw.out.set_ 0 (.int .i64 0)).set_ 1 (.slice none 0 0)
          obtain ⟨W4, hW⟩ : ∃ W4, ((wr.setCell ⟨w.heap.size, 0, none⟩ (.int .i64 0)).setCell ⟨w.heap.size, 1, none⟩ (.slice none 0 0)) = W4 := ⟨_, rfl⟩
          rw [hW] at DB RB ⊢
          obtain ⟨k0, k1, -⟩ := RB.c2
          clear hW RB
          refine bodyPost_ret (v := .tuple #[.agg #[.int .i64 0, .slice none 0 0], .bool false]) (by simp [results, Tryd.results26, go_sem, k0, k1]) rfl ?_
          rw [E.out]
          exact ⟨none, 0, rfl, own_none3N _ _ _, DB⟩
        · obtain ⟨yl, hyn⟩ : ∃ yl, ys.length = yl := ⟨_, rfl⟩
          have HYN := Lib.hid hyn
          rw [hyn] at HO x1 hylen XB
          clear hyn hyl
          go_wp2_with fail
          refine (implNetText_any S0 A5 yl c5 ys _ HTS.out HYN.out.symm hylen (HT.out.bel DW)).mono ?_
          rintro e w6 ⟨rfl, hb⟩
          have XB6 := hid_blk XB hb
          have HO6 := Lib.hid (own_belN HO.out hb)
          have RB6 := hid_blk RBw hb
          have D6 := bel_next DW hb
          have hwl6 := RB6.out.lt
          have hxl6 := XB6.out.lt
          clear hb XB HO RBw DW hbel x0 x1 x2 x3 HTS
          obtain ⟨x0, x1, x2, x3⟩ := XB6.out.c2
          obtain ⟨z0, z1, z2, z3⟩ := RB6.out.c2
          by_cases heq : netTx S0 ys = s
          · have E : Hid (R = some (S0, ys)) := by show _ = _; rw [← HF1.out]; simp [heq]
            have HEQ := Lib.hid heq
            rw [HEQ.out]
            clear HF1 heq
            go_wp2_with fail
            have DB : Below w.heap.size w ((w6.setCell ⟨w.heap.size, 0, none⟩ (.int .i64 S0)).setCell ⟨w.heap.size, 1, none⟩ (.slice A5 yl c5)) := (D6.setCell (Nat.le_refl _) _).setCell (Nat.le_refl _) _
            have RB : Blk ((w6.setCell ⟨w.heap.size, 0, none⟩ (.int .i64 S0)).setCell ⟨w.heap.size, 1, none⟩ (.slice A5 yl c5)) w.heap.size 42 #[.int .i64 S0, .slice A5 yl c5] := (RB6.out.set_ 0 (.int .i64 S0)).set_ 1 (.slice A5 yl c5)
            have OB : ((w6.setCell ⟨w.heap.size, 0, none⟩ (.int .i64 S0)).setCell ⟨w.heap.size, 1, none⟩ (.slice A5 yl c5)).ownsRow (bn + 1) 72 3 (.slice A5 yl c5) yl (cells3 ys) := own_farN (own_farN HO6.out (by simp; omega) _) (by simp; omega) _
            obtain ⟨W4, hW⟩ : ∃ W4, ((w6.setCell ⟨w.heap.size, 0, none⟩ (.int .i64 S0)).setCell ⟨w.heap.size, 1, none⟩ (.slice A5 yl c5)) = W4 := ⟨_, rfl⟩
            rw [hW] at DB RB OB ⊢
            obtain ⟨k0, k1, -⟩ := RB.c2
            clear hW RB
            refine bodyPost_ret (v := .tuple #[.agg #[.int .i64 S0, .slice A5 yl c5], .bool true]) (by simp [results, Tryd.results26, go_sem, k0, k1]) rfl ?_
            rw [E.out]
            refine ⟨A5, c5, ?_, ?_, DB⟩
            · show _ = Ending.returned (.tuple #[.agg #[.int .i64 S0, .slice A5 ys.length c5], .bool true])
              rw [HYN.out]
            · show World.ownsRow _ _ _ _ (.slice A5 ys.length c5) ys.length (cells3 ys)
              rw [HYN.out]
              exact own_baseN OB (by omega)
          · have E : Hid (R = none) := by show _ = _; rw [← HF1.out]; simp [heq]
            have hq1 := beqD_no heq
            obtain ⟨T, hT⟩ : ∃ T, netTx S0 ys = T := ⟨_, rfl⟩
            rw [hT] at hq1 ⊢
            have hq2 : (T.toList != s.toList) = true := by rw [bne, hq1]; rfl
            clear HF1 heq hT
            go_wp2_with fail
            have DB : Below w.heap.size w ((w6.setCell ⟨w.heap.size, 0, none⟩ (.int .i64 0)).setCell ⟨w.heap.size, 1, none⟩ (.slice none 0 0)) := (D6.setCell (Nat.le_refl _) _).setCell (Nat.le_refl _) _
            have RB : Blk ((w6.setCell ⟨w.heap.size, 0, none⟩ (.int .i64 0)).setCell ⟨w.heap.size, 1, none⟩ (.slice none 0 0)) w.heap.size 42 #[.int .i64 0, .slice none 0 0] := (RB6.out.set_ 0 (.int .i64 0)).set_ 1 (.slice none 0 0)
            obtain ⟨W4, hW⟩ : ∃ W4, ((w6.setCell ⟨w.heap.size, 0, none⟩ (.int .i64 0)).setCell ⟨w.heap.size, 1, none⟩ (.slice none 0 0)) = W4 := ⟨_, rfl⟩
            rw [hW] at DB RB ⊢
            obtain ⟨k0, k1, -⟩ := RB.c2
            clear hW RB
            refine bodyPost_ret (v := .tuple #[.agg #[.int .i64 0, .slice none 0 0], .bool false]) (by simp [results, Tryd.results26, go_sem, k0, k1]) rfl ?_
            rw [E.out]
            exact ⟨none, 0, rfl, own_none3N _ _ _, DB⟩
  · obtain ⟨K2, rfl⟩ : ∃ k, K = k + 2 := ⟨K - 2, by omega⟩
    go_wp2_with fail
    have XB : Blk (w3.alloc (.cells #[.int .i64 S0, .slice none 0 0] 42)) w3.heap.size 42 #[.int .i64 S0, .slice none 0 0] := Blk.new _ _ _
    have hb : Below w3.heap.size w3 (w3.alloc (.cells #[.int .i64 S0, .slice none 0 0] 42)) := (Below.refl _ _).alloc (Nat.le_refl _) _
    obtain ⟨bn, hbn⟩ : ∃ bn, w3.heap.size = bn := ⟨_, rfl⟩
    rw [hbn] at XB hg3 hw3 ⊢
    obtain ⟨w4, hw4⟩ : ∃ w4, w3.alloc (.cells #[.int .i64 S0, .slice none 0 0] 42) = w4 := ⟨_, rfl⟩
    rw [hw4] at XB hb ⊢
    have HC4 : Hid (∀ (j : Nat) (hj : j < (p :: ps).length), w4.cell? ⟨w.heap.size + 1, j, none⟩ = some (.string (mkB (p :: ps)[j]))) := fun j hj => bel_cell hb (HC3.out j hj)
    have RB4 := hid_blk RB3 hb
    have XB4 := Lib.hid XB
    have D4 := bel_next D hb
    have hxl := XB.lt
    clear HC3 RB3 XB D hb hbn hw4
    go_wp2_with fail
    go_loopw [6, 37] (fun x u w' => ∃ (i : Nat) (ok : Bool) (ys : List Tb) (V : Value), u = .int .i64 i ∧ x = .bool ok ∧ i ≤ n ∧ ys.length = i ∧ Hid (Blk w' bn 42 #[.int .i64 S0, V]) ∧ Hid (w'.ownsRow (bn + 1) 72 3 V ys.length (cells3 ys)) ∧ Hid (finI s S0 ok ys (ps.drop i) = R) ∧ Below bn w4 w' ∧ bn + 1 ≤ w'.heap.size) (fun _ u _ => n - (intOf u).toNat)
    case atStart => exact ⟨0, ok0, [], .slice none 0 0, rfl, rfl, by omega, rfl, XB4, own_none3N _ _ _, HF, (Below.refl _ _), hxl⟩
    case round =>
      clear XB4 HF
      obtain ⟨i, ok, ys, V, rfl, rfl, hin, hyl, XB, HO, HF, hbel, hsw⟩ := hrel
      have DW : Below w.heap.size w wr := D4.trans (hbel.mono (by omega))
      have RBw : Hid (Blk wr w.heap.size 42 #[.int .i64 0, .slice none 0 0]) := RB4.out.below hbel hw3
      obtain ⟨A5, c5, rfl⟩ := own_formN HO.out
      by_cases hlt : i < n
      · have hK1 : 1 ≤ n := by omega
        have hij : i < ps.length := by rw [HN.out]; exact hlt
        have hij1 : i + 1 < (p :: ps).length := by simp; exact hij
        have hpc0 : wr.cell? ⟨w.heap.size + 1, i + 1, none⟩ = some (.string (mkB (p :: ps)[i + 1])) := (hbel.cell (p := ⟨w.heap.size + 1, i + 1, none⟩) hg3).trans (HC4.out (i + 1) hij1)
        rw [List.getElem_cons_succ] at hpc0
        have hpl : (ps[i]).length ≤ 1048576 := HPC.out _ (List.mem_cons_of_mem _ (List.getElem_mem hij))
        have hF0 := HF.out
        rw [List.drop_eq_getElem_cons hij] at hF0
        obtain ⟨q, hq⟩ : ∃ q, ps[i] = q := ⟨_, rfl⟩
        rw [hq] at hpc0 hpl hF0
        have hpc : wr.cell? ⟨w.heap.size + 1, 1 + i, none⟩ = some (.string (mkB q)) := by rw [Nat.add_comm 1 i]; exact hpc0
        have HQF := Lib.hid hF0
        have hglw : w.heap.size + 1 < wr.heap.size := by omega
        obtain ⟨l1, l2⟩ := cut_len q 62
        obtain ⟨a1, ha1⟩ : ∃ x, (Lib.cut q [62]).1 = x := ⟨_, rfl⟩
        obtain ⟨r1, hr1⟩ : ∃ x, (Lib.cut q [62]).2.1 = x := ⟨_, rfl⟩
        obtain ⟨l3, l4⟩ := cut_len r1 42
        obtain ⟨b1, hb1⟩ : ∃ x, (Lib.cut r1 [42]).1 = x := ⟨_, rfl⟩
        obtain ⟨d1, hd1⟩ : ∃ x, (Lib.cut r1 [42]).2.1 = x := ⟨_, rfl⟩
        have hfs := fi_1 (s := s) (S := S0) (ok := ok) (ys := ys) (ps := ps.drop (i + 1)) ha1 hr1 hb1 hd1
        rw [HQF.out] at hfs
        rw [ha1] at l1
        rw [hr1] at l2
        rw [hb1] at l3
        rw [hd1] at l4
        obtain ⟨n1, o1, hn1'⟩ : ∃ S ok, readD (mkB a1) = (S, ok) := ⟨_, _, rfl⟩
        obtain ⟨n2, o2, hn2'⟩ : ∃ S ok, readD (mkB b1) = (S, ok) := ⟨_, _, rfl⟩
        obtain ⟨n3, o3, hn3'⟩ : ∃ S ok, readD (mkB d1) = (S, ok) := ⟨_, _, rfl⟩
        have K1 := Lib.hid hn1'
        have K2 := Lib.hid hn2'
        have K3 := Lib.hid hn3'
        have e1 : numD a1 = (n1, o1) := hn1'
        have e2 : numD b1 = (n2, o2) := hn2'
        have e3 : numD d1 = (n3, o3) := hn3'
        have HFS : Hid (finI s S0 (ok && ((o1 && o2) && o3)) (ys ++ [(n1, n2, n3)]) (ps.drop (i + 1)) = R) := by
          show _ = _
          rw [hfs]
          unfold numT
          rw [e1, e2, e3]
        have X1 := Lib.hid ha1
        have X2 := Lib.hid hr1
        have X3 := Lib.hid hb1
        have X4 := Lib.hid hd1
        have la1 : a1.length ≤ 1048576 := by omega
        have lr1 : r1.length ≤ 1048576 := by omega
        have lb1 : b1.length ≤ 1048576 := by omega
        have ld1 : d1.length ≤ 1048576 := by omega
        clear hq hF0 HF hpc0 ha1 hr1 hb1 hd1 hfs hn1' hn2' hn3' e1 e2 e3 l1 l2 l3 l4 HQF hij hij1
        go_wp2_with fail
        refine (cut_any q 62 mx _ hpl (bel_cell DW HM.out)).mono ?_
        rintro e w5 ⟨rfl, m5, rfl⟩
        rw [X1.out, X2.out]
        have hMx : (wr.drewN m5).cell? ⟨3, 0, none⟩ = some (.int .i64 mx) := bel_cell (below_drewN DW m5) HM.out
        go_wp2_with fail
        refine (cut_any r1 42 mx _ lr1 hMx).mono ?_
        rintro e w6 ⟨rfl, m6, rfl⟩
        rw [X3.out, X4.out]
        have D6 : Below w.heap.size w ((wr.drewN m5).drewN m6) := below_drewN (below_drewN DW m5) m6
        have XB6 : Hid (Blk ((wr.drewN m5).drewN m6) bn 42 #[.int .i64 S0, .slice A5 ys.length c5]) := (XB.out.drewN m5).drewN m6
        have RB6 : Hid (Blk ((wr.drewN m5).drewN m6) w.heap.size 42 #[.int .i64 0, .slice none 0 0]) := (RBw.out.drewN m5).drewN m6
        have HO6 : Hid (((wr.drewN m5).drewN m6).ownsRow (bn + 1) 72 3 (.slice A5 ys.length c5) ys.length (cells3 ys)) := HO.out
        have E6 : Below bn w4 ((wr.drewN m5).drewN m6) := below_drewN (below_drewN hbel m5) m6
        obtain ⟨w6, hw6⟩ : ∃ w6, (wr.drewN m5).drewN m6 = w6 := ⟨_, rfl⟩
        have hw6' : wr.drewN (m5 + m6) = w6 := by rw [← hw6]; exact (World.drewN_drewN ..).symm
        rw [hw6] at D6 XB6 RB6 HO6 E6
        try rw [hw6]
        try rw [hw6']
        clear hw6 hw6' XB RBw HO hbel DW hpc hMx
        go_wp2_with fail
        refine (implReadDecimal_any (mkB a1) _ (by rw [mkB_size]; omega) (HT.out.bel D6) (HE.out.bel D6)).mono ?_
        rintro e w7 ⟨rfl, hb⟩
        rw [K1.out]
        have XB7 := hid_blk XB6 hb
        have HO7 := Lib.hid (own_belN HO6.out hb)
        have RB7 := hid_blk RB6 hb
        have D7 := bel_next D6 hb
        have E7 : Below bn w4 w7 := E6.trans (hb.mono (by have := XB6.out.lt; omega))
        clear hb XB6 HO6 RB6 D6 E6 K1
        go_wp2_with fail
        refine (implReadDecimal_any (mkB b1) _ (by rw [mkB_size]; omega) (HT.out.bel D7) (HE.out.bel D7)).mono ?_
        rintro e w8 ⟨rfl, hb⟩
        rw [K2.out]
        have XB8 := hid_blk XB7 hb
        have HO8 := Lib.hid (own_belN HO7.out hb)
        have RB8 := hid_blk RB7 hb
        have D8 := bel_next D7 hb
        have E8 : Below bn w4 w8 := E7.trans (hb.mono (by have := XB7.out.lt; omega))
        clear hb XB7 HO7 RB7 D7 E7 K2
        go_wp2_with fail
        refine (implReadDecimal_any (mkB d1) _ (by rw [mkB_size]; omega) (HT.out.bel D8) (HE.out.bel D8)).mono ?_
        rintro e w9 ⟨rfl, hb⟩
        rw [K3.out]
        have XB9 := hid_blk XB8 hb
        have HO9 := Lib.hid (own_belN HO8.out hb)
        have RB9 := hid_blk RB8 hb
        have D9 := bel_next D8 hb
        have E9 : Below bn w4 w9 := E8.trans (hb.mono (by have := XB8.out.lt; omega))
        clear hb XB8 HO8 RB8 D8 E8 K3
        obtain ⟨x0, x1, x2, x3⟩ := XB9.out.c2
        have hbn9 : bn < w9.heap.size := XB9.out.lt
        have hb1 : bn + 1 ≤ w9.heap.size := hbn9
        obtain ⟨ok2, hok2⟩ : ∃ b, (ok && ((o1 && o2) && o3)) = b := ⟨_, rfl⟩
        rw [hok2] at HFS
        have HYL : Hid ((ys ++ [(n1, n2, n3)]).length = ys.length + 1) := by show _ = _; simp
        have hok3 : (ok && o1 && o2 && o3) = ok2 := by rw [← hok2]; cases ok <;> cases o1 <;> cases o2 <;> cases o3 <;> rfl
        have hcases : ((ok = true ∧ o1 = true ∧ o2 = true ∧ o3 = true ∧ ok2 = true) ∨ (ok = true ∧ o1 = true ∧ o2 = true ∧ o3 = false ∧ ok2 = false) ∨ (ok = true ∧ o1 = true ∧ o2 = false ∧ ok2 = false) ∨ (ok = true ∧ o1 = false ∧ ok2 = false) ∨ (ok = false ∧ ok2 = false)) := by
          revert hok3; cases ok <;> cases o1 <;> cases o2 <;> cases o3 <;> simp
        have HYI := Lib.hid hyl
        have hyl2 : ys.length ≤ 1048576 := by omega
        clear hok2 hok3 hyl X1 X2 X3 X4 la1 lr1 lb1 ld1
        rcases hcases with ⟨rfl, rfl, rfl, rfl, rfl⟩ | ⟨rfl, rfl, rfl, rfl, rfl⟩ | ⟨rfl, rfl, rfl, rfl⟩ | ⟨rfl, rfl, rfl⟩ | ⟨rfl, rfl⟩
        all_goals
          go_wp2_with (at_builtin; refine wpList_append_own _ rfl _ _ 40 rfl (bn + 1) 72 i0 (.agg #[.int .i64 0, .int .i64 0, .int .i64 0]) 3 24 Tryd.underlying40 HI.out.1 HI.out.2.1 HI.out.2.2.1 HI.out.2.2.2 rfl (by decide) _ _ (cells3 ys) rfl (own_belN HO9.out ((Below.refl _ _).alloc (Nat.le_refl _) _)) ⟨w9.heap.size, 0, none⟩ 1 1 [.int .i64 n1, .int .i64 n2, .int .i64 n3] rfl rfl ?d1 (ints_oneCell .i64 [n1, n2, n3]) ?d3 ?d4 ?d5 ?_)
          try case d1 => exact World.news_of_block (heap_alloc_new _ _)
          try case d3 => unfold maxLen; omega
          try case d4 => omega
          try case d5 => first | (simp; done) | (simp; omega) | omega
          intro v' w10 hown1 hgrow _
          have hown2 : w10.ownsRow (bn + 1) 72 3 v' (ys.length + 1) (cells3 (ys ++ [(n1, n2, n3)])) := by
            rw [cells3_append]
            exact hown1
          have hne : ∀ k, (Value.slice A5 ys.length c5).ownBlock = some k → bn + 1 ≤ k := fun k hk => (HO9.out.lt k hk).1
          have XB10 : Hid (Blk w10 bn 42 #[.int .i64 S0, .slice A5 ys.length c5]) := (XB9.out.alloc _).grown hgrow (by intro e; have := hne bn e.symm; omega)
          have hb10 : Below bn w9 w10 := Below.grown ((Below.refl _ _).alloc (Nat.le_of_lt hbn9) _) hgrow (by simp; omega) (fun k hk => by have := hne k hk; omega)
          have s10 := hb10.size
          obtain ⟨y0, y1, y2, y3⟩ := XB10.out.c2
          have HO10 := Lib.hid hown2
          obtain ⟨A8, c8, rfl⟩ := own_formN hown2
          have HO11 : Hid ((w10.setCell ⟨bn, 1, none⟩ (.slice A8 (ys.length + 1) c8)).ownsRow (bn + 1) 72 3 (.slice A8 (ys.length + 1) c8) (ys ++ [(n1, n2, n3)]).length (cells3 (ys ++ [(n1, n2, n3)]))) := by
            rw [HYL.out]
            exact own_farN HO10.out (by simp) _
          have XB11 : Hid (Blk (w10.setCell ⟨bn, 1, none⟩ (.slice A8 (ys.length + 1) c8)) bn 42 #[.int .i64 S0, .slice A8 (ys.length + 1) c8]) := XB10.out.set_ 1 _
          have E11 : Below bn w4 (w10.setCell ⟨bn, 1, none⟩ (.slice A8 (ys.length + 1) c8)) := (E9.trans hb10).setCell (Nat.le_refl _) _
          clear hown1 hown2 hgrow HO9 XB9 x0 x1 x2 x3 hne XB10 hb10
          go_wp2_with fail
          go_roundw
          case rel => exact ⟨i + 1, _, ys ++ [(n1, n2, n3)], _, by go_num, rfl, by omega, by rw [HYL.out, HYI.out], XB11, HO11, HFS, E11, by simp; omega⟩
          case measure => simp [intOf]; omega
      · have hie : i = n := by omega
        have hF1 := HF.out
        rw [List.drop_of_length_le (by rw [HN.out]; omega), finI] at hF1
        have HF1 := Lib.hid hF1
        have hwl := RBw.out.lt
        have hylen : ys.length ≤ 1048576 := by omega
        have hts := tubes_own HO.out rfl
        have HTS := Lib.hid hts
        obtain ⟨x0, x1, x2, x3⟩ := XB.out.c2
        have hxl2 := XB.out.lt
        clear hF1 HF hts
        cases ok
        · have E : Hid (R = none) := by show _ = _; rw [← HF1.out]; simp
          obtain ⟨z0, z1, z2, z3⟩ := RBw.out.c2
          clear HF1
          go_wp2_with fail
          have DB : Below w.heap.size w ((wr.setCell ⟨w.heap.size, 0, none⟩ (.int .i64 0)).setCell ⟨w.heap.size, 1, none⟩ (.slice none 0 0)) := (DW.setCell (Nat.le_refl _) _).setCell (Nat.le_refl _) _
          have RB : Blk ((wr.setCell ⟨w.heap.size, 0, none⟩ (.int .i64 0)).setCell ⟨w.heap.size, 1, none⟩ (.slice none 0 0)) w.heap.size 42 #[.int .i64 0, .slice none 0 0] := (RBw.out.set_ 0 (.int .i64 0)).set_ 1 (.slice none 0 0)
          obtain ⟨W4, hW⟩ : ∃ W4, ((wr.setCell ⟨w.heap.size, 0, none⟩ (.int .i64 0)).setCell ⟨w.heap.size, 1, none⟩ (.slice none 0 0)) = W4 := ⟨_, rfl⟩
          rw [hW] at DB RB ⊢
          obtain ⟨k0, k1, -⟩ := RB.c2
          clear hW RB
          refine bodyPost_ret (v := .tuple #[.agg #[.int .i64 0, .slice none 0 0], .bool false]) (by simp [results, Tryd.results26, go_sem, k0, k1]) rfl ?_
          rw [E.out]
          exact ⟨none, 0, rfl, own_none3N _ _ _, DB⟩
        · obtain ⟨yl, hyn⟩ : ∃ yl, ys.length = yl := ⟨_, rfl⟩
          have HYN := Lib.hid hyn
          rw [hyn] at HO x1 hylen XB
          clear hyn hyl
          go_wp2_with fail
          refine (implNetText_any S0 A5 yl c5 ys _ HTS.out HYN.out.symm hylen (HT.out.bel DW)).mono ?_
          rintro e w6 ⟨rfl, hb⟩
          have XB6 := hid_blk XB hb
          have HO6 := Lib.hid (own_belN HO.out hb)
          have RB6 := hid_blk RBw hb
          have D6 := bel_next DW hb
          have hwl6 := RB6.out.lt
          have hxl6 := XB6.out.lt
          clear hb XB HO RBw DW hbel x0 x1 x2 x3 HTS
          obtain ⟨x0, x1, x2, x3⟩ := XB6.out.c2
          obtain ⟨z0, z1, z2, z3⟩ := RB6.out.c2
          by_cases heq : netTx S0 ys = s
          · have E : Hid (R = some (S0, ys)) := by show _ = _; rw [← HF1.out]; simp [heq]
            have HEQ := Lib.hid heq
            rw [HEQ.out]
            clear HF1 heq
            go_wp2_with fail
            have DB : Below w.heap.size w ((w6.setCell ⟨w.heap.size, 0, none⟩ (.int .i64 S0)).setCell ⟨w.heap.size, 1, none⟩ (.slice A5 yl c5)) := (D6.setCell (Nat.le_refl _) _).setCell (Nat.le_refl _) _
            have RB : Blk ((w6.setCell ⟨w.heap.size, 0, none⟩ (.int .i64 S0)).setCell ⟨w.heap.size, 1, none⟩ (.slice A5 yl c5)) w.heap.size 42 #[.int .i64 S0, .slice A5 yl c5] := (RB6.out.set_ 0 (.int .i64 S0)).set_ 1 (.slice A5 yl c5)
            have OB : ((w6.setCell ⟨w.heap.size, 0, none⟩ (.int .i64 S0)).setCell ⟨w.heap.size, 1, none⟩ (.slice A5 yl c5)).ownsRow (bn + 1) 72 3 (.slice A5 yl c5) yl (cells3 ys) := own_farN (own_farN HO6.out (by simp; omega) _) (by simp; omega) _
            obtain ⟨W4, hW⟩ : ∃ W4, ((w6.setCell ⟨w.heap.size, 0, none⟩ (.int .i64 S0)).setCell ⟨w.heap.size, 1, none⟩ (.slice A5 yl c5)) = W4 := ⟨_, rfl⟩
            rw [hW] at DB RB OB ⊢
            obtain ⟨k0, k1, -⟩ := RB.c2
            clear hW RB
            refine bodyPost_ret (v := .tuple #[.agg #[.int .i64 S0, .slice A5 yl c5], .bool true]) (by simp [results, Tryd.results26, go_sem, k0, k1]) rfl ?_
            rw [E.out]
            refine ⟨A5, c5, ?_, ?_, DB⟩
            · show _ = Ending.returned (.tuple #[.agg #[.int .i64 S0, .slice A5 ys.length c5], .bool true])
              rw [HYN.out]
            · show World.ownsRow _ _ _ _ (.slice A5 ys.length c5) ys.length (cells3 ys)
              rw [HYN.out]
              exact own_baseN OB (by omega)
          · have E : Hid (R = none) := by show _ = _; rw [← HF1.out]; simp [heq]
            have hq1 := beqD_no heq
            obtain ⟨T, hT⟩ : ∃ T, netTx S0 ys = T := ⟨_, rfl⟩
            rw [hT] at hq1 ⊢
            have hq2 : (T.toList != s.toList) = true := by rw [bne, hq1]; rfl
            clear HF1 heq hT
            go_wp2_with fail
            have DB : Below w.heap.size w ((w6.setCell ⟨w.heap.size, 0, none⟩ (.int .i64 0)).setCell ⟨w.heap.size, 1, none⟩ (.slice none 0 0)) := (D6.setCell (Nat.le_refl _) _).setCell (Nat.le_refl _) _
            have RB : Blk ((w6.setCell ⟨w.heap.size, 0, none⟩ (.int .i64 0)).setCell ⟨w.heap.size, 1, none⟩ (.slice none 0 0)) w.heap.size 42 #[.int .i64 0, .slice none 0 0] := (RB6.out.set_ 0 (.int .i64 0)).set_ 1 (.slice none 0 0)
            obtain ⟨W4, hW⟩ : ∃ W4, ((w6.setCell ⟨w.heap.size, 0, none⟩ (.int .i64 0)).setCell ⟨w.heap.size, 1, none⟩ (.slice none 0 0)) = W4 := ⟨_, rfl⟩
            rw [hW] at DB RB ⊢
            obtain ⟨k0, k1, -⟩ := RB.c2
            clear hW RB
            refine bodyPost_ret (v := .tuple #[.agg #[.int .i64 0, .slice none 0 0], .bool false]) (by simp [results, Tryd.results26, go_sem, k0, k1]) rfl ?_
            rw [E.out]
            exact ⟨none, 0, rfl, own_none3N _ _ _, DB⟩

end Go.Proofs.YtlblnknglplgjaaDoor
