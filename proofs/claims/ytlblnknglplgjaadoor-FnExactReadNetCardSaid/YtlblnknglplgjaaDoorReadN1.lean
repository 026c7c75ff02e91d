/-
  CONTRACT: the network that a text spells, the specification's way (printed by tools/gen_readn.py).
-/
import Derived.Test.YtlblnknglplgjaaDoorReadNP
import Derived.Test.YtlblnknglplgjaaDoorSplitW
import Derived.Test.YtlblnknglplgjaaDoorReadD
import Derived.Test.YtlblnknglplgjaaDoorNetV
namespace Go.Proofs.YtlblnknglplgjaaDoor
open Go.RowKit

def cells3 : List Tb → List Value
  | [] => []
  | s :: ss => .int .i64 s.1 :: .int .i64 s.2.1 :: .int .i64 s.2.2 :: cells3 ss
theorem cells3_len : ∀ l : List Tb, (cells3 l).length = l.length * 3
  | [] => rfl
  | s :: ss => by simp only [cells3, List.length_cons, cells3_len ss]; omega
theorem cells3_append : ∀ l m : List Tb, cells3 (l ++ m) = cells3 l ++ cells3 m
  | [], _ => rfl
  | s :: ss, m => by simp only [cells3, List.cons_append, cells3_append ss m]
theorem cells3_at : ∀ (l : List Tb) (k : Nat) (h : k < l.length), (cells3 l)[k * 3]? = some (.int .i64 (l[k]).1) ∧ (cells3 l)[k * 3 + 1]? = some (.int .i64 (l[k]).2.1) ∧ (cells3 l)[k * 3 + 2]? = some (.int .i64 (l[k]).2.2)
  | s :: ss, 0, _ => ⟨rfl, rfl, rfl⟩
  | s :: ss, k + 1, h => by
    have h1 := cells3_at ss k (by simpa using h)
    have e : (k + 1) * 3 = k * 3 + 3 := by omega
    rw [e]
    exact h1
theorem own_none3N (w : World) (base : Nat) (t : TypeId) : w.ownsRow base t 3 (.slice none 0 0) 0 (cells3 []) := ⟨by simp [cells3], .inl ⟨rfl, rfl⟩⟩
theorem tubes_own {w : World} {base n c : Nat} {e : TypeId} {A : Option Addr} {l : List Tb} (h : w.ownsRow base e 3 (.slice A n c) n (cells3 l)) (hl : l.length = n) : TubesAt w A l := fun h0 => by
  subst hl
  obtain ⟨g, cap, hv, _, hlt⟩ := h.form h0
  have hA : A = some ⟨g, 0, none⟩ := by injection hv
  subst hA
  refine ⟨g, 0, rfl, hlt, fun k hk => ?_⟩
  obtain ⟨h1, h2, h3⟩ := cells3_at l k hk
  have g1 := h.cells (g := g) rfl _ _ h1
  have g2 := h.cells (g := g) rfl _ _ h2
  have g3 := h.cells (g := g) rfl _ _ h3
  simp only [Addr.add_lit] at g1 g2 g3
  exact ⟨g1, by simpa [Nat.add_assoc] using g2, by simpa [Nat.add_assoc] using g3⟩
theorem own_farN {w : World} {base n size : Nat} {t : TypeId} {v : Value} {xs : List Value} {p : Addr} (h : w.ownsRow base t size v n xs) (hp : p.block < base) (u : Value) : (w.setCell p u).ownsRow base t size v n xs := by
  refine ⟨h.1, ?_⟩
  rcases h.2 with hn | ⟨g, cap, cur, hv, hg, hB, rest⟩
  · exact .inl hn
  · exact .inr ⟨g, cap, cur, hv, hg, Blk.far (t := t) hB (by omega) u, rest⟩
theorem own_baseN {w : World} {base base' n size : Nat} {t : TypeId} {v : Value} {xs : List Value} (h : w.ownsRow base' t size v n xs) (hb : base ≤ base') : w.ownsRow base t size v n xs := by
  refine ⟨h.1, ?_⟩
  rcases h.2 with hn | ⟨g, cap, cur, hv, hg, rest⟩
  · exact .inl hn
  · exact .inr ⟨g, cap, cur, hv, Nat.le_trans hb hg, rest⟩
theorem own_formN {w : World} {base : Nat} {e : TypeId} {size : Nat} {v : Value} {n : Nat} {xs : List Value} (h : w.ownsRow base e size v n xs) : ∃ A c, v = .slice A n c := by
  rcases h.2 with ⟨rfl, rfl⟩ | ⟨g, cap, cur, rfl, _⟩
  · exact ⟨none, 0, rfl⟩
  · exact ⟨_, cap, rfl⟩
theorem info_tubeN : (Tryd.prog.info? 72).map (fun i => (i.zero, i.size, i.bytes)) = some (some (.agg #[.int .i64 0, .int .i64 0, .int .i64 0]), 3, 24) := by kernel_rfl
/-- What a text spells, as a network and a word on whether it spells one. -/
def nN : ONet → Int × List Tb
  | some r => r
  | none => (0, [])
def MadeNR (w : World) (tt : TypeId) (o : ONet) (e : Ending) (w' : World) : Prop :=
  ∃ A c, e = .returned (.tuple #[.agg #[.int .i64 (nN o).1, .slice A (nN o).2.length c], .bool o.isSome]) ∧ w'.ownsRow w.heap.size tt 3 (.slice A (nN o).2.length c) (nN o).2.length (cells3 (nN o).2) ∧ Below w.heap.size w w'
theorem rn_1 {s : ByteArray} {p : List UInt8} {ps : List (List UInt8)} (h : spl 32 [] s.data.toList = p :: ps) (h1 : (spl 58 [] p).length ≠ 2) : readNet s = none := by
  unfold readNet
  rw [h]
  simp only
  split
  · rename_i a e; rw [e] at h1; exact absurd rfl h1
  · rfl
theorem rn_2 {s : ByteArray} {p a b : List UInt8} {ps : List (List UInt8)} (h : spl 32 [] s.data.toList = p :: ps) (h1 : spl 58 [] p = [a, b]) (h2 : b ≠ []) : readNet s = none := by
  unfold readNet
  rw [h]
  simp only [h1]
  cases b with
  | nil => exact absurd rfl h2
  | cons c r => rfl
theorem rn_3 {s : ByteArray} {p a : List UInt8} {ps : List (List UInt8)} (h : spl 32 [] s.data.toList = p :: ps) (h1 : spl 58 [] p = [a, []]) : readNet s = finS (numD a).1 (numD a).2 [] ps := by
  unfold readNet
  rw [h]
  simp only [h1]
theorem fs_1 {S : Int} {ok : Bool} {ys : List Tb} {p : List UInt8} {ps : List (List UInt8)} (h : (spl 62 [] p).length ≠ 2) : finS S ok ys (p :: ps) = none := by
  have : tubeS p = none := by
    unfold tubeS
    split
    · rename_i a r e; rw [e] at h; exact absurd rfl h
    · rfl
  rw [finS, this]
theorem fs_2 {S : Int} {ok : Bool} {ys : List Tb} {p a r : List UInt8} {ps : List (List UInt8)} (h : spl 62 [] p = [a, r]) (h2 : (spl 42 [] r).length ≠ 2) : finS S ok ys (p :: ps) = none := by
  have : tubeS p = none := by
    unfold tubeS
    rw [h]
    simp only
    split
    · rename_i b c e; rw [e] at h2; exact absurd rfl h2
    · rfl
  rw [finS, this]
theorem fs_3 {S : Int} {ok : Bool} {ys : List Tb} {p a r b c : List UInt8} {ps : List (List UInt8)} (h : spl 62 [] p = [a, r]) (h2 : spl 42 [] r = [b, c]) : finS S ok ys (p :: ps) = finS S (ok && (numT a b c).2) (ys ++ [(numT a b c).1]) ps := by
  have : tubeS p = some (numT a b c) := by
    unfold tubeS
    rw [h]
    simp only [h2]
  rw [finS, this]
theorem two_of {α : Type} {l : List α} (h : l.length = 2) : ∃ a b, l = [a, b] := by
  match l, h with
  | [a, b], _ => exact ⟨a, b, rfl⟩
theorem neqN {a b : ByteArray} (h : ¬ a = b) : (a.toList != b.toList) = true := by rw [bne, beqD_no h]; rfl
theorem mkB_size (p : List UInt8) : (mkB p).size = p.length := by show p.toArray.size = _; simp
theorem catN_le (c : UInt8) : ∀ (l : List (List UInt8)) (x : List UInt8), x ∈ l → x.length ≤ (catN c l).length
  | [y], x, h => by
    have : x = y := by simpa using h
    subst this
    exact Nat.le_refl _
  | y :: z :: r, x, h => by
    rw [catN, List.length_append, List.length_cons]
    rcases List.mem_cons.1 h with rfl | h
    · omega
    · have := catN_le c (z :: r) x h
      omega
theorem spl_piece {c : UInt8} {l x : List UInt8} (h : x ∈ spl c [] l) : x.length ≤ l.length := by
  have h1 := catN_le c _ x h
  rw [spl_catN] at h1
  exact h1

set_option maxHeartbeats 8000000 in
set_option maxRecDepth 100000 in
theorem specReadNet_any (s : ByteArray) (w : World) (hs : s.size ≤ 1048576) :
    Calls Tryd.prog 25 #[.string s] w (MadeNR w 72 (readNet s)) := by
  obtain ⟨P, hP⟩ : ∃ P, spl 32 [] s.data.toList = P := ⟨_, rfl⟩
  have hPl := spl_length_le 32 s.data.toList []
  have hsz : s.data.toList.length = s.size := by simp
  have hpc : ∀ x ∈ P, x.length ≤ 1048576 := fun x hx => by have := spl_piece (c := 32) (l := s.data.toList) (by rw [hP]; exact hx); omega
  rw [hP] at hPl
  obtain ⟨p, ps, rfl⟩ : ∃ p ps, P = p :: ps := by
    cases P with
    | nil => exact absurd hP (spl_ne' 32 _ _)
    | cons p ps => exact ⟨p, ps, rfl⟩
  have HR1 : (spl 58 [] p).length ≠ 2 → Hid (readNet s = none) := fun h => rn_1 hP h
  have HR2 : ∀ a b, spl 58 [] p = [a, b] → b ≠ [] → Hid (readNet s = none) := fun a b h h' => rn_2 hP h h'
  have HR3 : ∀ a, spl 58 [] p = [a, []] → Hid (readNet s = finS (numD a).1 (numD a).2 [] ps) := fun a h => rn_3 hP h
  have HSB : Hid (splB 32 s = (p :: ps).map mkB) := by show _ = _; unfold splB; rw [hP]
  obtain ⟨R, hR⟩ : ∃ R, readNet s = R := ⟨_, rfl⟩
  rw [hR] at HR1 HR2 HR3 ⊢
  obtain ⟨n, hn⟩ : ∃ n, ((p :: ps).map mkB).length = n := ⟨_, rfl⟩
  have HN := Lib.hid hn
  have hnn : n = ps.length + 1 := by rw [← hn]; simp
  have HNN := Lib.hid hnn
  have hn1 : 1 ≤ n := by omega
  have hn2 : n ≤ 1048577 := by simp at hPl; omega
  have HPC := Lib.hid hpc
  have hp0 : p.length ≤ 1048576 := hpc p List.mem_cons_self
  obtain ⟨i0, hi, hz0, hz1, hz2⟩ := info_parts info_tubeN
  have HI := Lib.hid (And.intro hi (And.intro hz0 (And.intro hz1 hz2)))
  clear hP hPl hsz hpc hR hn hnn hi hz0 hz1 hz2
  go_enter Tryd.func25, Tryd.ntmps25
  go_wp2_with fail
  refine (l01Split_any s 32 _ hs).mono ?_
  rintro e w1 ⟨A1, c1, rfl, O1, hb⟩
  rw [HSB.out] at O1 ⊢
  rw [HN.out] at O1 ⊢
  have D : Below w.heap.size w w1 := Below.trans (by go_grown) (hb.mono (by simp))
  have RB1 : Hid (Blk w1 w.heap.size 42 #[.int .i64 0, .slice none 0 0]) := bel_blk (Blk.new _ _ _) hb
  obtain ⟨g1, rfl, hg1, hgl1, -, hc⟩ := own_at O1 (by omega)
  have HC1 : Hid (∀ (j : Nat) (hj : j < (p :: ps).length), w1.cell? ⟨g1, j, none⟩ = some (.string (mkB (p :: ps)[j]))) := fun j hj => by
    have := hc j (by simpa using hj)
    rwa [List.getElem_map] at this
  have hp := HC1.out 0 (by simp)
  simp only [List.getElem_cons_zero] at hp
  clear hb O1 hc
  go_wp2_with fail
  refine (l01Split_any (mkB p) 58 _ (by rw [mkB_size]; exact hp0)).mono ?_
  rintro e w2 ⟨A2, c2, rfl, O2, hb⟩
  have HC2 : Hid (∀ (j : Nat) (hj : j < (p :: ps).length), w2.cell? ⟨g1, j, none⟩ = some (.string (mkB (p :: ps)[j]))) := fun j hj => bel_cell hb (HC1.out j hj)
  have RB2 := hid_blk RB1 hb
  have q2 := hb.size
  replace D := bel_next D hb
  have hsp : splB 58 (mkB p) = (spl 58 [] p).map mkB := rfl
  rw [hsp] at O2 ⊢
  obtain ⟨H, hH⟩ : ∃ H, spl 58 [] p = H := ⟨_, rfl⟩
  rw [hH] at O2 HR1 ⊢
  obtain ⟨m, hm⟩ : ∃ m, (H.map mkB).length = m := ⟨_, rfl⟩
  have hm' : H.length = m := by rw [← hm]; simp
  have HMM := Lib.hid hm
  rw [hm] at O2 ⊢
  clear hp HC1 RB1 hb hsp hm
  by_cases h2 : m = 2
  · subst h2
    obtain ⟨a, b, rfl⟩ := two_of hm'
    obtain ⟨g2, rfl, hg2, hgl2, -, hc⟩ := own_at O2 (by omega)
    have ca : w2.cell? ⟨g2, 0, none⟩ = some (.string (mkB a)) := hc 0 (by simp)
    have cb : w2.cell? ⟨g2, 1, none⟩ = some (.string (mkB b)) := hc 1 (by simp)
    have hal : a.length ≤ p.length := spl_piece (c := 58) (by rw [hH]; simp)
    clear hc O2 HR1 HMM hm'
    by_cases hb0 : b = []
    · subst hb0
      have hR3 := HR3 a hH
      rw [show mkB [] = (⟨#[]⟩ : ByteArray) from rfl] at cb
      obtain ⟨S0, ok0, hnd⟩ : ∃ S ok, readD (mkB a) = (S, ok) := ⟨_, _, rfl⟩
      have HND := Lib.hid hnd
      have hnd2 : numD a = (S0, ok0) := hnd
      have HF : Hid (finS S0 ok0 [] ps = R) := by have := hR3.out; rw [hnd2] at this; exact this.symm
      clear hR3 HR2 HR3 hH hnd hnd2
      go_wp2_with fail
      refine (l01Number_any (mkB a) _ (by rw [mkB_size]; omega)).mono ?_
      rintro e w3 ⟨rfl, hb⟩
      rw [HND.out]
      have HC3 : Hid (∀ (j : Nat) (hj : j < (p :: ps).length), w3.cell? ⟨g1, j, none⟩ = some (.string (mkB (p :: ps)[j]))) := fun j hj => bel_cell hb (HC2.out j hj)
      have RB3 := hid_blk RB2 hb
      have q3 := hb.size
      replace D := bel_next D hb
      clear hb HC2 RB2 ca cb
      go_wp2_with fail
      have XB : Blk (w3.alloc (.cells #[.int .i64 S0, .slice none 0 0] 42)) w3.heap.size 42 #[.int .i64 S0, .slice none 0 0] := Blk.new _ _ _
      have hb : Below w3.heap.size w3 (w3.alloc (.cells #[.int .i64 S0, .slice none 0 0] 42)) := (Below.refl _ _).alloc (Nat.le_refl _) _
      have hg3 : g1 < w3.heap.size := by omega
      have hw3 : w.heap.size < w3.heap.size := RB3.out.lt
      obtain ⟨bn, hbn⟩ : ∃ bn, w3.heap.size = bn := ⟨_, rfl⟩
      rw [hbn] at XB hg3 hw3 ⊢
      obtain ⟨w4, hw4⟩ : ∃ w4, w3.alloc (.cells #[.int .i64 S0, .slice none 0 0] 42) = w4 := ⟨_, rfl⟩
      rw [hw4] at XB hb ⊢
      have HC4 : Hid (∀ (j : Nat) (hj : j < (p :: ps).length), w4.cell? ⟨g1, j, none⟩ = some (.string (mkB (p :: ps)[j]))) := fun j hj => bel_cell hb (HC3.out j hj)
      have RB4 := hid_blk RB3 hb
      have XB4 := Lib.hid XB
      have D4 := bel_next D hb
      have hxl := XB.lt
      clear HC3 RB3 XB D hb hbn hw4 q2 q3 hgl1 hgl2 hg2
      go_wp2_with fail
      go_loopw [7, 9] (fun x u w' => ∃ (i : Nat) (ok : Bool) (ys : List Tb) (V : Value), u = .int .i64 i ∧ x = .bool ok ∧ 1 ≤ i ∧ i ≤ n ∧ ys.length + 1 = i ∧ Hid (Blk w' bn 42 #[.int .i64 S0, V]) ∧ Hid (w'.ownsRow (bn + 1) 72 3 V ys.length (cells3 ys)) ∧ Hid (finS S0 ok ys ((p :: ps).drop i) = R) ∧ Below bn w4 w' ∧ bn + 1 ≤ w'.heap.size) (fun _ u _ => n - (intOf u).toNat)
      case atStart => exact ⟨1, ok0, [], .slice none 0 0, rfl, rfl, by omega, by omega, rfl, XB4, own_none3N _ _ _, HF, (Below.refl _ _), hxl⟩
      case round =>
        clear XB4 HF
        obtain ⟨i, ok, ys, V, rfl, rfl, hi1, hin, hyl, XB, HO, HF, hbel, hsw⟩ := hrel
        have DW : Below w.heap.size w wr := D4.trans (hbel.mono (by omega))
        have RBw : Hid (Blk wr w.heap.size 42 #[.int .i64 0, .slice none 0 0]) := RB4.out.below hbel hw3
        obtain ⟨A5, c5, rfl⟩ := own_formN HO.out
        by_cases hlt : i < n
        · have hij : i < (p :: ps).length := by simp; have := HNN.out; omega
          have hpc : wr.cell? ⟨g1, i, none⟩ = some (.string (mkB (p :: ps)[i])) := (hbel.cell (p := ⟨g1, i, none⟩) hg3).trans (HC4.out i hij)
          have hpl : ((p :: ps)[i]).length ≤ 1048576 := HPC.out _ (List.getElem_mem hij)
          have hF0 := HF.out
          rw [List.drop_eq_getElem_cons hij] at hF0
          obtain ⟨q, hq⟩ : ∃ q, (p :: ps)[i] = q := ⟨_, rfl⟩
          rw [hq] at hpc hpl hF0
          have HQF := Lib.hid hF0
          have hglw : g1 < wr.heap.size := by omega
          clear hq hF0 HF
          go_wp2_with fail
          refine (l01Split_any (mkB q) 62 _ (by rw [mkB_size]; exact hpl)).mono ?_
          rintro e w5 ⟨A6, c6, rfl, O6, hb⟩
          have XB5 := hid_blk XB hb
          have HO5 := Lib.hid (own_belN HO.out hb)
          have RB5 := hid_blk RBw hb
          have D5 := bel_next DW hb
          have E5 : Below bn w4 w5 := hbel.trans (hb.mono (by omega))
          have q5 := hb.size
          have hsp : splB 62 (mkB q) = (spl 62 [] q).map mkB := rfl
          rw [hsp] at O6 ⊢
          obtain ⟨H, hH⟩ : ∃ H, spl 62 [] q = H := ⟨_, rfl⟩
          rw [hH] at O6 ⊢
          obtain ⟨m, hm⟩ : ∃ m, (H.map mkB).length = m := ⟨_, rfl⟩
          have hm' : H.length = m := by rw [← hm]; simp
          rw [hm] at O6 ⊢
          clear hb hsp XB HO RBw DW hbel hpc hm
          by_cases h2 : m = 2
          · subst h2
            obtain ⟨a1, r1, rfl⟩ := two_of hm'
            obtain ⟨g6, rfl, hg6, hgl6, -, hc⟩ := own_at O6 (by omega)
            have ca : w5.cell? ⟨g6, 0, none⟩ = some (.string (mkB a1)) := hc 0 (by simp)
            have cb : w5.cell? ⟨g6, 1, none⟩ = some (.string (mkB r1)) := hc 1 (by simp)
            have hal1 : a1.length ≤ q.length := spl_piece (c := 62) (by rw [hH]; simp)
            have hrl1 : r1.length ≤ q.length := spl_piece (c := 62) (by rw [hH]; simp)
            have HH := Lib.hid hH
            clear hc O6 hm' hH
            go_wp2_with fail
            refine (l01Split_any (mkB r1) 42 _ (by rw [mkB_size]; omega)).mono ?_
            rintro e w6 ⟨A7, c7, rfl, O7, hb⟩
            replace ca := bel_cell hb ca
            have XB6 := hid_blk XB5 hb
            have HO6 := Lib.hid (own_belN HO5.out hb)
            have RB6 := hid_blk RB5 hb
            have D6 := bel_next D5 hb
            have E6 : Below bn w4 w6 := E5.trans (hb.mono (by omega))
            have q6 := hb.size
            have hsp : splB 42 (mkB r1) = (spl 42 [] r1).map mkB := rfl
            rw [hsp] at O7 ⊢
            obtain ⟨H, hH⟩ : ∃ H, spl 42 [] r1 = H := ⟨_, rfl⟩
            rw [hH] at O7 ⊢
            obtain ⟨m, hm⟩ : ∃ m, (H.map mkB).length = m := ⟨_, rfl⟩
            have hm' : H.length = m := by rw [← hm]; simp
            rw [hm] at O7 ⊢
            have hgl6' : g6 < w6.heap.size := by omega
            clear hb hsp XB5 HO5 RB5 D5 E5 cb hgl6 hm
            by_cases h3 : m = 2
            · subst h3
              obtain ⟨b1, d1, rfl⟩ := two_of hm'
              obtain ⟨g7, rfl, hg7, hgl7, -, hc⟩ := own_at O7 (by omega)
              have cc : w6.cell? ⟨g7, 0, none⟩ = some (.string (mkB b1)) := hc 0 (by simp)
              have cd : w6.cell? ⟨g7, 1, none⟩ = some (.string (mkB d1)) := hc 1 (by simp)
              have hbl1 : b1.length ≤ r1.length := spl_piece (c := 42) (by rw [hH]; simp)
              have hdl1 : d1.length ≤ r1.length := spl_piece (c := 42) (by rw [hH]; simp)
              have hfs := fs_3 (S := S0) (ok := ok) (ys := ys) (ps := (p :: ps).drop (i + 1)) HH.out hH
              rw [HQF.out] at hfs
              obtain ⟨n1, o1, hn1'⟩ : ∃ S ok, readD (mkB a1) = (S, ok) := ⟨_, _, rfl⟩
              obtain ⟨n2, o2, hn2'⟩ : ∃ S ok, readD (mkB b1) = (S, ok) := ⟨_, _, rfl⟩
              obtain ⟨n3, o3, hn3'⟩ : ∃ S ok, readD (mkB d1) = (S, ok) := ⟨_, _, rfl⟩
              have K1 := Lib.hid hn1'
              have K2 := Lib.hid hn2'
              have K3 := Lib.hid hn3'
              have e1 : numD a1 = (n1, o1) := hn1'
              have e2 : numD b1 = (n2, o2) := hn2'
              have e3 : numD d1 = (n3, o3) := hn3'
              have HFS : Hid (finS S0 (ok && ((o1 && o2) && o3)) (ys ++ [(n1, n2, n3)]) ((p :: ps).drop (i + 1)) = R) := by
                show _ = _
                rw [hfs]
                unfold numT
                rw [e1, e2, e3]
              clear hc O7 hm' hH HH HQF hfs hn1' hn2' hn3' e1 e2 e3
              go_wp2_with fail
              refine (l01Number_any (mkB a1) _ (by rw [mkB_size]; omega)).mono ?_
              rintro e w7 ⟨rfl, hb⟩
              rw [K1.out]
              replace cc := bel_cell hb cc
              replace cd := bel_cell hb cd
              have XB7 := hid_blk XB6 hb
              have HO7 := Lib.hid (own_belN HO6.out hb)
              have RB7 := hid_blk RB6 hb
              have D7 := bel_next D6 hb
              have E7 : Below bn w4 w7 := E6.trans (hb.mono (by omega))
              have q7 := hb.size
              clear hb XB6 HO6 RB6 D6 E6 ca K1
              go_wp2_with fail
              refine (l01Number_any (mkB b1) _ (by rw [mkB_size]; omega)).mono ?_
              rintro e w8 ⟨rfl, hb⟩
              rw [K2.out]
              replace cd := bel_cell hb cd
              have XB8 := hid_blk XB7 hb
              have HO8 := Lib.hid (own_belN HO7.out hb)
              have RB8 := hid_blk RB7 hb
              have D8 := bel_next D7 hb
              have E8 : Below bn w4 w8 := E7.trans (hb.mono (by omega))
              have q8 := hb.size
              clear hb XB7 HO7 RB7 D7 E7 cc K2
              go_wp2_with fail
              refine (l01Number_any (mkB d1) _ (by rw [mkB_size]; omega)).mono ?_
              rintro e w9 ⟨rfl, hb⟩
              rw [K3.out]
              have XB9 := hid_blk XB8 hb
              have HO9 := Lib.hid (own_belN HO8.out hb)
              have RB9 := hid_blk RB8 hb
              have D9 := bel_next D8 hb
              have E9 : Below bn w4 w9 := E8.trans (hb.mono (by omega))
              have q9 := hb.size
              obtain ⟨x0, x1, x2, x3⟩ := XB9.out.c2
              have hbn9 : bn < w9.heap.size := XB9.out.lt
              have hb1 : bn + 1 ≤ w9.heap.size := hbn9
              obtain ⟨ok2, hok2⟩ : ∃ b, (ok && ((o1 && o2) && o3)) = b := ⟨_, rfl⟩
              rw [hok2] at HFS
              have HYL : Hid ((ys ++ [(n1, n2, n3)]).length = ys.length + 1) := by show _ = _; simp
              clear hb XB8 HO8 RB8 D8 E8 cd K3 q5 q6 q7 q8 q9
              have hok3 : (ok && o1 && o2 && o3) = ok2 := by rw [← hok2]; cases ok <;> cases o1 <;> cases o2 <;> cases o3 <;> rfl
              have hcases : ((ok = true ∧ o1 = true ∧ o2 = true ∧ o3 = true ∧ ok2 = true) ∨ (ok = true ∧ o1 = true ∧ o2 = true ∧ o3 = false ∧ ok2 = false) ∨ (ok = true ∧ o1 = true ∧ o2 = false ∧ ok2 = false) ∨ (ok = true ∧ o1 = false ∧ ok2 = false) ∨ (ok = false ∧ ok2 = false)) := by
                revert hok3; cases ok <;> cases o1 <;> cases o2 <;> cases o3 <;> simp
              have HYI := Lib.hid hyl
              have hyl2 : ys.length ≤ 1048576 := by omega
              clear hok2 hok3 hyl
              rcases hcases with ⟨rfl, rfl, rfl, rfl, rfl⟩ | ⟨rfl, rfl, rfl, rfl, rfl⟩ | ⟨rfl, rfl, rfl, rfl⟩ | ⟨rfl, rfl, rfl⟩ | ⟨rfl, rfl⟩
              all_goals
                go_wp2_with (at_builtin; refine wpList_append_own _ rfl _ _ 40 rfl (bn + 1) 72 i0 (.agg #[.int .i64 0, .int .i64 0, .int .i64 0]) 3 24 Tryd.underlying40 HI.out.1 HI.out.2.1 HI.out.2.2.1 HI.out.2.2.2 rfl (by decide) _ _ (cells3 ys) rfl (own_belN HO9.out ((Below.refl _ _).alloc (Nat.le_refl _) _)) ⟨w9.heap.size, 0, none⟩ 1 1 [.int .i64 n1, .int .i64 n2, .int .i64 n3] rfl rfl ?d1 (ints_oneCell .i64 [n1, n2, n3]) ?d3 ?d4 ?d5 ?_)
                try case d1 => exact World.news_of_block (heap_alloc_new _ _)
                try case d3 => unfold maxLen; omega
                try case d4 => omega
                try case d5 => first | (simp; done) | (simp; omega) | omega
                intro v' w10 hown1 hgrow _
                have hown2 : w10.ownsRow (bn + 1) 72 3 v' (ys.length + 1) (cells3 (ys ++ [(n1, n2, n3)])) := by
                  rw [cells3_append]
                  exact hown1
                have hne : ∀ k, (Value.slice A5 ys.length c5).ownBlock = some k → bn + 1 ≤ k := fun k hk => (HO9.out.lt k hk).1
                have XB10 : Hid (Blk w10 bn 42 #[.int .i64 S0, .slice A5 ys.length c5]) := (XB9.out.alloc _).grown hgrow (by intro e; have := hne bn e.symm; omega)
                have hb10 : Below bn w9 w10 := Below.grown ((Below.refl _ _).alloc (Nat.le_of_lt hbn9) _) hgrow (by simp; omega) (fun k hk => by have := hne k hk; omega)
                have s10 := hb10.size
                obtain ⟨y0, y1, y2, y3⟩ := XB10.out.c2
                have HO10 := Lib.hid hown2
                obtain ⟨A8, c8, rfl⟩ := own_formN hown2
                have HO11 : Hid ((w10.setCell ⟨bn, 1, none⟩ (.slice A8 (ys.length + 1) c8)).ownsRow (bn + 1) 72 3 (.slice A8 (ys.length + 1) c8) (ys ++ [(n1, n2, n3)]).length (cells3 (ys ++ [(n1, n2, n3)]))) := by
                  rw [HYL.out]
                  exact own_farN HO10.out (by simp) _
                have XB11 : Hid (Blk (w10.setCell ⟨bn, 1, none⟩ (.slice A8 (ys.length + 1) c8)) bn 42 #[.int .i64 S0, .slice A8 (ys.length + 1) c8]) := XB10.out.set_ 1 _
                have E11 : Below bn w4 (w10.setCell ⟨bn, 1, none⟩ (.slice A8 (ys.length + 1) c8)) := (E9.trans hb10).setCell (Nat.le_refl _) _
                clear hown1 hown2 hgrow HO9 XB9 x0 x1 x2 x3 hne XB10 hb10
                go_wp2_with fail
                go_roundw
                case rel => exact ⟨i + 1, _, ys ++ [(n1, n2, n3)], _, by go_num, rfl, by omega, by omega, by rw [HYL.out, HYI.out], XB11, HO11, HFS, E11, by simp; omega⟩
                case measure => simp [intOf]; omega
            · have E : Hid (R = none) := by show _ = _; rw [← HQF.out]; exact fs_2 HH.out (by rw [hH, hm']; exact h3)
              have h2' : ((m : Int) == 2) = false := by rw [beq_eq_false_iff_ne]; omega
              have hwl := RB6.out.lt
              obtain ⟨z0, z1, z2, z3⟩ := RB6.out.c2
              clear O7 hm' hH HH HQF ca
              go_wp2_with fail
              have DB : Below w.heap.size w ((w6.setCell ⟨w.heap.size, 0, none⟩ (.int .i64 0)).setCell ⟨w.heap.size, 1, none⟩ (.slice none 0 0)) := (D6.setCell (Nat.le_refl _) _).setCell (Nat.le_refl _) _
              have RB : Blk ((w6.setCell ⟨w.heap.size, 0, none⟩ (.int .i64 0)).setCell ⟨w.heap.size, 1, none⟩ (.slice none 0 0)) w.heap.size 42 #[.int .i64 0, .slice none 0 0] := (RB6.out.set_ 0 (.int .i64 0)).set_ 1 (.slice none 0 0)
              obtain ⟨W4, hW⟩ : ∃ W4, ((w6.setCell ⟨w.heap.size, 0, none⟩ (.int .i64 0)).setCell ⟨w.heap.size, 1, none⟩ (.slice none 0 0)) = W4 := ⟨_, rfl⟩
              rw [hW] at DB RB ⊢
              obtain ⟨k0, k1, -⟩ := RB.c2
              clear hW RB
              refine bodyPost_ret (v := .tuple #[.agg #[.int .i64 0, .slice none 0 0], .bool false]) (by simp [results, Tryd.results25, go_sem, k0, k1]) rfl ?_
              rw [E.out]
              exact ⟨none, 0, rfl, own_none3N _ _ _, DB⟩
          · have E : Hid (R = none) := by show _ = _; rw [← HQF.out]; exact fs_1 (by rw [hH, hm']; exact h2)
            have h2' : ((m : Int) == 2) = false := by rw [beq_eq_false_iff_ne]; omega
            have hwl := RB5.out.lt
            obtain ⟨z0, z1, z2, z3⟩ := RB5.out.c2
            clear O6 hm' hH HQF
            go_wp2_with fail
            have DB : Below w.heap.size w ((w5.setCell ⟨w.heap.size, 0, none⟩ (.int .i64 0)).setCell ⟨w.heap.size, 1, none⟩ (.slice none 0 0)) := (D5.setCell (Nat.le_refl _) _).setCell (Nat.le_refl _) _
            have RB : Blk ((w5.setCell ⟨w.heap.size, 0, none⟩ (.int .i64 0)).setCell ⟨w.heap.size, 1, none⟩ (.slice none 0 0)) w.heap.size 42 #[.int .i64 0, .slice none 0 0] := (RB5.out.set_ 0 (.int .i64 0)).set_ 1 (.slice none 0 0)
            obtain ⟨W4, hW⟩ : ∃ W4, ((w5.setCell ⟨w.heap.size, 0, none⟩ (.int .i64 0)).setCell ⟨w.heap.size, 1, none⟩ (.slice none 0 0)) = W4 := ⟨_, rfl⟩
            rw [hW] at DB RB ⊢
            obtain ⟨k0, k1, -⟩ := RB.c2
            clear hW RB
            refine bodyPost_ret (v := .tuple #[.agg #[.int .i64 0, .slice none 0 0], .bool false]) (by simp [results, Tryd.results25, go_sem, k0, k1]) rfl ?_
            rw [E.out]
            exact ⟨none, 0, rfl, own_none3N _ _ _, DB⟩
        · have hie : i = n := by omega
          have hF1 := HF.out
          rw [List.drop_of_length_le (by simp; have := HNN.out; omega), finS] at hF1
          have HF1 := Lib.hid hF1
          have hwl := RBw.out.lt
          have hylen : ys.length ≤ 1048576 := by omega
          have hts := tubes_own HO.out rfl
          have HTS := Lib.hid hts
          obtain ⟨x0, x1, x2, x3⟩ := XB.out.c2
          have hxl2 := XB.out.lt
          clear hF1 HF hts
          cases ok
          · have E : Hid (R = none) := by show _ = _; rw [← HF1.out]; rfl
            obtain ⟨z0, z1, z2, z3⟩ := RBw.out.c2
            clear HF1
            go_wp2_with fail
            have DB : Below w.heap.size w ((wr.setCell ⟨w.heap.size, 0, none⟩ (.int .i64 0)).setCell ⟨w.heap.size, 1, none⟩ (.slice none 0 0)) := (DW.setCell (Nat.le_refl _) _).setCell (Nat.le_refl _) _
            have RB : Blk ((wr.setCell ⟨w.heap.size, 0, none⟩ (.int .i64 0)).setCell ⟨w.heap.size, 1, none⟩ (.slice none 0 0)) w.heap.size 42 #[.int .i64 0, .slice none 0 0] := (RBw.out.set_ 0 (.int .i64 0)).set_ 1 (.slice none 0 0)
            obtain ⟨W4, hW⟩ : ∃ W4, ((wr.setCell ⟨w.heap.size, 0, none⟩ (.int .i64 0)).setCell ⟨w.heap.size, 1, none⟩ (.slice none 0 0)) = W4 := ⟨_, rfl⟩
            rw [hW] at DB RB ⊢
            obtain ⟨k0, k1, -⟩ := RB.c2
            clear hW RB
            refine bodyPost_ret (v := .tuple #[.agg #[.int .i64 0, .slice none 0 0], .bool false]) (by simp [results, Tryd.results25, go_sem, k0, k1]) rfl ?_
            rw [E.out]
            exact ⟨none, 0, rfl, own_none3N _ _ _, DB⟩
          · obtain ⟨yl, hyn⟩ : ∃ yl, ys.length = yl := ⟨_, rfl⟩
            have HYN := Lib.hid hyn
            rw [hyn] at HO x1 hylen XB
            clear hyn hyl
            go_wp2_with fail
            refine (l02Ok_any bn S0 A5 yl c5 ys _ ⟨x0, x1, HTS.out⟩ HYN.out.symm hylen).mono ?_
            rintro e w6 ⟨rfl, hb⟩
            have XB6 := hid_blk XB hb
            have HO6 := Lib.hid (own_belN HO.out hb)
            have RB6 := hid_blk RBw hb
            have D6 := bel_next DW hb
            have hwl6 := RB6.out.lt
            have hxl6 := XB6.out.lt
            clear hb XB HO RBw DW hbel x0 x1 x2 x3 HTS
            obtain ⟨x0, x1, x2, x3⟩ := XB6.out.c2
            obtain ⟨z0, z1, z2, z3⟩ := RB6.out.c2
            cases hv : validN S0 ys
            · have E : Hid (R = none) := by show _ = _; rw [← HF1.out, hv]; rfl
              clear HF1
              go_wp2_with fail
              have DB : Below w.heap.size w ((w6.setCell ⟨w.heap.size, 0, none⟩ (.int .i64 0)).setCell ⟨w.heap.size, 1, none⟩ (.slice none 0 0)) := (D6.setCell (Nat.le_refl _) _).setCell (Nat.le_refl _) _
              have RB : Blk ((w6.setCell ⟨w.heap.size, 0, none⟩ (.int .i64 0)).setCell ⟨w.heap.size, 1, none⟩ (.slice none 0 0)) w.heap.size 42 #[.int .i64 0, .slice none 0 0] := (RB6.out.set_ 0 (.int .i64 0)).set_ 1 (.slice none 0 0)
              obtain ⟨W4, hW⟩ : ∃ W4, ((w6.setCell ⟨w.heap.size, 0, none⟩ (.int .i64 0)).setCell ⟨w.heap.size, 1, none⟩ (.slice none 0 0)) = W4 := ⟨_, rfl⟩
              rw [hW] at DB RB ⊢
              obtain ⟨k0, k1, -⟩ := RB.c2
              clear hW RB
              refine bodyPost_ret (v := .tuple #[.agg #[.int .i64 0, .slice none 0 0], .bool false]) (by simp [results, Tryd.results25, go_sem, k0, k1]) rfl ?_
              rw [E.out]
              exact ⟨none, 0, rfl, own_none3N _ _ _, DB⟩
            · have E : Hid (R = some (S0, ys)) := by show _ = _; rw [← HF1.out, hv]; rfl
              clear HF1
              go_wp2_with fail
              have DB : Below w.heap.size w ((w6.setCell ⟨w.heap.size, 0, none⟩ (.int .i64 S0)).setCell ⟨w.heap.size, 1, none⟩ (.slice A5 yl c5)) := (D6.setCell (Nat.le_refl _) _).setCell (Nat.le_refl _) _
              have RB : Blk ((w6.setCell ⟨w.heap.size, 0, none⟩ (.int .i64 S0)).setCell ⟨w.heap.size, 1, none⟩ (.slice A5 yl c5)) w.heap.size 42 #[.int .i64 S0, .slice A5 yl c5] := (RB6.out.set_ 0 (.int .i64 S0)).set_ 1 (.slice A5 yl c5)
              have OB : ((w6.setCell ⟨w.heap.size, 0, none⟩ (.int .i64 S0)).setCell ⟨w.heap.size, 1, none⟩ (.slice A5 yl c5)).ownsRow (bn + 1) 72 3 (.slice A5 yl c5) yl (cells3 ys) := own_farN (own_farN HO6.out (by simp; omega) _) (by simp; omega) _
              obtain ⟨W4, hW⟩ : ∃ W4, ((w6.setCell ⟨w.heap.size, 0, none⟩ (.int .i64 S0)).setCell ⟨w.heap.size, 1, none⟩ (.slice A5 yl c5)) = W4 := ⟨_, rfl⟩
              rw [hW] at DB RB OB ⊢
              obtain ⟨k0, k1, -⟩ := RB.c2
              clear hW RB
              refine bodyPost_ret (v := .tuple #[.agg #[.int .i64 S0, .slice A5 yl c5], .bool true]) (by simp [results, Tryd.results25, go_sem, k0, k1]) rfl ?_
              rw [E.out]
              refine ⟨A5, c5, ?_, ?_, DB⟩
              · show _ = Ending.returned (.tuple #[.agg #[.int .i64 S0, .slice A5 ys.length c5], .bool true])
                rw [HYN.out]
              · show World.ownsRow _ _ _ _ (.slice A5 ys.length c5) ys.length (cells3 ys)
                rw [HYN.out]
                exact own_baseN OB (by omega)
    · have E : Hid (R = none) := HR2 a b hH hb0
      have hwl := RB2.out.lt
      obtain ⟨z0, z1, z2, z3⟩ := RB2.out.c2
      have hne := (emptyD (s := mkB b) (by rw [mkB_size]; intro h; exact hb0 (List.eq_nil_of_length_eq_zero h)))
      obtain ⟨T, hT⟩ : ∃ T, mkB b = T := ⟨_, rfl⟩
      rw [hT] at cb hne
      obtain ⟨hne1, hne2⟩ := hne
      clear HR2 HR3 hH hT hb0
      go_wp2_with fail
      have DB : Below w.heap.size w ((w2.setCell ⟨w.heap.size, 0, none⟩ (.int .i64 0)).setCell ⟨w.heap.size, 1, none⟩ (.slice none 0 0)) := (D.setCell (Nat.le_refl _) _).setCell (Nat.le_refl _) _
      have RB : Blk ((w2.setCell ⟨w.heap.size, 0, none⟩ (.int .i64 0)).setCell ⟨w.heap.size, 1, none⟩ (.slice none 0 0)) w.heap.size 42 #[.int .i64 0, .slice none 0 0] := (RB2.out.set_ 0 (.int .i64 0)).set_ 1 (.slice none 0 0)
      obtain ⟨W4, hW⟩ : ∃ W4, ((w2.setCell ⟨w.heap.size, 0, none⟩ (.int .i64 0)).setCell ⟨w.heap.size, 1, none⟩ (.slice none 0 0)) = W4 := ⟨_, rfl⟩
      rw [hW] at DB RB ⊢
      obtain ⟨k0, k1, -⟩ := RB.c2
      clear hW RB
      refine bodyPost_ret (v := .tuple #[.agg #[.int .i64 0, .slice none 0 0], .bool false]) (by simp [results, Tryd.results25, go_sem, k0, k1]) rfl ?_
      rw [E.out]
      exact ⟨none, 0, rfl, own_none3N _ _ _, DB⟩
  · have E : Hid (R = none) := HR1 (by rw [hm']; exact h2)
    have h2' : ((m : Int) == 2) = false := by rw [beq_eq_false_iff_ne]; omega
    have hwl := RB2.out.lt
    obtain ⟨z0, z1, z2, z3⟩ := RB2.out.c2
    clear O2 hm' hH HR1 HR2 HR3
    go_wp2_with fail
    have DB : Below w.heap.size w ((w2.setCell ⟨w.heap.size, 0, none⟩ (.int .i64 0)).setCell ⟨w.heap.size, 1, none⟩ (.slice none 0 0)) := (D.setCell (Nat.le_refl _) _).setCell (Nat.le_refl _) _
    have RB : Blk ((w2.setCell ⟨w.heap.size, 0, none⟩ (.int .i64 0)).setCell ⟨w.heap.size, 1, none⟩ (.slice none 0 0)) w.heap.size 42 #[.int .i64 0, .slice none 0 0] := (RB2.out.set_ 0 (.int .i64 0)).set_ 1 (.slice none 0 0)
    obtain ⟨W4, hW⟩ : ∃ W4, ((w2.setCell ⟨w.heap.size, 0, none⟩ (.int .i64 0)).setCell ⟨w.heap.size, 1, none⟩ (.slice none 0 0)) = W4 := ⟨_, rfl⟩
    rw [hW] at DB RB ⊢
    obtain ⟨k0, k1, -⟩ := RB.c2
    clear hW RB
    refine bodyPost_ret (v := .tuple #[.agg #[.int .i64 0, .slice none 0 0], .bool false]) (by simp [results, Tryd.results25, go_sem, k0, k1]) rfl ?_
    rw [E.out]
    exact ⟨none, 0, rfl, own_none3N _ _ _, DB⟩

end Go.Proofs.YtlblnknglplgjaaDoor
