/-
  CONTRACTS: a setting with all that a way needs (printed by tools/gen_setway.py).
-/
import Derived.Test.YthkfdpicacaphaaWayCode
import Derived.Test.YthkfdpicacaphaaRoute
namespace Go.Proofs.Ythkfdpicacaphaa
open Go.RowKit

theorem info_int64Y : (Try.prog.info? 2).map (fun i => (i.zero, i.size, i.bytes)) = some (some (.int .i64 0), 1, 8) := by kernel_rfl
theorem run_eql_nil1 {P : Program} (w : World) (t e : TypeId) (a : Option Addr) (n c : Nat) (h : P.underlying t = some (.slice e)) : (binOp .eql t (.slice a n c) (.slice none 0 0)).run P w = .ok (.bool a.isNone) w := by
  simp only [binOp]
  simp [Op.equal, Op.maxDepth, Lib.run_equalIn_slice_nil w 9999 t e a n c 0 0 h]
/-- A row of one's own, its block known. -/
def OwnB (w : World) (g cap : Nat) (t : TypeId) (l : List Int) : Prop := ∃ cur : Array Value, Blk w g t cur ∧ l.length ≤ cap ∧ cap ≤ maxLen ∧ cur.size = cap ∧ cur.toList.take l.length = l.map (Value.int .i64)
theorem OwnB.of {w : World} {base : Nat} {t : TypeId} {v : Value} {l : List Int} (h : w.ownsRow base t 1 v l.length (l.map (Value.int .i64))) (h0 : 0 < l.length) : ∃ g cap, v = .slice (some ⟨g, 0, none⟩) l.length cap ∧ base ≤ g ∧ OwnB w g cap t l := by
  rcases h.2 with ⟨_, hn⟩ | ⟨g, cap, cur, hv, hg, hB, h1, h2, h3, h4⟩
  · omega
  · exact ⟨g, cap, hv, hg, cur, hB, h1, h2, by simpa using h3, by simpa using h4⟩
theorem OwnB.owns {w : World} {g cap base : Nat} {t : TypeId} {l : List Int} (h : OwnB w g cap t l) (hb : base ≤ g) : w.ownsRow base t 1 (.slice (some ⟨g, 0, none⟩) l.length cap) l.length (l.map (Value.int .i64)) := by
  obtain ⟨cur, hB, h1, h2, h3, h4⟩ := h
  exact ⟨by simp, .inr ⟨g, cap, cur, rfl, hb, hB, h1, h2, by simpa using h3, by simpa using h4⟩⟩
theorem OwnB.set {w : World} {g cap : Nat} {t : TypeId} {l : List Int} (h : OwnB w g cap t l) (i : Nat) (_hi : i < l.length) (x : Int) : OwnB (w.setCell ⟨g, i, none⟩ (.int .i64 x)) g cap t (l.set i x) := by
  obtain ⟨cur, hB, h1, h2, h3, h4⟩ := h
  refine ⟨_, hB.set_ i _, by simpa using h1, h2, by simpa using h3, ?_⟩
  rw [List.length_set, Array.toList_setIfInBounds, List.take_set, h4, List.map_set]
theorem OwnB.bel {w w' : World} {g cap : Nat} {t : TypeId} {l : List Int} (h : OwnB w g cap t l) (hb : Below w.heap.size w w') : OwnB w' g cap t l := by
  obtain ⟨cur, hB, h1⟩ := h
  exact ⟨cur, bel_blk hB hb, h1⟩
theorem OwnB.cell {w : World} {g cap : Nat} {t : TypeId} {l : List Int} (h : OwnB w g cap t l) {i : Nat} (hi : i < l.length) : (∃ v, w.cell? ⟨g, i, none⟩ = some v) ∧ w.frozen? ⟨g, i, none⟩ = false ∧ g < w.heap.size := by
  obtain ⟨cur, hB, h1, h2, h3, h4⟩ := h
  exact ⟨⟨cur[i]'(by omega), by rw [hB.cell]; exact Array.getElem?_eq_getElem _⟩, hB.frozen i, hB.lt⟩
/-- The call returns a copy of its own. -/
def CloneI (w : World) (t : TypeId) (l : List Int) (n : Nat) (e : Ending) (w' : World) : Prop :=
  ∃ g cap, e = .returned (.slice (some ⟨g, 0, none⟩) n cap) ∧ w.heap.size ≤ g ∧ Hid (OwnB w' g cap t l) ∧ Below w.heap.size w w'

set_option maxHeartbeats 2000000 in
set_option maxRecDepth 100000 in
theorem l00Own_any (A : Option Addr) (n c : Nat) (l : List Int) (w : World) (h : IntsAt w A l) (hl : n = l.length) (hn0 : n ≤ 1048576) (h0 : 0 < n) :
    Calls Try.prog 61 #[.slice A n c] w (CloneI w 2 l n) := by
  obtain ⟨i0, hi, hz0, hz1, hz2⟩ := info_parts info_int64Y
  have HI := Lib.hid (And.intro hi (And.intro hz0 (And.intro hz1 hz2)))
  obtain ⟨b, o, rfl, hblt, hc⟩ := h (by omega)
  have HC := Lib.hid hc
  have HL := Lib.hid hl
  have HM : Hid ((l.map (Value.int .i64)).length = n) := by show _ = _; rw [List.length_map, hl]
  clear hl h hc hi hz0 hz1 hz2
  obtain ⟨ns, hns⟩ : ∃ ns, ns = l.map (Value.int .i64) := ⟨_, rfl⟩
  have HNS := Lib.hid hns
  have HNL : Hid (ns.length = n) := by show _ = _; rw [hns]; exact HM.out
  have HC2 : Hid (∀ j u, ns[j]? = some u → (w.alloc (.cells #[] 2)).cell? ((⟨b, o, none⟩ : Addr).add j) = some u) := by
    show ∀ j, _
    intro j u hu
    rw [hns] at hu
    have hj : j < l.length := by
      have := (List.getElem?_eq_some_iff.1 hu).1
      simpa using this
    rw [List.getElem?_map, List.getElem?_eq_getElem hj] at hu
    rw [Addr.add_lit]
    rw [← Option.some.inj hu]
    exact bel_cell ((Below.refl _ _).alloc (Nat.le_refl _) _) (HC.out j hj)
  have H1 : Hid (∀ u ∈ ns, u.oneCell' = true) := by show ∀ u, _; rw [hns]; exact ints_oneCell .i64 l
  clear hns
  have hnil := run_eql_nil1 (P := Try.prog) w 25 2 (some ⟨b, o, none⟩) n c Try.underlying25
  go_enter Try.func61, Try.ntmps61
  go_wp2_with (at_builtin; refine wpList_append_own _ rfl _ _ 25 rfl w.heap.size 2 i0 (.int .i64 0) 1 8 Try.underlying25 HI.out.1 HI.out.2.1 HI.out.2.2.1 HI.out.2.2.2 rfl (by decide) _ _ [] rfl (own_nil' _ _ _ rfl (Nat.le_refl _)) ⟨b, o, none⟩ n c ns rfl (by rw [HNL.out, Nat.mul_one]) HC2.out H1.out ?d3 ?d4 ?d5 ?_)
  try case d3 => unfold maxLen; omega
  try case d4 => omega
  try case d5 => first | (simp; done) | (simp; omega) | omega
  intro v' w4 hown1 hgrow _
  have hown2 : w4.ownsRow w.heap.size 2 1 v' l.length (l.map (Value.int .i64)) := by
    have h5 := hown1
    rw [HNS.out, HL.out] at h5
    exact h5
  obtain ⟨g, cap, rfl, hg, hB⟩ := OwnB.of hown2 (by rw [← HL.out]; exact h0)
  rw [← HL.out]
  have HB := Lib.hid hB
  have hb4 : Below w.heap.size w w4 := Below.grown (by go_grown) hgrow (by simp) (fun k hk => by simp [Value.ownBlock] at hk; omega)
  clear hown1 hown2 hgrow hB HC2 H1
  go_wp2_with fail
  go_ret
  exact ⟨g, cap, rfl, hg, HB, hb4⟩

set_option maxHeartbeats 2000000 in
set_option maxRecDepth 100000 in
theorem clone_any (A : Option Addr) (n c : Nat) (l : List Int) (w : World) (h : IntsAt w A l) (hl : n = l.length) (hn0 : n ≤ 1048576) (h0 : 0 < n) :
    Calls Try.prog 63 #[.slice A n c] w (CloneI w 2 l n) := by
  obtain ⟨i0, hi, hz0, hz1, hz2⟩ := info_parts info_int64Y
  have HI := Lib.hid (And.intro hi (And.intro hz0 (And.intro hz1 hz2)))
  obtain ⟨b, o, rfl, hblt, hc⟩ := h (by omega)
  have HC := Lib.hid hc
  have HL := Lib.hid hl
  have HM : Hid ((l.map (Value.int .i64)).length = n) := by show _ = _; rw [List.length_map, hl]
  clear hl h hc hi hz0 hz1 hz2
  obtain ⟨ns, hns⟩ : ∃ ns, ns = l.map (Value.int .i64) := ⟨_, rfl⟩
  have HNS := Lib.hid hns
  have HNL : Hid (ns.length = n) := by show _ = _; rw [hns]; exact HM.out
  have HC2 : Hid (∀ j u, ns[j]? = some u → (w.alloc (.cells #[] 2)).cell? ((⟨b, o, none⟩ : Addr).add j) = some u) := by
    show ∀ j, _
    intro j u hu
    rw [hns] at hu
    have hj : j < l.length := by
      have := (List.getElem?_eq_some_iff.1 hu).1
      simpa using this
    rw [List.getElem?_map, List.getElem?_eq_getElem hj] at hu
    rw [Addr.add_lit]
    rw [← Option.some.inj hu]
    exact bel_cell ((Below.refl _ _).alloc (Nat.le_refl _) _) (HC.out j hj)
  have H1 : Hid (∀ u ∈ ns, u.oneCell' = true) := by show ∀ u, _; rw [hns]; exact ints_oneCell .i64 l
  clear hns
  have hnil := run_eql_nil1 (P := Try.prog) w 25 2 (some ⟨b, o, none⟩) n c Try.underlying25
  go_enter Try.func63, Try.ntmps63
  go_wp2_with (at_builtin; refine wpList_append_own _ rfl _ _ 25 rfl w.heap.size 2 i0 (.int .i64 0) 1 8 Try.underlying25 HI.out.1 HI.out.2.1 HI.out.2.2.1 HI.out.2.2.2 rfl (by decide) _ _ [] rfl (own_nil' _ _ _ rfl (Nat.le_refl _)) ⟨b, o, none⟩ n c ns rfl (by rw [HNL.out, Nat.mul_one]) HC2.out H1.out ?d3 ?d4 ?d5 ?_)
  try case d3 => unfold maxLen; omega
  try case d4 => omega
  try case d5 => first | (simp; done) | (simp; omega) | omega
  intro v' w4 hown1 hgrow _
  have hown2 : w4.ownsRow w.heap.size 2 1 v' l.length (l.map (Value.int .i64)) := by
    have h5 := hown1
    rw [HNS.out, HL.out] at h5
    exact h5
  obtain ⟨g, cap, rfl, hg, hB⟩ := OwnB.of hown2 (by rw [← HL.out]; exact h0)
  rw [← HL.out]
  have HB := Lib.hid hB
  have hb4 : Below w.heap.size w w4 := Below.grown (by go_grown) hgrow (by simp) (fun k hk => by simp [Value.ownBlock] at hk; omega)
  clear hown1 hown2 hgrow hB HC2 H1
  go_wp2_with fail
  go_ret
  exact ⟨g, cap, rfl, hg, HB, hb4⟩

/-- The switches of a way are set. -/
def setF (l : List Tb) : List Int → List Int → List Int
  | [], st => st
  | x :: xs, st => setF l xs (st.set (frW l x).toNat x)
theorem setF_step {l : List Tb} {st way : List Int} {i : Nat} (h : i < way.length) : setF l (way.drop i) st = setF l (way.drop (i + 1)) (st.set (frW l way[i]).toNat way[i]) := by
  rw [drop_at' h, setF]
theorem setF_len (l : List Tb) : ∀ (way st : List Int), (setF l way st).length = st.length
  | [], _ => rfl
  | x :: xs, st => by rw [setF, setF_len l xs, List.length_set]
def setwayR (S : Int) (l : List Tb) (st way : List Int) : List Int × Int := if codeW S l st way = 0 then (setF l way st, 0) else ([], codeW S l st way)
theorem setwayR_len {S : Int} {l : List Tb} {st way : List Int} {n : Nat} (hl : n = st.length) (hn : n ≤ 1048576) : (setwayR S l st way).1.length ≤ 1048576 := by
  unfold setwayR
  split
  · show (setF l way st).length ≤ _
    rw [setF_len]; omega
  · simp

set_option maxHeartbeats 4000000 in
theorem specSetWay_any (S : Int) (A : Option Addr) (n c : Nat) (l : List Tb) (A' : Option Addr) (n' c' : Nat) (st : List Int) (A2 : Option Addr) (n2 c2 : Nat) (way : List Int) (w : World) (h : TubesAt w A l) (hl : n = l.length) (hn0 : n ≤ 1048576)
    (h' : IntsAt w A' st) (hl' : n' = st.length) (hn0' : n' ≤ 1048576) (h2 : IntsAt w A2 way) (hl2 : n2 = way.length) (hn2 : n2 ≤ 1048576) :
    Calls Try.prog 35 #[.agg #[.int .i64 S, .slice A n c], .slice A' n' c', .slice A2 n2 c2] w (MadeIC w 2 (setwayR S l st way).1 (setwayR S l st way).2) := by
  have HL := Lib.hid hl
  have H := Lib.hid h
  have HL' := Lib.hid hl'
  have H' := Lib.hid h'
  have HL2 := Lib.hid hl2
  have H2 := Lib.hid h2
  clear hl h hl' h' hl2 h2
  go_enter Try.func35, Try.ntmps35
  go_wp2_with fail
  refine (l04Code_any _ S A n c l A' n' c' st A2 n2 c2 way _ (NetAt.box H.out _) HL.out hn0 (H'.out.alloc _) HL'.out hn0' (H2.out.alloc _) HL2.out hn2).mono ?_
  rintro e w1 ⟨rfl, hb1⟩
  have D1 : Below w.heap.size w w1 := Below.trans (by go_grown) (hb1.mono (by simp))
  have N1 : Hid (Blk w1 w.heap.size 30 #[.int .i64 S, .slice A n c]) := bel_blk (Blk.new _ _ _) hb1
  obtain ⟨a0, a1, -⟩ := N1.out.c2
  have sN := N1.out.lt
  have sD := D1.size
  clear hb1
  obtain ⟨k, hk⟩ : ∃ k, codeW S l st way = k := ⟨_, rfl⟩
  rw [hk]
  by_cases h0 : k = 0
  · subst h0
    obtain ⟨hv, hw⟩ := codeW_zero hk
    have E : Hid (setwayR S l st way = (setF l way st, 0)) := by show _ = _; unfold setwayR; rw [if_pos hk]
    have HV := Lib.hid hv
    have HO := Lib.hid (simpW_at hw)
    obtain ⟨hvn, hsl, -⟩ := setOK_true hv
    obtain ⟨v0, v1, -, -⟩ := validN_true hvn
    have hn'0 : 0 < n' := by rw [HL'.out]; omega
    have hn'10 : n' ≤ 10 := by rw [HL'.out]; omega
    clear hk hv hw hvn hsl v0 v1
    go_wp2_with fail
    refine (l00Own_any A' n' c' st _ (H'.out.bel D1) HL'.out hn0' hn'0).mono ?_
    rintro e w2 ⟨g, cap, rfl, hg, HB, hb2⟩
    have D2 := bel_next D1 hb2
    have N2 := hid_blk N1 hb2
    have hgN : g ≠ w.heap.size := by omega
    have hgW : w.heap.size ≤ g := by omega
    have E0 : Hid (setF l (way.drop 0) st = setF l way st) := rfl
    clear hb2 N1 a0 a1 D1 sN sD
    go_wp2_with fail
    go_loopw [10] (fun u w' => ∃ (i : Nat) (xs : List Int), u = .int .i64 i ∧ i ≤ n2 ∧ Hid (xs.length = st.length) ∧ Hid (OwnB w' g cap 2 xs) ∧ Hid (setF l (way.drop i) xs = setF l way st) ∧ Hid (Blk w' w.heap.size 30 #[.int .i64 S, .slice A n c]) ∧ Below w.heap.size w w') (fun u _ => n2 - (intOf u).toNat)
    case atStart => exact ⟨0, st, rfl, by omega, rfl, HB, E0, N2, D2⟩
    case round =>
      clear HB E0 N2 D2
      obtain ⟨i, xs, rfl, hin, HXL, HB, HE, HN, hbel⟩ := hrel
      obtain ⟨b0, b1, -⟩ := HN.out.c2
      by_cases hlt : i < n2
      · have hil : i < way.length := by rw [← HL2.out]; exact hlt
        obtain ⟨b3, o3, rfl, hblt3, hc⟩ := (H2.out.bel hbel) (by omega)
        have t0 := hc i hil
        obtain ⟨o1, o2⟩ := outB_at HO.out hil
        obtain ⟨q, hq⟩ : ∃ q : Nat, way[i] = q := ⟨way[i].toNat, by omega⟩
        have hd := setF_step (l := l) (st := xs) hil
        rw [hq] at t0 o1 o2 hd
        have hql : q < l.length := by omega
        have hqn : q < n := by rw [HL.out]; exact hql
        obtain ⟨b2, o4, rfl, hblt2, hc2⟩ := (H.out.bel hbel) (by omega)
        obtain ⟨y0, y1, y2⟩ := hc2 q hql
        obtain ⟨hvn, hsl, -⟩ := setOK_true HV.out
        have hgd := validN_at (validN_true hvn).2.2.2 hql
        simp only [validTube, Bool.and_eq_true] at hgd
        have hf1 := inB_true hgd.1.1.1
        rw [frW_eq hql] at hd
        obtain ⟨f, hf⟩ : ∃ f : Nat, l[q].1 = f := ⟨l[q].1.toNat, by omega⟩
        rw [hf] at y0 hd hf1
        rw [Int.toNat_natCast] at hd
        have hfs : f < xs.length := by rw [HXL.out]; omega
        have hfn : f < n' := by rw [HL'.out]; omega
        obtain ⟨⟨z, x0⟩, f0, hgl⟩ := HB.out.cell hfs
        have HE2 : Hid (setF l (way.drop (i + 1)) (xs.set f (q : Int)) = setF l way st) := by show _ = _; rw [← HE.out, hd]
        have HXL2 : Hid ((xs.set f (q : Int)).length = st.length) := by show _ = _; rw [List.length_set, HXL.out]
        have HFS := Lib.hid hfs
        clear hc hc2 hq hf hgd hvn hsl y1 y2 hf1 o1 o2 hd HE hfs
        go_wp2_with fail
        go_region
        go_wp2_with fail
        go_roundw
        case rel =>
          refine ⟨i + 1, xs.set f (q : Int), by go_num, by omega, HXL2, OwnB.set ?_ f HFS.out _, HE2, HN.out.far (by simp; omega) _, (hbel.setCell (by simp; omega) _).drew⟩
          exact HB.out
        case measure => simp [intOf]; omega
      · have HF : Hid (setF l way st = xs) := by show _ = _; rw [← HE.out, List.drop_of_length_le (by rw [← HL2.out]; omega), setF]
        have hxn : xs.length = n' := by rw [HXL.out, HL'.out]
        have HXN := Lib.hid hxn
        clear hxn
        go_wp2_with fail
        refine bodyPost_ret (v := .tuple #[.slice (some ⟨g, 0, none⟩) n' cap, .int .i64 0]) (by simp [results, Try.results35, go_sem]) rfl ?_
        rw [E.out]
        show MadeIC w _ (setF l way st) 0 _ _
        rw [HF.out]
        refine ⟨some ⟨g, 0, none⟩, cap, by rw [HXN.out], HB.out.owns hgW, hbel⟩
  · have E : Hid (setwayR S l st way = ([], k)) := by show _ = _; unfold setwayR; rw [if_neg (by rw [hk]; exact h0), hk]
    clear hk
    go_wp2_with fail
    refine bodyPost_ret (v := .tuple #[.slice none 0 0, .int .i64 k]) (by simp [results, Try.results35, go_sem]) rfl ?_
    rw [E.out]
    exact ⟨none, 0, rfl, own_none _ _ _, D1⟩

set_option maxHeartbeats 4000000 in
theorem implSetWay_any (S : Int) (A : Option Addr) (n c : Nat) (l : List Tb) (A' : Option Addr) (n' c' : Nat) (st : List Int) (A2 : Option Addr) (n2 c2 : Nat) (way : List Int) (w : World) (h : TubesAt w A l) (hl : n = l.length) (hn0 : n ≤ 1048576)
    (h' : IntsAt w A' st) (hl' : n' = st.length) (hn0' : n' ≤ 1048576) (h2 : IntsAt w A2 way) (hl2 : n2 = way.length) (hn2 : n2 ≤ 1048576) :
    Calls Try.prog 36 #[.agg #[.int .i64 S, .slice A n c], .slice A' n' c', .slice A2 n2 c2] w (MadeIC w 2 (setwayR S l st way).1 (setwayR S l st way).2) := by
  have HL := Lib.hid hl
  have H := Lib.hid h
  have HL' := Lib.hid hl'
  have H' := Lib.hid h'
  have HL2 := Lib.hid hl2
  have H2 := Lib.hid h2
  clear hl h hl' h' hl2 h2
  go_enter Try.func36, Try.ntmps36
  go_wp2_with fail
  refine (wayCode_any S A n c l A' n' c' st A2 n2 c2 way _ (H.out.alloc _) HL.out hn0 (H'.out.alloc _) HL'.out hn0' (H2.out.alloc _) HL2.out hn2).mono ?_
  rintro e w1 ⟨rfl, hb1⟩
  have D1 : Below w.heap.size w w1 := Below.trans (by go_grown) (hb1.mono (by simp))
  have N1 : Hid (Blk w1 w.heap.size 30 #[.int .i64 S, .slice A n c]) := bel_blk (Blk.new _ _ _) hb1
  obtain ⟨a0, a1, -⟩ := N1.out.c2
  have sN := N1.out.lt
  have sD := D1.size
  clear hb1
  obtain ⟨k, hk⟩ : ∃ k, codeW S l st way = k := ⟨_, rfl⟩
  rw [hk]
  by_cases h0 : k = 0
  · subst h0
    obtain ⟨hv, hw⟩ := codeW_zero hk
    have E : Hid (setwayR S l st way = (setF l way st, 0)) := by show _ = _; unfold setwayR; rw [if_pos hk]
    have HV := Lib.hid hv
    have HO := Lib.hid (simpW_at hw)
    obtain ⟨hvn, hsl, -⟩ := setOK_true hv
    obtain ⟨v0, v1, -, -⟩ := validN_true hvn
    have hn'0 : 0 < n' := by rw [HL'.out]; omega
    have hn'10 : n' ≤ 10 := by rw [HL'.out]; omega
    clear hk hv hw hvn hsl v0 v1
    go_wp2_with fail
    refine (clone_any A' n' c' st _ (H'.out.bel D1) HL'.out hn0' hn'0).mono ?_
    rintro e w2 ⟨g, cap, rfl, hg, HB, hb2⟩
    have D2 := bel_next D1 hb2
    have N2 := hid_blk N1 hb2
    have hgN : g ≠ w.heap.size := by omega
    have hgW : w.heap.size ≤ g := by omega
    have E0 : Hid (setF l (way.drop 0) st = setF l way st) := rfl
    clear hb2 N1 a0 a1 D1 sN sD
    go_wp2_with fail
    go_loopw [23] (fun u w' => ∃ (i : Nat) (xs : List Int), u = .int .i64 i ∧ i ≤ n2 ∧ Hid (xs.length = st.length) ∧ Hid (OwnB w' g cap 2 xs) ∧ Hid (setF l (way.drop i) xs = setF l way st) ∧ Hid (Blk w' w.heap.size 30 #[.int .i64 S, .slice A n c]) ∧ Below w.heap.size w w') (fun u _ => n2 - (intOf u).toNat)
    case atStart => exact ⟨0, st, rfl, by omega, rfl, HB, E0, N2, D2⟩
    case round =>
      clear HB E0 N2 D2
      obtain ⟨i, xs, rfl, hin, HXL, HB, HE, HN, hbel⟩ := hrel
      obtain ⟨b0, b1, -⟩ := HN.out.c2
      by_cases hlt : i < n2
      · have hil : i < way.length := by rw [← HL2.out]; exact hlt
        obtain ⟨b3, o3, rfl, hblt3, hc⟩ := (H2.out.bel hbel) (by omega)
        have t0 := hc i hil
        obtain ⟨o1, o2⟩ := outB_at HO.out hil
        obtain ⟨q, hq⟩ : ∃ q : Nat, way[i] = q := ⟨way[i].toNat, by omega⟩
        have hd := setF_step (l := l) (st := xs) hil
        rw [hq] at t0 o1 o2 hd
        have hql : q < l.length := by omega
        have hqn : q < n := by rw [HL.out]; exact hql
        obtain ⟨b2, o4, rfl, hblt2, hc2⟩ := (H.out.bel hbel) (by omega)
        obtain ⟨y0, y1, y2⟩ := hc2 q hql
        obtain ⟨hvn, hsl, -⟩ := setOK_true HV.out
        have hgd := validN_at (validN_true hvn).2.2.2 hql
        simp only [validTube, Bool.and_eq_true] at hgd
        have hf1 := inB_true hgd.1.1.1
        rw [frW_eq hql] at hd
        obtain ⟨f, hf⟩ : ∃ f : Nat, l[q].1 = f := ⟨l[q].1.toNat, by omega⟩
        rw [hf] at y0 hd hf1
        rw [Int.toNat_natCast] at hd
        have hfs : f < xs.length := by rw [HXL.out]; omega
        have hfn : f < n' := by rw [HL'.out]; omega
        obtain ⟨⟨z, x0⟩, f0, hgl⟩ := HB.out.cell hfs
        have HE2 : Hid (setF l (way.drop (i + 1)) (xs.set f (q : Int)) = setF l way st) := by show _ = _; rw [← HE.out, hd]
        have HXL2 : Hid ((xs.set f (q : Int)).length = st.length) := by show _ = _; rw [List.length_set, HXL.out]
        have HFS := Lib.hid hfs
        clear hc hc2 hq hf hgd hvn hsl y1 y2 hf1 o1 o2 hd HE hfs
        go_wp2_with fail
        go_roundw
        case rel =>
          refine ⟨i + 1, xs.set f (q : Int), by go_num, by omega, HXL2, OwnB.set ?_ f HFS.out _, HE2, HN.out.far (by simp; omega) _, (hbel.setCell (by simp; omega) _)⟩
          exact HB.out
        case measure => simp [intOf]; omega
      · have HF : Hid (setF l way st = xs) := by show _ = _; rw [← HE.out, List.drop_of_length_le (by rw [← HL2.out]; omega), setF]
        have hxn : xs.length = n' := by rw [HXL.out, HL'.out]
        have HXN := Lib.hid hxn
        clear hxn
        go_wp2_with fail
        refine bodyPost_ret (v := .tuple #[.slice (some ⟨g, 0, none⟩) n' cap, .int .i64 0]) (by simp [results, Try.results36, go_sem]) rfl ?_
        rw [E.out]
        show MadeIC w _ (setF l way st) 0 _ _
        rw [HF.out]
        refine ⟨some ⟨g, 0, none⟩, cap, by rw [HXN.out], HB.out.owns hgW, hbel⟩
  · have E : Hid (setwayR S l st way = ([], k)) := by show _ = _; unfold setwayR; rw [if_neg (by rw [hk]; exact h0), hk]
    clear hk
    go_wp2_with fail
    refine bodyPost_ret (v := .tuple #[.slice none 0 0, .int .i64 k]) (by simp [results, Try.results36, go_sem]) rfl ?_
    rw [E.out]
    exact ⟨none, 0, rfl, own_none _ _ _, D1⟩

end Go.Proofs.Ythkfdpicacaphaa
