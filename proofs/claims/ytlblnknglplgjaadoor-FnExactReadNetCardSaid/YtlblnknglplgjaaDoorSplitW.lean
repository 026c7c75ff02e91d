/-
  CONTRACTS: the words of a text.
-/
import Derived.Test.YtlblnknglplgjaaDoorSplit
import Derived.Test.YtlblnknglplgjaaDoorShelfS
import Derived.Sort.OwnSorted
namespace Go.Proofs.YtlblnknglplgjaaDoor
open Go.RowKit Go.Sort

def noT (x : ByteArray) : Bool := x.size == 0
/-- The words of a text: what stands between the spaces, and is not empty. -/
def words (s : ByteArray) : List ByteArray := (splB 32 s).filter fun x => !noT x
theorem splB_len (c : UInt8) (s : ByteArray) : (splB c s).length ≤ s.size + 1 := by
  unfold splB
  rw [List.length_map]
  exact spl_length_le c s.data.toList []
theorem words_len (s : ByteArray) : (words s).length ≤ s.size + 1 := Nat.le_trans (List.length_filter_le _ _) (splB_len 32 s)
theorem emptyS {s : ByteArray} (h : noT s = false) : ¬ s.toList = [] ∧ s.toList.isEmpty = false := by
  have h0 : ¬ s.size = 0 := by simpa [noT] using h
  have e : ¬ s.toList = [] := by
    rw [ByteArray.toList_eq]
    intro h'
    apply h0
    have := congrArg List.length h'
    simpa using this
  exact ⟨e, by cases hs : s.toList with | nil => exact absurd hs e | cons a l => rfl⟩
theorem empty_of {s : ByteArray} (h : noT s = true) : s = ByteArray.empty := by
  have h0 : s.size = 0 := by simpa [noT] using h
  apply ByteArray.ext
  apply Array.toList_inj.1
  have : s.data.toList.length = 0 := by simpa using h0
  rw [List.eq_nil_of_length_eq_zero this]
  rfl
theorem own_baseR {w : World} {base base' n size : Nat} {t : TypeId} {v : Value} {xs : List Value} (h : w.ownsRow base' t size v n xs) (hb : base ≤ base') : w.ownsRow base t size v n xs := by
  refine ⟨h.1, ?_⟩
  rcases h.2 with hn | ⟨g, cap, cur, hv, hg, rest⟩
  · exact .inl hn
  · exact .inr ⟨g, cap, cur, hv, Nat.le_trans hb hg, rest⟩
/-- The place of an element of one's own row. -/
theorem own_at {w : World} {base n c : Nat} {e : TypeId} {A : Option Addr} {l : List ByteArray} (h : w.ownsRow base e 1 (.slice A n c) n (l.map Value.string)) (h0 : 0 < n) :
    ∃ g, A = some ⟨g, 0, none⟩ ∧ base ≤ g ∧ g < w.heap.size ∧ n = l.length ∧ ∀ (j : Nat) (hj : j < l.length), w.cell? ⟨g, j, none⟩ = some (.string l[j]) := by
  obtain ⟨g, cap, hv, hb, hlt⟩ := h.form h0
  have hl : n = l.length := by have := h.1; simpa using this.symm
  injection hv with hA
  refine ⟨g, hA, hb, hlt, hl, fun j hj => ?_⟩
  subst hA
  have := h.cells (g := g) rfl j (.string l[j]) (by simp [hj])
  simpa [Addr.add_lit] using this
theorem words_step {l : List ByteArray} {i : Nat} (h : i < l.length) : (l.drop i).filter (fun x => !noT x) = if noT l[i] then (l.drop (i + 1)).filter (fun x => !noT x) else l[i] :: (l.drop (i + 1)).filter (fun x => !noT x) := by
  rw [List.drop_eq_getElem_cons h, List.filter_cons]
  cases noT l[i] <;> rfl

set_option maxHeartbeats 4000000 in
set_option maxRecDepth 100000 in
theorem specSplitWords_any (s : ByteArray) (w : World) (hs : s.size ≤ 1048576) :
    Calls Tryd.prog 20 #[.string s] w (MadeSR w 9 (words s)) := by
  obtain ⟨i0, hi, hz0, hz1, hz2⟩ := info_parts info_strR
  have HI := Lib.hid (And.intro hi (And.intro hz0 (And.intro hz1 hz2)))
  have HE : Hid (([] : List ByteArray) ++ ((splB 32 s).drop 0).filter (fun x => !noT x) = words s) := rfl
  have hln := splB_len 32 s
  obtain ⟨F, hF⟩ : ∃ F, words s = F := ⟨_, rfl⟩
  rw [hF] at HE ⊢
  obtain ⟨l, hl⟩ : ∃ l, splB 32 s = l := ⟨_, rfl⟩
  have HL := Lib.hid hl
  rw [hl] at HE hln
  clear hF hi hz0 hz1 hz2 hl
  go_enter Tryd.func20, Tryd.ntmps20
  go_wp2_with fail
  refine (l01Split_any s 32 _ hs).mono ?_
  rintro e w1 ⟨A, c, rfl, O1, hb1⟩
  rw [HL.out] at O1 ⊢
  have HO1 := Lib.hid O1
  have hln2 : l.length ≤ 1048577 := by omega
  have hsw1 := hb1.size
  clear O1 hln
  go_wp2_with fail
  go_loopw [4, 5] (fun v u w' => ∃ (i : Nat) (ys : List ByteArray), u = .int .i64 i ∧ i ≤ l.length ∧ ys.length ≤ i ∧ w'.ownsRow w1.heap.size 9 1 v ys.length (ys.map Value.string) ∧ Hid (ys ++ (l.drop i).filter (fun x => !noT x) = F) ∧ Below w1.heap.size w1 w') (fun _ u _ => l.length - (intOf u).toNat)
  case atStart => exact ⟨0, [], rfl, by omega, by simp, own_emptyR _ (Nat.le_refl _), HE, by go_grown⟩
  case round =>
    clear HE
    obtain ⟨i, ys, rfl, hin, hyl, hown, HF, hbel⟩ := hrel
    have HO := Lib.hid hown
    have hsw := hbel.size
    obtain ⟨A2, c2, rfl⟩ := own_form hown
    by_cases hlt : i < l.length
    · obtain ⟨g, rfl, hgb, hglt, -, hcells⟩ := own_at HO1.out (by omega)
      have u0 := bel_cell hbel (hcells i hlt)
      have hst := words_step hlt
      obtain ⟨x, hx⟩ : ∃ x, l[i] = x := ⟨_, rfl⟩
      rw [hx] at u0 hst
      clear hcells hx hown
      cases hn : noT x
      · obtain ⟨e1, e2⟩ := emptyS hn
        have HF2 : Hid ((ys ++ [x]) ++ (l.drop (i + 1)).filter (fun x => !noT x) = F) := by show _ = _; rw [← HF.out, hst, hn]; simp
        clear hst HF hn
        go_wp2_with (at_builtin; refine wpList_append_own _ rfl _ _ 36 rfl w1.heap.size 9 i0 (.string ByteArray.empty) 1 16 Tryd.underlying36 HI.out.1 HI.out.2.1 HI.out.2.2.1 HI.out.2.2.2 rfl (by decide) _ _ _ rfl (HO.out.alloc _) ⟨wr.heap.size, 0, none⟩ 1 1 [.string x] rfl rfl ?c1 ?c2 ?c3 ?c4 ?c5 ?_)
        try
          case c1 =>
            intro j u hu
            cases j with
            | zero => simp at hu; subst hu; simp [Addr.add]
            | succ j => simp at hu
        try case c2 => intro u hu; simp at hu; subst hu; rfl
        try case c3 => unfold maxLen; omega
        try case c4 => omega
        try case c5 => first | (simp; omega) | omega
        intro v' w4 hown1 hgrow _
        have hown2 : w4.ownsRow w1.heap.size 9 1 v' (ys ++ [x]).length ((ys ++ [x]).map Value.string) := by
          rw [List.map_append, List.length_append]
          exact hown1
        have HO4 := Lib.hid hown2
        have hb4 : Below w1.heap.size w1 w4 := Below.grown (show Below w1.heap.size w1 _ from hbel.alloc hbel.size _) hgrow (by simp; omega) (fun k hk => by have := (HO.out.lt k hk).1; omega)
        have HY4 : Hid ((ys ++ [x]).length ≤ i + 1) := by show _ ≤ _; rw [List.length_append, List.length_singleton]; omega
        clear hown1 hown2 hgrow hyl
        go_wp2_with fail
        go_roundw
        case rel => exact ⟨i + 1, ys ++ [x], by go_num, by omega, HY4.out, HO4.out, HF2, hb4⟩
        case measure => simp [intOf]; omega
      · have HF2 : Hid (ys ++ (l.drop (i + 1)).filter (fun x => !noT x) = F) := by show _ = _; rw [← HF.out, hst, hn]; simp
        obtain rfl := empty_of hn
        clear hst HF hn
        go_wp2_with fail
        go_roundw
        case rel => exact ⟨i + 1, ys, by go_num, by omega, by omega, HO.out, HF2, hbel⟩
        case measure => simp [intOf]; omega
    · have HR : Hid (F = ys) := by
        show _ = _
        rw [← HF.out, List.drop_of_length_le (by omega)]
        simp
      have hb5 := bel_next hb1 hbel
      clear hown HF
      go_wp2_with fail
      go_ret
      rw [HR.out]
      exact ⟨A2, c2, rfl, own_baseR HO.out hsw1, hb5⟩

/-- The row behind the library's deleting is one's own. -/
theorem own_put {w : World} {base g q n : Nat} {e : TypeId} {cur : Array Value} {xs : List ByteArray} {r : Nat} (hn : cur.size = n) (hb : w.heap[g]? = some (.cells cur e (0, 0))) (hbase : base ≤ g) (hc : cur.size = xs.length + r) (hm : cur.size ≤ maxLen) :
    (putRow Value.string (Sort.ahead w q) g 0 (xs ++ List.replicate r ByteArray.empty).toArray).ownsRow base e 1 (.slice (some ⟨g, 0, none⟩) xs.length n) xs.length (xs.map Value.string) := by
  subst hn
  refine ⟨by simp, .inr ⟨g, cur.size, putCells Value.string 0 (xs ++ List.replicate r ByteArray.empty).toArray cur, rfl, hbase, ?_, by omega, hm, by simp [putCells], ?_⟩⟩
  · simp [putRow, mapBlock, Sort.ahead, Array.getElem?_modify, hb, onCells]
  · apply List.ext_getElem?
    intro j
    rw [Nat.mul_one]
    by_cases hj : j < xs.length
    · rw [List.getElem?_take_of_lt hj, Array.getElem?_toList]
      simp [putCells, hj, show j < cur.size by omega, show j < xs.length + r by omega]
    · rw [List.getElem?_take_eq_none (by omega), List.getElem?_eq_none (by simp; omega)]
theorem bel_put {w w' : World} {g q : Nat} {d : Array ByteArray} {B : Nat} (h : Below B w w') (hg : B ≤ g) : Below B w (putRow Value.string (Sort.ahead w' q) g 0 d) := by
  refine h.trans ⟨rfl, rfl, rfl, by simp, fun k hk => ?_⟩
  have : g ≠ k := by omega
  simp [putRow, mapBlock, Sort.ahead, Array.getElem?_modify, this]
theorem isE_gives (x : ByteArray) (W : World) : FnGives Tryd.prog 47 #[] #[.string x] (.bool (noT x)) W := by
  show Calls Tryd.prog 47 #[.string x] W _
  cases hn : noT x
  · obtain ⟨e1, e2⟩ := emptyS hn
    go_enter Tryd.func47, Tryd.ntmps47
    go_wp2_with fail
    go_ret
    exact ⟨ret_bool (by first | rfl | simp [e1]), 0, rfl⟩
  · obtain rfl := empty_of hn
    go_enter Tryd.func47, Tryd.ntmps47
    go_wp2_with fail
    go_ret
    exact ⟨rfl, 0, rfl⟩

set_option maxHeartbeats 4000000 in
set_option maxRecDepth 100000 in
theorem implSplitWords_any (s : ByteArray) (w : World) (hs : s.size ≤ 1048576) (hm : ∃ m, w.cell? ⟨3, 0, none⟩ = some (.int .i64 m)) :
    Calls Tryd.prog 21 #[.string s] w (MadeSR w 9 (words s)) := by
  obtain ⟨m, hm⟩ := hm
  have HM := Lib.hid hm
  obtain ⟨h1, h2⟩ := splB_split 32 s
  have hln := splB_len 32 s
  have HW : Hid (words s = (splB 32 s).filter fun x => !noT x) := rfl
  obtain ⟨l, hl⟩ : ∃ l, splB 32 s = l := ⟨_, rfl⟩
  rw [hl] at h1 h2 hln HW
  have H1 := Lib.hid h1
  have H2 := Lib.hid h2
  clear hm h1 h2 hl
  go_enter Tryd.func21, Tryd.ntmps21
  go_wp2_with fail
  refine (Tryd.strings_Split s ⟨#[32]⟩ m _ (by omega) HM.out (by decide)).mono ?_
  rintro e w1 ⟨rfl, rfl⟩
  rw [H1.out, ← H2.out]
  go_wp2_with fail
  refine (Tryd.slices_DeleteFunc Value.string (fun _ => rfl) noT 47 #[] (enters_of Tryd.func47 (by kernel_rfl) rfl) ByteArray.empty (fun _ => by kernel_rfl) w.heap.size 0 l.length l.toArray _ (fun W x _ => isE_gives x W) (fun n os dk x _ => isE_gives x _) ?_ (by simp; omega) (by simp)).mono ?_
  · intro j hj
    have hj' : j < l.length := by simpa using hj
    refine ⟨?_, by unfold World.frozen?; simp only [heap_alloc_new]; simp⟩
    rw [Nat.zero_add]
    refine ((Blk.new w 9 (l.map Value.string).toArray).cell j).trans ?_
    simp [hj']
  rintro e w2 ⟨rfl, q, rfl⟩
  have e1 : l.toArray.toList = l := rfl
  have e2 : l.toArray.size = l.length := by simp
  have e3 : (words s).length ≤ l.length := by rw [HW.out]; exact List.length_filter_le _ _
  rw [e1, e2, ← HW.out]
  have HO := Lib.hid (own_put (q := q) (base := w.heap.size) (r := l.length - (words s).length) (show ((l.map Value.string).toArray).size = l.length by simp) (heap_alloc_new w (.cells (l.map Value.string).toArray 9)) (Nat.le_refl _) (xs := words s) (by simp; omega) (by unfold maxLen; simp; omega))
  have HB := Lib.hid (bel_put (q := q) (d := (words s ++ List.replicate (l.length - (words s).length) ByteArray.empty).toArray) (show Below w.heap.size w (w.alloc (.cells (l.map Value.string).toArray 9)) by go_grown) (Nat.le_refl _))
  obtain ⟨W2, hW2⟩ : ∃ W2, putRow Value.string (Sort.ahead (w.alloc (.cells (l.map Value.string).toArray 9)) q) w.heap.size 0 (words s ++ List.replicate (l.length - (words s).length) ByteArray.empty).toArray = W2 := ⟨_, rfl⟩
  rw [hW2] at HO HB ⊢
  clear hW2 e1 e2 e3
  go_wp2_with fail
  go_ret
  exact ⟨_, _, rfl, HO.out, HB.out⟩

end Go.Proofs.YtlblnknglplgjaaDoor
