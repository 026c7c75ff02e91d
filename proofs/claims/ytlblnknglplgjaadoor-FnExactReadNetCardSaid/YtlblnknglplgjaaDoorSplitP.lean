/-
  PLAIN LAW: a text cut at each instance of one byte. No program in sight.
-/
import Derived.Lib.Split
import Derived.Lib.IndexBytes
namespace Go.Proofs.YtlblnknglplgjaaDoor

def spl (c : UInt8) : List UInt8 → List UInt8 → List (List UInt8)
  | acc, [] => [acc]
  | acc, b :: r => if b = c then acc :: spl c [] r else spl c (acc ++ [b]) r
theorem index_cons (b c : UInt8) (r : List UInt8) : Lib.index (b :: r) [c] = if b = c then 0 else if Lib.index r [c] = -1 then -1 else Lib.index r [c] + 1 := by
  rw [Lib.index]
  by_cases h : b = c
  · subst h; simp [List.isPrefixOf]
  · have h2 : ¬ c = b := fun e => h e.symm
    simp [List.isPrefixOf, h, h2]
theorem spl_index (c : UInt8) : ∀ (l acc : List UInt8), (Lib.index l [c] = -1 ∧ spl c acc l = [acc ++ l]) ∨ ∃ i : Nat, Lib.index l [c] = i ∧ i < l.length ∧ spl c acc l = (acc ++ l.take i) :: spl c [] (l.drop (i + 1))
  | [], acc => .inl ⟨by simp [Lib.index], by simp [spl]⟩
  | b :: r, acc => by
    rw [index_cons]
    by_cases h : b = c
    · exact .inr ⟨0, by simp [h], by simp, by simp [spl, h]⟩
    · rw [if_neg h]
      rcases spl_index c r (acc ++ [b]) with ⟨e1, e2⟩ | ⟨i, e1, e2, e3⟩
      · exact .inl ⟨by rw [if_pos e1], by rw [spl, if_neg h, e2]; simp⟩
      · refine .inr ⟨i + 1, ?_, by simpa using e2, ?_⟩
        · rw [e1, if_neg (by omega)]; omega
        · rw [spl, if_neg h, e3]; simp
theorem spl_split (c : UInt8) : ∀ (n : Nat) (l : List UInt8), l.length ≤ n → Lib.splitK [c] 0 (Lib.count l [c]) l = spl c [] l ∧ (spl c [] l).length = Lib.count l [c] + 1 := by
  intro n
  induction n with
  | zero =>
    intro l hl
    have : l = [] := List.eq_nil_of_length_eq_zero (by omega)
    subst this
    rw [Lib.count_miss (by simp [Lib.index])]
    exact ⟨rfl, rfl⟩
  | succ n ih =>
    intro l hl
    rcases spl_index c l [] with ⟨e1, e2⟩ | ⟨i, e1, e2, e3⟩
    · rw [Lib.count_miss e1, e2]
      exact ⟨rfl, rfl⟩
    · have hc := Lib.count_hit (sub := [c]) (by simp) e1
      have e4 : ([c] : List UInt8).length = 1 := rfl
      rw [e4] at hc
      obtain ⟨h1, h2⟩ := ih (l.drop (i + 1)) (by simp; omega)
      rw [hc, e3, show 1 + Lib.count (l.drop (i + 1)) [c] = Lib.count (l.drop (i + 1)) [c] + 1 by omega]
      refine ⟨?_, by simp [h2]⟩
      rw [Lib.splitK, if_neg (by rw [e1]; simp), e1, e4, Int.toNat_natCast, h1]
      simp
def mkB (l : List UInt8) : ByteArray := ⟨l.toArray⟩
theorem mkB_data (s : ByteArray) : mkB s.data.toList = s := ByteArray.ext (Array.toList_inj.1 rfl)
/-- A text cut at each instance of one byte. -/
def splB (c : UInt8) (s : ByteArray) : List ByteArray := (spl c [] s.data.toList).map mkB
theorem splB_split (c : UInt8) (s : ByteArray) : Lib.splitB ⟨#[c]⟩ 0 (Lib.countB s ⟨#[c]⟩) s = splB c s ∧ (splB c s).length = Lib.countB s ⟨#[c]⟩ + 1 := by
  obtain ⟨h1, h2⟩ := spl_split c _ s.data.toList (Nat.le_refl _)
  have h3 := Lib.splitB_data ⟨#[c]⟩ 0 (Lib.countB s ⟨#[c]⟩) s
  refine ⟨?_, by unfold splB; rw [List.length_map]; exact h2⟩
  have h4 := congrArg (List.map mkB) h3
  rw [List.map_map] at h4
  have h5 : (mkB ∘ fun x : ByteArray => x.data.toList) = id := funext fun x => mkB_data x
  rw [h5, List.map_id] at h4
  rw [h4]
  unfold splB
  rw [← h1]
/-- One part of a text. -/
theorem part_data (s : ByteArray) (k i : Nat) : mkB ((s.data.toList.drop k).take (i - k)) = s.extract k i := by
  apply ByteArray.ext
  apply Array.toList_inj.1
  show (s.data.toList.drop k).take (i - k) = _
  rw [ByteArray.data_extract, Array.toList_extract, List.extract_eq_take_drop]
theorem part_next {l : List UInt8} {k i : Nat} (h1 : k ≤ i) (h2 : i < l.length) : (l.drop k).take (i + 1 - k) = (l.drop k).take (i - k) ++ [l[i]] := by
  rw [show i + 1 - k = (i - k) + 1 by omega, List.take_add_one]
  congr 1
  simp
  rw [show k + (i - k) = i by omega]
  simp [h2]
theorem spl_at {c : UInt8} {l acc : List UInt8} {i : Nat} (h : i < l.length) : spl c acc (l.drop i) = if l[i] = c then acc :: spl c [] (l.drop (i + 1)) else spl c (acc ++ [l[i]]) (l.drop (i + 1)) := by
  rw [List.drop_eq_getElem_cons h, spl]
theorem spl_length_le (c : UInt8) : ∀ (l acc : List UInt8), (spl c acc l).length ≤ l.length + 1
  | [], acc => by simp [spl]
  | b :: r, acc => by
    rw [spl]
    split
    · have := spl_length_le c r []
      simp only [List.length_cons]
      omega
    · have := spl_length_le c r (acc ++ [b])
      simp only [List.length_cons]
      omega

end Go.Proofs.YtlblnknglplgjaaDoor
