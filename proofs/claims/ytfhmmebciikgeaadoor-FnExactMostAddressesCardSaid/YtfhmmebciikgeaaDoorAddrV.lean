/-
  CONTRACTS: which words are addresses.
-/
import Derived.Test.YtfhmmebciikgeaaDoorWord
import Derived.Test.YtfhmmebciikgeaaDoorStr
namespace Go.Proofs.YtfhmmebciikgeaaDoor
open Go.RowKit

theorem beqB_no {a b : ByteArray} (h : ¬ a = b) : (a.toList == b.toList) = false := by
  rw [beq_eq_false_iff_ne]
  intro e
  apply h
  rw [ByteArray.toList_eq, ByteArray.toList_eq] at e
  obtain ⟨x⟩ := a
  obtain ⟨y⟩ := b
  have e2 : x = y := by simpa using e
  rw [e2]
def strAt (l : List ByteArray) (i : Nat) : ByteArray := l.getD i ByteArray.empty
theorem strAt_eq {l : List ByteArray} {i : Nat} (h : i < l.length) : strAt l i = l[i] := by simp [strAt, h]
def hasS (l : List ByteArray) (x : ByteArray) : Bool := l.any fun y => decide (y = x)
theorem hasS_step {l : List ByteArray} {i : Nat} {x : ByteArray} (h : i < l.length) : hasS (l.drop i) x = (decide (l[i] = x) || hasS (l.drop (i + 1)) x) := by
  unfold hasS
  rw [drop_at' h, List.any_cons]
theorem hasS_end {l : List ByteArray} {i : Nat} {x : ByteArray} (h : l.length ≤ i) : hasS (l.drop i) x = false := by
  rw [List.drop_of_length_le h]; rfl
def goodA (g : Int) (l : List ByteArray) (i : Nat) : Bool := wordB g (strAt l i) && decide ((strAt l i).size = (strAt l 0).size) && !hasS (l.take i) (strAt l i)
def okA (g : Int) (l : List ByteArray) (i : Nat) : Bool := ((List.range l.length).drop i).all fun i => goodA g l i
def validA (g : Int) (l : List ByteArray) : Bool := inB g 2 4 && decide (l.length ≤ 40) && okA g l 0
theorem okA_step {g : Int} {l : List ByteArray} {i : Nat} (h : i < l.length) : okA g l i = (goodA g l i && okA g l (i + 1)) := by
  unfold okA
  rw [drop_at' (show i < (List.range l.length).length by simpa using h), List.all_cons]
  simp
theorem okA_end {g : Int} {l : List ByteArray} {i : Nat} (h : l.length ≤ i) : okA g l i = true := by
  unfold okA
  rw [List.drop_of_length_le (by simpa using h)]; rfl
theorem validA_true {g : Int} {l : List ByteArray} (h : validA g l = true) : 2 ≤ g ∧ g ≤ 4 ∧ l.length ≤ 40 ∧ ∀ (k : Nat) (h : k < l.length), 1 ≤ l[k].size ∧ l[k].size ≤ 8 ∧ l[k].size = (strAt l 0).size := by
  simp only [validA, Bool.and_eq_true, decide_eq_true_eq] at h
  have := inB_true h.1.1
  refine ⟨by omega, by omega, h.1.2, fun k hk => ?_⟩
  have h2 := h.2
  unfold okA at h2
  rw [List.drop_zero] at h2
  have h3 := List.all_eq_true.1 h2 k (by simpa using hk)
  simp only [goodA, Bool.and_eq_true, decide_eq_true_eq] at h3
  rw [strAt_eq hk] at h3
  have h4 := wordB_size h3.1.1
  exact ⟨h4.1, h4.2, h3.1.2⟩

theorem l05Signs_any (g : Int) (w : World) : Calls Tryd.prog 14 #[.int .i64 g] w (Ret0 w (.bool (inB g 2 4))) := by
  go_enter Tryd.func14, Tryd.ntmps14
  go_wp2_with (go_at_call 15; refine (l00In_any _ _ _ _).mono ?_; rintro e w2 ⟨rfl, rfl⟩)
  go_ret
  exact ⟨rfl, rfl⟩
theorem areSigns_any (g : Int) (w : World) : Calls Tryd.prog 17 #[.int .i64 g] w (Ret0 w (.bool (inB g 2 4))) := by
  go_enter Tryd.func17, Tryd.ntmps17
  go_wp2_with (go_at_call 18; refine (within_any _ _ _ _).mono ?_; rintro e w2 ⟨rfl, rfl⟩)
  go_ret
  exact ⟨rfl, rfl⟩

theorem StrsAt.take {w : World} {A : Option Addr} {l : List ByteArray} (h : StrsAt w A l) (i : Nat) : StrsAt w A (l.take i) := fun h0 => by
  obtain ⟨b, o, e, hlt, hc⟩ := h (by simp at h0; omega)
  exact ⟨b, o, e, hlt, fun k hk => by rw [hc k (by simp at hk; omega), List.getElem_take]⟩

/-- The first place of a string, or -1. -/
def FoundS (w : World) (b : Bool) (e : Ending) (w' : World) : Prop := ∃ r : Int, e = .returned (.int .i64 r) ∧ decide (0 ≤ r) = b ∧ w = w'

end Go.Proofs.YtfhmmebciikgeaaDoor
