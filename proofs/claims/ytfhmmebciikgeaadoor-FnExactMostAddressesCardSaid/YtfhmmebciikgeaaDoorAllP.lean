/-
  PLAIN LAW: all words with so many letters, the number of them, and the codes.
-/
import Derived.Test.YtfhmmebciikgeaaDoorMarkS2
import Derived.Test.YtfhmmebciikgeaaDoorAddrV
namespace Go.Proofs.YtfhmmebciikgeaaDoor
open Go.RowKit

/-- The text of one sign. -/
def lettr (c : Nat) : ByteArray := ⟨#[UInt8.ofNat (97 + c)]⟩
/-- The words that go on from s with the signs from c on. -/
def sufF (s : ByteArray) : Nat → Nat → List ByteArray
  | 0, _ => []
  | m + 1, c => (s ++ lettr c) :: sufF s m (c + 1)
def nextW (g : Nat) : List ByteArray → List ByteArray
  | [] => []
  | s :: ss => sufF s g 0 ++ nextW g ss
def allW (g : Nat) : Nat → List ByteArray
  | 0 => [ByteArray.empty]
  | r + 1 => nextW g (allW g r)
theorem sufF_step {s : ByteArray} {g c : Nat} (h : c < g) : sufF s (g - c) c = (s ++ lettr c) :: sufF s (g - (c + 1)) (c + 1) := by
  rw [show g - c = (g - (c + 1)) + 1 by omega, sufF]
theorem nextW_step {g i : Nat} {l : List ByteArray} (h : i < l.length) : nextW g (l.drop i) = sufF l[i] (g - 0) 0 ++ nextW g (l.drop (i + 1)) := by
  rw [drop_at' h, nextW]; rfl
theorem sufF_len (s : ByteArray) : ∀ m c, (sufF s m c).length = m
  | 0, _ => rfl
  | m + 1, c => by rw [sufF, List.length_cons, sufF_len s m]
theorem nextW_len (g : Nat) : ∀ l : List ByteArray, (nextW g l).length = g * l.length
  | [] => by simp [nextW]
  | s :: ss => by rw [nextW, List.length_append, sufF_len, nextW_len g ss, List.length_cons, Nat.mul_add]; omega
theorem sufF_size {s x : ByteArray} : ∀ m c, x ∈ sufF s m c → x.size = s.size + 1
  | 0, _, h => by simp [sufF] at h
  | m + 1, c, h => by
    rw [sufF, List.mem_cons] at h
    rcases h with rfl | h
    · rw [ByteArray.size_append]; rfl
    · exact sufF_size m _ h
theorem nextW_size {g k : Nat} {x : ByteArray} : ∀ l : List ByteArray, (∀ s ∈ l, s.size = k) → x ∈ nextW g l → x.size = k + 1
  | [], _, h => by simp [nextW] at h
  | s :: ss, hs, h => by
    rw [nextW, List.mem_append] at h
    rcases h with h | h
    · rw [sufF_size _ _ h, hs s (by simp)]
    · exact nextW_size ss (fun t ht => hs t (by simp [ht])) h
theorem allW_size {g : Nat} : ∀ (r : Nat) (x : ByteArray), x ∈ allW g r → x.size = r
  | 0, x, h => by
    rw [allW, List.mem_singleton] at h
    rw [h]
    rfl
  | r + 1, x, h => nextW_size _ (fun s hs => allW_size r s hs) h
def pw (g : Nat) : Nat → Nat
  | 0 => 1
  | k + 1 => pw g k * g
theorem allW_len (g : Nat) : ∀ r, (allW g r).length = pw g r
  | 0 => rfl
  | r + 1 => by rw [allW, nextW_len, allW_len g r, pw, Nat.mul_comm]
theorem pw_le : ∀ g, g < 5 → ∀ k, k < 9 → pw g k ≤ 65536 := by decide
theorem allW_le {g k : Nat} (hg : g ≤ 4) (hk : k ≤ 8) : (allW g k).length ≤ 65536 := by rw [allW_len]; exact pw_le g (by omega) k (by omega)
/-- The number of all words, up to a limit. -/
def capF (g lim : Nat) : Nat → Nat
  | 0 => 1
  | k + 1 => min (capF g lim k * g) (lim + 1)
theorem capF_300 : ∀ g, g < 5 → ∀ k, k < 9 → 1 < g → (decide (300 < capF g 300 k) = decide (300 < pw g k)) := by decide
theorem capF_32 : ∀ g, g < 5 → ∀ k, k < 9 → 1 < g → (decide (32 < capF g 32 k) = decide (32 < pw g k)) := by decide
theorem capF_le (g lim : Nat) : ∀ k, capF g lim k ≤ lim + 1
  | 0 => by simp [capF]
  | k + 1 => Nat.min_le_right _ _
/-- The code of signs, rings and a distance, with a limit of words. -/
def wcode (g r d : Int) (lim : Nat) : Int :=
  if inB g 2 4 && inB r 1 8 && inB d 1 r then (if lim < pw g.toNat r.toNat then 5 else 0) else 2
def whole (g r : Int) : Int := if inB g 2 4 && inB r 1 8 then (if 300 < pw g.toNat r.toNat then 5 else 0) else 2
theorem wcode_one (g r : Int) : wcode g r 1 300 = whole g r := by
  unfold wcode whole
  cases h1 : inB g 2 4
  · rfl
  · cases h2 : inB r 1 8
    · rfl
    · have := inB_true h2
      have h3 : inB 1 1 r = true := by simp [inB]; omega
      rw [h3]
      rfl
theorem wcode_zero {g r d : Int} {lim : Nat} (h : wcode g r d lim = 0) : 2 ≤ g ∧ g ≤ 4 ∧ 1 ≤ r ∧ r ≤ 8 ∧ 1 ≤ d ∧ d ≤ r := by
  unfold wcode at h
  split at h
  · rename_i h1
    simp only [Bool.and_eq_true] at h1
    obtain ⟨⟨a, b⟩, c⟩ := h1
    have a := inB_true a
    have b := inB_true b
    have c := inB_true c
    omega
  · omega
def allR (g r : Int) : List ByteArray × Int := if whole g r = 0 then (allW g.toNat r.toNat, 0) else ([], whole g r)
theorem small_of {l : List ByteArray} (h1 : l.length ≤ 1048576) (h2 : ∀ s ∈ l, s.size ≤ 1048576) : SmallS l := ⟨h1, fun _ hk => h2 _ (List.getElem_mem hk)⟩
theorem allW_small {g r : Nat} (hg : g ≤ 4) (hr : r ≤ 8) : SmallS (allW g r) := small_of (by have := allW_le hg hr; omega) (fun s hs => by rw [allW_size r s hs]; omega)
theorem whole_zero {g r : Int} (h : whole g r = 0) : 2 ≤ g ∧ g ≤ 4 ∧ 1 ≤ r ∧ r ≤ 8 := by
  rw [← wcode_one] at h
  have := wcode_zero h
  omega
theorem small_nil : SmallS [] := small_of (by simp) (by simp)
theorem allR_small (g r : Int) : SmallS (allR g r).1 := by
  unfold allR
  split
  · rename_i h
    have := whole_zero h
    exact allW_small (by omega) (by omega)
  · exact small_nil

/-- A word has at least a distance from all words of a list. -/
def farAll (l : List ByteArray) (w : ByteArray) (d : Int) : Bool := l.all fun o => !decide ((farB o w : Int) < d)
theorem farAll_step {l : List ByteArray} {w : ByteArray} {d : Int} {i : Nat} (h : i < l.length) : farAll (l.drop i) w d = (!decide ((farB l[i] w : Int) < d) && farAll (l.drop (i + 1)) w d) := by
  unfold farAll
  rw [drop_at' h, List.all_cons]
/-- The words that are taken one after the other. -/
def greedyF (d : Int) : List ByteArray → List ByteArray → List ByteArray
  | out, [] => out
  | out, w :: ws => greedyF d (if farAll out w d then out ++ [w] else out) ws
theorem greedyF_step {d : Int} {out l : List ByteArray} {i : Nat} (h : i < l.length) : greedyF d out (l.drop i) = greedyF d (if farAll out l[i] d then out ++ [l[i]] else out) (l.drop (i + 1)) := by
  rw [drop_at' h, greedyF]
theorem greedyF_len (d : Int) : ∀ l out : List ByteArray, (greedyF d out l).length ≤ out.length + l.length
  | [], out => by simp [greedyF]
  | w :: ws, out => by
    rw [greedyF, List.length_cons]
    cases farAll out w d
    · have := greedyF_len d ws out
      simp only [Bool.false_eq_true, if_false]
      omega
    · have := greedyF_len d ws (out ++ [w])
      rw [List.length_append, List.length_singleton] at this
      simp only [if_true]
      omega
theorem greedyF_mem (d : Int) {x : ByteArray} : ∀ l out : List ByteArray, x ∈ greedyF d out l → x ∈ out ∨ x ∈ l
  | [], out, h => .inl h
  | w :: ws, out, h => by
    rw [greedyF] at h
    rcases greedyF_mem d ws _ h with h | h
    · split at h
      · rw [List.mem_append, List.mem_singleton] at h
        rcases h with h | h
        · exact .inl h
        · exact .inr (by simp [h])
      · exact .inl h
    · exact .inr (by simp [h])
def greedyR (g r d : Int) : List ByteArray × Int := if wcode g r d 300 = 0 then (greedyF d [] (allW g.toNat r.toNat), 0) else ([], wcode g r d 300)
theorem greedyR_small (g r d : Int) : SmallS (greedyR g r d).1 := by
  unfold greedyR
  split
  · rename_i h
    have := wcode_zero h
    have hs := allW_small (g := g.toNat) (r := r.toNat) (by omega) (by omega)
    have hl := greedyF_len d (allW g.toNat r.toNat) []
    refine small_of (by have := hs.1; simp at hl; simp; omega) (fun s hm => ?_)
    rcases greedyF_mem d _ _ hm with hm | hm
    · simp at hm
    · rw [allW_size _ s hm]; omega
  · exact small_nil
/-- The first word that is far from all words of a list. -/
def firstFar (l : List ByteArray) (d : Int) : List ByteArray → Option ByteArray
  | [] => none
  | w :: ws => if farAll l w d then some w else firstFar l d ws
theorem firstFar_step {l ws : List ByteArray} {d : Int} {i : Nat} (h : i < ws.length) : firstFar l d (ws.drop i) = if farAll l ws[i] d then some ws[i] else firstFar l d (ws.drop (i + 1)) := by
  rw [drop_at' h, firstFar]
theorem firstFar_mem {l : List ByteArray} {d : Int} {x : ByteArray} : ∀ ws : List ByteArray, firstFar l d ws = some x → x ∈ ws
  | [], h => by simp [firstFar] at h
  | w :: ws, h => by
    rw [firstFar] at h
    split at h
    · simp at h
      simp [h]
    · have := firstFar_mem ws h
      simp [this]
def addedL (l : List ByteArray) (d : Int) (ws : List ByteArray) : List ByteArray × Int :=
  match firstFar l d ws with
  | some w => (l ++ [w], 0)
  | none => ([], 3)
def addR (g : Int) (l : List ByteArray) (d : Int) : List ByteArray × Int :=
  if validA g l then
    if inB d 1 8 then
      if l.length = 0 then ([], 6)
      else if l.length = 40 ∨ 300 < pw g.toNat (strAt l 0).size then ([], 5)
      else addedL l d (allW g.toNat (strAt l 0).size)
    else ([], 2)
  else ([], 1)
theorem addR_small {g d : Int} {l : List ByteArray} (hs : SmallS l) : SmallS (addR g l d).1 := by
  unfold addR
  split
  · rename_i hv
    obtain ⟨h1, h2, h3, h4⟩ := validA_true hv
    split
    · split
      · exact small_nil
      · rename_i hn
        split
        · exact small_nil
        · unfold addedL
          split
          · rename_i w hw
            have hm := firstFar_mem _ hw
            have hz := allW_size _ _ hm
            have h0 := h4 0 (by omega)
            rw [strAt_eq (by omega)] at hz
            refine small_of (by have := hs.1; simp; omega) (fun s hm => ?_)
            rw [List.mem_append, List.mem_singleton] at hm
            rcases hm with hm | rfl
            · obtain ⟨k, hk, rfl⟩ := List.mem_iff_getElem.1 hm
              exact hs.2 k hk
            · omega
          · exact small_nil
    · exact small_nil
  · exact small_nil

end Go.Proofs.YtfhmmebciikgeaaDoor
