/-
  SLICES OF STRINGS, as they lie in memory, and the contracts of the laws' own helpers on them.
-/
import Derived.Test.YtfhmmebciikgeaaDoorNum
import Derived.Test.YtfhmmebciikgeaaDoorAid
import Derived.Test.YtfhmmebciikgeaaDoorFrame
import Derived.SliceStrings
namespace Go.Proofs.YtfhmmebciikgeaaDoor
open Go.ChangeShapes Go.WideShapes Go.ChangeAt Go.RowKit Go.Joins Go.Deep
open Go.ChangeMaps (open_string shut_string)

def StrsAt (w : World) (A : Option Addr) (l : List ByteArray) : Prop :=
  0 < l.length → ∃ b o, A = some ⟨b, o, none⟩ ∧ b < w.heap.size ∧ ∀ (k : Nat) (h : k < l.length), w.cell? ⟨b, o + k, none⟩ = some (.string l[k])
theorem StrsAt.bel {w w' : World} {A : Option Addr} {l : List ByteArray} (h : StrsAt w A l) (hb : Below w.heap.size w w') : StrsAt w' A l := fun h0 => by
  obtain ⟨b, o, e, hlt, hc⟩ := h h0
  exact ⟨b, o, e, Nat.lt_of_lt_of_le hlt hb.size, fun k hk => bel_cell hb (hc k hk)⟩
theorem StrsAt.drew {w : World} {A : Option Addr} {l : List ByteArray} (h : StrsAt w A l) : StrsAt w.drew A l := h
theorem StrsAt.drewN {w : World} {A : Option Addr} {l : List ByteArray} (h : StrsAt w A l) (n : Nat) : StrsAt (w.drewN n) A l := h
theorem StrsAt.alloc {w : World} {A : Option Addr} {l : List ByteArray} (h : StrsAt w A l) (o : Obj) : StrsAt (w.alloc o) A l := h.bel ((Below.refl _ _).alloc (Nat.le_refl _) o)
def strB (l : List ByteArray) : Array Value := (l.map Value.string).toArray
theorem StrsAt.ofBlk {w : World} {g : Nat} {t : TypeId} {l : List ByteArray} (h : Blk w g t (strB l)) : StrsAt w (some ⟨g, 0, none⟩) l := fun _ =>
  ⟨g, 0, rfl, h.lt, fun k hk => by rw [Nat.zero_add, h.cell k]; simp [strB, hk]⟩

def szT : Int → List ByteArray → Int
  | z, [] => z
  | z, r :: rs => if z < r.size then -1 else szT (z - r.size) rs
def szStrs (left : Int) (l : List ByteArray) : Int := if left < l.length then -1 else szT (left - l.length) l
def SmallS (l : List ByteArray) : Prop := l.length ≤ 1048576 ∧ ∀ (k : Nat) (h : k < l.length), l[k].size ≤ 1048576
theorem szT_ok : ∀ (l : List ByteArray) (z y : Int), 0 ≤ z → z ≤ 1048576 → szT z l = y → 0 ≤ y → y ≤ 1048576 ∧ ∀ (k : Nat) (h : k < l.length), l[k].size ≤ 1048576
  | [], z, y, h0, h1, h, _ => ⟨by rw [← h, szT]; exact h1, fun k hk => absurd hk (by simp)⟩
  | r :: rs, z, y, h0, h1, h, hy => by
    rw [szT] at h
    split at h
    · omega
    · obtain ⟨h2, h3⟩ := szT_ok rs _ y (by omega) (by omega) h hy
      refine ⟨h2, fun k hk => ?_⟩
      cases k with
      | zero => show r.size ≤ _; omega
      | succ k => exact h3 k (by simpa using hk)
theorem szStrs_ok {left z : Int} {l : List ByteArray} (h0 : 0 ≤ left) (h1 : left ≤ 1048576) (h : szStrs left l = z) : 0 ≤ z → z ≤ 1048576 ∧ l.length ≤ 1048576 ∧ SmallS l := by
  intro hz
  unfold szStrs at h
  split at h
  · omega
  · obtain ⟨h2, h3⟩ := szT_ok l _ z (by omega) (by omega) h hz
    exact ⟨h2, by omega, by omega, h3⟩
theorem szT_step {z : Int} {l : List ByteArray} {i : Nat} (h : i < l.length) : szT z (l.drop i) = if z < l[i].size then -1 else szT (z - l[i].size) (l.drop (i + 1)) := by
  rw [drop_at' h, szT]

def StrsArg (w : World) (A : Option Addr) (n : Nat) (zs : List ByteArray) : Prop := zs.length = n ∧ (StrsAt w A zs ∧ ∀ (k : Nat) (h : k < zs.length), zs[k].size ≤ 9223372036854775807) ∧ n ≤ 9223372036854775807

theorem info_string : (Tryd.prog.info? 9).map (fun i => (i.zero, i.size, i.bytes)) = some (some (.string ByteArray.empty), 1, 16) := by kernel_rfl
/-- The first i strings of a list stand in a row of cells. -/
def FillS (cs : Array Value) (l : List ByteArray) (i : Nat) : Prop := cs.size = l.length ∧ ∀ (k : Nat) (h : k < l.length), k < i → cs[k]? = some (.string l[k])
theorem FillS.step {cs : Array Value} {l : List ByteArray} {i : Nat} (h : FillS cs l i) (hi : i < l.length) : FillS (cs.setIfInBounds i (.string l[i])) l (i + 1) := by
  have hs := h.1
  refine ⟨by simpa using hs, fun k hk hki => ?_⟩
  by_cases e : k = i
  · subst e
    simp [Array.getElem?_setIfInBounds]
    omega
  · rw [Array.getElem?_setIfInBounds_ne (by omega)]; exact h.2 k hk (by omega)
theorem FillS.all {cs : Array Value} {l : List ByteArray} (h : FillS cs l l.length) : cs = strB l := by
  apply Array.ext
  · rw [h.1]; simp [strB]
  · intro i h1 h2
    have hk : i < l.length := by rw [← h.1]; exact h1
    have := h.2 i hk hk
    rw [Array.getElem?_eq_getElem h1] at this
    rw [Option.some.inj this]
    simp [strB]
def MadeS (w : World) (t : TypeId) (l : List ByteArray) (n : Nat) (e : Ending) (w' : World) : Prop :=
  ∃ g, e = .returned (.slice (some ⟨g, 0, none⟩) n n) ∧ w.heap.size ≤ g ∧ Hid (Blk w' g t (strB l)) ∧ Below w.heap.size w w'

section
variable {H : Type} {enc : TypeId × Value → H} {P : Program} {w : World} {base : Nat} {spare : Nat → Bool} {held : Bool} {r : Reach} {b0 : Nat} {t e : TypeId} {v : Value} {d : DataW H} {p : List MemPlace}
theorem isStrings (ht : P.underlying t = some (.slice e)) (he : P.underlying e = some .string) (hC : P.cellsOf e = 1)
    (hv : Value.okWide P w r b0 t v) (h : DataW.Trod enc P w base spare held t v d p) : ∃ A n c zs, v = .slice A n c ∧ StrsArg w A n zs := by
  obtain ⟨A, len, cap, rfl⟩ := okWide_slice ht hv
  obtain ⟨fuel, hf⟩ := h
  rcases open_strings ht he hC hf with ⟨h0, _⟩ | ⟨a, len', cap', ss, hcs, _, hl, hm, hz, _, hcell, hsz⟩
  · simp [Value.cells] at h0
    obtain ⟨rfl, rfl, rfl⟩ := h0
    exact ⟨none, 0, 0, [], rfl, rfl, ⟨fun h => absurd h (by simp), fun k hk => absurd hk (by simp)⟩, by omega⟩
  · simp [Value.cells] at hcs
    obtain ⟨rfl, rfl, rfl⟩ := hcs
    have hlen : len ≤ ss.length := by rw [hz]; split <;> omega
    refine ⟨some a, len, cap, ss.take len, rfl, by simp; omega, ⟨fun h0 => ?_, fun k hk => ?_⟩, by unfold maxLen at hm; omega⟩
    · have hpos : 0 < len := by simp at h0; omega
      have h00 := hcell 0 (by omega)
      obtain ⟨b, o, rfl⟩ := addr_form h00
      refine ⟨b, o, rfl, World.block_lt_of_cell? (a := ⟨b, o, none⟩) w (by simpa [Addr.add_lit] using h00), fun k hk => ?_⟩
      have hk' : k < len := by simp at hk; omega
      have hc := hcell k (by omega)
      rw [Addr.add_lit] at hc
      rw [hc]
      simp [List.getD, show k < ss.length by omega]
    · have hk' : k < len := by simp at hk; omega
      have := hsz (ss[k]'(by omega)) (List.getElem_mem _)
      rw [List.getElem_take]
      unfold maxLen at this
      omega
end

end Go.Proofs.YtfhmmebciikgeaaDoor
