/-
  SLICES OF RIDES AND OF INTEGERS, as they lie in memory. No program in sight.
-/
import Derived.Test.YtfhmmebciikgeaaDoorBase
import Derived.Laws.MakeOwn
import Derived.Deep.AppendLies
namespace Go.Proofs.YtfhmmebciikgeaaDoor
open Go.RowKit

/-- 'make([]T, n)' as one equation. -/
theorem run_make_rowN {P : Program} (t e : TypeId) (i : TypeInfo) (z : Value) (ht : P.underlying t = some (.slice e)) (hi : P.info? e = some i) (hz : i.zero = some z)
    (kl kc : IntKind) (n c : Nat) (hnc : n ≤ c) (hbytes : i.bytes * c ≤ 281474976710656) (h63 : c ≤ 9223372036854775807) (w : World) :
    (Instr.makeSlice t (.int kl (n : Int)) (.int kc (c : Int))).run P w = .ok (.slice (some ⟨w.heap.size, 0, none⟩) n c) (w.alloc (.cells (madeCells z.cells (c * i.size)) e)) := by
  have hb : (i.bytes : Int) * (c : Int) ≤ 281474976710656 := by
    have h : ((i.bytes * c : Nat) : Int) ≤ 281474976710656 := by omega
    rwa [Int.natCast_mul] at h
  have hr := run_make (P := P) w t e i z ht hi hz kl kc n c (by omega) (by omega) hb (by omega)
  simp only [Int.toNat_natCast] at hr
  exact hr

/-! ### integers -/
/-- A slice value's address reads as a list of integers. -/
def IntsAt (w : World) (A : Option Addr) (l : List Int) : Prop :=
  0 < l.length → ∃ b o, A = some ⟨b, o, none⟩ ∧ b < w.heap.size ∧ ∀ (k : Nat) (h : k < l.length), w.cell? ⟨b, o + k, none⟩ = some (.int .i64 l[k])
theorem IntsAt.bel {w w' : World} {A : Option Addr} {l : List Int} (h : IntsAt w A l) (hb : Below w.heap.size w w') : IntsAt w' A l := fun h0 => by
  obtain ⟨b, o, e, hlt, hc⟩ := h h0
  exact ⟨b, o, e, Nat.lt_of_lt_of_le hlt hb.size, fun k hk => bel_cell hb (hc k hk)⟩
theorem IntsAt.nil (w : World) (A : Option Addr) : IntsAt w A [] := fun h => absurd h (by simp)
theorem IntsAt.drew {w : World} {A : Option Addr} {l : List Int} (h : IntsAt w A l) : IntsAt w.drew A l := h
theorem IntsAt.drewN {w : World} {A : Option Addr} {l : List Int} (h : IntsAt w A l) (n : Nat) : IntsAt (w.drewN n) A l := h
theorem IntsAt.alloc {w : World} {A : Option Addr} {l : List Int} (h : IntsAt w A l) (o : Obj) : IntsAt (w.alloc o) A l :=
  h.bel ((Below.refl _ _).alloc (Nat.le_refl _) o)
/-- A block of integers, known whole. -/
def ints (l : List Int) : Array Value := (l.map (Value.int .i64)).toArray
theorem IntsAt.ofBlk {w : World} {g : Nat} {t : TypeId} {l : List Int} (h : Blk w g t (ints l)) : IntsAt w (some ⟨g, 0, none⟩) l := fun _ =>
  ⟨g, 0, rfl, h.lt, fun k hk => by rw [Nat.zero_add, h.cell k]; simp [ints, hk]⟩
theorem IntsAt.ofOwn {w : World} {base : Nat} {e : TypeId} {A : Option Addr} {n c : Nat} {l : List Int} (h : w.ownsRow base e 1 (.slice A n c) n (l.map (Value.int .i64))) : IntsAt w A l ∧ l.length = n := by
  have hl : l.length = n := by simpa using h.1
  refine ⟨fun h0 => ?_, hl⟩
  obtain ⟨g, cap, hv, _, hlt⟩ := h.form (by omega)
  have hA : A = some ⟨g, 0, none⟩ := by injection hv
  subst hA
  refine ⟨g, 0, rfl, hlt, fun k hk => ?_⟩
  have := h.cells (g := g) rfl k (.int .i64 l[k]) (by simp [hk])
  simpa [Addr.add_lit] using this

/-- The first i integers of a list stand in a row of cells. -/
def Fill1 (cs : Array Value) (l : List Int) (i : Nat) : Prop := cs.size = l.length ∧ ∀ (k : Nat) (h : k < l.length), k < i → cs[k]? = some (.int .i64 l[k])
theorem Fill1.step {cs : Array Value} {l : List Int} {i : Nat} (h : Fill1 cs l i) (hi : i < l.length) : Fill1 (cs.setIfInBounds i (.int .i64 l[i])) l (i + 1) := by
  have hs := h.1
  refine ⟨by simpa using hs, fun k hk hki => ?_⟩
  by_cases e : k = i
  · subst e
    simp [Array.getElem?_setIfInBounds]
    omega
  · rw [Array.getElem?_setIfInBounds_ne (by omega)]; exact h.2 k hk (by omega)
theorem Fill1.all {cs : Array Value} {l : List Int} (h : Fill1 cs l l.length) : cs = ints l := by
  apply Array.ext
  · rw [h.1]; simp [ints]
  · intro i h1 h2
    have hk : i < l.length := by rw [← h.1]; exact h1
    have := h.2 i hk hk
    rw [Array.getElem?_eq_getElem h1] at this
    rw [Option.some.inj this]
    simp [ints]
/-- The call returns a new slice that reads as a list of integers. -/
def Made1 (w : World) (t : TypeId) (l : List Int) (n : Nat) (e : Ending) (w' : World) : Prop :=
  ∃ g, e = .returned (.slice (some ⟨g, 0, none⟩) n n) ∧ w.heap.size ≤ g ∧ Hid (Blk w' g t (ints l)) ∧ Below w.heap.size w w'
theorem drop_at' {α : Type} {l : List α} {i : Nat} (h : i < l.length) : l.drop i = l[i] :: l.drop (i + 1) := List.drop_eq_getElem_cons h

theorem own_form {w : World} {base : Nat} {e : TypeId} {size : Nat} {v : Value} {n : Nat} {xs : List Value} (h : w.ownsRow base e size v n xs) : ∃ A c, v = .slice A n c := by
  rcases h.2 with ⟨rfl, rfl⟩ | ⟨g, cap, cur, rfl, _⟩
  · exact ⟨none, 0, rfl⟩
  · exact ⟨_, cap, rfl⟩
/-- The call returns a slice of its own that reads as a list of integers. -/
def MadeI (w : World) (t : TypeId) (xs : List Int) (e : Ending) (w' : World) : Prop :=
  ∃ A c, e = .returned (.slice A xs.length c) ∧ w'.ownsRow w.heap.size t 1 (.slice A xs.length c) xs.length (xs.map (Value.int .i64)) ∧ Below w.heap.size w w'

/-! ### rides -/
abbrev Rd := Int × Int × Int × Int
/-- The four cells of a ride at an address. -/
structure At4 (w : World) (b o : Nat) (r : Rd) : Prop where
  c0 : w.cell? ⟨b, o, none⟩ = some (.int .i64 r.1)
  c1 : w.cell? ⟨b, o + 1, none⟩ = some (.int .i64 r.2.1)
  c2 : w.cell? ⟨b, o + 2, none⟩ = some (.int .i64 r.2.2.1)
  c3 : w.cell? ⟨b, o + 3, none⟩ = some (.int .i64 r.2.2.2)
theorem At4.bel {w w' : World} {b o : Nat} {r : Rd} (h : At4 w b o r) (hb : Below w.heap.size w w') : At4 w' b o r := ⟨bel_cell hb h.c0, bel_cell hb h.c1, bel_cell hb h.c2, bel_cell hb h.c3⟩
theorem At4.drew {w : World} {b o : Nat} {r : Rd} (h : At4 w b o r) : At4 w.drew b o r := ⟨h.c0, h.c1, h.c2, h.c3⟩
def RidesAt (w : World) (A : Option Addr) (l : List Rd) : Prop :=
  0 < l.length → ∃ b o, A = some ⟨b, o, none⟩ ∧ b < w.heap.size ∧ ∀ (k : Nat) (h : k < l.length), At4 w b (o + k * 4) l[k]
theorem RidesAt.bel {w w' : World} {A : Option Addr} {l : List Rd} (h : RidesAt w A l) (hb : Below w.heap.size w w') : RidesAt w' A l := fun h0 => by
  obtain ⟨b, o, e, hlt, hc⟩ := h h0
  exact ⟨b, o, e, Nat.lt_of_lt_of_le hlt hb.size, fun k hk => (hc k hk).bel hb⟩
theorem RidesAt.drew {w : World} {A : Option Addr} {l : List Rd} (h : RidesAt w A l) : RidesAt w.drew A l := h.bel (Below.refl _ _).drew
theorem RidesAt.drewN {w : World} {A : Option Addr} {l : List Rd} (h : RidesAt w A l) (n : Nat) : RidesAt (w.drewN n) A l := h.bel (below_drewN (Below.refl _ _) n)
theorem RidesAt.alloc {w : World} {A : Option Addr} {l : List Rd} (h : RidesAt w A l) (o : Obj) : RidesAt (w.alloc o) A l :=
  h.bel ((Below.refl _ _).alloc (Nat.le_refl _) o)
/-- The first i rides of a list stand in a row of cells. -/
def Fill4 (cs : Array Value) (l : List Rd) (i : Nat) : Prop :=
  cs.size = l.length * 4 ∧ ∀ (k : Nat) (h : k < l.length), k < i → cs[k * 4]? = some (.int .i64 l[k].1) ∧ cs[k * 4 + 1]? = some (.int .i64 l[k].2.1) ∧ cs[k * 4 + 2]? = some (.int .i64 l[k].2.2.1) ∧ cs[k * 4 + 3]? = some (.int .i64 l[k].2.2.2)
theorem Fill4.step {cs : Array Value} {l : List Rd} {i : Nat} (h : Fill4 cs l i) (hi : i < l.length) :
    Fill4 ((((cs.setIfInBounds (i * 4) (.int .i64 l[i].1)).setIfInBounds (i * 4 + 1) (.int .i64 l[i].2.1)).setIfInBounds (i * 4 + 2) (.int .i64 l[i].2.2.1)).setIfInBounds (i * 4 + 3) (.int .i64 l[i].2.2.2)) l (i + 1) := by
  have hs := h.1
  refine ⟨by simpa using hs, fun k hk hki => ?_⟩
  by_cases e : k = i
  · subst e
    have g3 : k * 4 + 3 < cs.size := by omega
    refine ⟨?_, ?_, ?_, ?_⟩ <;> simp [Array.getElem?_setIfInBounds] <;> omega
  · obtain ⟨a, b, c, d⟩ := h.2 k hk (by omega)
    refine ⟨?_, ?_, ?_, ?_⟩
    · rw [Array.getElem?_setIfInBounds_ne (by omega), Array.getElem?_setIfInBounds_ne (by omega), Array.getElem?_setIfInBounds_ne (by omega), Array.getElem?_setIfInBounds_ne (by omega)]; exact a
    · rw [Array.getElem?_setIfInBounds_ne (by omega), Array.getElem?_setIfInBounds_ne (by omega), Array.getElem?_setIfInBounds_ne (by omega), Array.getElem?_setIfInBounds_ne (by omega)]; exact b
    · rw [Array.getElem?_setIfInBounds_ne (by omega), Array.getElem?_setIfInBounds_ne (by omega), Array.getElem?_setIfInBounds_ne (by omega), Array.getElem?_setIfInBounds_ne (by omega)]; exact c
    · rw [Array.getElem?_setIfInBounds_ne (by omega), Array.getElem?_setIfInBounds_ne (by omega), Array.getElem?_setIfInBounds_ne (by omega), Array.getElem?_setIfInBounds_ne (by omega)]; exact d
/-- A block that holds just a list of rides. -/
def RB (w : World) (g : Nat) (t : TypeId) (l : List Rd) : Prop := ∃ cs, Blk w g t cs ∧ Fill4 cs l l.length
theorem RB.bel {w w' : World} {g : Nat} {t : TypeId} {l : List Rd} (h : RB w g t l) (hb : Below w.heap.size w w') : RB w' g t l := by
  obtain ⟨cs, a, b⟩ := h
  exact ⟨cs, bel_blk a hb, b⟩
theorem RB.rides {w : World} {g : Nat} {t : TypeId} {l : List Rd} (h : RB w g t l) : RidesAt w (some ⟨g, 0, none⟩) l := fun _ => by
  obtain ⟨cs, a, b⟩ := h
  refine ⟨g, 0, rfl, a.lt, fun k hk => ?_⟩
  obtain ⟨x0, x1, x2, x3⟩ := b.2 k hk hk
  rw [Nat.zero_add]
  exact ⟨(a.cell _).trans x0, (a.cell _).trans x1, (a.cell _).trans x2, (a.cell _).trans x3⟩
/-- Four cells of a block, and that they may be written. -/
theorem Blk.at4 {w : World} {g n k : Nat} {t : TypeId} {cs : Array Value} (h : Blk w g t cs) (hs : cs.size = n * 4) (hk : k < n) :
    ∃ a b c d, w.cell? ⟨g, k * 4, none⟩ = some a ∧ w.cell? ⟨g, k * 4 + 1, none⟩ = some b ∧ w.cell? ⟨g, k * 4 + 2, none⟩ = some c ∧ w.cell? ⟨g, k * 4 + 3, none⟩ = some d ∧
      w.frozen? ⟨g, k * 4, none⟩ = false ∧ w.frozen? ⟨g, k * 4 + 1, none⟩ = false ∧ w.frozen? ⟨g, k * 4 + 2, none⟩ = false ∧ w.frozen? ⟨g, k * 4 + 3, none⟩ = false := by
  refine ⟨cs[k * 4]'(by omega), cs[k * 4 + 1]'(by omega), cs[k * 4 + 2]'(by omega), cs[k * 4 + 3]'(by omega), ?_, ?_, ?_, ?_, h.frozen _, h.frozen _, h.frozen _, h.frozen _⟩ <;> rw [h.cell] <;> exact Array.getElem?_eq_getElem _

/-- The call returns a new slice that reads as a list of rides. -/
def Made4 (w : World) (t : TypeId) (l : List Rd) (n : Nat) (e : Ending) (w' : World) : Prop :=
  ∃ g, e = .returned (.slice (some ⟨g, 0, none⟩) n n) ∧ w.heap.size ≤ g ∧ RB w' g t l ∧ Below w.heap.size w w'
/-- What is left of a bulk behind n elements; -1 where it is too little. -/
def szF (left : Int) (n : Nat) : Int := if left < n then -1 else left - n

end Go.Proofs.YtfhmmebciikgeaaDoor
