/-
  PLAIN LAW: the spans of a run, as lists and as they lie in memory; the first runs that meet.
-/
import Derived.Test.YtlebkjkiikehhaaRunOne
import Derived.Test.YtlebkjkiikehhaaOwnU
import Derived.Test.YtlebkjkiikehhaaMadeI
namespace Go.Proofs.Ytlebkjkiikehhaa
open Go.RowKit

/-- A tube, when a run enters it, and when it leaves it. -/
abbrev Sp := Int × Int × Int
def spF (ts : List Int) : Int → List Int → List Sp
  | _, [] => []
  | a, x :: xs => (x, a, a + ts.getD x.toNat 0) :: spF ts (a + ts.getD x.toNat 0) xs
def spR (ts : List Int) (r : Rn) : List Sp := spF ts r.2 r.1
theorem spF_len (ts : List Int) : ∀ (xs : List Int) (a : Int), (spF ts a xs).length = xs.length
  | [], _ => rfl
  | x :: xs, a => by rw [spF, List.length_cons, spF_len ts xs, List.length_cons]
theorem spF_step {ts l : List Int} {a : Int} {i : Nat} (h : i < l.length) : spF ts a (l.drop i) = (l[i], a, a + ts.getD l[i].toNat 0) :: spF ts (a + ts.getD l[i].toNat 0) (l.drop (i + 1)) := by rw [drop_at' h, spF]
theorem spF_tube (ts : List Int) : ∀ (xs : List Int) (a : Int) (k : Nat) (h : k < (spF ts a xs).length), ((spF ts a xs)[k]).1 = xs.getD k 0
  | [], _, k, h => by simp [spF] at h
  | x :: xs, a, 0, _ => by simp [spF]
  | x :: xs, a, k + 1, h => by
    simp only [spF, List.getElem_cons_succ]
    rw [spF_tube ts xs _ k]
    simp
/-- All ticks are small. -/
def SpOk (l : List Sp) : Prop := ∀ (k : Nat) (h : k < l.length), 0 ≤ (l[k]).2.1 ∧ (l[k]).2.1 ≤ 200000 ∧ 0 ≤ (l[k]).2.2 ∧ (l[k]).2.2 ≤ 200000
def sp3 (s : Sp) : List Value := [.int .i64 s.1, .int .i64 s.2.1, .int .i64 s.2.2]
def cells3 : List Sp → List Value
  | [] => []
  | s :: ss => .int .i64 s.1 :: .int .i64 s.2.1 :: .int .i64 s.2.2 :: cells3 ss
theorem cells3_len : ∀ l : List Sp, (cells3 l).length = l.length * 3
  | [] => rfl
  | s :: ss => by simp only [cells3, List.length_cons, cells3_len ss]; omega
theorem cells3_append : ∀ l m : List Sp, cells3 (l ++ m) = cells3 l ++ cells3 m
  | [], _ => rfl
  | s :: ss, m => by simp only [cells3, List.cons_append, cells3_append ss m]
theorem cells3_at : ∀ (l : List Sp) (k : Nat) (h : k < l.length), (cells3 l)[k * 3]? = some (.int .i64 (l[k]).1) ∧ (cells3 l)[k * 3 + 1]? = some (.int .i64 (l[k]).2.1) ∧ (cells3 l)[k * 3 + 2]? = some (.int .i64 (l[k]).2.2)
  | s :: ss, 0, _ => ⟨rfl, rfl, rfl⟩
  | s :: ss, k + 1, h => by
    have h1 := cells3_at ss k (by simpa using h)
    have e : (k + 1) * 3 = k * 3 + 3 := by omega
    rw [e]
    exact h1
/-- A slice of spans, each of three cells. -/
def SpAt (w : World) (A : Option Addr) (l : List Sp) : Prop :=
  0 < l.length → ∃ b o, A = some ⟨b, o, none⟩ ∧ b < w.heap.size ∧ ∀ (k : Nat) (h : k < l.length), w.cell? ⟨b, o + k * 3, none⟩ = some (.int .i64 (l[k]).1) ∧ w.cell? ⟨b, o + k * 3 + 1, none⟩ = some (.int .i64 (l[k]).2.1) ∧ w.cell? ⟨b, o + k * 3 + 2, none⟩ = some (.int .i64 (l[k]).2.2)
theorem SpAt.bel {w w' : World} {A : Option Addr} {l : List Sp} (h : SpAt w A l) (hb : Below w.heap.size w w') : SpAt w' A l := fun h0 => by
  obtain ⟨b, o, e, hlt, hc⟩ := h h0
  exact ⟨b, o, e, Nat.lt_of_lt_of_le hlt hb.size, fun k hk => ⟨bel_cell hb (hc k hk).1, bel_cell hb (hc k hk).2.1, bel_cell hb (hc k hk).2.2⟩⟩
theorem SpAt.drew {w : World} {A : Option Addr} {l : List Sp} (h : SpAt w A l) : SpAt w.drew A l := h
theorem SpAt.alloc {w : World} {A : Option Addr} {l : List Sp} (h : SpAt w A l) (o : Obj) : SpAt (w.alloc o) A l := h.bel ((Below.refl _ _).alloc (Nat.le_refl _) o)
theorem SpAt.ofOwn {w : World} {base : Nat} {e : TypeId} {A : Option Addr} {c : Nat} {l : List Sp} (h : w.ownsRow base e 3 (.slice A l.length c) l.length (cells3 l)) : SpAt w A l := fun h0 => by
  obtain ⟨g, cap, hv, _, hlt⟩ := h.form h0
  have hA : A = some ⟨g, 0, none⟩ := by injection hv
  subst hA
  refine ⟨g, 0, rfl, hlt, fun k hk => ?_⟩
  obtain ⟨h1, h2, h3⟩ := cells3_at l k hk
  have g1 := h.cells (g := g) rfl _ _ h1
  have g2 := h.cells (g := g) rfl _ _ h2
  have g3 := h.cells (g := g) rfl _ _ h3
  simp only [Addr.add_lit] at g1 g2 g3
  exact ⟨g1, by simpa [Nat.add_assoc] using g2, by simpa [Nat.add_assoc] using g3⟩
/-- A slice of slices of three numbers each. -/
def SpssAt (w : World) (A : Option Addr) (l : List Sp) : Prop :=
  0 < l.length → ∃ b o, A = some ⟨b, o, none⟩ ∧ b < w.heap.size ∧ ∀ (k : Nat) (h : k < l.length), ∃ g, w.cell? ⟨b, o + k, none⟩ = some (.slice (some ⟨g, 0, none⟩) 3 3) ∧ w.cell? ⟨g, 0, none⟩ = some (.int .i64 (l[k]).1) ∧ w.cell? ⟨g, 1, none⟩ = some (.int .i64 (l[k]).2.1) ∧ w.cell? ⟨g, 2, none⟩ = some (.int .i64 (l[k]).2.2)
theorem SpssAt.bel {w w' : World} {A : Option Addr} {l : List Sp} (h : SpssAt w A l) (hb : Below w.heap.size w w') : SpssAt w' A l := fun h0 => by
  obtain ⟨b, o, e, hlt, hc⟩ := h h0
  exact ⟨b, o, e, Nat.lt_of_lt_of_le hlt hb.size, fun k hk => by obtain ⟨g, h1, h2, h3, h4⟩ := hc k hk; exact ⟨g, bel_cell hb h1, bel_cell hb h2, bel_cell hb h3, bel_cell hb h4⟩⟩
/-- The blocks of the inner slices, in order. -/
def sliceV (gs : List Nat) : List Value := gs.map fun g => .slice (some ⟨g, 0, none⟩) 3 3
/-- A slice of slices of one's own. -/
def OwnSS (w : World) (base : Nat) (tr t : TypeId) (A : Option Addr) (c : Nat) (l : List Sp) : Prop :=
  ∃ gs : List Nat, gs.length = l.length ∧ w.ownsRow base tr 1 (.slice A l.length c) l.length (sliceV gs) ∧ ∀ (k : Nat) (h : k < l.length) (h' : k < gs.length), base ≤ gs[k] ∧ Blk w gs[k] t (sp3 l[k]).toArray
theorem OwnSS.at {w : World} {base : Nat} {tr t : TypeId} {A : Option Addr} {c : Nat} {l : List Sp} (h : OwnSS w base tr t A c l) : SpssAt w A l := fun h0 => by
  obtain ⟨gs, hl, ho, hb⟩ := h
  obtain ⟨g, cap, hv, _, hlt⟩ := ho.form h0
  have hA : A = some ⟨g, 0, none⟩ := by injection hv
  subst hA
  refine ⟨g, 0, rfl, hlt, fun k hk => ?_⟩
  have hk' : k < gs.length := by omega
  obtain ⟨-, hB⟩ := hb k hk hk'
  have g1 := ho.cells (g := g) rfl k (.slice (some ⟨gs[k], 0, none⟩) 3 3) (by simp [sliceV, hk'])
  refine ⟨gs[k], by simpa [Addr.add_lit] using g1, ?_, ?_, ?_⟩ <;> rw [hB.cell] <;> simp [sp3]
theorem own_belS {w w' : World} {base n size : Nat} {t : TypeId} {v : Value} {xs : List Value} (h : w.ownsRow base t size v n xs) (hb : Below w.heap.size w w') : w'.ownsRow base t size v n xs := by
  refine ⟨h.1, ?_⟩
  rcases h.2 with hn | ⟨g, cap, cur, hv, hg, hB, rest⟩
  · exact .inl hn
  · exact .inr ⟨g, cap, cur, hv, hg, bel_blk (t := t) hB hb, rest⟩
theorem OwnSS.bel {w w' : World} {base : Nat} {tr t : TypeId} {A : Option Addr} {c : Nat} {l : List Sp} (h : OwnSS w base tr t A c l) (hb : Below w.heap.size w w') : OwnSS w' base tr t A c l := by
  obtain ⟨gs, hl, ho, hk⟩ := h
  exact ⟨gs, hl, own_belS ho hb, fun k h1 h2 => ⟨(hk k h1 h2).1, bel_blk (hk k h1 h2).2 hb⟩⟩

def meetB (s o : Sp) : Bool := decide (s.1 = o.1) && (decide (s.2.1 < o.2.2) && decide (o.2.1 < s.2.2))
def anyM (s : Sp) (b : List Sp) : Bool := b.any (meetB s)
theorem anyM_step {s : Sp} {b : List Sp} {i : Nat} (h : i < b.length) : anyM s (b.drop i) = (meetB s b[i] || anyM s (b.drop (i + 1))) := by
  unfold anyM
  rw [drop_at' h, List.any_cons]
/-- The first span that meets one of others. -/
def meetF (b : List Sp) : List Sp → Nat → Option Nat
  | [], _ => none
  | s :: ss, i => if anyM s b then some i else meetF b ss (i + 1)
theorem meetF_step {b l : List Sp} {i : Nat} (h : i < l.length) : meetF b (l.drop i) i = if anyM l[i] b then some i else meetF b (l.drop (i + 1)) (i + 1) := by rw [drop_at' h, meetF]
def meetP (ts : List Int) (r o : Rn) : Option Nat := meetF (spR ts o) (spR ts r) 0
theorem meetF_lt {b : List Sp} {x : Nat} : ∀ (l : List Sp) (i : Nat), meetF b l i = some x → i ≤ x ∧ x < i + l.length
  | [], i, h => by simp [meetF] at h
  | s :: ss, i, h => by
    rw [meetF] at h
    split at h
    · simp at h; simp; omega
    · have := meetF_lt ss (i + 1) h
      simp; omega
theorem meetP_lt {ts : List Int} {r o : Rn} {x : Nat} (h : meetP ts r o = some x) : x < r.1.length := by
  have := meetF_lt _ _ h
  unfold spR at this
  rw [spF_len] at this
  omega
def rowM (ts : List Int) (r : Rn) (i : Nat) : List Rn → Nat → Option (Int × Int × Int)
  | [], _ => none
  | o :: os, k => match meetP ts r o with
    | some x => some (i, k, r.1.getD x 0)
    | none => rowM ts r i os (k + 1)
def outM (ts : List Int) (l : List Rn) : List Rn → Nat → Option (Int × Int × Int)
  | [], _ => none
  | r :: rs, i => match rowM ts r i (l.take i) 0 with
    | some t => some t
    | none => outM ts l rs (i + 1)
theorem rowM_some {ts : List Int} {r : Rn} {i k x : Nat} {l : List Rn} (h : k < l.length) (hm : meetP ts r l[k] = some x) : rowM ts r i (l.drop k) k = some ((i : Int), (k : Int), r.1.getD x 0) := by rw [drop_at' h, rowM, hm]
theorem rowM_none {ts : List Int} {r : Rn} {i k : Nat} {l : List Rn} (h : k < l.length) (hm : meetP ts r l[k] = none) : rowM ts r i (l.drop k) k = rowM ts r i (l.drop (k + 1)) (k + 1) := by rw [drop_at' h, rowM, hm]
theorem outM_some {ts : List Int} {l : List Rn} {i : Nat} {t : Int × Int × Int} (h : i < l.length) (hm : rowM ts l[i] i (l.take i) 0 = some t) : outM ts l (l.drop i) i = some t := by rw [drop_at' h, outM, hm]
theorem outM_none {ts : List Int} {l : List Rn} {i : Nat} (h : i < l.length) (hm : rowM ts l[i] i (l.take i) 0 = none) : outM ts l (l.drop i) i = outM ts l (l.drop (i + 1)) (i + 1) := by rw [drop_at' h, outM, hm]
def fin4 : Option (Int × Int × Int) → Int × Int × Int × Int
  | some (a, b, c) => (a, b, c, 0)
  | none => (0, 0, 0, 3)
def firstR (ts : List Int) (l : List Rn) : Int × Int × Int × Int :=
  if runsOk ts l then fin4 (outM ts l l 0) else (0, 0, 0, 1)
def spansR (ts : List Int) (r : Rn) : List Sp × Int := if runsOk ts [r] then (spR ts r, 0) else ([], 1)

end Go.Proofs.Ytlebkjkiikehhaa
