/-
  SLICES OF SLICES OF INTEGERS, as they lie in memory, and the contracts of the laws' own helpers on them.
-/
import Derived.Test.YthkfdpicacaphaaIntS
import Derived.Test.YthkfdpicacaphaaAid
import Derived.Test.YthkfdpicacaphaaFrame
namespace Go.Proofs.Ythkfdpicacaphaa
open Go.ChangeShapes Go.WideShapes Go.ChangeAt Go.RowKit Go.Joins Go.Deep

/-- A slice of integers in a cell. -/
def RowAt (w : World) (b o : Nat) (r : List Int) : Prop :=
  ∃ A c, w.cell? ⟨b, o, none⟩ = some (.slice A r.length c) ∧ IntsAt w A r ∧ r.length ≤ 9223372036854775807
theorem RowAt.bel {w w' : World} {b o : Nat} {r : List Int} (h : RowAt w b o r) (hb : Below w.heap.size w w') : RowAt w' b o r := by
  obtain ⟨A, c, h1, h3, h4⟩ := h
  exact ⟨A, c, bel_cell hb h1, h3.bel hb, h4⟩
def IntssAt (w : World) (A : Option Addr) (l : List (List Int)) : Prop :=
  0 < l.length → ∃ b o, A = some ⟨b, o, none⟩ ∧ b < w.heap.size ∧ ∀ (k : Nat) (h : k < l.length), RowAt w b (o + k) l[k]
theorem IntssAt.bel {w w' : World} {A : Option Addr} {l : List (List Int)} (h : IntssAt w A l) (hb : Below w.heap.size w w') : IntssAt w' A l := fun h0 => by
  obtain ⟨b, o, e, hlt, hc⟩ := h h0
  exact ⟨b, o, e, Nat.lt_of_lt_of_le hlt hb.size, fun k hk => (hc k hk).bel hb⟩
theorem IntssAt.drew {w : World} {A : Option Addr} {l : List (List Int)} (h : IntssAt w A l) : IntssAt w.drew A l := h.bel (Below.refl _ _).drew
theorem IntssAt.alloc {w : World} {A : Option Addr} {l : List (List Int)} (h : IntssAt w A l) (o : Obj) : IntssAt (w.alloc o) A l := h.bel ((Below.refl _ _).alloc (Nat.le_refl _) o)

/-- What is left of the size. -/
def szL : Int → List (List Int) → Int
  | z, [] => z
  | z, r :: rs => if z < r.length then -1 else szL (z - r.length) rs
def szIntss (left : Int) (l : List (List Int)) : Int := if left < l.length then -1 else szL (left - l.length) l
def SmallI (l : List (List Int)) : Prop := l.length ≤ 1048576 ∧ ∀ (k : Nat) (h : k < l.length), l[k].length ≤ 1048576
theorem szL_ok : ∀ (l : List (List Int)) (z y : Int), 0 ≤ z → z ≤ 1048576 → szL z l = y → 0 ≤ y → y ≤ 1048576 ∧ ∀ (k : Nat) (h : k < l.length), l[k].length ≤ 1048576
  | [], z, y, h0, h1, h, _ => ⟨by rw [← h, szL]; exact h1, fun k hk => absurd hk (by simp)⟩
  | r :: rs, z, y, h0, h1, h, hy => by
    rw [szL] at h
    split at h
    · omega
    · obtain ⟨h2, h3⟩ := szL_ok rs _ y (by omega) (by omega) h hy
      refine ⟨h2, fun k hk => ?_⟩
      cases k with
      | zero => show r.length ≤ _; omega
      | succ k => exact h3 k (by simpa using hk)
theorem szIntss_ok {left z : Int} {l : List (List Int)} (h0 : 0 ≤ left) (h1 : left ≤ 1048576) (h : szIntss left l = z) : 0 ≤ z → z ≤ 1048576 ∧ l.length ≤ 1048576 ∧ SmallI l := by
  intro hz
  unfold szIntss at h
  split at h
  · omega
  · obtain ⟨h2, h3⟩ := szL_ok l _ z (by omega) (by omega) h hz
    exact ⟨h2, by omega, by omega, h3⟩
theorem szL_step {z : Int} {l : List (List Int)} {i : Nat} (h : i < l.length) : szL z (l.drop i) = if z < l[i].length then -1 else szL (z - l[i].length) (l.drop (i + 1)) := by
  rw [drop_at' h, szL]

theorem szInt64S_any (A : Option Addr) (n c : Nat) (left : Int) (w : World) (h0 : 0 ≤ left) (h1 : left ≤ 1048576) (hn : n ≤ 9223372036854775807) :
    Calls Try.prog 57 #[.slice A n c, .int .i64 left] w (Ret0 w (.int .i64 (szF left n))) := by
  by_cases h : left < n
  · have E := Lib.hid (show szF left n = -1 by unfold szF; rw [if_pos h])
    go_enter Try.func57, Try.ntmps57
    go_wp2
    go_ret
    exact ⟨ret_int E.out.symm, rfl⟩
  · have E := Lib.hid (show szF left n = left - n by unfold szF; rw [if_neg h])
    go_enter Try.func57, Try.ntmps57
    go_wp2
    go_ret
    exact ⟨ret_int E.out.symm, rfl⟩

set_option maxHeartbeats 1000000 in
theorem szInt64SS_any (A : Option Addr) (n c : Nat) (l : List (List Int)) (left : Int) (w : World) (h0 : 0 ≤ left) (h1 : left ≤ 1048576) (hn : n ≤ 9223372036854775807) (h : IntssAt w A l) (hl : n = l.length) :
    Calls Try.prog 30 #[.slice A n c, .int .i64 left] w (Ret w (.int .i64 (szIntss left l))) := by
  have H := Lib.hid h
  have HL := Lib.hid hl
  by_cases hs : left < n
  · have E : Hid (szIntss left l = -1) := by show _ = _; unfold szIntss; rw [if_pos (by rw [← hl]; exact hs)]
    clear hl h
    go_enter Try.func30, Try.ntmps30
    go_wp2_with fail
    go_ret
    exact ⟨ret_int E.out.symm, Below.refl _ _⟩
  · have E : Hid (szIntss left l = szL (left - n) (l.drop 0)) := by show _ = _; unfold szIntss; rw [if_neg (by rw [← hl]; exact hs), ← hl]; rfl
    clear hl h
    go_enter Try.func30, Try.ntmps30
    go_wp2_with fail
    go_loopw [1, 5] (fun v u w' => ∃ (z : Int) (i : Nat), v = .int .i64 z ∧ u = .int .i64 i ∧ 0 ≤ z ∧ z ≤ 1048576 ∧ i ≤ n ∧ Hid (szIntss left l = szL z (l.drop i)) ∧ Below w.heap.size w w') (fun _ u _ => n - (intOf u).toNat)
    case atStart => exact ⟨left - n, 0, by go_num, rfl, by omega, by omega, by omega, E, Below.refl _ _⟩
    case round =>
      clear E hs
      obtain ⟨z, i, rfl, rfl, hz0, hz1, hin, HE, hbel⟩ := hrel
      by_cases hlt : i < n
      · obtain ⟨b, o, rfl, hblt, hc⟩ := H.out (by rw [← HL.out]; omega)
        have hil : i < l.length := by rw [← HL.out]; exact hlt
        obtain ⟨A1, c1, t0, -, hmax⟩ := (hc i hil).bel hbel
        have hst := szL_step (z := z) hil
        obtain ⟨m, hm⟩ : ∃ m, l[i].length = m := ⟨_, rfl⟩
        rw [hm] at t0 hmax hst
        clear hc hm
        go_wp2_with fail
        refine (szInt64S_any A1 m c1 z _ hz0 hz1 hmax).mono ?_
        rintro e w2 ⟨rfl, rfl⟩
        by_cases hzm : z < m
        · have E : Hid (szIntss left l = -1) := by show _ = _; rw [HE.out, hst, if_pos hzm]
          have e1 : szF z m = -1 := by unfold szF; rw [if_pos hzm]
          clear hst
          go_wp2_with fail
          go_ret
          exact ⟨ret_int E.out.symm, hbel⟩
        · have E : Hid (szIntss left l = szL (z - m) (l.drop (i + 1))) := by show _ = _; rw [HE.out, hst, if_neg hzm]
          have e1 : szF z m = z - m := by unfold szF; rw [if_neg hzm]
          clear hst
          go_wp2_with fail
          go_roundw
          case rel => exact ⟨z - m, i + 1, rfl, by go_num, by omega, by omega, by omega, E, hbel⟩
          case measure => simp [intOf]; omega
      · have E : Hid (szIntss left l = z) := by show _ = _; rw [HE.out, List.drop_of_length_le (by rw [← HL.out]; omega), szL]
        go_wp2_with fail
        go_ret
        exact ⟨ret_int E.out.symm, hbel⟩

theorem info_ints : (Try.prog.info? 25).map (fun i => (i.zero, i.size, i.bytes)) = some (some (.slice none 0 0), 1, 24) := by kernel_rfl
/-- The first i rows of a list stand in a row of cells, each in a block of its own. -/
def FillI (w : World) (g : Nat) (t : TypeId) (cs : Array Value) (l : List (List Int)) (i : Nat) : Prop :=
  cs.size = l.length ∧ ∀ (k : Nat) (h : k < l.length), k < i → ∃ gk, cs[k]? = some (.slice (some ⟨gk, 0, none⟩) l[k].length l[k].length) ∧ g < gk ∧ Hid (Blk w gk t (ints l[k]))
theorem FillI.bel {w w' : World} {g : Nat} {t : TypeId} {cs : Array Value} {l : List (List Int)} {i : Nat} (h : FillI w g t cs l i) (hb : Below w.heap.size w w') : FillI w' g t cs l i :=
  ⟨h.1, fun k hk hki => by obtain ⟨gk, h1, h3, h4⟩ := h.2 k hk hki; exact ⟨gk, h1, h3, hid_blk h4 hb⟩⟩
theorem FillI.set {w : World} {g : Nat} {t : TypeId} {cs : Array Value} {l : List (List Int)} {i : Nat} (h : FillI w g t cs l i) (o : Nat) (v : Value) : FillI (w.setCell ⟨g, o, none⟩ v) g t cs l i :=
  ⟨h.1, fun k hk hki => by obtain ⟨gk, h1, h3, h4⟩ := h.2 k hk hki; exact ⟨gk, h1, h3, h4.out.far (by simp; omega) v⟩⟩
theorem FillI.step {w : World} {g gi : Nat} {t : TypeId} {cs : Array Value} {l : List (List Int)} {i : Nat} (h : FillI w g t cs l i) (hi : i < l.length) (hg : g < gi) (hB : Hid (Blk w gi t (ints l[i]))) :
    FillI w g t (cs.setIfInBounds i (.slice (some ⟨gi, 0, none⟩) l[i].length l[i].length)) l (i + 1) := by
  have hs := h.1
  refine ⟨by simpa using hs, fun k hk hki => ?_⟩
  by_cases e : k = i
  · subst e
    refine ⟨gi, ?_, hg, hB⟩
    simp [Array.getElem?_setIfInBounds]; omega
  · obtain ⟨gk, h1, h3, h4⟩ := h.2 k hk (by omega)
    exact ⟨gk, by rw [Array.getElem?_setIfInBounds_ne (by omega)]; exact h1, h3, h4⟩
def IntssB (w : World) (g : Nat) (tr t : TypeId) (l : List (List Int)) : Prop := ∃ cs, Hid (Blk w g tr cs) ∧ FillI w g t cs l l.length
theorem IntssB.rows {w : World} {g : Nat} {tr t : TypeId} {l : List (List Int)} (h : IntssB w g tr t l) (hs : SmallI l) : IntssAt w (some ⟨g, 0, none⟩) l := fun _ => by
  obtain ⟨cs, hB, hF⟩ := h
  refine ⟨g, 0, rfl, hB.out.lt, fun k hk => ?_⟩
  obtain ⟨gk, h1, h3, h4⟩ := hF.2 k hk hk
  refine ⟨some ⟨gk, 0, none⟩, l[k].length, ?_, IntsAt.ofBlk h4.out, by have := hs.2 k hk; omega⟩
  rw [Nat.zero_add, hB.out.cell]; exact h1
def MadeSS (w : World) (tr t : TypeId) (l : List (List Int)) (n : Nat) (e : Ending) (w' : World) : Prop :=
  ∃ g, e = .returned (.slice (some ⟨g, 0, none⟩) n n) ∧ w.heap.size ≤ g ∧ IntssB w' g tr t l ∧ Below w.heap.size w w'

set_option maxHeartbeats 2000000 in
theorem toInt64SS_any (A : Option Addr) (n c : Nat) (l : List (List Int)) (w : World) (h : IntssAt w A l) (hl : n = l.length) (hs : SmallI l) :
    Calls Try.prog 32 #[.slice A n c] w (MadeSS w 25 2 l n) := by
  obtain ⟨i0, hi, hz0, hz1, hz2⟩ := info_parts info_ints
  have hn0 : n ≤ 1048576 := by rw [hl]; exact hs.1
  have hmk := fun W => run_make_rowN (P := Try.prog) 47 25 i0 _ Try.underlying47 hi hz0 .i64 .i64 n n (Nat.le_refl _) (by rw [hz2]; omega) (by omega) W
  have H := Lib.hid h
  have HL := Lib.hid hl
  have HI := Lib.hid hz1
  have HS := Lib.hid hs
  clear h hl hz1 hz2 hz0 hi hs
  go_enter Try.func32, Try.ntmps32
  go_wp2
  go_loopw [4] (fun u w' => ∃ (i : Nat) (cs : Array Value), u = .int .i64 i ∧ i ≤ n ∧ Hid (Blk w' w.heap.size 25 cs) ∧ Hid (FillI w' w.heap.size 2 cs l i) ∧ Below w.heap.size w w') (fun u _ => n - (intOf u).toNat)
  case atStart => exact ⟨0, _, rfl, by omega, Blk.new _ _ _, ⟨by rw [size_madeCells, HI.out, HL.out, Nat.mul_one], fun k _ h => absurd h (by omega)⟩, by go_grown⟩
  case round =>
    obtain ⟨i, cs, rfl, hin, HB, HF, hbel⟩ := hrel
    clear hmk
    by_cases hlt : i < n
    · obtain ⟨b, o, rfl, hblt, hc⟩ := H.out (by rw [← HL.out]; omega)
      have hil : i < l.length := by rw [← HL.out]; exact hlt
      obtain ⟨A1, c1, t0, hw1, -⟩ := (hc i hil).bel hbel
      have hsm := HS.out.2 i hil
      have hcs : cs.size = n := HF.out.1.trans (by rw [← HL.out])
      obtain ⟨r, hr⟩ : ∃ r, l[i] = r := ⟨_, rfl⟩
      have HR := Lib.hid hr
      rw [hr] at t0 hw1 hsm
      clear hc hr
      go_wp2_with fail
      refine (toInt64S_any A1 r.length c1 r _ hw1 rfl hsm).mono ?_
      rintro e w2 ⟨g2, rfl, hg2, R2, hb2⟩
      have HB2 := hid_blk HB hb2
      have HF2 : Hid (FillI w2 w.heap.size 2 cs l i) := HF.out.bel hb2
      have x0 : w2.cell? ⟨w.heap.size, i, none⟩ = some (cs[i]'(by omega)) := by rw [HB2.out.cell]; exact Array.getElem?_eq_getElem _
      have f0 := HB2.out.frozen i
      have hgl : w.heap.size < g2 := by have := HB.out.lt; omega
      have hbel2 := bel_next hbel hb2
      have hgg : g2 ≠ w.heap.size := by omega
      clear hb2 HB HF t0 hw1
      go_wp2_with fail
      go_roundw
      case rel =>
        refine ⟨i + 1, _, by go_num, by omega, HB2.out.set_ _ _, ?_, hbel2.setCell (by simp) _⟩
        have h5 := (HF2.out.set i (.slice (some ⟨g2, 0, none⟩) r.length r.length)).step hil hgl (gi := g2) (by rw [HR.out]; exact R2.out.far (by simp; omega) _)
        rw [HR.out] at h5
        exact h5
      case measure => simp [intOf]; omega
    · have hie : i = n := by omega
      subst hie
      go_wp2_with fail
      go_ret
      exact ⟨w.heap.size, rfl, Nat.le_refl _, ⟨cs, HB, by rw [← HL.out]; exact HF.out⟩, hbel⟩

set_option maxHeartbeats 2000000 in
theorem eqInt64SS_any (A A' : Option Addr) (n c c' : Nat) (l : List (List Int)) (w : World) (h : IntssAt w A l) (h' : IntssAt w A' l) (hl : n = l.length) (hs : SmallI l) :
    Calls Try.prog 34 #[.slice A n c, .slice A' n c'] w (Ret w (.bool true)) := by
  have hn0 : n ≤ 1048576 := by rw [hl]; exact hs.1
  have H := Lib.hid h
  have H' := Lib.hid h'
  have HL := Lib.hid hl
  have HS := Lib.hid hs
  clear h h' hl hs
  go_enter Try.func34, Try.ntmps34
  go_wp2
  go_loopw [5] (fun u w' => ∃ (i : Nat), u = .int .i64 i ∧ i ≤ n ∧ Below w.heap.size w w') (fun u _ => n - (intOf u).toNat)
  case atStart => exact ⟨0, rfl, by omega, by go_grown⟩
  case round =>
    obtain ⟨i, rfl, hin, hbel⟩ := hrel
    by_cases hlt : i < n
    · obtain ⟨b, o, rfl, hblt, hc⟩ := H.out (by rw [← HL.out]; omega)
      obtain ⟨b', o', rfl, hblt', hc'⟩ := H'.out (by rw [← HL.out]; omega)
      have hil : i < l.length := by rw [← HL.out]; exact hlt
      obtain ⟨A1, c1, t0, W1, -⟩ := (hc i hil).bel hbel
      obtain ⟨A2, c2, d0, W2, -⟩ := (hc' i hil).bel hbel
      have hsm := HS.out.2 i hil
      obtain ⟨r, hr⟩ : ∃ r, l[i] = r := ⟨_, rfl⟩
      rw [hr] at t0 d0 W1 W2 hsm
      clear hc hc' hr
      go_wp2_with fail
      go_region_held3 (fun w' => w'.cell? ⟨b, o + i, none⟩ = some (.slice A1 r.length c1) ∧ w'.cell? ⟨b', o' + i, none⟩ = some (.slice A2 r.length c2) ∧ IntsAt w' A1 r ∧ IntsAt w' A2 r ∧ Below w.heap.size w w')
        (first
          | (refine ⟨t0, d0, W1.bel (by go_grown), W2.bel (by go_grown), ?_⟩; go_grown; done)
          | (have hS := ‹_ ∧ _ ∧ _ ∧ _ ∧ _›; exact ⟨bel_cell hb4 hS.1, bel_cell hb4 hS.2.1, IntsAt.bel hS.2.2.1 hb4, IntsAt.bel hS.2.2.2.1 hb4, bel_next hS.2.2.2.2 hb4⟩))
        (first
          | (go_at_call 18; (with_reducible refine (eqInt64S_any A1 A2 r.length c1 c2 r _ (by first | exact (‹_ ∧ _ ∧ _ ∧ _ ∧ _›).2.2.1 | exact W1.drew | exact W1) (by first | exact (‹_ ∧ _ ∧ _ ∧ _ ∧ _›).2.2.2.1 | exact W2.drew | exact W2) rfl hsm).mono ?_); rintro e w4 ⟨rfl, hb4⟩))
      obtain ⟨-, -, -, -, D⟩ := ‹_ ∧ _ ∧ _ ∧ _ ∧ _›
      go_wp2_with fail
      go_roundw
      case rel => exact ⟨i + 1, by go_num, by omega, D⟩
      case measure => simp [intOf]; omega
    · go_wp2_with fail
      go_ret
      exact ⟨rfl, hbel⟩

section
variable {H : Type} {enc : TypeId × Value → H} {P : Program} {w : World} {base : Nat} {spare : Nat → Bool} {held : Bool} {r : Reach} {b0 : Nat} {t e : TypeId} {v : Value} {d : DataW H} {p : List MemPlace}
/-- The integers, out of a slice's reading. -/
theorem ints_of {fuel : Nat} {x : DataW H × List MemPlace} (ht : P.underlying t = some (.slice e)) (he : P.underlying e = some (.int .i64)) (hC : P.cellsOf e = 1)
    (hf : DataW.trod enc P w base spare held fuel t [v] = some x) : ∃ A n c zs, v = .slice A n c ∧ IntsArg w A n zs := by
  rcases open_ints ht he hC hf with ⟨h0, _⟩ | ⟨a, len, cap, zs, hcs, _, hl, hm, hz, _, hcell, _⟩
  · simp at h0
    subst h0
    exact ⟨none, 0, 0, [], rfl, rfl, IntsAt.nil _ _, by omega⟩
  · simp at hcs
    subst hcs
    have hlen : len ≤ zs.length := by rw [hz]; split <;> omega
    refine ⟨some a, len, cap, zs.take len, rfl, by simp; omega, fun h0 => ?_, by unfold maxLen at hm; omega⟩
    have hpos : 0 < len := by simp at h0; omega
    have h00 := hcell 0 (by omega)
    obtain ⟨b, o, rfl⟩ := addr_form h00
    refine ⟨b, o, rfl, World.block_lt_of_cell? (a := ⟨b, o, none⟩) w (by simpa [Addr.add_lit] using h00), fun k hk => ?_⟩
    have hk' : k < len := by simp at hk; omega
    have hc := hcell k (by omega)
    rw [Addr.add_lit] at hc
    rw [hc]
    simp [List.getD, show k < zs.length by omega]

def IntssArg (w : World) (A : Option Addr) (n : Nat) (zs : List (List Int)) : Prop := zs.length = n ∧ IntssAt w A zs ∧ n ≤ 9223372036854775807
theorem isIntss {ei : TypeId} (ht : P.underlying t = some (.slice e)) (hs : P.underlying e = some (.slice ei)) (hC : P.cellsOf e = 1) (he : P.underlying ei = some (.int .i64)) (hCi : P.cellsOf ei = 1)
    (hv : Value.okWide P w r b0 t v) (h : DataW.Trod enc P w base spare held t v d p) : ∃ A n c zs, v = .slice A n c ∧ IntssArg w A n zs := by
  obtain ⟨A, len, cap, rfl⟩ := okWide_slice ht hv
  obtain ⟨fuel, hf⟩ := h
  rcases open_slice ht hf with h0 | ⟨a, len', cap', m, n, D, Pl, hcs, hb, hl, hm, hmm, hx, hi⟩
  · have h0 := h0.1
    simp [Value.cells] at h0
    obtain ⟨rfl, rfl, rfl⟩ := h0
    exact ⟨none, 0, 0, [], rfl, rfl, fun h => absurd h (by simp), by omega⟩
  · simp [Value.cells] at hcs
    obtain ⟨rfl, rfl, rfl⟩ := hcs
    have hlm : len ≤ m := by rw [hmm]; split <;> omega
    have key : ∀ i, i < m → ∃ r : List Int, ∃ A c, w.cell? (a.add i) = some (.slice A r.length c) ∧ IntsAt w A r ∧ r.length ≤ 9223372036854775807 := by
      intro i him
      obtain ⟨cs', hc, ht'⟩ := hi i him
      rw [hC, Nat.mul_one] at hc
      obtain ⟨_, hcl, hat⟩ := World.cells?_some hc
      have h0 := hat 0 (by omega)
      match cs', hcl, ht', h0 with
      | [x], _, ht', h0 =>
        obtain ⟨A, n, c, zs, rfl, F⟩ := ints_of hs he hCi ht'
        exact ⟨zs, A, c, by rw [F.1]; simpa [Addr.add] using h0, F.2.1, by rw [F.1]; exact F.2.2⟩
    obtain ⟨R, hR⟩ := choose_lt key
    refine ⟨some a, len, cap, (List.range len).map R, rfl, by simp, fun h0 => ?_, by unfold maxLen at hm; omega⟩
    have hpos : 0 < len := by simpa using h0
    obtain ⟨A0, c0, h00, -⟩ := hR 0 (by omega)
    obtain ⟨b, o, rfl⟩ := addr_form h00
    refine ⟨b, o, rfl, World.block_lt_of_cell? (a := ⟨b, o, none⟩) w (by simpa [Addr.add_lit] using h00), fun k hk => ?_⟩
    have hk' : k < len := by simpa using hk
    obtain ⟨A1, c1, h1, h3, h4⟩ := hR k (by omega)
    rw [Addr.add_lit] at h1
    simp only [List.getElem_map, List.getElem_range]
    exact ⟨A1, c1, h1, h3, h4⟩
end

end Go.Proofs.Ythkfdpicacaphaa
