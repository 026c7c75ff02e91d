/-
  SMALL AIDS and CONTRACTS: slices of slices of three numbers each: as they lie in memory, compared, marked, looked at again.
-/
import Derived.Test.YtlebkjkiikehhaaSpanP
import Derived.Test.YtlebkjkiikehhaaSpan
import Derived.Test.YtlebkjkiikehhaaMarkRun
import Derived.Test.YtlebkjkiikehhaaAid
namespace Go.Proofs.Ytlebkjkiikehhaa
open Go.RowKit

/-- A slice of slices of three numbers each, all in a range of blocks. -/
def SpIn (w : World) (lo hi : Nat) (A : Option Addr) (l : List Sp) : Prop :=
  0 < l.length → ∃ b, A = some ⟨b, 0, none⟩ ∧ lo ≤ b ∧ b < hi ∧ hi ≤ w.heap.size ∧ ∀ (k : Nat) (h : k < l.length), ∃ g, lo ≤ g ∧ g < hi ∧ w.cell? ⟨b, k, none⟩ = some (.slice (some ⟨g, 0, none⟩) 3 3) ∧ w.cell? ⟨g, 0, none⟩ = some (.int .i64 (l[k]).1) ∧ w.cell? ⟨g, 1, none⟩ = some (.int .i64 (l[k]).2.1) ∧ w.cell? ⟨g, 2, none⟩ = some (.int .i64 (l[k]).2.2)
theorem SpIn.bel {w w' : World} {lo hi : Nat} {A : Option Addr} {l : List Sp} (h : SpIn w lo hi A l) (hb : Below w.heap.size w w') : SpIn w' lo hi A l := fun h0 => by
  obtain ⟨b, e, b0, b1, b2, hc⟩ := h h0
  exact ⟨b, e, b0, b1, Nat.le_trans b2 hb.size, fun k hk => by obtain ⟨g, g0, g1, c0, c1, c2, c3⟩ := hc k hk; exact ⟨g, g0, g1, bel_cell hb c0, bel_cell hb c1, bel_cell hb c2, bel_cell hb c3⟩⟩
theorem SpIn.but {w w' : World} {lo hi : Nat} {A B : Option Addr} {l : List Sp} (h : SpIn w lo hi A l) (hb : But B w w') (hB : ∀ q, B = some q → q.block < lo ∨ hi ≤ q.block) : SpIn w' lo hi A l := fun h0 => by
  obtain ⟨b, e, b0, b1, b2, hc⟩ := h h0
  have hn : ∀ x, lo ≤ x → x < hi → ∀ q, B = some q → q.block ≠ x := fun x h1 h2 q hq => by have := hB q hq; omega
  exact ⟨b, e, b0, b1, Nat.le_trans b2 hb.size, fun k hk => by obtain ⟨g, g0, g1, c0, c1, c2, c3⟩ := hc k hk; exact ⟨g, g0, g1, hb.cell (hn b b0 b1) c0, hb.cell (hn g g0 g1) c1, hb.cell (hn g g0 g1) c2, hb.cell (hn g g0 g1) c3⟩⟩
theorem SpIn.butR {w w' : World} {lo hi lo' hi' : Nat} {A : Option Addr} {l : List Sp} (h : SpIn w lo hi A l) (hb : ButR lo' hi' w w') (hB : hi ≤ lo' ∨ hi' ≤ lo) : SpIn w' lo hi A l := fun h0 => by
  obtain ⟨b, e, b0, b1, b2, hc⟩ := h h0
  exact ⟨b, e, b0, b1, Nat.le_trans b2 hb.size, fun k hk => by obtain ⟨g, g0, g1, c0, c1, c2, c3⟩ := hc k hk; exact ⟨g, g0, g1, hb.cell (by omega) c0, hb.cell (by omega) c1, hb.cell (by omega) c2, hb.cell (by omega) c3⟩⟩
theorem SpIn.low {w : World} {lo lo' hi : Nat} {A : Option Addr} {l : List Sp} (h : SpIn w lo hi A l) (hl : lo' ≤ lo) : SpIn w lo' hi A l := fun h0 => by
  obtain ⟨b, e, b0, b1, b2, hc⟩ := h h0
  exact ⟨b, e, by omega, b1, b2, fun k hk => by obtain ⟨g, g0, g1, c0, c1, c2, c3⟩ := hc k hk; exact ⟨g, by omega, g1, c0, c1, c2, c3⟩⟩
theorem OwnSS.inn {w : World} {base : Nat} {tr t : TypeId} {A : Option Addr} {c : Nat} {l : List Sp} (h : OwnSS w base tr t A c l) : SpIn w base w.heap.size A l := fun h0 => by
  obtain ⟨gs, hl, ho, hb⟩ := h
  obtain ⟨g, cap, hv, hg, hlt⟩ := ho.form h0
  have hA : A = some ⟨g, 0, none⟩ := by injection hv
  subst hA
  refine ⟨g, rfl, hg, hlt, Nat.le_refl _, fun k hk => ?_⟩
  have hk' : k < gs.length := by omega
  obtain ⟨h1, hB⟩ := hb k hk hk'
  have g1 := ho.cells (g := g) rfl k (.slice (some ⟨gs[k], 0, none⟩) 3 3) (by simp [sliceV, hk'])
  refine ⟨gs[k], h1, hB.lt, by simpa [Addr.add_lit] using g1, ?_, ?_, ?_⟩ <;> rw [hB.cell] <;> simp [sp3]
/-- The same, of one's own, no two of the inner slices in one block. -/
def OwnSD (w : World) (base : Nat) (tr t : TypeId) (A : Option Addr) (c : Nat) (l : List Sp) : Prop :=
  ∃ gs : List Nat, gs.length = l.length ∧ w.ownsRow base tr 1 (.slice A l.length c) l.length (sliceV gs) ∧ (∀ (k : Nat) (h : k < l.length) (h' : k < gs.length), base ≤ gs[k] ∧ Blk w gs[k] t (sp3 l[k]).toArray) ∧ ∀ (j k : Nat) (h : k < gs.length) (h' : j < k), gs[j] < gs[k]
theorem OwnSD.ss {w : World} {base : Nat} {tr t : TypeId} {A : Option Addr} {c : Nat} {l : List Sp} (h : OwnSD w base tr t A c l) : OwnSS w base tr t A c l := by
  obtain ⟨gs, a, b, d, _⟩ := h
  exact ⟨gs, a, b, d⟩
/-- Rows that may be written. -/
def SpOwn (w : World) (lo hi : Nat) (A : Option Addr) (n : Nat) : Prop :=
  0 < n → ∃ (b : Nat) (gs : Nat → Nat), A = some ⟨b, 0, none⟩ ∧ b < w.heap.size ∧ (∀ k, k < n → lo ≤ gs k ∧ gs k < hi ∧ gs k ≠ b ∧ w.cell? ⟨b, k, none⟩ = some (.slice (some ⟨gs k, 0, none⟩) 3 3) ∧ Own w (some ⟨gs k, 0, none⟩) 3) ∧ ∀ j k, k < n → j < k → gs j ≠ gs k
theorem OwnSD.own {w : World} {base : Nat} {tr t : TypeId} {A : Option Addr} {c : Nat} {l : List Sp} (h : OwnSD w base tr t A c l) (ht : tr ≠ t) : SpOwn w base w.heap.size A l.length := fun h0 => by
  obtain ⟨gs, hl, ho, hb, hd⟩ := h
  have hf := ho.2
  rcases hf with ⟨hv, hn⟩ | ⟨g, cap, cur, hv, hg, hB0, rest⟩
  · omega
  · have hA : A = some ⟨g, 0, none⟩ := by injection hv
    subst hA
    have hB0' : Blk w g tr cur := hB0
    refine ⟨g, fun k => gs.getD k 0, rfl, hB0'.lt, fun k hk => ?_, fun j k hk hj => ?_⟩
    · have hk' : k < gs.length := by omega
      have e : gs.getD k 0 = gs[k] := by simp [hk']
      obtain ⟨h1, hB⟩ := hb k hk hk'
      have g1 := ho.cells (g := g) rfl k (.slice (some ⟨gs[k], 0, none⟩) 3 3) (by simp [sliceV, hk'])
      simp only [e]
      exact ⟨h1, hB.lt, fun e2 => (Blk.ne_ hB0' hB ht) e2.symm, by simpa [Addr.add_lit] using g1, Own.ofBlk hB (by simp [sp3])⟩
    · have hk' : k < gs.length := by omega
      have := hd j k hk' hj
      simp only [List.getD_eq_getElem?_getD, List.getElem?_eq_getElem hk', List.getElem?_eq_getElem (show j < gs.length by omega), Option.getD_some]
      omega
theorem SpOwn.bel {w w' : World} {lo hi : Nat} {A : Option Addr} {n : Nat} (h : SpOwn w lo hi A n) (hb : Below w.heap.size w w') : SpOwn w' lo hi A n := fun h0 => by
  obtain ⟨b, gs, e, hlt, hc, hd⟩ := h h0
  exact ⟨b, gs, e, Nat.lt_of_lt_of_le hlt hb.size, fun k hk => by obtain ⟨a1, a2, a3, a4, a5⟩ := hc k hk; exact ⟨a1, a2, a3, bel_cell hb a4, a5.bel hb⟩, hd⟩
theorem SpOwn.but {w w' : World} {lo hi : Nat} {A B : Option Addr} {n : Nat} (h : SpOwn w lo hi A n) (hb : But B w w') (hB : ∀ q, B = some q → (q.block < lo ∨ hi ≤ q.block) ∧ ∀ p, A = some p → q.block ≠ p.block) : SpOwn w' lo hi A n := fun h0 => by
  obtain ⟨b, gs, e, hlt, hc, hd⟩ := h h0
  exact ⟨b, gs, e, Nat.lt_of_lt_of_le hlt hb.size, fun k hk => by
    obtain ⟨a1, a2, a3, a4, a5⟩ := hc k hk
    exact ⟨a1, a2, a3, hb.cell (fun q hq => (hB q hq).2 _ e) a4, a5.but hb (fun _ p q hp hq => by cases hp; have := (hB q hq).1; simp only; omega)⟩, hd⟩
/-- Marks in the rows. -/
def RowsM (w : World) (A : Option Addr) (n : Nat) (m : Int) : Prop :=
  0 < n → ∃ (b : Nat) (gs : Nat → Nat), A = some ⟨b, 0, none⟩ ∧ b < w.heap.size ∧ ∀ k, k < n → w.cell? ⟨b, k, none⟩ = some (.slice (some ⟨gs k, 0, none⟩) 3 3) ∧ IntsAt w (some ⟨gs k, 0, none⟩) (marks (m + 3 * (k : Int)) 3)
theorem RowsM.bel {w w' : World} {A : Option Addr} {n : Nat} {m : Int} (h : RowsM w A n m) (hb : Below w.heap.size w w') : RowsM w' A n m := fun h0 => by
  obtain ⟨b, gs, e, hlt, hc⟩ := h h0
  exact ⟨b, gs, e, Nat.lt_of_lt_of_le hlt hb.size, fun k hk => ⟨bel_cell hb (hc k hk).1, (hc k hk).2.bel hb⟩⟩
def MarkedSS (w : World) (lo hi : Nat) (A : Option Addr) (n : Nat) (m : Int) (e : Ending) (w' : World) : Prop :=
  e = .returned (.int .i64 (m + 3 * (n : Int))) ∧ RowsM w' A n m ∧ ButR lo hi w w'

set_option maxHeartbeats 2000000 in
theorem markInt64SS_any (A : Option Addr) (n c lo hi : Nat) (m : Int) (w : World) (h : SpOwn w lo hi A n) (hn0 : n ≤ 1048576) (m0 : 0 ≤ m) (m1 : m ≤ 100000000) :
    Calls Try.prog 34 #[.slice A n c, .int .i64 m] w (MarkedSS w lo hi A n m) := by
  rcases Nat.eq_zero_or_pos n with rfl | hpos
  · go_enter Try.func34, Try.ntmps34
    go_wp2_with fail
    go_loopw [1, 5] (fun x y w' => x = .int .i64 m ∧ y = .int .i64 0 ∧ w' = w) (fun _ _ _ => 0)
    case atStart => exact ⟨rfl, rfl, rfl⟩
    case round =>
      obtain ⟨rfl, rfl, rfl⟩ := hrel
      go_wp2_with fail
      go_ret
      exact ⟨by simp, fun h0 => absurd h0 (by simp), ButR.refl _ _ _⟩
  · obtain ⟨b, gs, rfl, hlt0, hc, hd⟩ := h hpos
    have HD := Lib.hid hd
    have HC0 : Hid (∀ k, k < n → lo ≤ gs k ∧ gs k < hi ∧ gs k ≠ b) := fun k hk => ⟨(hc k hk).1, (hc k hk).2.1, (hc k hk).2.2.1⟩
    have HC : Hid (∀ k, k < n → w.cell? ⟨b, k, none⟩ = some (.slice (some ⟨gs k, 0, none⟩) 3 3)) := fun k hk => (hc k hk).2.2.2.1
    have HO : Hid (∀ k, 0 ≤ k → k < n → Own w (some ⟨gs k, 0, none⟩) 3) := fun k _ hk => (hc k hk).2.2.2.2
    have HM : Hid (∀ k, k < 0 → IntsAt w (some ⟨gs k, 0, none⟩) (marks (m + 3 * (k : Int)) 3)) := fun k hk => absurd hk (by omega)
    clear h hc hd
    go_enter Try.func34, Try.ntmps34
    go_wp2_with fail
    go_loopw [1, 5] (fun x y w' => ∃ (i : Nat), x = .int .i64 (m + 3 * (i : Int)) ∧ y = .int .i64 i ∧ i ≤ n ∧ Hid (∀ k, k < n → w'.cell? ⟨b, k, none⟩ = some (.slice (some ⟨gs k, 0, none⟩) 3 3)) ∧ Hid (∀ k, i ≤ k → k < n → Own w' (some ⟨gs k, 0, none⟩) 3) ∧ Hid (∀ k, k < i → IntsAt w' (some ⟨gs k, 0, none⟩) (marks (m + 3 * (k : Int)) 3)) ∧ ButR lo hi w w') (fun _ y _ => n - (intOf y).toNat)
    case atStart => exact ⟨0, by simp, rfl, by omega, HC, HO, HM, ButR.refl _ _ _⟩
    case round =>
      clear HC HO HM
      obtain ⟨i, rfl, rfl, hin, HC, HO, HM, hbut⟩ := hrel
      by_cases hlt : i < n
      · have x0 := HC.out i hlt
        have hO := Lib.hid (HO.out i (Nat.le_refl _) hlt)
        have hbw : b < wr.heap.size := cell_lt x0
        obtain ⟨y0, y1, y2⟩ := HC0.out i hlt
        obtain ⟨z, hz⟩ : ∃ z, m + 3 * (i : Int) = z := ⟨_, rfl⟩
        have hz0 : 0 ≤ z := by omega
        have hz1 : z ≤ 1000000000 := by omega
        have HZ := Lib.hid hz
        rw [hz]
        clear hz
        go_wp2_with fail
        refine (markInt64S_any _ 3 3 z _ hO.out (by omega) hz0 hz1).mono ?_
        rintro e w2 ⟨rfl, hm, hb⟩
        have hne : ∀ k, k < n → k ≠ i → ∀ p q, (some ⟨gs k, 0, none⟩ : Option Addr) = some p → (some ⟨gs i, 0, none⟩ : Option Addr) = some q → q.block ≠ p.block := fun k hk hki p q hp hq => by
          cases hp
          cases hq
          simp only
          rcases Nat.lt_or_ge k i with h5 | h5
          · exact (HD.out k i hlt h5).symm
          · exact HD.out i k hk (by omega)
        have HC2 : Hid (∀ k, k < n → w2.cell? ⟨b, k, none⟩ = some (.slice (some ⟨gs k, 0, none⟩) 3 3)) := fun k hk => hb.cell (fun q hq => by cases hq; exact y2) (HC.out k hk)
        have HO2 : Hid (∀ k, i + 1 ≤ k → k < n → Own w2 (some ⟨gs k, 0, none⟩) 3) := fun k h1 h2 => (HO.out k (by omega) h2).but hb (fun _ => hne k h2 (by omega))
        have HM2 : Hid (∀ k, k < i + 1 → IntsAt w2 (some ⟨gs k, 0, none⟩) (marks (m + 3 * (k : Int)) 3)) := fun k h1 => by
          by_cases e : k = i
          · subst e
            rw [HZ.out]
            exact hm
          · exact (HM.out k (by omega)).but hb (fun _ => hne k (by omega) e)
        have hbut2 := hbut.trans (ButR.ofBut hb (fun p hp => by cases hp; exact ⟨y0, y1⟩))
        clear hm hb hne HC HO HM hO x0
        go_wp2_with fail
        go_roundw
        case rel => exact ⟨i + 1, by have := HZ.out; go_num, by go_num, by omega, HC2, HO2, HM2, hbut2⟩
        case measure => simp [intOf]; omega
      · have hie : i = n := by omega
        subst hie
        have hbw : b < wr.heap.size := cell_lt (HC.out 0 hpos)
        go_wp2_with fail
        go_ret
        exact ⟨rfl, fun _ => ⟨b, gs, rfl, hbw, fun k hk => ⟨HC.out k hk, HM.out k hk⟩⟩, hbut⟩

set_option maxHeartbeats 2000000 in
theorem heldInt64SS_any (A : Option Addr) (n c : Nat) (m : Int) (w : World) (h : RowsM w A n m) (hn0 : n ≤ 1048576) (m0 : 0 ≤ m) (m1 : m ≤ 100000000) :
    Calls Try.prog 35 #[.slice A n c, .int .i64 m] w (Ret w (.int .i64 (m + 3 * (n : Int)))) := by
  have H := Lib.hid h
  clear h
  go_enter Try.func35, Try.ntmps35
  go_wp2_with fail
  go_loopw [1, 5] (fun x y w' => ∃ (i : Nat), x = .int .i64 (m + 3 * (i : Int)) ∧ y = .int .i64 i ∧ i ≤ n ∧ Below w.heap.size w w') (fun _ y _ => n - (intOf y).toNat)
  case atStart => exact ⟨0, by simp, rfl, by omega, Below.refl _ _⟩
  case round =>
    obtain ⟨i, rfl, rfl, hin, hbel⟩ := hrel
    by_cases hlt : i < n
    · obtain ⟨b, gs, rfl, hblt, hc⟩ := (H.out.bel hbel) (by omega)
      obtain ⟨x0, hI⟩ := hc i hlt
      have HI := Lib.hid hI
      obtain ⟨z, hz⟩ : ∃ z, m + 3 * (i : Int) = z := ⟨_, rfl⟩
      have hz0 : 0 ≤ z := by omega
      have hz1 : z ≤ 1000000000 := by omega
      have HZ := Lib.hid hz
      rw [hz] at HI ⊢
      clear hz hc hI
      go_wp2_with fail
      refine (heldInt64S_any _ 3 3 z _ HI.out (by omega) hz0 hz1).mono ?_
      rintro e w2 ⟨rfl, hb⟩
      have D := bel_next hbel hb
      clear hb HI x0
      go_wp2_with fail
      go_roundw
      case rel => exact ⟨i + 1, by have := HZ.out; go_num, by go_num, by omega, D⟩
      case measure => simp [intOf]; omega
    · have hie : i = n := by omega
      subst hie
      go_wp2_with fail
      go_ret
      exact ⟨rfl, hbel⟩

set_option maxHeartbeats 2000000 in
theorem eqInt64SS_any (A A' : Option Addr) (n c c' lo hi lo' hi' : Nat) (l : List Sp) (w : World) (h : SpIn w lo hi A l) (h' : SpIn w lo' hi' A' l) (hl : n = l.length) (hn0 : n ≤ 1048576) :
    Calls Try.prog 31 #[.slice A n c, .slice A' n c'] w (Ret w (.bool true)) := by
  have H := Lib.hid h
  have H' := Lib.hid h'
  have HL := Lib.hid hl
  clear h h' hl
  go_enter Try.func31, Try.ntmps31
  go_wp2_with fail
  go_loopw [5] (fun u w' => ∃ (i : Nat), u = .int .i64 i ∧ i ≤ n ∧ Below w.heap.size w w') (fun u _ => n - (intOf u).toNat)
  case atStart => exact ⟨0, rfl, by omega, Below.refl _ _⟩
  case round =>
    obtain ⟨i, rfl, hin, hbel⟩ := hrel
    by_cases hlt : i < n
    · have hil : i < l.length := by rw [← HL.out]; exact hlt
      obtain ⟨b, rfl, -, -, hbl, hc⟩ := (H.out.bel hbel) (by omega)
      obtain ⟨b', rfl, -, -, hbl', hc'⟩ := (H'.out.bel hbel) (by omega)
      obtain ⟨g, -, -, x0, x1, x2, x3⟩ := hc i hil
      obtain ⟨g', -, -, y0, y1, y2, y3⟩ := hc' i hil
      have hI : IntsAt wr (some ⟨g, 0, none⟩) [(l[i]).1, (l[i]).2.1, (l[i]).2.2] := fun _ => ⟨g, 0, rfl, cell_lt x1, fun k hk => by
        rcases (show k = 0 ∨ k = 1 ∨ k = 2 by simp at hk; omega) with rfl | rfl | rfl
        · exact x1
        · exact x2
        · exact x3⟩
      have hI' : IntsAt wr (some ⟨g', 0, none⟩) [(l[i]).1, (l[i]).2.1, (l[i]).2.2] := fun _ => ⟨g', 0, rfl, cell_lt y1, fun k hk => by
        rcases (show k = 0 ∨ k = 1 ∨ k = 2 by simp at hk; omega) with rfl | rfl | rfl
        · exact y1
        · exact y2
        · exact y3⟩
      have HI := Lib.hid hI
      have HI' := Lib.hid hI'
      have b1 : b < wr.heap.size := cell_lt x0
      have b1' : b' < wr.heap.size := cell_lt y0
      clear hc hc' x1 x2 x3 y1 y2 y3 hI hI' hbl hbl'
      go_wp2_with fail
      go_region_held3 (fun w' => w'.cell? ⟨b, i, none⟩ = some (.slice (some ⟨g, 0, none⟩) 3 3) ∧ w'.cell? ⟨b', i, none⟩ = some (.slice (some ⟨g', 0, none⟩) 3 3) ∧ Below wr.heap.size wr w')
        (first
          | (exact ⟨x0, y0, (Below.refl _ _).drew⟩)
          | (have hS := ‹_ ∧ _ ∧ Below _ _ _›; exact ⟨bel_cell hb4 hS.1, bel_cell hb4 hS.2.1, bel_next hS.2.2 hb4⟩))
        (first
          | (go_at_call 22; refine (eqInt64S_any _ _ 3 3 3 _ _ (HI.out.bel (‹_ ∧ _ ∧ Below _ _ _›).2.2) (HI'.out.bel (‹_ ∧ _ ∧ Below _ _ _›).2.2) rfl (by omega)).mono ?_; rintro e w4 ⟨rfl, hb4⟩))
      have D := bel_next hbel (‹_ ∧ _ ∧ Below _ _ _›).2.2
      go_wp2_with fail
      go_roundw
      case rel => exact ⟨i + 1, by go_num, by omega, D⟩
      case measure => simp [intOf]; omega
    · go_wp2_with fail
      go_ret
      exact ⟨rfl, hbel⟩

set_option maxHeartbeats 1000000 in
theorem markRun_any (A : Option Addr) (n c : Nat) (S m : Int) (w : World) (h : Own w A n) (hn0 : n ≤ 9000000) (m0 : 0 ≤ m) (m1 : m ≤ 1000000000) :
    Calls Try.prog 33 #[.agg #[.slice A n c, .int .i64 S], .int .i64 m] w (fun e w' => e = .returned (.int .i64 (m + n)) ∧ But A w w') := by
  go_enter Try.func33, Try.ntmps33
  go_wp2_with fail
  refine (markInt64S_any A n c m _ (h.bel ((Below.refl _ _).alloc (Nat.le_refl _) _)) hn0 m0 m1).mono ?_
  rintro e w1 ⟨rfl, hm, hbut⟩
  go_wp2_with fail
  go_ret
  exact ⟨rfl, (But.ofBelow ((Below.refl _ _).alloc (Nat.le_refl _) _)).trans hbut⟩

end Go.Proofs.Ytlebkjkiikehhaa
