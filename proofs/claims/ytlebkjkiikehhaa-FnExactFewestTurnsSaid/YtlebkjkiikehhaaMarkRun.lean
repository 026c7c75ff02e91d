/-
  CONTRACTS: marks written over a slice of runs.
-/
import Derived.Test.YtlebkjkiikehhaaMarkI
import Derived.Test.YtlebkjkiikehhaaRun
namespace Go.Proofs.Ytlebkjkiikehhaa
open Go.RowKit

/-- Every block stays a block of its type and size. -/
def Shp (w w' : World) : Prop := ∀ g t cs, Blk w g t cs → ∃ cs', Blk w' g t cs' ∧ cs'.size = cs.size
theorem Shp.refl (w : World) : Shp w w := fun _ _ cs h => ⟨cs, h, rfl⟩
theorem Shp.trans {w w1 w2 : World} (h : Shp w w1) (k : Shp w1 w2) : Shp w w2 := fun g t cs hb => by
  obtain ⟨cs1, h1, s1⟩ := h g t cs hb
  obtain ⟨cs2, h2, s2⟩ := k g t cs1 h1
  exact ⟨cs2, h2, by omega⟩
theorem Shp.ofBelow {w w' : World} (h : Below w.heap.size w w') : Shp w w' := fun _ _ cs hb => ⟨cs, bel_blk hb h, rfl⟩
theorem Shp.set (w : World) (g o : Nat) (v : Value) : Shp w (w.setCell ⟨g, o, none⟩ v) := fun g' t cs hb => by
  by_cases e : g' = g
  · subst e
    exact ⟨_, hb.set_ o v, by simp⟩
  · exact ⟨cs, hb.far (by simp; omega) v, rfl⟩
theorem Own.shp {w w' : World} {A : Option Addr} {n : Nat} (h : Own w A n) (hs : Shp w w') : Own w' A n := fun h0 => by
  obtain ⟨g, t, cs, e, hB, hz⟩ := h h0
  obtain ⟨cs', hB', hz'⟩ := hs g t cs hB
  exact ⟨g, t, cs', e, hB', by omega⟩
/-- Two worlds that differ at most in a range of blocks. -/
structure ButR (lo hi : Nat) (w w' : World) : Prop where
  os : w'.os = w.os
  tape : w'.tape = w.tape
  output : w'.output = w.output
  size : w.heap.size ≤ w'.heap.size
  block : ∀ b, b < w.heap.size → (b < lo ∨ hi ≤ b) → w'.heap[b]? = w.heap[b]?
theorem ButR.refl (lo hi : Nat) (w : World) : ButR lo hi w w := ⟨rfl, rfl, rfl, Nat.le_refl _, fun _ _ _ => rfl⟩
theorem ButR.trans {lo hi : Nat} {w w1 w2 : World} (h : ButR lo hi w w1) (k : ButR lo hi w1 w2) : ButR lo hi w w2 :=
  ⟨k.os.trans h.os, k.tape.trans h.tape, k.output.trans h.output, Nat.le_trans h.size k.size, fun b hb hn => (k.block b (Nat.lt_of_lt_of_le hb h.size) hn).trans (h.block b hb hn)⟩
theorem ButR.ofBut {lo hi : Nat} {A : Option Addr} {w w' : World} (h : But A w w') (hA : ∀ p, A = some p → lo ≤ p.block ∧ p.block < hi) : ButR lo hi w w' :=
  ⟨h.os, h.tape, h.output, h.size, fun b hb hn => h.block b hb (fun p hp e => by have := hA p hp; omega)⟩
theorem ButR.set {lo hi g : Nat} (w : World) (hg : lo ≤ g ∧ g < hi) (o : Nat) (v : Value) : ButR lo hi w (w.setCell ⟨g, o, none⟩ v) :=
  ButR.ofBut (A := some ⟨g, 0, none⟩) ((But.refl _ w).set rfl v) (fun p hp => by cases hp; exact hg)
theorem ButR.below {lo hi : Nat} {W w w' : World} (h : ButR lo hi w w') (hW : Below W.heap.size W w) (hlo : W.heap.size ≤ lo) : Below W.heap.size W w' :=
  hW.trans ⟨h.os, h.tape, h.output, h.size, fun k hk => h.block k (Nat.lt_of_lt_of_le hk hW.size) (.inl (by omega))⟩
theorem ButR.blk {lo hi : Nat} {w w' : World} {g : Nat} {t : TypeId} {cs : Array Value} (h : ButR lo hi w w') (hb : Blk w g t cs) (hg : g < lo ∨ hi ≤ g) : Blk w' g t cs := (h.block g hb.lt hg).trans hb
theorem ButR.cell {lo hi : Nat} {w w' : World} {b o : Nat} {v : Value} (h : ButR lo hi w w') (hg : b < lo ∨ hi ≤ b) (hc : w.cell? ⟨b, o, none⟩ = some v) : w'.cell? ⟨b, o, none⟩ = some v := by
  have hlt := cell_lt hc
  unfold World.cell? at hc ⊢
  simp only [h.block b hlt hg]
  exact hc
theorem IntsAt.butR {A : Option Addr} {lo hi : Nat} {w w' : World} {l : List Int} (h : IntsAt w A l) (hb : ButR lo hi w w') (hne : 0 < l.length → ∀ p, A = some p → p.block < lo ∨ hi ≤ p.block) : IntsAt w' A l := fun h0 => by
  obtain ⟨b, o, e, hlt, hc⟩ := h h0
  exact ⟨b, o, e, Nat.lt_of_lt_of_le hlt hb.size, fun k hk => hb.cell (hne h0 _ e) (hc k hk)⟩
theorem Own.butR {A : Option Addr} {lo hi : Nat} {w w' : World} {n : Nat} (h : Own w A n) (hb : ButR lo hi w w') (hne : 0 < n → ∀ p, A = some p → p.block < lo ∨ hi ≤ p.block) : Own w' A n := fun h0 => by
  obtain ⟨g, t, cs, e, hB, hs⟩ := h h0
  exact ⟨g, t, cs, e, hb.blk hB (hne h0 _ e), hs⟩
/-- What a call that writes marks leaves. -/
def MarkedI (w : World) (A : Option Addr) (n : Nat) (m : Int) (e : Ending) (w' : World) : Prop :=
  e = .returned (.int .i64 (m + n)) ∧ But A w w' ∧ Shp w w'

set_option maxHeartbeats 1000000 in
theorem markInt64S2_any (A : Option Addr) (n c : Nat) (m : Int) (w : World) (h : Own w A n) (hn0 : n ≤ 9000000) (m0 : 0 ≤ m) (m1 : m ≤ 4000000000000000000) :
    Calls Try.prog 24 #[.slice A n c, .int .i64 m] w (MarkedI w A n m) := by
  rcases Nat.eq_zero_or_pos n with rfl | hpos
  · go_enter Try.func24, Try.ntmps24
    go_wp2_with fail
    go_loopw [1, 5] (fun x y w' => x = .int .i64 m ∧ y = .int .i64 0 ∧ w' = w) (fun _ _ _ => 0)
    case atStart => exact ⟨rfl, rfl, rfl⟩
    case round =>
      obtain ⟨rfl, rfl, rfl⟩ := hrel
      go_wp2_with fail
      go_ret
      exact ⟨by simp, But.refl _ _, Shp.refl _⟩
  · obtain ⟨g, t, cs0, rfl, hB0, hs0⟩ := h hpos
    clear h
    go_enter Try.func24, Try.ntmps24
    go_wp2_with fail
    go_loopw [1, 5] (fun x y w' => ∃ (i : Nat) (cs : Array Value), x = .int .i64 (m + i) ∧ y = .int .i64 i ∧ i ≤ n ∧ Hid (Blk w' g t cs) ∧ n ≤ cs.size ∧ But (some ⟨g, 0, none⟩) w w' ∧ Shp w w') (fun _ y _ => n - (intOf y).toNat)
    case atStart => exact ⟨0, cs0, by simp, rfl, by omega, hB0, hs0, But.refl _ _, Shp.refl _⟩
    case round =>
      obtain ⟨i, cs, rfl, rfl, hin, HB, hsz, hbut, hshp⟩ := hrel
      by_cases hlt : i < n
      · have x0 : wr.cell? ⟨g, i, none⟩ = some (cs[i]'(by omega)) := by rw [HB.out.cell]; exact Array.getElem?_eq_getElem _
        have f0 := HB.out.frozen i
        go_wp2_with fail
        go_roundw
        case rel => exact ⟨i + 1, _, by go_num, by go_num, by omega, HB.out.set_ _ _, by simpa using hsz, hbut.set rfl _, hshp.trans (Shp.set _ _ _ _)⟩
        case measure => simp [intOf]; omega
      · have hie : i = n := by omega
        subst hie
        go_wp2_with fail
        go_ret
        exact ⟨rfl, hbut, hshp⟩

/-- A slice of runs of one's own, in a range of blocks. -/
def OwnRs (w : World) (lo hi g n : Nat) : Prop := ∃ t cs, Blk w g t cs ∧ cs.size = n * 2 ∧ lo ≤ g ∧ g < hi ∧ ∀ k, k < n → ∃ A m c, cs[k * 2]? = some (.slice A m c) ∧ m ≤ 1048576 ∧ Own w A m ∧ (∀ p, A = some p → p.block ≠ g ∧ lo ≤ p.block ∧ p.block < hi)
theorem OwnRs.bel {w w' : World} {lo hi g n : Nat} (h : OwnRs w lo hi g n) (hb : Below w.heap.size w w') : OwnRs w' lo hi g n := by
  obtain ⟨t, cs, hB, h1, h2, h3, h4⟩ := h
  exact ⟨t, cs, bel_blk hB hb, h1, h2, h3, fun k hk => by obtain ⟨A, m, c, a, b, d, e⟩ := h4 k hk; exact ⟨A, m, c, a, b, d.bel hb, e⟩⟩
theorem OwnRs.but {B : Option Addr} {w w' : World} {lo hi g n : Nat} (h : OwnRs w lo hi g n) (hb : But B w w') (hB : ∀ q, B = some q → q.block < lo ∨ hi ≤ q.block) : OwnRs w' lo hi g n := by
  obtain ⟨t, cs, hB', h1, h2, h3, h4⟩ := h
  exact ⟨t, cs, hb.blk hB' (fun q hq => by have := hB q hq; omega), h1, h2, h3, fun k hk => by
    obtain ⟨A, m, c, a, b, d, e⟩ := h4 k hk
    exact ⟨A, m, c, a, b, d.but hb (fun _ p q hp hq => by have h5 := hB q hq; have h6 := e p hp; omega), e⟩⟩
theorem OwnRs.mark {w w' : World} {lo hi g n : Nat} {A : Option Addr} (h : OwnRs w lo hi g n) (hb : But A w w') (hs : Shp w w') (hA : ∀ p, A = some p → p.block ≠ g) : OwnRs w' lo hi g n := by
  obtain ⟨t, cs, hB', h1, h2, h3, h4⟩ := h
  exact ⟨t, cs, hb.blk hB' hA, h1, h2, h3, fun k hk => by obtain ⟨A, m, c, a, b, d, e⟩ := h4 k hk; exact ⟨A, m, c, a, b, d.shp hs, e⟩⟩
theorem OwnRs.set {w : World} {lo hi g n i : Nat} (h : OwnRs w lo hi g n) (v : Value) : OwnRs (w.setCell ⟨g, i * 2 + 1, none⟩ v) lo hi g n := by
  obtain ⟨t, cs, hB', h1, h2, h3, h4⟩ := h
  exact ⟨t, _, hB'.set_ _ v, by simpa using h1, h2, h3, fun k hk => by
    obtain ⟨A, m, c, a, b, d, e⟩ := h4 k hk
    exact ⟨A, m, c, by rw [Array.getElem?_setIfInBounds_ne (by omega)]; exact a, b, d.shp (Shp.set _ _ _ _), e⟩⟩
theorem OwnRs.ofRuns {w w' : World} {g n : Nat} {tr t : TypeId} {l : List Rn} (h : RunsB w' g tr t l) (hg : w.heap.size ≤ g) (hl : n = l.length) (hs : Small l) : OwnRs w' w.heap.size w'.heap.size g n := by
  obtain ⟨cs, hB, hF⟩ := h
  refine ⟨tr, cs, hB.out, by rw [hF.1, hl], hg, hB.out.lt, fun k hk => ?_⟩
  obtain ⟨gk, h1, h2, h3, h4⟩ := hF.2 k (by omega) (by omega)
  exact ⟨_, _, _, h1, hs.2 k (by omega), Own.ofInts h4 rfl, fun p hp => by cases hp; have := h4.out.lt; simp only; omega⟩
def MarkedRs (w : World) (lo hi : Nat) (e : Ending) (w' : World) : Prop := ∃ z : Int, e = .returned (.int .i64 z) ∧ 0 ≤ z ∧ ButR lo hi w w'

set_option maxHeartbeats 2000000 in
theorem markRunS_any (g n c lo hi : Nat) (m : Int) (w : World) (h : OwnRs w lo hi g n) (hn0 : n ≤ 1048576) (m0 : 0 ≤ m) (m1 : m ≤ 1000000000) :
    Calls Try.prog 25 #[.slice (some ⟨g, 0, none⟩) n c, .int .i64 m] w (MarkedRs w lo hi) := by
  have H := Lib.hid h
  clear h
  go_enter Try.func25, Try.ntmps25
  go_wp2_with fail
  go_loopw [1, 5] (fun x y w' => ∃ (i : Nat) (z : Int), x = .int .i64 z ∧ y = .int .i64 i ∧ i ≤ n ∧ 0 ≤ z ∧ z ≤ m + 1048577 * (i : Int) ∧ Hid (OwnRs w' lo hi g n) ∧ ButR lo hi w w') (fun _ y _ => n - (intOf y).toNat)
  case atStart => exact ⟨0, m, rfl, rfl, by omega, m0, by omega, H, ButR.refl _ _ _⟩
  case round =>
    clear H
    obtain ⟨i, z, rfl, rfl, hin, z0, z1, HO, hbut⟩ := hrel
    by_cases hlt : i < n
    · obtain ⟨t, cs, hB, hsz, hlo, hhi, hk⟩ := HO.out
      obtain ⟨A, q, c1, hc, hq, hown, hblk⟩ := hk i hlt
      have HB := Lib.hid hB
      have x0 : wr.cell? ⟨g, i * 2, none⟩ = some (.slice A q c1) := by rw [HB.out.cell]; exact hc
      have HOW := Lib.hid hown
      have HBL := Lib.hid hblk
      clear hB hsz hk hc hown hblk
      go_wp2_with fail
      refine (markInt64S2_any A q c1 z _ HOW.out (by omega) z0 (by omega)).mono ?_
      rintro e w2 ⟨rfl, hb2, hs2⟩
      have HO2 : Hid (OwnRs w2 lo hi g n) := HO.out.mark hb2 hs2 (fun p hp => (HBL.out p hp).1)
      have hbut2 := hbut.trans (ButR.ofBut hb2 (fun p hp => (HBL.out p hp).2))
      have hB2 := HO2.out
      obtain ⟨t2, cs2, hB2, hsz2, -, -, -⟩ := hB2
      have HB2 := Lib.hid hB2
      have x1 : w2.cell? ⟨g, i * 2 + 1, none⟩ = some (cs2[i * 2 + 1]'(by omega)) := by rw [HB2.out.cell]; exact Array.getElem?_eq_getElem _
      have f1 := HB2.out.frozen (i * 2 + 1)
      clear hB2 hb2 hs2 HO HB x0 hbut
      go_wp2_with fail
      go_roundw
      case rel => exact ⟨i + 1, z + q + 1, by go_num, by go_num, by omega, by omega, by omega, HO2.out.set _, hbut2.trans (ButR.set _ ⟨hlo, hhi⟩ _ _)⟩
      case measure => simp [intOf]; omega
    · go_wp2_with fail
      go_ret
      exact ⟨z, rfl, z0, hbut⟩

end Go.Proofs.Ytlebkjkiikehhaa
