/-
  CONTRACTS: marks written over a slice of rides.
-/
import Derived.Test.YtlebkjkiikehhaaMark
import Derived.Test.YtlebkjkiikehhaaRides
namespace Go.Proofs.Ytlebkjkiikehhaa
open Go.RowKit

theorem szRideSW_any (A : Option Addr) (n c : Nat) (left : Int) (w : World) (h0 : 0 ≤ left) (h1 : left ≤ 1048576) (hn : n ≤ 9223372036854775807) :
    Calls Try.prog 38 #[.slice A n c, .int .i64 left] w (Ret w (.int .i64 (szF left n))) := (szRideS_any A n c left w h0 h1 hn).mono fun _ _ h => Ret0.toB h

theorem RidesAt.but {A B : Option Addr} {w w' : World} {l : List Rd} (h : RidesAt w A l) (hb : But B w w') (hne : 0 < l.length → ∀ p q, A = some p → B = some q → q.block ≠ p.block) : RidesAt w' A l := fun h0 => by
  obtain ⟨b, o, e, hlt, hc⟩ := h h0
  exact ⟨b, o, e, Nat.lt_of_lt_of_le hlt hb.size, fun k hk => ⟨hb.cell (fun q hq => hne h0 _ q e hq) (hc k hk).c0, hb.cell (fun q hq => hne h0 _ q e hq) (hc k hk).c1, hb.cell (fun q hq => hne h0 _ q e hq) (hc k hk).c2, hb.cell (fun q hq => hne h0 _ q e hq) (hc k hk).c3⟩⟩
theorem Own.ofRB {w : World} {g n : Nat} {t : TypeId} {l : List Rd} (h : RB w g t l) (hl : n = l.length) : Own w (some ⟨g, 0, none⟩) (n * 4) := by
  obtain ⟨cs, hB, hF⟩ := h
  exact Own.ofBlk hB (by rw [hF.1, hl]; exact Nat.le_refl _)
theorem RidesAt.src {A : Option Addr} {w : World} {l : List Rd} (h : RidesAt w A l) : 0 < l.length → ∀ p, A = some p → p.block < w.heap.size := fun h0 p hp => by
  obtain ⟨b, o, e, hlt, _⟩ := h h0
  rw [e] at hp
  injection hp with hp
  subst hp
  exact hlt
theorem RB.lt {w : World} {g : Nat} {t : TypeId} {l : List Rd} (h : RB w g t l) : g < w.heap.size := by obtain ⟨cs, hB, _⟩ := h; exact hB.lt
def marks4 (m : Int) (n : Nat) : List Rd := (List.range n).map fun (k : Nat) => (m + (k * 4 : Nat), m + (k * 4 + 1 : Nat), m + (k * 4 + 2 : Nat), m + (k * 4 + 3 : Nat))
theorem marks4_len (m : Int) (n : Nat) : (marks4 m n).length = n := by simp [marks4]
theorem marks4_at {m : Int} {n i : Nat} (h : i < (marks4 m n).length) : (marks4 m n)[i] = (m + (i * 4 : Nat), m + (i * 4 + 1 : Nat), m + (i * 4 + 2 : Nat), m + (i * 4 + 3 : Nat)) := by simp [marks4]
/-- Marks stand in the rides of a slice, and nothing else has turned. -/
def Marked4 (w : World) (A : Option Addr) (n : Nat) (m : Int) (e : Ending) (w' : World) : Prop :=
  e = .returned (.int .i64 (m + (n * 4 : Nat))) ∧ RidesAt w' A (marks4 m n) ∧ But A w w'

set_option maxHeartbeats 2000000 in
theorem markRideS_any (A : Option Addr) (n c : Nat) (m : Int) (w : World) (h : Own w A (n * 4)) (hn0 : n ≤ 2000000) (m0 : 0 ≤ m) (m1 : m ≤ 1000000000) :
    Calls Try.prog 43 #[.slice A n c, .int .i64 m] w (Marked4 w A n m) := by
  rcases Nat.eq_zero_or_pos n with rfl | hpos
  · go_enter Try.func43, Try.ntmps43
    go_wp2_with fail
    go_loopw [1, 5] (fun x y w' => x = .int .i64 m ∧ y = .int .i64 0 ∧ w' = w) (fun _ _ _ => 0)
    case atStart => exact ⟨rfl, rfl, rfl⟩
    case round =>
      obtain ⟨rfl, rfl, rfl⟩ := hrel
      go_wp2_with fail
      go_ret
      exact ⟨by simp, fun h0 => absurd h0 (by simp [marks4]), But.refl _ _⟩
  · obtain ⟨g, t, cs0, rfl, hB0, hs0⟩ := h (by omega)
    clear h
    go_enter Try.func43, Try.ntmps43
    go_wp2_with fail
    go_loopw [1, 5] (fun x y w' => ∃ (i : Nat) (cs : Array Value), x = .int .i64 (m + (i * 4 : Nat)) ∧ y = .int .i64 i ∧ i ≤ n ∧ Hid (Blk w' g t cs) ∧ n * 4 ≤ cs.size ∧ Hid (∀ k, k < i * 4 → cs[k]? = some (.int .i64 (m + k))) ∧ But (some ⟨g, 0, none⟩) w w') (fun _ y _ => n - (intOf y).toNat)
    case atStart => exact ⟨0, cs0, by simp, rfl, by omega, hB0, hs0, fun k hk => absurd hk (by omega), But.refl _ _⟩
    case round =>
      obtain ⟨i, cs, rfl, rfl, hin, HB, hsz, HF, hbut⟩ := hrel
      by_cases hlt : i < n
      · have x0 : wr.cell? ⟨g, i * 4, none⟩ = some (cs[i * 4]'(by omega)) := by rw [HB.out.cell]; exact Array.getElem?_eq_getElem _
        have x1 : wr.cell? ⟨g, i * 4 + 1, none⟩ = some (cs[i * 4 + 1]'(by omega)) := by rw [HB.out.cell]; exact Array.getElem?_eq_getElem _
        have x2 : wr.cell? ⟨g, i * 4 + 2, none⟩ = some (cs[i * 4 + 2]'(by omega)) := by rw [HB.out.cell]; exact Array.getElem?_eq_getElem _
        have x3 : wr.cell? ⟨g, i * 4 + 3, none⟩ = some (cs[i * 4 + 3]'(by omega)) := by rw [HB.out.cell]; exact Array.getElem?_eq_getElem _
        have f0 := HB.out.frozen (i * 4)
        have f1 := HB.out.frozen (i * 4 + 1)
        have f2 := HB.out.frozen (i * 4 + 2)
        have f3 := HB.out.frozen (i * 4 + 3)
        have HF2 : Hid (∀ k, k < (i + 1) * 4 → ((((cs.setIfInBounds (i * 4) (.int .i64 (m + (i : Int) * 4))).setIfInBounds (i * 4 + 1) (.int .i64 (m + (i : Int) * 4 + 1))).setIfInBounds (i * 4 + 2) (.int .i64 (m + (i : Int) * 4 + 1 + 1))).setIfInBounds (i * 4 + 3) (.int .i64 (m + (i : Int) * 4 + 1 + 1 + 1)))[k]? = some (.int .i64 (m + k))) := by
          show ∀ k, _
          intro k hk
          rcases Nat.lt_or_ge k (i * 4) with h | h
          · rw [Array.getElem?_setIfInBounds_ne (by omega), Array.getElem?_setIfInBounds_ne (by omega), Array.getElem?_setIfInBounds_ne (by omega), Array.getElem?_setIfInBounds_ne (by omega)]; exact HF.out k h
          · rcases (show k = i * 4 ∨ k = i * 4 + 1 ∨ k = i * 4 + 2 ∨ k = i * 4 + 3 by omega) with rfl | rfl | rfl | rfl <;> simp [Array.getElem?_setIfInBounds] <;> omega
        go_wp2_with fail
        go_roundw
        case rel => exact ⟨i + 1, _, by go_num, by go_num, by omega, (((HB.out.set_ _ _).set_ _ _).set_ _ _).set_ _ _, by simpa using hsz, HF2, (((hbut.set rfl _).set rfl _).set rfl _).set rfl _⟩
        case measure => simp [intOf]; omega
      · have hie : i = n := by omega
        subst hie
        go_wp2_with fail
        go_ret
        refine ⟨rfl, fun _ => ⟨g, 0, rfl, HB.out.lt, fun k hk => ?_⟩, hbut⟩
        rw [marks4_len] at hk
        rw [marks4_at, Nat.zero_add]
        exact ⟨(HB.out.cell _).trans (HF.out _ (by omega)), (HB.out.cell _).trans (HF.out _ (by omega)), (HB.out.cell _).trans (HF.out _ (by omega)), (HB.out.cell _).trans (HF.out _ (by omega))⟩


end Go.Proofs.Ytlebkjkiikehhaa
