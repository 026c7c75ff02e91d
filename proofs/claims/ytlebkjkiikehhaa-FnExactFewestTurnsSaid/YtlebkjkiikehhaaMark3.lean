/-
  CONTRACTS: marks written over the tubes of a network.
-/
import Derived.Test.YtlebkjkiikehhaaMark
import Derived.Test.YtlebkjkiikehhaaTube
namespace Go.Proofs.Ytlebkjkiikehhaa
open Go.RowKit

theorem TubesAt.but {A B : Option Addr} {w w' : World} {l : List Tb} (h : TubesAt w A l) (hb : But B w w') (hne : 0 < l.length → ∀ p q, A = some p → B = some q → q.block ≠ p.block) : TubesAt w' A l := fun h0 => by
  obtain ⟨b, o, e, hlt, hc⟩ := h h0
  exact ⟨b, o, e, Nat.lt_of_lt_of_le hlt hb.size, fun k hk => ⟨hb.cell (fun q hq => hne h0 _ q e hq) (hc k hk).c0, hb.cell (fun q hq => hne h0 _ q e hq) (hc k hk).c1, hb.cell (fun q hq => hne h0 _ q e hq) (hc k hk).c2⟩⟩
theorem Own.ofTB {w : World} {g n : Nat} {t : TypeId} {l : List Tb} (h : TB w g t l) (hl : n = l.length) : Own w (some ⟨g, 0, none⟩) (n * 3) := by
  obtain ⟨cs, hB, hF⟩ := h
  exact Own.ofBlk hB (by rw [hF.1, hl]; exact Nat.le_refl _)
theorem TubesAt.src {A : Option Addr} {w : World} {l : List Tb} (h : TubesAt w A l) : 0 < l.length → ∀ p, A = some p → p.block < w.heap.size := fun h0 p hp => by
  obtain ⟨b, o, e, hlt, _⟩ := h h0
  rw [e] at hp
  injection hp with hp
  subst hp
  exact hlt
theorem TB.lt {w : World} {g : Nat} {t : TypeId} {l : List Tb} (h : TB w g t l) : g < w.heap.size := by obtain ⟨cs, hB, _⟩ := h; exact hB.lt
def marks3 (m : Int) (n : Nat) : List Tb := (List.range n).map fun (k : Nat) => (m + (k * 3 : Nat), m + (k * 3 + 1 : Nat), m + (k * 3 + 2 : Nat))
theorem marks3_len (m : Int) (n : Nat) : (marks3 m n).length = n := by simp [marks3]
theorem marks3_at {m : Int} {n i : Nat} (h : i < (marks3 m n).length) : (marks3 m n)[i] = (m + (i * 3 : Nat), m + (i * 3 + 1 : Nat), m + (i * 3 + 2 : Nat)) := by simp [marks3]
/-- Marks stand in the tubes of a slice, and nothing else has turned. -/
def Marked3 (w : World) (A : Option Addr) (n : Nat) (m : Int) (e : Ending) (w' : World) : Prop :=
  e = .returned (.int .i64 (m + (n * 3 : Nat))) ∧ TubesAt w' A (marks3 m n) ∧ But A w w'

set_option maxHeartbeats 2000000 in
theorem markTubeS_any (A : Option Addr) (n c : Nat) (m : Int) (w : World) (h : Own w A (n * 3)) (hn0 : n ≤ 3000000) (m0 : 0 ≤ m) (m1 : m ≤ 1000000000) :
    Calls Try.prog 54 #[.slice A n c, .int .i64 m] w (Marked3 w A n m) := by
  rcases Nat.eq_zero_or_pos n with rfl | hpos
  · go_enter Try.func54, Try.ntmps54
    go_wp2_with fail
    go_loopw [1, 5] (fun x y w' => x = .int .i64 m ∧ y = .int .i64 0 ∧ w' = w) (fun _ _ _ => 0)
    case atStart => exact ⟨rfl, rfl, rfl⟩
    case round =>
      obtain ⟨rfl, rfl, rfl⟩ := hrel
      go_wp2_with fail
      go_ret
      exact ⟨by simp, fun h0 => absurd h0 (by simp [marks3]), But.refl _ _⟩
  · obtain ⟨g, t, cs0, rfl, hB0, hs0⟩ := h (by omega)
    clear h
    go_enter Try.func54, Try.ntmps54
    go_wp2_with fail
    go_loopw [1, 5] (fun x y w' => ∃ (i : Nat) (cs : Array Value), x = .int .i64 (m + (i * 3 : Nat)) ∧ y = .int .i64 i ∧ i ≤ n ∧ Hid (Blk w' g t cs) ∧ n * 3 ≤ cs.size ∧ Hid (∀ k, k < i * 3 → cs[k]? = some (.int .i64 (m + k))) ∧ But (some ⟨g, 0, none⟩) w w') (fun _ y _ => n - (intOf y).toNat)
    case atStart => exact ⟨0, cs0, by simp, rfl, by omega, hB0, hs0, fun k hk => absurd hk (by omega), But.refl _ _⟩
    case round =>
      obtain ⟨i, cs, rfl, rfl, hin, HB, hsz, HF, hbut⟩ := hrel
      by_cases hlt : i < n
      · have x0 : wr.cell? ⟨g, i * 3, none⟩ = some (cs[i * 3]'(by omega)) := by rw [HB.out.cell]; exact Array.getElem?_eq_getElem _
        have x1 : wr.cell? ⟨g, i * 3 + 1, none⟩ = some (cs[i * 3 + 1]'(by omega)) := by rw [HB.out.cell]; exact Array.getElem?_eq_getElem _
        have x2 : wr.cell? ⟨g, i * 3 + 2, none⟩ = some (cs[i * 3 + 2]'(by omega)) := by rw [HB.out.cell]; exact Array.getElem?_eq_getElem _
        have f0 := HB.out.frozen (i * 3)
        have f1 := HB.out.frozen (i * 3 + 1)
        have f2 := HB.out.frozen (i * 3 + 2)
        have HF2 : Hid (∀ k, k < (i + 1) * 3 → (((cs.setIfInBounds (i * 3) (.int .i64 (m + (i : Int) * 3))).setIfInBounds (i * 3 + 1) (.int .i64 (m + (i : Int) * 3 + 1))).setIfInBounds (i * 3 + 2) (.int .i64 (m + (i : Int) * 3 + 1 + 1)))[k]? = some (.int .i64 (m + k))) := by
          show ∀ k, _
          intro k hk
          rcases Nat.lt_or_ge k (i * 3) with h | h
          · rw [Array.getElem?_setIfInBounds_ne (by omega), Array.getElem?_setIfInBounds_ne (by omega), Array.getElem?_setIfInBounds_ne (by omega)]; exact HF.out k h
          · rcases (show k = i * 3 ∨ k = i * 3 + 1 ∨ k = i * 3 + 2 by omega) with rfl | rfl | rfl <;> simp [Array.getElem?_setIfInBounds] <;> omega
        go_wp2_with fail
        go_roundw
        case rel => exact ⟨i + 1, _, by go_num, by go_num, by omega, ((HB.out.set_ _ _).set_ _ _).set_ _ _, by simpa using hsz, HF2, ((hbut.set rfl _).set rfl _).set rfl _⟩
        case measure => simp [intOf]; omega
      · have hie : i = n := by omega
        subst hie
        go_wp2_with fail
        go_ret
        refine ⟨rfl, fun _ => ⟨g, 0, rfl, HB.out.lt, fun k hk => ?_⟩, hbut⟩
        rw [marks3_len] at hk
        rw [marks3_at, Nat.zero_add]
        exact ⟨(HB.out.cell _).trans (HF.out _ (by omega)), (HB.out.cell _).trans (HF.out _ (by omega)), (HB.out.cell _).trans (HF.out _ (by omega))⟩


set_option maxHeartbeats 1000000 in
theorem markNet_any (S : Int) (A : Option Addr) (n c : Nat) (m : Int) (w : World) (h : Own w A (n * 3)) (hn0 : n ≤ 3000000) (m0 : 0 ≤ m) (m1 : m ≤ 1000000000) :
    Calls Try.prog 15 #[.agg #[.int .i64 S, .slice A n c], .int .i64 m] w (Marked3 w A n m) := by
  go_enter Try.func15, Try.ntmps15
  go_wp2_with fail
  refine (markTubeS_any A n c m _ (h.bel ((Below.refl _ _).alloc (Nat.le_refl _) _)) hn0 m0 m1).mono ?_
  rintro e w1 ⟨rfl, hm, hbut⟩
  go_wp2_with fail
  go_ret
  exact ⟨rfl, hm, (But.ofBelow ((Below.refl _ _).alloc (Nat.le_refl _) _)).trans hbut⟩

end Go.Proofs.Ytlebkjkiikehhaa
