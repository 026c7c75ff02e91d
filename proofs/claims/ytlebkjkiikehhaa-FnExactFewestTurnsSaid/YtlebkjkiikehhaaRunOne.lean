/-
  SMALL AIDS: one run in a fresh block. No program in sight.
-/
import Derived.Test.YtlebkjkiikehhaaRunV
namespace Go.Proofs.Ytlebkjkiikehhaa
open Go.RowKit

theorem runsOk_one {ts : List Int} {r : Rn} (h : runsOk ts [r] = true) : validT ts = true ∧ runOk ts.length r = true := by
  obtain ⟨h1, -, h3⟩ := runsOk_true h
  exact ⟨h1, h3 0 (by simp)⟩
/-- One run in a fresh block. -/
theorem RunsAt.one {w : World} {A : Option Addr} {n c : Nat} {r : Rn} {t : TypeId} {g : Nat} (hB : Blk w g t #[.slice A n c, .int .i64 r.2]) (hl : n = r.1.length) (h : IntsAt w A r.1) (hn : n ≤ 1048576) : RunsAt w (some ⟨g, 0, none⟩) [r] := fun _ =>
  ⟨g, 0, rfl, hB.lt, fun k hk => by
    obtain rfl : k = 0 := by simpa using hk
    refine ⟨A, c, ?_, ?_, h, by show r.1.length ≤ _; omega⟩
    · rw [hB.cell]; subst hl; rfl
    · rw [hB.cell]; rfl⟩
theorem Small.one {r : Rn} {n : Nat} (hl : n = r.1.length) (hn : n ≤ 1048576) : Small [r] := ⟨by simp, fun k hk => by
  obtain rfl : k = 0 := by simpa using hk
  show r.1.length ≤ _; omega⟩

end Go.Proofs.Ytlebkjkiikehhaa
