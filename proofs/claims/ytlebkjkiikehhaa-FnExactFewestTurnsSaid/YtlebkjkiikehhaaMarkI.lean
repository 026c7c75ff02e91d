/-
  SMALL AID: a block of integers of one's own may be written.
-/
import Derived.Test.YtlebkjkiikehhaaMark
namespace Go.Proofs.Ytlebkjkiikehhaa
open Go.RowKit

theorem Own.ofInts {w : World} {g n : Nat} {t : TypeId} {l : List Int} (h : Hid (Blk w g t (ints l))) (hl : n = l.length) : Own w (some ⟨g, 0, none⟩) n :=
  Own.ofBlk h.out (by simp [ints, hl])

end Go.Proofs.Ytlebkjkiikehhaa
