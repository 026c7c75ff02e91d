/-
  CONTRACTS: marks written over a slice of strings, and looked for afterwards.
-/
import Derived.Test.YtfhmmebciikgeaaDoorMark
import Derived.Test.YtfhmmebciikgeaaDoorStr
import Derived.Laws.IdiomStrings
namespace Go.Proofs.YtfhmmebciikgeaaDoor
open Go.RowKit

/-- The text of one digit. -/
def dgt (n : Nat) : ByteArray := ⟨#[UInt8.ofNat (48 + n % 10)]⟩
def mtF : Nat → Nat → ByteArray → ByteArray
  | 0, _, s => s
  | f + 1, n, s => if n = 0 then s else mtF f (n / 10) (dgt n ++ s)
/-- The text of a mark. -/
def markTx (n : Nat) : ByteArray := if n = 0 then ⟨#[109, 48]⟩ else (⟨#[109]⟩ : ByteArray) ++ mtF n n ⟨#[]⟩
theorem mtF_zero (f : Nat) (s : ByteArray) : mtF f 0 s = s := by cases f <;> simp [mtF]

theorem conv_dgt (w : World) (g m : Nat) (h : w.cell? ⟨g, 0, none⟩ = some (.int .u8 (48 + (m : Int) % 10))) :
    (convert 40 9 (.slice (some ⟨g, 0, none⟩) 1 1)).run Tryd.prog w = .ok (.string (dgt m)) w := by
  refine run_convert_bytes_back (P := Tryd.prog) w 40 9 5 ⟨g, 0, none⟩ 1 [UInt8.ofNat (48 + m % 10)] Tryd.underlying40 Tryd.underlying5 Tryd.underlying9 ?_
  intro j hj
  obtain rfl : j = 0 := by simpa using hj
  rw [Addr.add_lit, h]
  simp
  omega

def marksS (m n : Nat) : List ByteArray := (List.range n).map fun k => markTx (m + k)
theorem marksS_len (m n : Nat) : (marksS m n).length = n := by simp [marksS]
theorem marksS_at {m n i : Nat} (h : i < (marksS m n).length) : (marksS m n)[i] = markTx (m + i) := by simp [marksS]
/-- Marks stand in a slice of strings, and nothing else has turned. -/
def MarkedS (w : World) (A : Option Addr) (n m : Nat) (e : Ending) (w' : World) : Prop :=
  e = .returned (.int .i64 ((m + n : Nat) : Int)) ∧ StrsAt w' A (marksS m n) ∧ But A w w'
theorem StrsAt.but {A B : Option Addr} {w w' : World} {l : List ByteArray} (h : StrsAt w A l) (hb : But B w w') (hne : 0 < l.length → ∀ p q, A = some p → B = some q → q.block ≠ p.block) : StrsAt w' A l := fun h0 => by
  obtain ⟨b, o, e, hlt, hc⟩ := h h0
  exact ⟨b, o, e, Nat.lt_of_lt_of_le hlt hb.size, fun k hk => hb.cell (fun q hq => hne h0 _ q e hq) (hc k hk)⟩
theorem StrsAt.src {A : Option Addr} {w : World} {l : List ByteArray} (h : StrsAt w A l) : 0 < l.length → ∀ p, A = some p → p.block < w.heap.size := fun h0 p hp => by
  obtain ⟨b, o, e, hlt, _⟩ := h h0
  rw [e] at hp
  injection hp with hp
  subst hp
  exact hlt
theorem Own.ofStrs {w : World} {g n : Nat} {t : TypeId} {l : List ByteArray} (h : Hid (Blk w g t (strB l))) (hl : n = l.length) : Own w (some ⟨g, 0, none⟩) n :=
  Own.ofBlk h.out (by simp [strB, hl])

end Go.Proofs.YtfhmmebciikgeaaDoor
