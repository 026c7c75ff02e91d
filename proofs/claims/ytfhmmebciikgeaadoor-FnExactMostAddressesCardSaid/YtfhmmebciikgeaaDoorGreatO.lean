/-
  CONTRACTS: how many bits of a number are set; where the lowest one lies.
-/
import Derived.Test.YtfhmmebciikgeaaDoorGreatB
import Derived.Test.YtfhmmebciikgeaaDoorNum
import Derived.Laws.BitsAllLaws
namespace Go.Proofs.YtfhmmebciikgeaaDoor
open Go.RowKit

set_option maxHeartbeats 1000000 in
set_option maxRecDepth 100000 in
theorem ones_any (y : Nat) (hy : y < 4294967296) (w : World) : Calls Tryd.prog 21 #[.int .u32 y] w (RetN w (.int .i64 (pc32 y))) := by
  go_enter Tryd.func21, Tryd.ntmps21
  go_wp2_with fail
  generalize hT : (ByteArray.mk _) = T
  have hTS : T.size = 256 := by rw [← hT]; kernel_rfl
  have HTB : Hid (∀ (j : Nat) (h : j < T.size), T[j].toNat = pc8 j) := by
    show ∀ j, _
    have h1 : T.data.toList.map UInt8.toNat = (List.range 256).map pc8 := by rw [← hT]; kernel_rfl
    intro j hj
    have h2 := congrArg (fun l : List Nat => l[j]?) h1
    have hj2 : j < T.data.size := hj
    have hj3 : j < 256 := by omega
    have e1 : T.data.toList[j]? = some T[j] := by
      rw [Array.getElem?_toList]
      exact Array.getElem?_eq_getElem hj2
    have e2 : (List.range 256)[j]? = some j := by simp [hj3]
    rw [List.getElem?_map, List.getElem?_map, e1, e2] at h2
    exact Option.some.inj h2
  clear hT
  obtain ⟨q3, h3⟩ : ∃ q : Nat, q = y / 16777216 % 256 := ⟨_, rfl⟩
  obtain ⟨q2, h2⟩ : ∃ q : Nat, q = y / 65536 % 256 := ⟨_, rfl⟩
  obtain ⟨q1, h1⟩ : ∃ q : Nat, q = y / 256 % 256 := ⟨_, rfl⟩
  obtain ⟨q0, h0⟩ : ∃ q : Nat, q = y % 256 := ⟨_, rfl⟩
  obtain ⟨z2, g2⟩ : ∃ q : Nat, q = y / 65536 := ⟨_, rfl⟩
  obtain ⟨z1, g1⟩ : ∃ q : Nat, q = y / 256 := ⟨_, rfl⟩
  have hand : ∀ z : Nat, z < 4294967296 → bits .and .u32 (z : Int) 255 = ((z % 256 : Nat) : Int) := fun z hz => by
    have := u32_and_nat z 255 hz (by omega)
    rw [show ((255 : Nat) : Int) = 255 from rfl] at this
    rw [this, show 255 = 2 ^ 8 - 1 from rfl, Nat.and_two_pow_sub_one_eq_mod]
  have e3 : (y : Int) / 16777216 = (q3 : Int) := by omega
  have e2 : (y : Int) / 65536 = (z2 : Int) := by omega
  have e1 : (y : Int) / 256 = (z1 : Int) := by omega
  have b2 : bits .and .u32 (z2 : Int) 255 = (q2 : Int) := by rw [hand z2 (by omega), g2, ← h2]
  have b1 : bits .and .u32 (z1 : Int) 255 = (q1 : Int) := by rw [hand z1 (by omega), g1, ← h1]
  have b0 : bits .and .u32 (y : Int) 255 = (q0 : Int) := by rw [hand y hy, ← h0]
  have hq3 : q3 < T.size := by omega
  have hq2 : q2 < T.size := by omega
  have hq1 : q1 < T.size := by omega
  have hq0 : q0 < T.size := by omega
  have v3 := HTB.out q3 hq3
  have v2 := HTB.out q2 hq2
  have v1 := HTB.out q1 hq1
  have v0 := HTB.out q0 hq0
  have l3 := pc8_le q3
  have l2 := pc8_le q2
  have l1 := pc8_le q1
  have l0 := pc8_le q0
  have hpc : Hid (pc32 y = pc8 q3 + pc8 q2 + pc8 q1 + pc8 q0) := by show _ = _; rw [h3, h2, h1, h0]; rfl
  clear HTB hTS hand h3 h2 h1 h0 g2 g1
  generalize pc8 q3 = c3 at *
  generalize pc8 q2 = c2 at *
  generalize pc8 q1 = c1 at *
  generalize pc8 q0 = c0 at *
  go_quiet (fail)
  go_wp2_with fail
  go_ret
  exact ⟨by rw [hpc.out]; go_num, _, rfl⟩

/-- The table of the library in its variable. -/
def TzTab (w : World) : Prop := ∀ j, j < 32 → w.cell? ⟨0, j, none⟩ = some (.int .u8 (Lib.deBruijn32tab.getD j 0 : Nat))
theorem TzTab.bel {w w' : World} (h : TzTab w) (hb : Below w.heap.size w w') : TzTab w' := fun j hj => bel_cell hb (h j hj)
theorem TzTab.drewN {w : World} (h : TzTab w) (n : Nat) : TzTab (w.drewN n) := h
theorem tzKey (x a : Nat) (hx : x < 4294967296) (hx0 : x ≠ 0) (hlow : x &&& (4294967296 - x) = a) :
    bits BinOp.and IntKind.u32 (x : Int) (-(x : Int) % 4294967296) * 125613361 % 4294967296 / 134217728 = ((a * 125613361 % 4294967296 / 134217728 : Nat) : Int) := by
  have e1 : -(x : Int) % 4294967296 = ((4294967296 - x : Nat) : Int) := by omega
  rw [e1, u32_and_nat x _ hx (by omega), hlow]
  omega

set_option maxHeartbeats 1000000 in
theorem tz_core (x k idx : Nat) (w : World) (hx0 : ((x : Int) == 0) = false)
    (key : bits BinOp.and IntKind.u32 (x : Int) (-(x : Int) % 4294967296) * 125613361 % 4294967296 / 134217728 = (idx : Int))
    (hi : idx < 32) (hk : k < 32) (hcell : w.cell? ⟨0, idx, none⟩ = some (.int .u8 (k : Nat))) :
    Calls Tryd.prog 20 #[.int .u32 x] w (Ret0 w (.int .i64 (k : Nat))) := by
  go_enter Tryd.func20, Tryd.ntmps20
  go_wp2_with (simp only [key])
  go_ret
  exact ⟨rfl, rfl⟩
theorem tz_any (x : Nat) (hx0 : x ≠ 0) (hx : x < 4294967296) (w : World) (hT : TzTab w) : Calls Tryd.prog 20 #[.int .u32 x] w (Ret0 w (.int .i64 (Lib.ctz 32 x : Nat))) := by
  obtain ⟨hlow, hk⟩ := Lib.lowest_bit 32 x hx0 hx
  obtain ⟨hi, htab⟩ := Lib.deBruijn32_at _ hk
  have hcell := hT _ hi
  rw [htab] at hcell
  exact tz_core x _ _ w (by simp; omega) (tzKey x _ hx hx0 hlow) hi hk hcell
end Go.Proofs.YtfhmmebciikgeaaDoor
