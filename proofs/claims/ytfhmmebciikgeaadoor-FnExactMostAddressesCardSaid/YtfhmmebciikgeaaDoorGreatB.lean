/-
  PLAIN LAW: sets of numbers below 32 as bits of one number; the search for the greatest number of things that are far from one another. No program in sight.
-/
import Derived.Test.YtfhmmebciikgeaaDoorGreatQ
import Derived.Lib.TrailingZeros
namespace Go.Proofs.YtfhmmebciikgeaaDoor

theorem tb_andNot {a b : Nat} (ha : a < 4294967296) (hb : b < 4294967296) (k : Nat) : (a &&& (4294967295 - b)).testBit k = (a.testBit k && !b.testBit k) := by
  rw [Nat.testBit_and, show 4294967295 - b = 2 ^ 32 - (b + 1) by omega, Nat.testBit_two_pow_sub_succ (by omega)]
  by_cases h : k < 32
  · simp [h]
  · have : a.testBit k = false := Nat.testBit_lt_two_pow (Nat.lt_of_lt_of_le ha (Nat.pow_le_pow_right (n := 2) (by decide) (show 32 ≤ k by omega)))
    simp [this]
theorem tb_lt {a k : Nat} (ha : a < 4294967296) (h : a.testBit k = true) : k < 32 := by
  rcases Nat.lt_or_ge k 32 with h1 | h1
  · exact h1
  · have : a.testBit k = false := Nat.testBit_lt_two_pow (Nat.lt_of_lt_of_le ha (Nat.pow_le_pow_right (n := 2) (by decide) h1))
    rw [this] at h
    exact absurd h (by simp)
theorem tb_one {k : Nat} (j : Nat) : (2 ^ k).testBit j = decide (k = j) := Nat.testBit_two_pow
/-- Without the lowest one. -/
theorem tb_less {a j : Nat} (h : (a &&& (a - 1)).testBit j = true) : a.testBit j = true := by
  rw [Nat.testBit_and] at h
  simp at h
  exact h.1
theorem less_lt {a : Nat} (h : a ≠ 0) : a &&& (a - 1) < a := by
  have : a &&& (a - 1) ≤ a - 1 := Nat.and_le_right
  omega
/-- The lowest one. -/
theorem tb_ctz {a : Nat} (h0 : a ≠ 0) (h : a < 4294967296) : a.testBit (Lib.ctz 32 a) = true ∧ Lib.ctz 32 a < 32 := by
  obtain ⟨h1, h2⟩ := Lib.lowest_bit 32 a h0 h
  refine ⟨?_, h2⟩
  have h3 : (a &&& (2 ^ 32 - a)).testBit (Lib.ctz 32 a) = true := by rw [h1]; simp
  rw [Nat.testBit_and] at h3
  simp at h3
  exact h3.1

/-! ### how many -/
def pc8 (j : Nat) : Nat := j % 2 + j / 2 % 2 + j / 4 % 2 + j / 8 % 2 + j / 16 % 2 + j / 32 % 2 + j / 64 % 2 + j / 128 % 2
def pc32 (y : Nat) : Nat := pc8 (y / 16777216 % 256) + pc8 (y / 65536 % 256) + pc8 (y / 256 % 256) + pc8 (y % 256)
theorem pc8_le (j : Nat) : pc8 j ≤ 8 := by unfold pc8; omega
theorem pc32_le (y : Nat) : pc32 y ≤ 32 := by
  have h1 := pc8_le (y / 16777216 % 256)
  have h2 := pc8_le (y / 65536 % 256)
  have h3 := pc8_le (y / 256 % 256)
  have h4 := pc8_le (y % 256)
  unfold pc32; omega
theorem pc8_all : ((List.range 256).all fun j => (List.range 8).all fun a => !j.testBit a || (decide (1 ≤ pc8 j) && (List.range 8).all fun b => !j.testBit b || decide (a = b) || decide (2 ≤ pc8 j))) = true := by decide +kernel
theorem pc8_one (j : Nat) (hj : j < 256) (a : Nat) (ha : a < 8) (h : j.testBit a = true) : 1 ≤ pc8 j ∧ ∀ b, b < 8 → j.testBit b = true → a ≠ b → 2 ≤ pc8 j := by
  have h1 := List.all_eq_true.1 (List.all_eq_true.1 pc8_all j (List.mem_range.2 hj)) a (List.mem_range.2 ha)
  rw [h, Bool.not_true, Bool.false_or, Bool.and_eq_true, decide_eq_true_eq] at h1
  refine ⟨h1.1, fun b hb hb2 hn => ?_⟩
  have h2 := List.all_eq_true.1 h1.2 b (List.mem_range.2 hb)
  rw [hb2, Bool.not_true, Bool.false_or, Bool.or_eq_true, decide_eq_true_eq, decide_eq_true_eq] at h2
  rcases h2 with h2 | h2
  · exact absurd h2 hn
  · exact h2
theorem tb_byte (y q a : Nat) (ha : a < 8) : (y / 2 ^ (8 * q) % 256).testBit a = y.testBit (8 * q + a) := by
  rw [show 256 = 2 ^ 8 from rfl, Nat.testBit_mod_two_pow, Nat.testBit_div_two_pow]
  simp [ha, Nat.add_comm]
/-- Where there is at most one, two are the same. -/
theorem pc32_one {y a b : Nat} (hy : y < 4294967296) (h : pc32 y ≤ 1) (ha : y.testBit a = true) (hb : y.testBit b = true) : a = b := by
  have a32 := tb_lt hy ha
  have b32 := tb_lt hy hb
  have key : ∀ q c, y.testBit c = true → c / 8 = q → (y / 2 ^ (8 * q) % 256).testBit (c % 8) = true := fun q c hc hq => by
    rw [tb_byte y q _ (by omega), show 8 * q + c % 8 = c by omega]
    exact hc
  have one : ∀ q c, y.testBit c = true → c / 8 = q → 1 ≤ pc8 (y / 2 ^ (8 * q) % 256) := fun q c hc hq => (pc8_one _ (Nat.mod_lt _ (by decide)) (c % 8) (by omega) (key q c hc hq)).1
  have two : ∀ q, a / 8 = q → b / 8 = q → a ≠ b → 2 ≤ pc8 (y / 2 ^ (8 * q) % 256) := fun q h1 h2 hn => (pc8_one _ (Nat.mod_lt _ (by decide)) (a % 8) (by omega) (key q a ha h1)).2 (b % 8) (by omega) (key q b hb h2) (by omega)
  have e3 : y / 2 ^ (8 * 3) % 256 = y / 16777216 % 256 := rfl
  have e2 : y / 2 ^ (8 * 2) % 256 = y / 65536 % 256 := rfl
  have e1 : y / 2 ^ (8 * 1) % 256 = y / 256 % 256 := rfl
  have e0 : y / 2 ^ (8 * 0) % 256 = y % 256 := by simp
  unfold pc32 at h
  rcases Nat.decEq a b with hn | hn
  · exfalso
    have qa : a / 8 = 0 ∨ a / 8 = 1 ∨ a / 8 = 2 ∨ a / 8 = 3 := by omega
    have qb : b / 8 = 0 ∨ b / 8 = 1 ∨ b / 8 = 2 ∨ b / 8 = 3 := by omega
    rcases qa with qa | qa | qa | qa <;> rcases qb with qb | qb | qb | qb <;>
      (have p := one _ a ha qa; have q := one _ b hb qb; have r := two (a / 8) rfl; rw [qa, qb] at r; first | (have r := r rfl hn; simp only [e0, e1, e2, e3] at p q r; omega) | (simp only [e0, e1, e2, e3] at p q; omega))
  · exact hn

/-! ### the search -/
/-- For each number the set of those that are near it. -/
structure NearS (far : Nat → Nat → Bool) (n : Nat) (nr : List Nat) : Prop where
  symm : ∀ a b, far a b = far b a
  len : nr.length = n
  lt : ∀ (a : Nat) (h : a < nr.length), nr[a] < 4294967296
  bit : ∀ (a : Nat) (h : a < nr.length) (b : Nat), b < n → nr[a].testBit b = (decide (a ≠ b) && !far a b)
/-- m is the greatest number of things of a set of which each two are far from one another. -/
def SetAl (far : Nat → Nat → Bool) (s m : Nat) : Prop := IsAl far (fun a => s.testBit a = true) m
theorem SetAl.zero (far : Nat → Nat → Bool) : SetAl far 0 0 := IsAl.none (fun a => by simp)
/-- That number. -/
def apM (far : Nat → Nat → Bool) (s : Nat) : Nat := alL far ((List.range 32).filter fun a => s.testBit a)
theorem apM_le (far : Nat → Nat → Bool) (s : Nat) : apM far s ≤ 32 := by
  have h1 := alL_le far ((List.range 32).filter fun a => s.testBit a)
  have h2 := List.length_filter_le (fun a => s.testBit a) (List.range 32)
  rw [List.length_range] at h2
  exact Nat.le_trans h1 h2
theorem apM_al {far : Nat → Nat → Bool} (hf : ∀ a b, far a b = far b a) {s : Nat} (hs : s < 4294967296) : SetAl far s (apM far s) := by
  unfold apM alL
  refine IsAl.congr (alF_isAl far hf _ _ (Nat.le_refl _) ?_) (fun _ _ _ _ _ => rfl) (fun a => ?_)
  · exact List.Pairwise.filter _ List.nodup_range
  · rw [List.mem_filter, List.mem_range]
    exact ⟨fun h => h.2, fun h => ⟨tb_lt hs h, h⟩⟩
theorem SetAl.eq {far : Nat → Nat → Bool} (hf : ∀ a b, far a b = far b a) {s m : Nat} (hs : s < 4294967296) (h : SetAl far s m) : m = apM far s := IsAl.unique h (apM_al hf hs)
theorem apM_zero (far : Nat → Nat → Bool) (hf : ∀ a b, far a b = far b a) : apM far 0 = 0 := (SetAl.eq hf (by decide) (SetAl.zero far)).symm
section
variable {far : Nat → Nat → Bool} {n : Nat} {nr : List Nat}
theorem NearS.get (h : NearS far n nr) {a b : Nat} (ha : a < nr.length) (hb : b < n) : nr[a].testBit b = (decide (a ≠ b) && !far a b) := h.bit a ha b hb
theorem sub_lt {s t : Nat} (h : s &&& t = s → False) : s &&& t < s := by
  have : s &&& t ≤ s := Nat.and_le_left
  rcases Nat.lt_or_ge (s &&& t) s with h1 | h1
  · exact h1
  · exact absurd (Nat.le_antisymm this h1) h
theorem drop_lt {s k : Nat} (hs : s < 4294967296) (hk : s.testBit k = true) : s &&& (4294967295 - 2 ^ k) < s := by
  refine sub_lt (fun e => ?_)
  have h32 := tb_lt hs hk
  have hp : 2 ^ k < 4294967296 := Nat.pow_lt_pow_right (a := 2) (by decide) h32
  have h1 := tb_andNot hs hp k
  rw [e, hk, tb_one] at h1
  simp at h1
/-- One with at most one near it is taken. -/
theorem setAl_take (h : NearS far n nr) {s k m : Nat} (hs : s < 2 ^ n) (hn : n ≤ 32) (hk : s.testBit k = true) (hkl : k < nr.length) (hp : pc32 (nr[k] &&& s) ≤ 1)
    (hm : SetAl far ((s &&& (4294967295 - nr[k])) &&& (4294967295 - 2 ^ k)) m) : SetAl far s (1 + m) := by
  have hs32 : s < 4294967296 := Nat.lt_of_lt_of_le hs (Nat.pow_le_pow_right (n := 2) (by decide) hn)
  have hb : ∀ b, s.testBit b = true → b < n := fun b hb => by
    rcases Nat.lt_or_ge b n with h1 | h1
    · exact h1
    · rw [Nat.testBit_lt_two_pow (Nat.lt_of_lt_of_le hs (Nat.pow_le_pow_right (n := 2) (by decide) h1))] at hb
      exact absurd hb (by simp)
  have hq : s &&& (4294967295 - nr[k]) < 4294967296 := Nat.lt_of_le_of_lt Nat.and_le_left hs32
  have hp2 : 2 ^ k < 4294967296 := Nat.pow_lt_pow_right (a := 2) (by decide) (tb_lt hs32 hk)
  refine IsAl.take h.symm hk ?_ (IsAl.congr hm (fun _ _ _ _ _ => rfl) fun a => ?_)
  · intro a b ha hb2 hna hnb fa fb
    refine pc32_one (y := nr[k] &&& s) (Nat.lt_of_le_of_lt Nat.and_le_right hs32) hp ?_ ?_
    · rw [Nat.testBit_and, h.get hkl (hb a ha), ha, fa]
      simp [Ne.symm hna]
    · rw [Nat.testBit_and, h.get hkl (hb b hb2), hb2, fb]
      simp [Ne.symm hnb]
  · rw [tb_andNot hq hp2, tb_andNot hs32 (h.lt k hkl), tb_one]
    cases hsa : s.testBit a with
    | false => simp
    | true =>
      rw [h.get hkl (hb a hsa)]
      by_cases e : k = a
      · simp [e]
      · have e2 : a ≠ k := fun h => e h.symm
        simp [e, e2]
theorem take_lt {s k t : Nat} (hs : s < 4294967296) (hk : s.testBit k = true) : (s &&& (4294967295 - t)) &&& (4294967295 - 2 ^ k) < s := by
  have hq : s &&& (4294967295 - t) < 4294967296 := Nat.lt_of_le_of_lt Nat.and_le_left hs
  by_cases hc : (s &&& (4294967295 - t)).testBit k = true
  · exact Nat.lt_of_lt_of_le (drop_lt hq hc) Nat.and_le_left
  · refine Nat.lt_of_le_of_lt Nat.and_le_left (sub_lt fun e => ?_)
    rw [e] at hc
    exact hc hk
/-- One is taken, or left out. -/
theorem setAl_split (h : NearS far n nr) {s k x y : Nat} (hs : s < 2 ^ n) (hn : n ≤ 32) (hk : s.testBit k = true) (hkl : k < nr.length)
    (hx : SetAl far (s &&& (4294967295 - 2 ^ k)) x) (hy : SetAl far ((s &&& (4294967295 - 2 ^ k)) &&& (4294967295 - nr[k])) y) : SetAl far s (max x (1 + y)) := by
  have hs32 : s < 4294967296 := Nat.lt_of_lt_of_le hs (Nat.pow_le_pow_right (n := 2) (by decide) hn)
  have hb : ∀ b, s.testBit b = true → b < n := fun b hb => by
    rcases Nat.lt_or_ge b n with h1 | h1
    · exact h1
    · rw [Nat.testBit_lt_two_pow (Nat.lt_of_lt_of_le hs (Nat.pow_le_pow_right (n := 2) (by decide) h1))] at hb
      exact absurd hb (by simp)
  have hp2 : 2 ^ k < 4294967296 := Nat.pow_lt_pow_right (a := 2) (by decide) (tb_lt hs32 hk)
  have hq : s &&& (4294967295 - 2 ^ k) < 4294967296 := Nat.lt_of_le_of_lt Nat.and_le_left hs32
  have e1 : ∀ a, (s &&& (4294967295 - 2 ^ k)).testBit a = true ↔ (s.testBit a = true ∧ a ≠ k) := fun a => by
    rw [tb_andNot hs32 hp2, tb_one]
    by_cases e : k = a
    · simp [e]
    · simp [e, Ne.symm e]
  refine IsAl.split h.symm hk (IsAl.congr hx (fun _ _ _ _ _ => rfl) e1) (IsAl.congr hy (fun _ _ _ _ _ => rfl) fun a => ?_)
  · rw [tb_andNot hq (h.lt k hkl), Bool.and_eq_true, e1]
    constructor
    · rintro ⟨⟨h1, h2⟩, h3⟩
      rw [h.get hkl (hb a h1)] at h3
      refine ⟨⟨h1, h2⟩, ?_⟩
      simpa [Ne.symm h2] using h3
    · rintro ⟨⟨h1, h2⟩, h3⟩
      rw [h.get hkl (hb a h1)]
      refine ⟨⟨h1, h2⟩, ?_⟩
      simp [h3]
/-- The same, as equations. -/
theorem pow_n (hn : n ≤ 32) {s : Nat} (hs : s < 2 ^ n) : s < 4294967296 := Nat.lt_of_lt_of_le hs (Nat.pow_le_pow_right (n := 2) (by decide) hn)
theorem tb_n {s : Nat} (hs : s < 2 ^ n) {b : Nat} (hb : s.testBit b = true) : b < n := by
  rcases Nat.lt_or_ge b n with h1 | h1
  · exact h1
  · rw [Nat.testBit_lt_two_pow (Nat.lt_of_lt_of_le hs (Nat.pow_le_pow_right (n := 2) (by decide) h1))] at hb
    exact absurd hb (by simp)
theorem apM_take (h : NearS far n nr) {s k : Nat} (hs : s < 2 ^ n) (hn : n ≤ 32) (hk : s.testBit k = true) (hkl : k < nr.length) (hp : pc32 (nr[k] &&& s) ≤ 1) :
    apM far s = 1 + apM far ((s &&& (4294967295 - nr[k])) &&& (4294967295 - 2 ^ k)) := by
  have hs32 := pow_n hn hs
  have hq : (s &&& (4294967295 - nr[k])) &&& (4294967295 - 2 ^ k) < 4294967296 := Nat.lt_trans (take_lt hs32 hk) hs32
  exact (SetAl.eq h.symm hs32 (setAl_take h hs hn hk hkl hp (apM_al h.symm hq))).symm
theorem apM_split (h : NearS far n nr) {s k : Nat} (hs : s < 2 ^ n) (hn : n ≤ 32) (hk : s.testBit k = true) (hkl : k < nr.length) :
    apM far s = max (apM far (s &&& (4294967295 - 2 ^ k))) (1 + apM far ((s &&& (4294967295 - 2 ^ k)) &&& (4294967295 - nr[k]))) := by
  have hs32 := pow_n hn hs
  have hq : s &&& (4294967295 - 2 ^ k) < 4294967296 := Nat.lt_trans (drop_lt hs32 hk) hs32
  have hq2 : (s &&& (4294967295 - 2 ^ k)) &&& (4294967295 - nr[k]) < 4294967296 := Nat.lt_of_le_of_lt Nat.and_le_left hq
  exact (SetAl.eq h.symm hs32 (setAl_split h hs hn hk hkl (apM_al h.symm hq) (apM_al h.symm hq2))).symm
end
/-- All numbers below n. -/
theorem tb_all (n a : Nat) : (2 ^ n - 1).testBit a = decide (a < n) := Nat.testBit_two_pow_sub_one ..

/-- The specification's number and the program's. -/
def farI (g r : Nat) (d : Int) (a b : Nat) : Bool := farR r d ((allW g r)[a]?.getD ByteArray.empty) ((allW g r)[b]?.getD ByteArray.empty)
theorem farI_symm (g r : Nat) (d : Int) (a b : Nat) : farI g r d a b = farI g r d b a := farR_symm ..
theorem great_setAl {g : Nat} (hg0 : 0 < g) (hg : g ≤ 4) (r : Nat) (d : Int) {m : Nat} (h : SetAl (farI g r d) (2 ^ (allW g r).length - 1) m) : m = greatW g r d := by
  refine IsAl.unique ?_ (greatW_isAl hg0 hg r d)
  have hl : (allW g r).length = (lsL g r).length := by rw [allW_ls, List.length_map]
  have hget : ∀ a (h : a < (lsL g r).length), (allW g r)[a]?.getD ByteArray.empty = encL ((lsL g r)[a]) := fun a h => by
    simp [allW_ls, h]
  refine IsAl.map (fun a => (lsL g r)[a]?.getD []) (fun x => (lsL g r).idxOf x) (fun a ha => ?_) (fun b hb => ?_) (fun a b ha hb => ?_) h
  · rw [tb_all, decide_eq_true_eq, hl] at ha
    have e : (lsL g r)[a]?.getD [] = (lsL g r)[a] := by simp [ha]
    refine ⟨by show (lsL g r)[a]?.getD [] ∈ _; rw [e]; exact List.getElem_mem ha, ?_⟩
    show (lsL g r).idxOf ((lsL g r)[a]?.getD []) = a
    rw [e]
    exact (lsL_nodup g r).idxOf_getElem a ha
  · have h2 : (lsL g r).idxOf b < (lsL g r).length := List.idxOf_lt_length_of_mem hb
    refine ⟨by rw [tb_all, decide_eq_true_eq, hl]; exact h2, ?_⟩
    show (lsL g r)[(lsL g r).idxOf b]?.getD [] = b
    simp [h2]
  · rw [tb_all, decide_eq_true_eq, hl] at ha hb
    have ea : (lsL g r)[a]?.getD [] = (lsL g r)[a] := by simp [ha]
    have eb : (lsL g r)[b]?.getD [] = (lsL g r)[b] := by simp [hb]
    show farI g r d a b = farL d ((lsL g r)[a]?.getD []) ((lsL g r)[b]?.getD [])
    rw [ea, eb, farI, hget a ha, hget b hb]
    exact farR_enc hg d (List.getElem_mem ha) (List.getElem_mem hb)
end Go.Proofs.YtfhmmebciikgeaaDoor
