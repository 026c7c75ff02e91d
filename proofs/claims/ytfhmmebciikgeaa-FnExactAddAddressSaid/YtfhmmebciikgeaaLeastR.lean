/-
  CONTRACTS: LeastDistance and CorrectsAll, the specification's and the program's (printed by tools/gen_leastr.py).
-/
import Derived.Test.YtfhmmebciikgeaaLeast
namespace Go.Proofs.Ytfhmmebciikgeaa
open Go.RowKit

def leastR (g : Int) (l : List ByteArray) : Int × Int := if validA g l then (if l.length < 2 then (0, 3) else (leastA l, 0)) else (0, 1)
def halfI (x : Int) : Int := (x - 1).tdiv 2
def corrR (g : Int) (l : List ByteArray) : Int × Int := if validA g l then (if l.length < 2 then (0, 3) else (halfI (leastA l), 0)) else (0, 1)
theorem even_of {g : Int} {l : List ByteArray} (h : validA g l = true) : Even l := fun k hk => by
  have := (validA_true h).2.2.2 k hk
  exact ⟨this.2.1, this.2.2⟩
def pairsC (g : Int) (l : List ByteArray) : Int := if validA g l then (if l.length < 2 then 3 else 0) else 1

set_option maxHeartbeats 1000000 in
theorem pairsCode_any (g : Int) (A : Option Addr) (n c : Nat) (l : List ByteArray) (w : World) (h : StrsAt w A l) (hl : n = l.length) (hs : SmallS l) (hc : n ≤ c) :
    Calls Try.prog 54 #[.int .i64 g, .slice A n c] w (Ret w (.int .i64 (pairsC g l))) := by
  have hn0 : n ≤ 1048576 := by rw [hl]; exact hs.1
  have HL := Lib.hid hl
  have HS := Lib.hid hs
  have H := Lib.hid h
  clear hl hs h
  go_enter Try.func54, Try.ntmps54
  go_wp2_with fail
  refine (implValidA_any g A n c l _ H.out HL.out HS.out hc).mono ?_
  rintro e w1 ⟨rfl, hb1⟩
  cases hv : validA g l
  · have E : Hid (pairsC g l = 1) := by show _ = _; simp [pairsC, hv]
    clear hv
    go_wp2_with fail
    go_ret
    rw [E.out]
    exact ⟨rfl, hb1⟩
  · by_cases h2 : n < 2
    · have E : Hid (pairsC g l = 3) := by show _ = _; unfold pairsC; rw [if_pos hv, if_pos (by rw [← HL.out]; exact h2)]
      clear hv
      go_wp2_with fail
      go_ret
      rw [E.out]
      exact ⟨rfl, hb1⟩
    · have E : Hid (pairsC g l = 0) := by show _ = _; unfold pairsC; rw [if_pos hv, if_neg (by rw [← HL.out]; exact h2)]
      clear hv
      go_wp2_with fail
      go_ret
      rw [E.out]
      exact ⟨rfl, hb1⟩

set_option maxHeartbeats 1000000 in
theorem specLeastDistance_any (g : Int) (A : Option Addr) (n c : Nat) (l : List ByteArray) (w : World) (h : StrsAt w A l) (hl : n = l.length) (hs : SmallS l) :
    Calls Try.prog 26 #[.int .i64 g, .slice A n c] w (Ret w (.tuple #[.int .i64 (leastR g l).1, .int .i64 (leastR g l).2])) := by
  have hn0 : n ≤ 1048576 := by rw [hl]; exact hs.1
  have HL := Lib.hid hl
  have HS := Lib.hid hs
  have H := Lib.hid h
  clear hl hs h
  go_enter Try.func26, Try.ntmps26
  go_wp2_with fail
  refine (l05Ok_any g A n c l _ H.out HL.out HS.out).mono ?_
  rintro e w1 ⟨rfl, hb1⟩
  cases hv : validA g l
  · have E : Hid (leastR g l = (0, 1)) := by show _ = _; simp [leastR, hv]
    clear hv
    go_wp2_with fail
    refine bodyPost_ret (v := .tuple #[.int .i64 0, .int .i64 1]) (by simp [results, Try.results26, go_sem]) rfl ?_
    rw [E.out]
    exact ⟨rfl, hb1⟩
  · by_cases h2 : n < 2
    · have E : Hid (leastR g l = (0, 3)) := by show _ = _; unfold leastR; rw [if_pos hv, if_pos (by rw [← HL.out]; exact h2)]
      clear hv
      go_wp2_with fail
      refine bodyPost_ret (v := .tuple #[.int .i64 0, .int .i64 3]) (by simp [results, Try.results26, go_sem]) rfl ?_
      rw [E.out]
      exact ⟨rfl, hb1⟩
    · have E : Hid (leastR g l = (leastA l, 0)) := by show _ = _; unfold leastR; rw [if_pos hv, if_neg (by rw [← HL.out]; exact h2)]
      have HV := Lib.hid hv
      clear hv
      go_wp2_with fail
      refine (l05Least_any A n c l _ (H.out.bel hb1) HL.out hn0 (even_of HV.out)).mono ?_
      rintro e w2 ⟨rfl, hb2, hx0, hx1⟩
      obtain ⟨x, hx⟩ : ∃ x, leastA l = x := ⟨_, rfl⟩
      rw [hx] at hx0 hx1 E
      rw [hx]
      clear hx
      go_wp2_with fail
      refine bodyPost_ret (v := .tuple #[.int .i64 x, .int .i64 0]) (by simp [results, Try.results26, go_sem]) rfl ?_
      rw [E.out]
      exact ⟨rfl, bel_next hb1 hb2⟩

set_option maxHeartbeats 1000000 in
theorem implLeastDistance_any (g : Int) (A : Option Addr) (n c : Nat) (l : List ByteArray) (w : World) (h : StrsAt w A l) (hl : n = l.length) (hs : SmallS l) (hc : n ≤ c := by omega) :
    Calls Try.prog 27 #[.int .i64 g, .slice A n c] w (Ret w (.tuple #[.int .i64 (leastR g l).1, .int .i64 (leastR g l).2])) := by
  have hn0 : n ≤ 1048576 := by rw [hl]; exact hs.1
  have HL := Lib.hid hl
  have HS := Lib.hid hs
  have H := Lib.hid h
  clear hl hs h
  go_enter Try.func27, Try.ntmps27
  go_wp2_with fail
  refine (pairsCode_any g A n c l _ H.out HL.out HS.out hc).mono ?_
  rintro e w1 ⟨rfl, hb1⟩
  cases hv : validA g l
  · have E : Hid (leastR g l = (0, 1)) := by show _ = _; simp [leastR, hv]
    have hp : pairsC g l = 1 := by simp [pairsC, hv]
    rw [hp]
    clear hv hp
    go_wp2_with fail
    refine bodyPost_ret (v := .tuple #[.int .i64 0, .int .i64 1]) (by simp [results, Try.results27, go_sem]) rfl ?_
    rw [E.out]
    exact ⟨rfl, hb1⟩
  · by_cases h2 : n < 2
    · have E : Hid (leastR g l = (0, 3)) := by show _ = _; unfold leastR; rw [if_pos hv, if_pos (by rw [← HL.out]; exact h2)]
      have hp : pairsC g l = 3 := by unfold pairsC; rw [if_pos hv, if_pos (by rw [← HL.out]; exact h2)]
      rw [hp]
      clear hv hp
      go_wp2_with fail
      refine bodyPost_ret (v := .tuple #[.int .i64 0, .int .i64 3]) (by simp [results, Try.results27, go_sem]) rfl ?_
      rw [E.out]
      exact ⟨rfl, hb1⟩
    · have E : Hid (leastR g l = (leastA l, 0)) := by show _ = _; unfold leastR; rw [if_pos hv, if_neg (by rw [← HL.out]; exact h2)]
      have hp : pairsC g l = 0 := by unfold pairsC; rw [if_pos hv, if_neg (by rw [← HL.out]; exact h2)]
      rw [hp]
      clear hp
      have HV := Lib.hid hv
      clear hv
      go_wp2_with fail
      refine (leastDistance_any A n c l _ (H.out.bel hb1) HL.out hn0 (even_of HV.out) hc).mono ?_
      rintro e w2 ⟨rfl, hb2, hx0, hx1⟩
      obtain ⟨x, hx⟩ : ∃ x, leastA l = x := ⟨_, rfl⟩
      rw [hx] at hx0 hx1 E
      rw [hx]
      clear hx
      go_wp2_with fail
      refine bodyPost_ret (v := .tuple #[.int .i64 x, .int .i64 0]) (by simp [results, Try.results27, go_sem]) rfl ?_
      rw [E.out]
      exact ⟨rfl, bel_next hb1 hb2⟩

set_option maxHeartbeats 1000000 in
theorem specCorrectsAll_any (g : Int) (A : Option Addr) (n c : Nat) (l : List ByteArray) (w : World) (h : StrsAt w A l) (hl : n = l.length) (hs : SmallS l) :
    Calls Try.prog 24 #[.int .i64 g, .slice A n c] w (Ret w (.tuple #[.int .i64 (corrR g l).1, .int .i64 (corrR g l).2])) := by
  have hn0 : n ≤ 1048576 := by rw [hl]; exact hs.1
  have HL := Lib.hid hl
  have HS := Lib.hid hs
  have H := Lib.hid h
  clear hl hs h
  go_enter Try.func24, Try.ntmps24
  go_wp2_with fail
  refine (l05Ok_any g A n c l _ H.out HL.out HS.out).mono ?_
  rintro e w1 ⟨rfl, hb1⟩
  cases hv : validA g l
  · have E : Hid (corrR g l = (0, 1)) := by show _ = _; simp [corrR, hv]
    clear hv
    go_wp2_with fail
    refine bodyPost_ret (v := .tuple #[.int .i64 0, .int .i64 1]) (by simp [results, Try.results24, go_sem]) rfl ?_
    rw [E.out]
    exact ⟨rfl, hb1⟩
  · by_cases h2 : n < 2
    · have E : Hid (corrR g l = (0, 3)) := by show _ = _; unfold corrR; rw [if_pos hv, if_pos (by rw [← HL.out]; exact h2)]
      clear hv
      go_wp2_with fail
      refine bodyPost_ret (v := .tuple #[.int .i64 0, .int .i64 3]) (by simp [results, Try.results24, go_sem]) rfl ?_
      rw [E.out]
      exact ⟨rfl, hb1⟩
    · have E : Hid (corrR g l = (halfI (leastA l), 0)) := by show _ = _; unfold corrR; rw [if_pos hv, if_neg (by rw [← HL.out]; exact h2)]
      have HV := Lib.hid hv
      clear hv
      go_wp2_with fail
      refine (l05Least_any A n c l _ (H.out.bel hb1) HL.out hn0 (even_of HV.out)).mono ?_
      rintro e w2 ⟨rfl, hb2, hx0, hx1⟩
      obtain ⟨x, hx⟩ : ∃ x, leastA l = x := ⟨_, rfl⟩
      rw [hx] at hx0 hx1 E
      rw [hx]
      clear hx
      have e1 : IntKind.i64.wrap (x - 1) = x - 1 := IntWalk.i64_in _ (by omega)
      go_wp2_with fail
      refine bodyPost_ret (v := .tuple #[.int .i64 (halfI x), .int .i64 0]) (by simp [results, Try.results24, go_sem]; rfl) rfl ?_
      rw [E.out]
      exact ⟨rfl, bel_next hb1 hb2⟩

set_option maxHeartbeats 1000000 in
theorem implCorrectsAll_any (g : Int) (A : Option Addr) (n c : Nat) (l : List ByteArray) (w : World) (h : StrsAt w A l) (hl : n = l.length) (hs : SmallS l) (hc : n ≤ c := by omega) :
    Calls Try.prog 25 #[.int .i64 g, .slice A n c] w (Ret w (.tuple #[.int .i64 (corrR g l).1, .int .i64 (corrR g l).2])) := by
  have hn0 : n ≤ 1048576 := by rw [hl]; exact hs.1
  have HL := Lib.hid hl
  have HS := Lib.hid hs
  have H := Lib.hid h
  clear hl hs h
  go_enter Try.func25, Try.ntmps25
  go_wp2_with fail
  refine (pairsCode_any g A n c l _ H.out HL.out HS.out hc).mono ?_
  rintro e w1 ⟨rfl, hb1⟩
  cases hv : validA g l
  · have E : Hid (corrR g l = (0, 1)) := by show _ = _; simp [corrR, hv]
    have hp : pairsC g l = 1 := by simp [pairsC, hv]
    rw [hp]
    clear hv hp
    go_wp2_with fail
    refine bodyPost_ret (v := .tuple #[.int .i64 0, .int .i64 1]) (by simp [results, Try.results25, go_sem]) rfl ?_
    rw [E.out]
    exact ⟨rfl, hb1⟩
  · by_cases h2 : n < 2
    · have E : Hid (corrR g l = (0, 3)) := by show _ = _; unfold corrR; rw [if_pos hv, if_pos (by rw [← HL.out]; exact h2)]
      have hp : pairsC g l = 3 := by unfold pairsC; rw [if_pos hv, if_pos (by rw [← HL.out]; exact h2)]
      rw [hp]
      clear hv hp
      go_wp2_with fail
      refine bodyPost_ret (v := .tuple #[.int .i64 0, .int .i64 3]) (by simp [results, Try.results25, go_sem]) rfl ?_
      rw [E.out]
      exact ⟨rfl, hb1⟩
    · have E : Hid (corrR g l = (halfI (leastA l), 0)) := by show _ = _; unfold corrR; rw [if_pos hv, if_neg (by rw [← HL.out]; exact h2)]
      have hp : pairsC g l = 0 := by unfold pairsC; rw [if_pos hv, if_neg (by rw [← HL.out]; exact h2)]
      rw [hp]
      clear hp
      have HV := Lib.hid hv
      clear hv
      go_wp2_with fail
      refine (leastDistance_any A n c l _ (H.out.bel hb1) HL.out hn0 (even_of HV.out) hc).mono ?_
      rintro e w2 ⟨rfl, hb2, hx0, hx1⟩
      obtain ⟨x, hx⟩ : ∃ x, leastA l = x := ⟨_, rfl⟩
      rw [hx] at hx0 hx1 E
      rw [hx]
      clear hx
      have e1 : IntKind.i64.wrap (x - 1) = x - 1 := IntWalk.i64_in _ (by omega)
      go_wp2_with fail
      refine bodyPost_ret (v := .tuple #[.int .i64 (halfI x), .int .i64 0]) (by simp [results, Try.results25, go_sem]; rfl) rfl ?_
      rw [E.out]
      exact ⟨rfl, bel_next hb1 hb2⟩

end Go.Proofs.Ytfhmmebciikgeaa
