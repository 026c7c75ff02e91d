/-
  CONTRACTS: the code of a network and some stations.
-/
import Derived.Test.YtliamhhmjnhgcaaNetV
import Derived.Test.YtliamhhmjnhgcaaIntS
namespace Go.Proofs.Ytliamhhmjnhgcaa
open Go.RowKit

def codeN (S : Int) (l : List Tb) (us : List Int) : Int := if validN S l then (if outB us 0 (S - 1) then 2 else 0) else 1
theorem codeN_twice (S : Int) (l : List Tb) (u : Int) : codeN S l [u, u] = codeN S l [u] := by simp [codeN, outB]
theorem codeN_zero {S : Int} {l : List Tb} {us : List Int} (h : codeN S l us = 0) : validN S l = true ∧ outB us 0 (S - 1) = false := by
  unfold codeN at h
  split at h
  · split at h
    · omega
    · exact ⟨by assumption, by simpa using ‹¬ outB us 0 (S - 1) = true›⟩
  · omega
theorem codeN_in {S u v : Int} {l : List Tb} (h : codeN S l [u, v] = 0) : 0 ≤ u ∧ u < S ∧ 0 ≤ v ∧ v < S := by
  have h2 := (codeN_zero h).2
  simp [outB] at h2
  have hu := inB_true h2.1
  have hv := inB_true h2.2
  omega
theorem codeN_in1 {S u : Int} {l : List Tb} (h : codeN S l [u] = 0) : 0 ≤ u ∧ u < S := by
  have h2 := (codeN_zero h).2
  simp [outB] at h2
  have hu := inB_true h2
  omega

/-- The integers of a fresh literal. -/
theorem IntsAt.new (w : World) (t : TypeId) (l : List Int) {g : Nat} (hg : g = w.heap.size) : IntsAt (w.alloc (.cells (ints l) t)) (some ⟨g, 0, none⟩) l := by
  subst hg
  exact IntsAt.ofBlk (Blk.new _ _ _)

set_option maxHeartbeats 1000000 in
theorem l02Code_any (b : Nat) (S : Int) (A : Option Addr) (n c : Nat) (l : List Tb) (u v : Int) (w : World) (h : NetAt w b S A n c l) (hl : n = l.length) (hn0 : n ≤ 1048576) :
    Calls Try.prog 59 #[.pointer (some ⟨b, 0, none⟩), .int .i64 u, .int .i64 v] w (Ret w (.int .i64 (codeN S l [u, v]))) := by
  have HL := Lib.hid hl
  have H := Lib.hid h
  clear hl h
  go_enter Try.func59, Try.ntmps59
  go_wp2_with fail
  refine (l02Ok_any b S A n c l _ H.out HL.out hn0).mono ?_
  rintro e w1 ⟨rfl, hb1⟩
  have k0 := (H.out.bel hb1).c0
  cases hv : validN S l
  · have E : Hid (codeN S l [u, v] = 1) := by show _ = _; simp [codeN, hv]
    go_wp2_with fail
    go_ret
    exact ⟨ret_int E.out.symm, hb1⟩
  · obtain ⟨v0, v1, -, -⟩ := validN_true hv
    cases hu : inB u 0 (S - 1)
    · have E : Hid (codeN S l [u, v] = 2) := by show _ = _; simp [codeN, hv, outB, hu]
      clear hv
      go_wp2_with (go_at_call 72; refine (l00In_any _ _ _ _).mono ?_; rintro e w' ⟨rfl, rfl⟩)
      go_ret
      exact ⟨ret_int E.out.symm, hb1⟩
    · cases hv2 : inB v 0 (S - 1)
      · have E : Hid (codeN S l [u, v] = 2) := by show _ = _; simp [codeN, hv, outB, hu, hv2]
        clear hv
        go_wp2_with (go_at_call 72; refine (l00In_any _ _ _ _).mono ?_; rintro e w' ⟨rfl, rfl⟩)
        go_ret
        exact ⟨ret_int E.out.symm, hb1⟩
      · have E : Hid (codeN S l [u, v] = 0) := by show _ = _; simp [codeN, hv, outB, hu, hv2]
        clear hv
        go_wp2_with (go_at_call 72; refine (l00In_any _ _ _ _).mono ?_; rintro e w' ⟨rfl, rfl⟩)
        go_ret
        exact ⟨ret_int E.out.symm, hb1⟩

set_option maxHeartbeats 1000000 in
theorem netCode_any (S : Int) (A : Option Addr) (n c : Nat) (l : List Tb) (A' : Option Addr) (n' c' : Nat) (us : List Int) (w : World) (h : TubesAt w A l) (hl : n = l.length) (hn0 : n ≤ 1048576)
    (h' : IntsAt w A' us) (hl' : n' = us.length) (hn0' : n' ≤ 1048576) :
    Calls Try.prog 60 #[.agg #[.int .i64 S, .slice A n c], .slice A' n' c'] w (Ret w (.int .i64 (codeN S l us))) := by
  have HL := Lib.hid hl
  have H := Lib.hid h
  have HL' := Lib.hid hl'
  have H' := Lib.hid h'
  clear hl h hl' h'
  go_enter Try.func60, Try.ntmps60
  go_wp2_with fail
  refine (implValidNet_any S A n c l _ (H.out.alloc _) HL.out hn0).mono ?_
  rintro e w1 ⟨rfl, hb1⟩
  have D1 : Below w.heap.size w w1 := Below.trans (by go_grown) (hb1.mono (by simp))
  have N1 : Hid (Blk w1 w.heap.size _ _) := bel_blk (Blk.new _ _ _) hb1
  have s1 := N1.out.lt
  obtain ⟨a0, a1, -⟩ := N1.out.c2
  clear hb1
  cases hv : validN S l
  · have E : Hid (codeN S l us = 1) := by show _ = _; simp [codeN, hv]
    go_wp2_with fail
    go_ret
    exact ⟨ret_int E.out.symm, D1⟩
  · obtain ⟨v0, v1, -, -⟩ := validN_true hv
    have E : Hid (codeN S l us = if outB us 0 (S - 1) then 2 else 0) := by show _ = _; simp [codeN, hv]
    clear hv
    go_wp2_with fail
    refine (outside_any A' n' c' us 0 (S - 1) _ (H'.out.bel D1) HL'.out hn0').mono ?_
    rintro e w2 ⟨rfl, hb2⟩
    have D2 := bel_next D1 hb2
    cases ho : outB us 0 (S - 1)
    · have E2 : Hid (codeN S l us = 0) := by show _ = _; rw [E.out, ho]; rfl
      go_wp2_with fail
      go_ret
      exact ⟨ret_int E2.out.symm, D2⟩
    · have E2 : Hid (codeN S l us = 2) := by show _ = _; rw [E.out, ho]; rfl
      go_wp2_with fail
      go_ret
      exact ⟨ret_int E2.out.symm, D2⟩

end Go.Proofs.Ytliamhhmjnhgcaa
