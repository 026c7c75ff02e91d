/-
  CONTRACTS: the least length of a way.
-/
import Derived.Test.YtliamhhmjnhgcaaDist2
namespace Go.Proofs.Ytliamhhmjnhgcaa
open Go.RowKit

theorem distN_len (S : Int) (l : List Tb) (gl wo : Int) : (distN S l gl wo).length = S.toNat := A_len S.toNat
theorem distN_ge {S : Int} {l : List Tb} {gl : Int} (hv : validN S l = true) (h0 : 0 ≤ gl) (h1 : gl < S) (wo : Int) (v : Nat) : -1 ≤ at_ (distN S l gl wo) v := A_ge (good_eff hv wo 0) (by omega) S.toNat v
def shortLen (S : Int) (l : List Tb) (u v : Int) : Int × Int := if codeN S l [u, v] = 0 then (if at_ (distN S l v (-1)) u.toNat < 0 then (0, 3) else (at_ (distN S l v (-1)) u.toNat, 0)) else (0, codeN S l [u, v])

set_option maxHeartbeats 2000000 in
theorem specShort_any (S : Int) (A : Option Addr) (n c : Nat) (l : List Tb) (u v : Int) (w : World) (h : TubesAt w A l) (hl : n = l.length) (hn0 : n ≤ 1048576) :
    Calls Try.prog 34 #[.agg #[.int .i64 S, .slice A n c], .int .i64 u, .int .i64 v] w (Ret w (.tuple #[.int .i64 (shortLen S l u v).1, .int .i64 (shortLen S l u v).2])) := by
  have HL := Lib.hid hl
  have H := Lib.hid h
  clear hl h
  go_enter Try.func34, Try.ntmps34
  go_wp2_with fail
  refine (l02Code_any _ S A n c l u v _ (NetAt.box H.out _) HL.out hn0).mono ?_
  rintro e w1 ⟨rfl, hb1⟩
  have D1 : Below w.heap.size w w1 := Below.trans (by go_grown) (hb1.mono (by simp))
  have N1 : NetAt w1 w.heap.size S A n c l := (NetAt.box H.out _).bel hb1
  clear hb1
  obtain ⟨k, hk⟩ : ∃ k, codeN S l [u, v] = k := ⟨_, rfl⟩
  rw [hk]
  by_cases h0 : k = 0
  · subst h0
    obtain ⟨u0, u1, z0, z1⟩ := codeN_in hk
    have hv := (codeN_zero hk).1
    obtain ⟨x, hx⟩ : ∃ x, at_ (distN S l v (-1)) u.toNat = x := ⟨_, rfl⟩
    have E : Hid (shortLen S l u v = if x < 0 then (0, 3) else (x, 0)) := by show _ = _; unfold shortLen; rw [if_pos hk, hx]
    have HVal := Lib.hid hv
    obtain ⟨s, rfl⟩ : ∃ s : Nat, S = s := ⟨S.toNat, by omega⟩
    obtain ⟨q, rfl⟩ : ∃ q : Nat, u = q := ⟨u.toNat, by omega⟩
    rw [Int.toNat_natCast] at hx
    have HX := Lib.hid hx
    clear hk hv hx u0
    go_wp2_with fail
    refine (l02Far_any _ s A n c l v (-1) _ N1 HL.out HVal.out z0 z1).mono ?_
    simp only [Int.toNat_natCast]
    rintro e w2 ⟨g, rfl, hg, HB, hb2⟩
    have x0 : w2.cell? ⟨g, q, none⟩ = some (.int .i64 x) := by rw [HB.out.cell, ints_get (by rw [distN_len]; omega), HX.out]
    have D2 := bel_next D1 hb2
    clear HB hb2 HX
    rcases Int.lt_or_le x 0 with hx0 | hx0
    · have E2 : Hid (shortLen s l q v = (0, 3)) := by show _ = _; rw [E.out, if_pos hx0]
      go_wp2_with fail
      refine bodyPost_ret (v := .tuple #[.int .i64 0, .int .i64 3]) (by simp [results, Try.results34, go_sem]) rfl ?_
      rw [E2.out]
      exact ⟨rfl, D2⟩
    · have E2 : Hid (shortLen s l q v = (x, 0)) := by show _ = _; rw [E.out, if_neg (by omega)]
      go_wp2_with fail
      refine bodyPost_ret (v := .tuple #[.int .i64 x, .int .i64 0]) (by simp [results, Try.results34, go_sem]) rfl ?_
      rw [E2.out]
      exact ⟨rfl, D2⟩
  · have E : Hid (shortLen S l u v = (0, k)) := by show _ = _; unfold shortLen; rw [if_neg (by rw [hk]; exact h0), hk]
    clear hk
    go_wp2_with fail
    refine bodyPost_ret (v := .tuple #[.int .i64 0, .int .i64 k]) (by simp [results, Try.results34, go_sem]) rfl ?_
    rw [E.out]
    exact ⟨rfl, D1⟩

set_option maxHeartbeats 2000000 in
theorem implShort_any (S : Int) (A : Option Addr) (n c : Nat) (l : List Tb) (u v : Int) (w : World) (h : TubesAt w A l) (hl : n = l.length) (hn0 : n ≤ 1048576) :
    Calls Try.prog 35 #[.agg #[.int .i64 S, .slice A n c], .int .i64 u, .int .i64 v] w (Ret w (.tuple #[.int .i64 (shortLen S l u v).1, .int .i64 (shortLen S l u v).2])) := by
  have HL := Lib.hid hl
  have H := Lib.hid h
  clear hl h
  go_enter Try.func35, Try.ntmps35
  go_wp2_with fail
  refine (netCode_any S A n c l _ 2 2 [u, v] _ ((H.out.alloc _).alloc _) HL.out hn0 (IntsAt.new _ _ [u, v] (by simp)) rfl (by omega)).mono ?_
  rintro e w1 ⟨rfl, hb1⟩
  have D1 : Below w.heap.size w w1 := Below.trans (by go_grown) (hb1.mono (by simp only [World.size_alloc]; omega))
  have N1 : Hid (Blk w1 w.heap.size 29 #[.int .i64 S, .slice A n c]) := bel_blk ((Blk.new _ _ _).alloc _) hb1
  clear hb1
  obtain ⟨k, hk⟩ : ∃ k, codeN S l [u, v] = k := ⟨_, rfl⟩
  rw [hk]
  by_cases h0 : k = 0
  · subst h0
    obtain ⟨u0, u1, z0, z1⟩ := codeN_in hk
    have hv := (codeN_zero hk).1
    obtain ⟨x, hx⟩ : ∃ x, at_ (distN S l v (-1)) u.toNat = x := ⟨_, rfl⟩
    have E : Hid (shortLen S l u v = if x < 0 then (0, 3) else (x, 0)) := by show _ = _; unfold shortLen; rw [if_pos hk, hx]
    have HVal := Lib.hid hv
    obtain ⟨s, rfl⟩ : ∃ s : Nat, S = s := ⟨S.toNat, by omega⟩
    obtain ⟨q, rfl⟩ : ∃ q : Nat, u = q := ⟨u.toNat, by omega⟩
    rw [Int.toNat_natCast] at hx
    have HX := Lib.hid hx
    obtain ⟨a0, a1, -⟩ := N1.out.c2
    clear hk hv hx u0
    go_wp2_with fail
    refine (distances_any s A n c l v (-1) _ (H.out.bel D1) HL.out HVal.out z0 z1).mono ?_
    simp only [Int.toNat_natCast]
    rintro e w2 ⟨g, rfl, hg, HB, hb2⟩
    have x0 : w2.cell? ⟨g, q, none⟩ = some (.int .i64 x) := by rw [HB.out.cell, ints_get (by rw [distN_len]; omega), HX.out]
    have D2 := bel_next D1 hb2
    clear HB hb2 HX
    rcases Int.lt_or_le x 0 with hx0 | hx0
    · have E2 : Hid (shortLen s l q v = (0, 3)) := by show _ = _; rw [E.out, if_pos hx0]
      go_wp2_with fail
      refine bodyPost_ret (v := .tuple #[.int .i64 0, .int .i64 3]) (by simp [results, Try.results35, go_sem]) rfl ?_
      rw [E2.out]
      exact ⟨rfl, D2⟩
    · have E2 : Hid (shortLen s l q v = (x, 0)) := by show _ = _; rw [E.out, if_neg (by omega)]
      go_wp2_with fail
      refine bodyPost_ret (v := .tuple #[.int .i64 x, .int .i64 0]) (by simp [results, Try.results35, go_sem]) rfl ?_
      rw [E2.out]
      exact ⟨rfl, D2⟩
  · have E : Hid (shortLen S l u v = (0, k)) := by show _ = _; unfold shortLen; rw [if_neg (by rw [hk]; exact h0), hk]
    obtain ⟨a0, a1, -⟩ := N1.out.c2
    clear hk
    go_wp2_with fail
    refine bodyPost_ret (v := .tuple #[.int .i64 0, .int .i64 k]) (by simp [results, Try.results35, go_sem]) rfl ?_
    rw [E.out]
    exact ⟨rfl, D1⟩

end Go.Proofs.Ytliamhhmjnhgcaa
