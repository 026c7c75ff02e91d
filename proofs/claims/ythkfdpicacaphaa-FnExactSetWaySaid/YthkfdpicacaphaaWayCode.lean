/-
  CONTRACTS: the code of a setting and a way (printed by tools/gen_turns.py).
-/
import Derived.Test.YthkfdpicacaphaaSimple2
namespace Go.Proofs.Ythkfdpicacaphaa
open Go.RowKit

def codeW (S : Int) (l : List Tb) (st way : List Int) : Int := if setOK S l st then (if simpW l way then 0 else 2) else 1
theorem codeW_zero {S : Int} {l : List Tb} {st way : List Int} (h : codeW S l st way = 0) : setOK S l st = true ∧ simpW l way = true := by
  unfold codeW at h
  split at h
  · split at h
    · exact ⟨by assumption, by assumption⟩
    · omega
  · omega
theorem simpW_at {l : List Tb} {way : List Int} (h : simpW l way = true) : outB way 0 ((l.length : Int) - 1) = false := by
  cases ho : outB way 0 ((l.length : Int) - 1)
  · rfl
  · rw [simpW_out ho] at h; cases h

set_option maxHeartbeats 2000000 in
theorem l04Code_any (b : Nat) (S : Int) (A : Option Addr) (n c : Nat) (l : List Tb) (A' : Option Addr) (n' c' : Nat) (st : List Int) (A2 : Option Addr) (n2 c2 : Nat) (way : List Int) (w : World) (h : NetAt w b S A n c l) (hl : n = l.length) (hn0 : n ≤ 1048576)
    (h' : IntsAt w A' st) (hl' : n' = st.length) (hn0' : n' ≤ 1048576) (h2 : IntsAt w A2 way) (hl2 : n2 = way.length) (hn2 : n2 ≤ 1048576) :
    Calls Try.prog 60 #[.pointer (some ⟨b, 0, none⟩), .slice A' n' c', .slice A2 n2 c2] w (Ret w (.int .i64 (codeW S l st way))) := by
  have HL := Lib.hid hl
  have H := Lib.hid h
  have HL' := Lib.hid hl'
  have H' := Lib.hid h'
  have HL2 := Lib.hid hl2
  have H2 := Lib.hid h2
  clear hl h hl' h' hl2 h2
  go_enter Try.func60, Try.ntmps60
  go_wp2_with fail
  refine (l04Ok_any b S A n c l A' n' c' st _ H.out HL.out hn0 H'.out HL'.out hn0').mono ?_
  rintro e w1 ⟨rfl, hb1⟩
  cases hv : setOK S l st
  · have E : Hid (codeW S l st way = 1) := by show _ = _; simp [codeW, hv]
    go_wp2_with fail
    go_ret
    exact ⟨ret_int E.out.symm, hb1⟩
  · have HV := Lib.hid hv
    clear hv
    go_wp2_with fail
    refine (l04Simple_any b S A n c l A2 n2 c2 way _ (H.out.bel hb1) HL.out hn0 (H2.out.bel hb1) HL2.out hn2).mono ?_
    rintro e w2 ⟨rfl, hb2⟩
    cases hw : simpW l way
    · have E : Hid (codeW S l st way = 2) := by show _ = _; simp [codeW, HV.out, hw]
      go_wp2_with fail
      go_ret
      exact ⟨ret_int E.out.symm, bel_next hb1 hb2⟩
    · have E : Hid (codeW S l st way = 0) := by show _ = _; simp [codeW, HV.out, hw]
      go_wp2_with fail
      go_ret
      exact ⟨ret_int E.out.symm, bel_next hb1 hb2⟩

set_option maxHeartbeats 2000000 in
theorem wayCode_any (S : Int) (A : Option Addr) (n c : Nat) (l : List Tb) (A' : Option Addr) (n' c' : Nat) (st : List Int) (A2 : Option Addr) (n2 c2 : Nat) (way : List Int) (w : World) (h : TubesAt w A l) (hl : n = l.length) (hn0 : n ≤ 1048576)
    (h' : IntsAt w A' st) (hl' : n' = st.length) (hn0' : n' ≤ 1048576) (h2 : IntsAt w A2 way) (hl2 : n2 = way.length) (hn2 : n2 ≤ 1048576) :
    Calls Try.prog 62 #[.agg #[.int .i64 S, .slice A n c], .slice A' n' c', .slice A2 n2 c2] w (Ret w (.int .i64 (codeW S l st way))) := by
  have HL := Lib.hid hl
  have H := Lib.hid h
  have HL' := Lib.hid hl'
  have H' := Lib.hid h'
  have HL2 := Lib.hid hl2
  have H2 := Lib.hid h2
  clear hl h hl' h' hl2 h2
  go_enter Try.func62, Try.ntmps62
  go_wp2_with fail
  refine (implSetting_any S A n c l A' n' c' st _ (H.out.alloc _) HL.out hn0 (H'.out.alloc _) HL'.out hn0').mono ?_
  rintro e w1 ⟨rfl, hb1⟩
  have D1 : Below w.heap.size w w1 := Below.trans (by go_grown) (hb1.mono (by simp))
  have N1 : Hid (Blk w1 w.heap.size _ _) := bel_blk (Blk.new _ _ _) hb1
  obtain ⟨a0, a1, -⟩ := N1.out.c2
  clear hb1
  cases hv : setOK S l st
  · have E : Hid (codeW S l st way = 1) := by show _ = _; simp [codeW, hv]
    go_wp2_with fail
    go_ret
    exact ⟨ret_int E.out.symm, D1⟩
  · have HV := Lib.hid hv
    clear hv
    go_wp2_with fail
    refine (isSimple_any S A n c l A2 n2 c2 way _ (H.out.bel D1) HL.out hn0 (H2.out.bel D1) HL2.out hn2).mono ?_
    rintro e w2 ⟨rfl, hb2⟩
    cases hw : simpW l way
    · have E : Hid (codeW S l st way = 2) := by show _ = _; simp [codeW, HV.out, hw]
      go_wp2_with fail
      go_ret
      exact ⟨ret_int E.out.symm, bel_next D1 hb2⟩
    · have E : Hid (codeW S l st way = 0) := by show _ = _; simp [codeW, HV.out, hw]
      go_wp2_with fail
      go_ret
      exact ⟨ret_int E.out.symm, bel_next D1 hb2⟩

end Go.Proofs.Ythkfdpicacaphaa
