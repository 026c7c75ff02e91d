/-
  CONTRACTS: which runs are valid.
-/
import Derived.Test.YtlebkjkiikehhaaRun
import Derived.Test.YtlebkjkiikehhaaTimes
namespace Go.Proofs.Ytlebkjkiikehhaa
open Go.RowKit

/-- A way for some number of times. -/
def wayOk (m : Nat) (way : List Int) : Bool := inB way.length 1 12 && !outB way 0 ((m : Int) - 1)
def runOk (m : Nat) (r : Rn) : Bool := wayOk m r.1 && inB r.2 0 100000
def runsOk (ts : List Int) (l : List Rn) : Bool := validT ts && decide (l.length ≤ 12) && l.all fun r => runOk ts.length r
theorem validT_true {ts : List Int} (h : validT ts = true) : 1 ≤ ts.length ∧ ts.length ≤ 24 ∧ ∀ (k : Nat) (h : k < ts.length), 1 ≤ ts[k] ∧ ts[k] ≤ 1000 := by
  simp only [validT, Bool.and_eq_true, Bool.not_eq_true'] at h
  have h1 := inB_true h.1
  refine ⟨by omega, by omega, fun k hk => ?_⟩
  have h2 := h.2
  unfold outB at h2
  rw [List.any_eq_false] at h2
  have := h2 _ (List.getElem_mem hk)
  simp at this
  exact inB_true this
theorem wayOk_true {m : Nat} {way : List Int} (h : wayOk m way = true) : 1 ≤ way.length ∧ way.length ≤ 12 ∧ ∀ (k : Nat) (h : k < way.length), 0 ≤ way[k] ∧ way[k] < m := by
  simp only [wayOk, Bool.and_eq_true, Bool.not_eq_true'] at h
  have h1 := inB_true h.1
  refine ⟨by omega, by omega, fun k hk => ?_⟩
  have h2 := h.2
  unfold outB at h2
  rw [List.any_eq_false] at h2
  have := h2 _ (List.getElem_mem hk)
  simp at this
  have := inB_true this
  omega
theorem runOk_true {m : Nat} {r : Rn} (h : runOk m r = true) : wayOk m r.1 = true ∧ 0 ≤ r.2 ∧ r.2 ≤ 100000 := by
  simp only [runOk, Bool.and_eq_true] at h
  have := inB_true h.2
  exact ⟨h.1, by omega, by omega⟩
theorem runsOk_true {ts : List Int} {l : List Rn} (h : runsOk ts l = true) : validT ts = true ∧ l.length ≤ 12 ∧ ∀ (k : Nat) (h : k < l.length), runOk ts.length l[k] = true := by
  simp only [runsOk, Bool.and_eq_true, decide_eq_true_eq] at h
  exact ⟨h.1.1, h.1.2, fun k hk => List.all_eq_true.1 h.2 _ (List.getElem_mem hk)⟩

set_option maxHeartbeats 1000000 in
theorem l06Way_any (A0 : Option Addr) (m c0 : Nat) (A : Option Addr) (n c : Nat) (l : List Int) (w : World) (hm : m ≤ 1048576) (h : IntsAt w A l) (hl : n = l.length) (hn0 : n ≤ 1048576) :
    Calls Try.prog 90 #[.slice A0 m c0, .slice A n c] w (Ret0 w (.bool (wayOk m l))) := by
  have E : Hid (wayOk m l = (inB n 1 12 && !outB l 0 ((m : Int) - 1))) := by rw [hl]; rfl
  have H := Lib.hid h
  have HL := Lib.hid hl
  clear h hl
  go_enter Try.func90, Try.ntmps90
  go_wp2
  go_loop [5] (fun u => ∃ (i : Nat), u = .int .i64 i ∧ i ≤ n ∧ Hid (outB l 0 ((m : Int) - 1) = outB (l.drop i) 0 ((m : Int) - 1))) (fun u => n - (intOf u).toNat)
  case atStart => exact ⟨0, rfl, by omega, rfl⟩
  case round =>
    obtain ⟨i, rfl, hin, HA⟩ := hrel
    by_cases hlt : i < n
    · obtain ⟨b, o, rfl, hblt, hc⟩ := H.out (by rw [← HL.out]; omega)
      have hil : i < l.length := by rw [← HL.out]; exact hlt
      have c0 := hc i hil
      clear hc
      have hd := outB_step (lo := 0) (hi := (m : Int) - 1) hil
      cases hv : inB l[i] 0 ((m : Int) - 1)
      · have HS : Hid (outB l 0 ((m : Int) - 1) = true) := by show _ = _; rw [HA.out, hd, hv]; rfl
        clear hd
        go_wp2_with (go_at_call 65; refine (l00In_any _ _ _ _).mono ?_; rintro e w2 ⟨rfl, rfl⟩)
        go_ret
        exact ⟨ret_bool (by rw [E.out, HS.out]; simp), rfl⟩
      · have HS : Hid (outB l 0 ((m : Int) - 1) = outB (l.drop (i + 1)) 0 ((m : Int) - 1)) := by show _ = _; rw [HA.out, hd, hv]; rfl
        clear hd
        go_wp2_with (go_at_call 65; refine (l00In_any _ _ _ _).mono ?_; rintro e w2 ⟨rfl, rfl⟩)
        go_round
        case rel => exact ⟨i + 1, by go_num, by omega, HS⟩
        case measure => simp [intOf]; omega
    · have HS : Hid (outB l 0 ((m : Int) - 1) = false) := by show _ = _; rw [HA.out]; exact outB_end (by rw [← HL.out]; omega)
      go_wp2_with (go_at_call 65; refine (l00In_any _ _ _ _).mono ?_; rintro e w2 ⟨rfl, rfl⟩)
      go_ret
      exact ⟨ret_bool (by rw [E.out, HS.out]; simp), rfl⟩

theorem l06Start_any (x : Int) (w : World) : Calls Try.prog 91 #[.int .i64 x] w (Ret0 w (.bool (inB x 0 100000))) := by
  go_enter Try.func91, Try.ntmps91
  go_wp2_with (go_at_call 65; refine (l00In_any _ _ _ _).mono ?_; rintro e w2 ⟨rfl, rfl⟩)
  go_ret
  exact ⟨rfl, rfl⟩

set_option maxHeartbeats 2000000 in
theorem l06Ok_any (A0 : Option Addr) (m c0 : Nat) (ts : List Int) (A : Option Addr) (n c : Nat) (l : List Rn) (w : World) (h0 : IntsAt w A0 ts) (hl0 : m = ts.length) (hm : m ≤ 1048576) (h : RunsAt w A l) (hl : n = l.length) (hs : Small l) :
    Calls Try.prog 56 #[.slice A0 m c0, .slice A n c] w (Ret0 w (.bool (runsOk ts l))) := by
  have E : Hid (runsOk ts l = ((validT ts && decide (n ≤ 12)) && (l.drop 0).all fun r => runOk m r)) := by rw [hl, hl0]; rfl
  have hn0 : n ≤ 1048576 := by rw [hl]; exact hs.1
  have H := Lib.hid h
  have H0 := Lib.hid h0
  have HL := Lib.hid hl
  have HL0 := Lib.hid hl0
  have HS := Lib.hid hs
  clear h hl h0 hl0 hs
  go_enter Try.func56, Try.ntmps56
  go_wp2_with fail
  go_loop [5] (fun u => ∃ (i : Nat), u = .int .i64 i ∧ i ≤ n ∧ Hid (runsOk ts l = ((validT ts && decide (n ≤ 12)) && (l.drop i).all fun r => runOk m r))) (fun u => n - (intOf u).toNat)
  case atStart => exact ⟨0, rfl, by omega, E⟩
  case round =>
    clear E
    obtain ⟨i, rfl, hin, HA⟩ := hrel
    by_cases hlt : i < n
    · obtain ⟨b, o, rfl, hblt, hc⟩ := H.out (by rw [← HL.out]; omega)
      have hil : i < l.length := by rw [← HL.out]; exact hlt
      obtain ⟨A1, c1, t0, t1, W1, -⟩ := hc i hil
      have hsm := HS.out.2 i hil
      have hd : ((l.drop i).all fun r => runOk m r) = (runOk m l[i] && (l.drop (i + 1)).all fun r => runOk m r) := by rw [drop_at' hil, List.all_cons]
      obtain ⟨r, hr⟩ : ∃ r, l[i] = r := ⟨_, rfl⟩
      rw [hr] at t0 t1 W1 hsm hd
      have HW := Lib.hid W1
      obtain ⟨k, hk⟩ : ∃ k, r.1.length = k := ⟨_, rfl⟩
      rw [hk] at t0 hsm
      have HK := Lib.hid hk
      clear hc hr hk W1
      cases hv : wayOk m r.1
      · have HF : Hid (runsOk ts l = false) := by show _ = _; rw [HA.out, hd]; simp [runOk, hv]
        clear hd HA
        go_wp2_with (first
          | (go_at_call 90; refine (l06Way_any _ _ _ A1 k c1 r.1 _ hm HW.out HK.out.symm hsm).mono ?_; rintro e w2 ⟨rfl, rfl⟩))
        go_ret
        exact ⟨ret_bool HF.out.symm, rfl⟩
      · cases hst : inB r.2 0 100000
        · have HF : Hid (runsOk ts l = false) := by show _ = _; rw [HA.out, hd]; simp [runOk, hv, hst]
          clear hd HA
          go_wp2_with (first
            | (go_at_call 90; refine (l06Way_any _ _ _ A1 k c1 r.1 _ hm HW.out HK.out.symm hsm).mono ?_; rintro e w2 ⟨rfl, rfl⟩)
            | (go_at_call 91; refine (l06Start_any _ _).mono ?_; rintro e w2 ⟨rfl, rfl⟩))
          go_ret
          exact ⟨ret_bool HF.out.symm, rfl⟩
        · have HF : Hid (runsOk ts l = ((validT ts && decide (n ≤ 12)) && (l.drop (i + 1)).all fun r => runOk m r)) := by show _ = _; rw [HA.out, hd]; simp [runOk, hv, hst]
          clear hd HA
          go_wp2_with (first
            | (go_at_call 90; refine (l06Way_any _ _ _ A1 k c1 r.1 _ hm HW.out HK.out.symm hsm).mono ?_; rintro e w2 ⟨rfl, rfl⟩)
            | (go_at_call 91; refine (l06Start_any _ _).mono ?_; rintro e w2 ⟨rfl, rfl⟩))
          go_round
          case rel => exact ⟨i + 1, by go_num, by omega, HF⟩
          case measure => simp [intOf]; omega
    · have HE : Hid (runsOk ts l = (validT ts && decide (n ≤ 12))) := by show _ = _; rw [HA.out, List.drop_of_length_le (by rw [← HL.out]; omega)]; simp
      clear HA
      cases hv : validT ts
      · have HF : Hid (runsOk ts l = false) := by show _ = _; rw [HE.out, hv]; rfl
        go_wp2_with (go_at_call 92; refine (l06Times_any A0 m c0 ts _ H0.out HL0.out hm).mono ?_; rintro e w2 ⟨rfl, rfl⟩)
        go_ret
        exact ⟨ret_bool HF.out.symm, rfl⟩
      · have HF : Hid (runsOk ts l = decide (n ≤ 12)) := by show _ = _; rw [HE.out, hv]; rfl
        go_wp2_with (go_at_call 92; refine (l06Times_any A0 m c0 ts _ H0.out HL0.out hm).mono ?_; rintro e w2 ⟨rfl, rfl⟩)
        go_ret
        exact ⟨ret_bool (by rw [HF.out]; simp; omega), rfl⟩

theorem isRunWay_any (A0 : Option Addr) (m c0 : Nat) (A : Option Addr) (n c : Nat) (l : List Int) (w : World) (hm : m ≤ 1048576) (h : IntsAt w A l) (hl : n = l.length) (hn0 : n ≤ 1048576) :
    Calls Try.prog 96 #[.slice A0 m c0, .slice A n c] w (Ret w (.bool (wayOk m l))) := by
  have E : Hid (wayOk m l = (inB n 1 12 && !outB l 0 ((m : Int) - 1))) := by rw [hl]; rfl
  have HL := Lib.hid hl
  have H := Lib.hid h
  clear hl h
  cases hi : inB n 1 12
  · have E2 : Hid (wayOk m l = false) := by show _ = _; rw [E.out, hi]; rfl
    go_enter Try.func96, Try.ntmps96
    go_wp2_with (first
      | (go_at_call 85; refine (within_any _ _ _ _).mono ?_; rintro e w2 ⟨rfl, rfl⟩))
    go_ret
    exact ⟨ret_bool E2.out.symm, Below.refl _ _⟩
  · have E2 : Hid (wayOk m l = !outB l 0 ((m : Int) - 1)) := by show _ = _; rw [E.out, hi]; rfl
    go_enter Try.func96, Try.ntmps96
    go_wp2_with (first
      | (go_at_call 85; refine (within_any _ _ _ _).mono ?_; rintro e w2 ⟨rfl, rfl⟩)
      | (go_at_call 108; refine (outside_any A n c l 0 ((m : Int) - 1) _ H.out HL.out hn0).mono ?_; rintro e w2 ⟨rfl, hb2⟩))
    go_ret
    exact ⟨ret_bool E2.out.symm, hb2⟩

theorem runBad_any (A0 : Option Addr) (m c0 : Nat) (p : Nat) (A : Option Addr) (n c : Nat) (r : Rn) (w : World) (hp : w.cell? ⟨p, 0, none⟩ = some (.slice A0 m c0)) (hm : m ≤ 1048576) (h : IntsAt w A r.1) (hl : n = r.1.length) (hn0 : n ≤ 1048576) :
    Calls Try.prog 95 #[.agg #[.slice A n c, .int .i64 r.2], .pointer (some ⟨p, 0, none⟩)] w (Ret w (.bool (!runOk m r))) := by
  have HL := Lib.hid hl
  have H := Lib.hid h
  clear hl h
  have hpl := cell_lt hp
  go_enter Try.func95, Try.ntmps95
  go_wp2_with fail
  refine (isRunWay_any A0 m c0 A n c r.1 _ hm (H.out.bel (by go_grown)) HL.out hn0).mono ?_
  rintro e w1 ⟨rfl, hb1⟩
  have D1 : Below w.heap.size w w1 := Below.trans (by go_grown) (hb1.mono (by simp))
  obtain ⟨b0, b1, -⟩ := (bel_blk (Blk.new _ _ _) hb1).c2
  clear hb1
  cases hv : wayOk m r.1
  · have E : Hid (runOk m r = false) := by show _ = _; simp [runOk, hv]
    go_wp2_with fail
    go_ret
    rw [E.out]
    exact ⟨rfl, D1⟩
  · have E : Hid (runOk m r = inB r.2 0 100000) := by show _ = _; simp [runOk, hv]
    go_wp2_with (first
      | (go_at_call 85; refine (within_any _ _ _ _).mono ?_; rintro e w2 ⟨rfl, rfl⟩))
    go_ret
    rw [E.out]
    exact ⟨rfl, D1⟩

def badRuns (m : Nat) (l : List Rn) : Bool := l.any fun r => !runOk m r
theorem badRuns_step {m i : Nat} {l : List Rn} (h : i < l.length) : badRuns m (l.drop i) = (!runOk m l[i] || badRuns m (l.drop (i + 1))) := by
  unfold badRuns
  rw [drop_at' h, List.any_cons]
theorem badRuns_not (m : Nat) (l : List Rn) : (!badRuns m l) = l.all fun r => runOk m r := by
  unfold badRuns
  induction l with
  | nil => rfl
  | cons r l ih => rw [List.any_cons, List.all_cons, Bool.not_or, ih, Bool.not_not]
/-- The first place at which the closure says yes, or -1; the memory may have grown. -/
def FoundG (w : World) (b : Bool) (e : Ending) (w' : World) : Prop := ∃ r : Int, e = .returned (.int .i64 r) ∧ decide (0 ≤ r) = b ∧ Below w.heap.size w w'

set_option maxHeartbeats 1000000 in
theorem IndexFunc_runs (A0 : Option Addr) (m c0 : Nat) (p : Nat) (A : Option Addr) (n c : Nat) (l : List Rn) (w : World) (hp : w.cell? ⟨p, 0, none⟩ = some (.slice A0 m c0)) (hm : m ≤ 1048576) (h : RunsAt w A l) (hl : n = l.length) (hs : Small l) :
    Calls Try.prog 112 #[.slice A n c, .func (.func 95) #[] #[.pointer (some ⟨p, 0, none⟩)]] w (FoundG w (badRuns m l)) := by
  have hn0 : n ≤ 1048576 := by rw [hl]; exact hs.1
  have H := Lib.hid h
  have HL := Lib.hid hl
  have HS := Lib.hid hs
  clear h hl hs
  go_enter Try.func112, Try.ntmps112
  go_wp2
  go_loopw [8] (fun u w' => ∃ (i : Nat), u = .int .i64 i ∧ i ≤ n ∧ Hid (badRuns m l = badRuns m (l.drop i)) ∧ Below w.heap.size w w') (fun u _ => n - (intOf u).toNat)
  case atStart => exact ⟨0, rfl, by omega, rfl, Below.refl _ _⟩
  case round =>
    obtain ⟨i, rfl, hin, HA, hbel⟩ := hrel
    by_cases hlt : i < n
    · obtain ⟨b, o, rfl, hblt, hc⟩ := H.out (by rw [← HL.out]; omega)
      have hil : i < l.length := by rw [← HL.out]; exact hlt
      obtain ⟨A1, c1, t0, t1, W1, -⟩ := (hc i hil).bel hbel
      have hsm := HS.out.2 i hil
      have hd := badRuns_step (m := m) hil
      obtain ⟨r, hr⟩ : ∃ r, l[i] = r := ⟨_, rfl⟩
      rw [hr] at t0 t1 W1 hsm hd
      have HW := Lib.hid W1
      obtain ⟨k, hk⟩ : ∃ k, r.1.length = k := ⟨_, rfl⟩
      rw [hk] at t0 hsm
      have HK := Lib.hid hk
      clear hc hr hk W1
      cases hv : runOk m r
      · have HF : Hid (badRuns m l = true) := by show _ = _; rw [HA.out, hd, hv]; rfl
        clear hd
        go_wp2_with fail
        refine (runBad_any A0 m c0 p A1 k c1 r _ (bel_cell hbel hp) hm HW.out HK.out.symm hsm).mono ?_
        rintro e w2 ⟨rfl, hb2⟩
        rw [hv]
        go_wp2_with fail
        go_ret
        exact ⟨_, rfl, by rw [HF.out]; simp, bel_next hbel hb2⟩
      · have HF : Hid (badRuns m l = badRuns m (l.drop (i + 1))) := by show _ = _; rw [HA.out, hd, hv]; rfl
        clear hd
        go_wp2_with fail
        refine (runBad_any A0 m c0 p A1 k c1 r _ (bel_cell hbel hp) hm HW.out HK.out.symm hsm).mono ?_
        rintro e w2 ⟨rfl, hb2⟩
        rw [hv]
        go_wp2_with fail
        go_roundw
        case rel => exact ⟨i + 1, by go_num, by omega, HF, bel_next hbel hb2⟩
        case measure => simp [intOf]; omega
    · have HF : Hid (badRuns m l = false) := by show _ = _; rw [HA.out, List.drop_of_length_le (by rw [← HL.out]; omega)]; rfl
      go_wp2_with fail
      go_ret
      exact ⟨-1, rfl, by rw [HF.out]; rfl, hbel⟩

theorem ContainsFunc_runs (A0 : Option Addr) (m c0 : Nat) (p : Nat) (A : Option Addr) (n c : Nat) (l : List Rn) (w : World) (hp : w.cell? ⟨p, 0, none⟩ = some (.slice A0 m c0)) (hm : m ≤ 1048576) (h : RunsAt w A l) (hl : n = l.length) (hs : Small l) :
    Calls Try.prog 94 #[.slice A n c, .func (.func 95) #[] #[.pointer (some ⟨p, 0, none⟩)]] w (Ret w (.bool (badRuns m l))) := by
  have HL := Lib.hid hl
  clear hl
  go_enter Try.func94, Try.ntmps94
  go_wp2_with fail
  refine (IndexFunc_runs A0 m c0 p A n c l _ hp hm h HL.out hs).mono ?_
  rintro e w1 ⟨r, rfl, hr, hb⟩
  have HR := Lib.hid hr
  clear hr
  go_wp2_with fail
  go_ret
  exact ⟨ret_bool (by rw [← HR.out]), hb⟩

set_option maxHeartbeats 1000000 in
theorem implValidRuns_any (A0 : Option Addr) (m c0 : Nat) (ts : List Int) (A : Option Addr) (n c : Nat) (l : List Rn) (w : World) (h0 : IntsAt w A0 ts) (hl0 : m = ts.length) (hm : m ≤ 1048576) (h : RunsAt w A l) (hl : n = l.length) (hs : Small l) :
    Calls Try.prog 57 #[.slice A0 m c0, .slice A n c] w (Ret w (.bool (runsOk ts l))) := by
  have E : Hid (runsOk ts l = ((validT ts && decide (n ≤ 12)) && !badRuns m l)) := by rw [badRuns_not, hl, hl0]; rfl
  have HL := Lib.hid hl
  have HL0 := Lib.hid hl0
  have H := Lib.hid h
  have H0 := Lib.hid h0
  have HS := Lib.hid hs
  have hn0 : n ≤ 1048576 := by rw [hl]; exact hs.1
  clear hl hl0 h h0 hs
  go_enter Try.func57, Try.ntmps57
  go_wp2_with fail
  refine (implValidTimes_any A0 m c0 ts _ (H0.out.alloc _) HL0.out hm).mono ?_
  rintro e w1 ⟨rfl, hb1⟩
  have D1 : Below w.heap.size w w1 := Below.trans (by go_grown) (hb1.mono (by simp))
  have b0 : w1.cell? ⟨w.heap.size, 0, none⟩ = some (.slice A0 m c0) := (bel_blk (Blk.new _ _ _) hb1).cell 0
  clear hb1
  cases hv : validT ts
  · have E2 : Hid (runsOk ts l = false) := by show _ = _; rw [E.out, hv]; rfl
    go_wp2_with fail
    go_ret
    exact ⟨ret_bool E2.out.symm, D1⟩
  · by_cases hn : n ≤ 12
    · have E2 : Hid (runsOk ts l = !badRuns m l) := by show _ = _; rw [E.out, hv]; simp [hn]
      go_wp2_with fail
      refine (ContainsFunc_runs A0 m c0 _ A n c l _ b0 hm (H.out.bel D1) HL.out HS.out).mono ?_
      rintro e w2 ⟨rfl, hb2⟩
      go_wp2_with fail
      go_ret
      exact ⟨ret_bool E2.out.symm, bel_next D1 hb2⟩
    · have E2 : Hid (runsOk ts l = false) := by show _ = _; rw [E.out]; simp [hn]
      go_wp2_with fail
      go_ret
      exact ⟨ret_bool E2.out.symm, D1⟩

end Go.Proofs.Ytlebkjkiikehhaa
