/-
  CONTRACTS: which lists are settings of a network, and the code of a setting and stations.
-/
import Derived.Test.YtlebkjkiikehhaaNetV
import Derived.Test.YtlebkjkiikehhaaIntS
import Derived.Test.YtlebkjkiikehhaaAid
namespace Go.Proofs.Ytlebkjkiikehhaa
open Go.RowKit

theorem IntsAt.lit (w : World) (t : TypeId) (l : List Int) {g : Nat} (hg : g = w.heap.size) : IntsAt (w.alloc (.cells (ints l) t)) (some ⟨g, 0, none⟩) l := by
  subst hg
  exact IntsAt.ofBlk (Blk.new _ _ _)
def tbAt (l : List Tb) (k : Nat) : Tb := l.getD k (0, 0, 0)
theorem tbAt_eq {l : List Tb} {k : Nat} (h : k < l.length) : tbAt l k = l[k] := by simp [tbAt, h]
def stAt (st : List Int) (i : Nat) : Int := st.getD i (-1)
theorem stAt_eq {st : List Int} {i : Nat} (h : i < st.length) : stAt st i = st[i] := by simp [stAt, h]
/-- What a setting holds for a station fits. -/
def goodS (l : List Tb) (st : List Int) (i : Nat) : Bool := decide (stAt st i = -1) || (inB (stAt st i) 0 ((l.length : Int) - 1) && decide ((tbAt l (stAt st i).toNat).1 = (i : Int)))
def okS (l : List Tb) (st : List Int) (i : Nat) : Bool := ((List.range st.length).drop i).all fun i => goodS l st i
def setOK (S : Int) (l : List Tb) (st : List Int) : Bool := validN S l && decide ((st.length : Int) = S) && okS l st 0
theorem okS_step {l : List Tb} {st : List Int} {i : Nat} (h : i < st.length) : okS l st i = (goodS l st i && okS l st (i + 1)) := by
  unfold okS
  rw [drop_at' (show i < (List.range st.length).length by simpa using h), List.all_cons]
  simp
theorem okS_end {l : List Tb} {st : List Int} {i : Nat} (h : st.length ≤ i) : okS l st i = true := by
  unfold okS
  rw [List.drop_of_length_le (by simpa using h)]; rfl
theorem okS_at {l : List Tb} {st : List Int} (h : okS l st 0 = true) {i : Nat} (hi : i < st.length) : goodS l st i = true := by
  unfold okS at h
  rw [List.drop_zero] at h
  exact List.all_eq_true.1 h i (by simpa using hi)
theorem setOK_true {S : Int} {l : List Tb} {st : List Int} (h : setOK S l st = true) : validN S l = true ∧ (st.length : Int) = S ∧ ∀ (i : Nat) (hi : i < st.length), st[i] = -1 ∨ (0 ≤ st[i] ∧ st[i] < l.length ∧ (tbAt l st[i].toNat).1 = (i : Int)) := by
  simp only [setOK, Bool.and_eq_true, decide_eq_true_eq] at h
  refine ⟨h.1.1, h.1.2, fun i hi => ?_⟩
  have h1 := okS_at h.2 hi
  unfold goodS at h1
  rw [stAt_eq hi] at h1
  simp only [Bool.or_eq_true, decide_eq_true_eq, Bool.and_eq_true] at h1
  rcases h1 with h1 | h1
  · exact .inl h1
  · have := inB_true h1.1
    exact .inr ⟨by omega, by omega, h1.2⟩
theorem okS_out {l : List Tb} {st : List Int} (h : outB st (-1) ((l.length : Int) - 1) = true) : okS l st 0 = false := by
  cases ho : okS l st 0
  · rfl
  · exfalso
    unfold outB at h
    obtain ⟨x, hx, hn⟩ := List.any_eq_true.1 h
    obtain ⟨i, hi, rfl⟩ := List.getElem_of_mem hx
    have h1 := okS_at ho hi
    unfold goodS at h1
    rw [stAt_eq hi] at h1
    simp only [Bool.or_eq_true, decide_eq_true_eq, Bool.and_eq_true] at h1
    simp [inB] at hn
    rcases h1 with h1 | h1
    · omega
    · have := inB_true h1.1
      omega
theorem out_at {st : List Int} {lo hi : Int} (h : outB st lo hi = false) {i : Nat} (hi' : i < st.length) : lo ≤ st[i] ∧ st[i] ≤ hi := by
  unfold outB at h
  rw [List.any_eq_false] at h
  have := h _ (List.getElem_mem hi')
  simp at this
  exact inB_true this

set_option maxHeartbeats 4000000 in
theorem l04Ok_any (b : Nat) (S : Int) (A : Option Addr) (n c : Nat) (l : List Tb) (A' : Option Addr) (n' c' : Nat) (st : List Int) (w : World) (h : NetAt w b S A n c l) (hl : n = l.length) (hn0 : n ≤ 1048576) (h' : IntsAt w A' st) (hl' : n' = st.length) (hn0' : n' ≤ 1048576) :
    Calls Try.prog 106 #[.pointer (some ⟨b, 0, none⟩), .slice A' n' c'] w (Ret w (.bool (setOK S l st))) := by
  have HL := Lib.hid hl
  have HL' := Lib.hid hl'
  have H := Lib.hid h
  have H' := Lib.hid h'
  have E : Hid (setOK S l st = (validN S l && decide ((n' : Int) = S) && okS l st 0)) := by show _ = _; rw [hl']; rfl
  clear h h' hl hl'
  go_enter Try.func106, Try.ntmps106
  go_wp2_with fail
  refine (l02Ok_any b S A n c l _ H.out HL.out hn0).mono ?_
  rintro e w1 ⟨rfl, hb1⟩
  obtain ⟨k0, k1, HT⟩ := H.out.bel hb1
  have HT1 := Lib.hid HT
  clear HT
  cases hv : validN S l
  · have E2 : Hid (setOK S l st = false) := by show _ = _; rw [E.out, hv]; rfl
    go_wp2_with fail
    go_ret
    exact ⟨ret_bool E2.out.symm, hb1⟩
  · by_cases hS : (n' : Int) = S
    · have E2 : Hid (setOK S l st = okS l st 0) := by show _ = _; rw [E.out, hv]; simp [hS]
      obtain ⟨v0, v1, v2, -⟩ := validN_true hv
      rw [← HL.out] at v2
      subst hS
      clear hv E
      go_wp2_with fail
      go_loopw [5] (fun u w' => ∃ (i : Nat), u = .int .i64 i ∧ i ≤ n' ∧ Hid (setOK n' l st = okS l st i) ∧ Below w1.heap.size w1 w') (fun u _ => n' - (intOf u).toNat)
      case atStart => exact ⟨0, rfl, by omega, E2, Below.refl _ _⟩
      case round =>
        clear E2
        obtain ⟨i, rfl, hin, HE, hbel⟩ := hrel
        have m0 := bel_cell hbel k0
        have m1 := bel_cell hbel k1
        by_cases hlt : i < n'
        · obtain ⟨b', o, rfl, hblt, hc⟩ := ((H'.out.bel hb1).bel hbel) (by rw [← HL'.out]; omega)
          have hil : i < st.length := by rw [← HL'.out]; exact hlt
          have t0 := hc i hil
          have hd := okS_step (l := l) hil
          unfold goodS at hd
          rw [stAt_eq hil, ← HL.out] at hd
          obtain ⟨x, hx⟩ : ∃ x, st[i] = x := ⟨_, rfl⟩
          rw [hx] at t0 hd
          clear hc hx
          by_cases hm1 : x = -1
          · have HF : Hid (setOK n' l st = okS l st (i + 1)) := by show _ = _; rw [HE.out, hd]; simp [hm1]
            subst hm1
            clear hd
            go_wp2_with fail
            go_roundw
            case rel => exact ⟨i + 1, by go_num, by omega, HF, hbel⟩
            case measure => simp [intOf]; omega
          · cases hi : inB x 0 ((n : Int) - 1)
            · have HF : Hid (setOK n' l st = false) := by show _ = _; rw [HE.out, hd, hi]; simp [hm1]
              have hxb : (x == (-1 : Int)) = false := by simpa using hm1
              clear hd
              go_wp2_with (first | (go_at_call 65; refine (l00In_any _ _ _ _).mono ?_; rintro e w' ⟨rfl, rfl⟩; rw [hi]))
              go_ret
              rw [HF.out]
              exact ⟨rfl, bel_next hb1 hbel⟩
            · have hi2 := inB_true hi
              obtain ⟨q, rfl⟩ : ∃ q : Nat, x = q := ⟨x.toNat, by omega⟩
              have hql : q < l.length := by rw [← HL.out]; omega
              obtain ⟨b2, o2, rfl, hblt2, hc2⟩ := (HT1.out.bel hbel) (by omega)
              obtain ⟨y0, y1, y2⟩ := hc2 q hql
              rw [Int.toNat_natCast, tbAt_eq hql] at hd
              obtain ⟨f, hf⟩ : ∃ f, l[q].1 = f := ⟨_, rfl⟩
              rw [hf] at y0 hd
              clear hc2 hf y1 y2
              by_cases hfi : f = (i : Int)
              · have HF : Hid (setOK n' l st = okS l st (i + 1)) := by show _ = _; rw [HE.out, hd, hi]; simp [hfi]
                subst hfi
                clear hd
                go_wp2_with (first | (go_at_call 65; refine (l00In_any _ _ _ _).mono ?_; rintro e w' ⟨rfl, rfl⟩; rw [hi]))
                go_roundw
                case rel => exact ⟨i + 1, by go_num, by omega, HF, hbel⟩
                case measure => simp [intOf]; omega
              · have HF : Hid (setOK n' l st = false) := by show _ = _; rw [HE.out, hd, hi]; simp [hfi]
                have hb : (f == (i : Int)) = false := by simpa using hfi
                clear hd
                go_wp2_with (first | (go_at_call 65; refine (l00In_any _ _ _ _).mono ?_; rintro e w' ⟨rfl, rfl⟩; rw [hi]))
                go_ret
                rw [HF.out]
                exact ⟨rfl, bel_next hb1 hbel⟩
        · have HF : Hid (setOK n' l st = true) := by show _ = _; rw [HE.out, okS_end (by rw [← HL'.out]; omega)]
          go_wp2_with fail
          go_ret
          rw [HF.out]
          exact ⟨rfl, bel_next hb1 hbel⟩
    · have E2 : Hid (setOK S l st = false) := by show _ = _; rw [E.out]; simp [hS]
      have hb : ((n' : Int) == S) = false := by simpa using hS
      go_wp2_with fail
      go_ret
      exact ⟨ret_bool E2.out.symm, hb1⟩

set_option maxHeartbeats 4000000 in
theorem implSetting_any (S : Int) (A : Option Addr) (n c : Nat) (l : List Tb) (A' : Option Addr) (n' c' : Nat) (st : List Int) (w : World) (h : TubesAt w A l) (hl : n = l.length) (hn0 : n ≤ 1048576) (h' : IntsAt w A' st) (hl' : n' = st.length) (hn0' : n' ≤ 1048576) :
    Calls Try.prog 107 #[.agg #[.int .i64 S, .slice A n c], .slice A' n' c'] w (Ret w (.bool (setOK S l st))) := by
  have HL := Lib.hid hl
  have HL' := Lib.hid hl'
  have H := Lib.hid h
  have H' := Lib.hid h'
  have E : Hid (setOK S l st = (validN S l && decide ((n' : Int) = S) && okS l st 0)) := by show _ = _; rw [hl']; rfl
  clear h h' hl hl'
  go_enter Try.func107, Try.ntmps107
  go_wp2_with fail
  refine (implValidNet_any S A n c l _ (H.out.alloc _) HL.out hn0).mono ?_
  rintro e w1 ⟨rfl, hb1⟩
  have D1 : Below w.heap.size w w1 := Below.trans (by go_grown) (hb1.mono (by simp))
  have N1 : Hid (Blk w1 w.heap.size 30 #[.int .i64 S, .slice A n c]) := bel_blk (Blk.new _ _ _) hb1
  obtain ⟨k0, k1, -⟩ := N1.out.c2
  clear hb1
  cases hv : validN S l
  · have E2 : Hid (setOK S l st = false) := by show _ = _; rw [E.out, hv]; rfl
    go_wp2_with fail
    go_ret
    exact ⟨ret_bool E2.out.symm, D1⟩
  · by_cases hS : (n' : Int) = S
    · have E2 : Hid (setOK S l st = okS l st 0) := by show _ = _; rw [E.out, hv]; simp [hS]
      obtain ⟨v0, v1, v2, -⟩ := validN_true hv
      rw [← HL.out] at v2
      subst hS
      clear hv E
      go_wp2_with fail
      refine (outside_any A' n' c' st (-1) ((n : Int) - 1) _ (H'.out.bel D1) HL'.out hn0').mono ?_
      rintro e w2 ⟨rfl, hb2⟩
      have D2 := bel_next D1 hb2
      have N2 := hid_blk N1 hb2
      clear k0 k1 N1 hb2 D1
      obtain ⟨k0, k1, -⟩ := N2.out.c2
      cases ho : outB st (-1) ((n : Int) - 1)
      · have HO := Lib.hid ho
        clear ho
        go_wp2_with fail
        go_loopw [27] (fun u w' => ∃ (i : Nat), u = .int .i64 i ∧ i ≤ n' ∧ Hid (setOK n' l st = okS l st i) ∧ w' = w2) (fun u _ => n' - (intOf u).toNat)
        case atStart => exact ⟨0, rfl, by omega, E2, rfl⟩
        case round =>
          clear E2
          obtain ⟨i, rfl, hin, HE, rfl⟩ := hrel
          by_cases hlt : i < n'
          · obtain ⟨b', o, rfl, hblt, hc⟩ := (H'.out.bel D2) (by rw [← HL'.out]; omega)
            have hil : i < st.length := by rw [← HL'.out]; exact hlt
            have t0 := hc i hil
            obtain ⟨o1, o2⟩ := out_at HO.out hil
            have hd := okS_step (l := l) hil
            unfold goodS at hd
            rw [stAt_eq hil, ← HL.out] at hd
            obtain ⟨x, hx⟩ : ∃ x, st[i] = x := ⟨_, rfl⟩
            rw [hx] at t0 hd o1 o2
            clear hc hx
            by_cases hx0 : 0 ≤ x
            · obtain ⟨q, rfl⟩ : ∃ q : Nat, x = q := ⟨x.toNat, by omega⟩
              have hi : inB (q : Int) 0 ((n : Int) - 1) = true := by simp [inB]; omega
              have hql : q < l.length := by rw [← HL.out]; omega
              obtain ⟨b2, o2, rfl, hblt2, hc2⟩ := (H.out.bel D2) (by omega)
              obtain ⟨y0, y1, y2⟩ := hc2 q hql
              rw [Int.toNat_natCast, tbAt_eq hql] at hd
              obtain ⟨f, hf⟩ : ∃ f, l[q].1 = f := ⟨_, rfl⟩
              rw [hf] at y0 hd
              clear hc2 hf y1 y2
              by_cases hfi : f = (i : Int)
              · have HF : Hid (setOK n' l st = okS l st (i + 1)) := by show _ = _; rw [HE.out, hd, hi]; simp [hfi]
                subst hfi
                clear hd hi
                go_wp2_with fail
                go_roundw
                case rel => exact ⟨i + 1, by go_num, by omega, HF, trivial⟩
                case measure => simp [intOf]; omega
              · have HF : Hid (setOK n' l st = false) := by show _ = _; rw [HE.out, hd, hi]; simp [hfi]
                have hb : (f == (i : Int)) = false := by simpa using hfi
                clear hd hi
                go_wp2_with fail
                go_ret
                rw [HF.out]
                exact ⟨rfl, D2⟩
            · have HF : Hid (setOK n' l st = okS l st (i + 1)) := by show _ = _; rw [HE.out, hd]; simp [show x = -1 by omega]
              clear hd
              go_wp2_with fail
              go_roundw
              case rel => exact ⟨i + 1, by go_num, by omega, HF, trivial⟩
              case measure => simp [intOf]; omega
          · have HF : Hid (setOK n' l st = true) := by show _ = _; rw [HE.out, okS_end (by rw [← HL'.out]; omega)]
            go_wp2_with fail
            go_ret
            rw [HF.out]
            exact ⟨rfl, D2⟩
      · have HF : Hid (setOK n' l st = false) := by show _ = _; rw [E2.out]; exact okS_out (by rw [← HL.out]; exact ho)
        clear ho
        go_wp2_with fail
        go_ret
        rw [HF.out]
        exact ⟨rfl, D2⟩
    · have E2 : Hid (setOK S l st = false) := by show _ = _; rw [E.out]; simp [hS]
      have hb : ((n' : Int) == S) = false := by simpa using hS
      go_wp2_with fail
      go_ret
      exact ⟨ret_bool E2.out.symm, D1⟩

def codeS (S : Int) (l : List Tb) (st us : List Int) : Int := if setOK S l st then (if outB us 0 (S - 1) then 2 else 0) else 1
theorem codeS_zero {S : Int} {l : List Tb} {st us : List Int} (h : codeS S l st us = 0) : setOK S l st = true ∧ outB us 0 (S - 1) = false := by
  unfold codeS at h
  split at h
  · split at h
    · omega
    · exact ⟨by assumption, by simpa using ‹¬ outB us 0 (S - 1) = true›⟩
  · omega
theorem codeS_twice (S : Int) (l : List Tb) (st : List Int) (u : Int) : codeS S l st [u, u] = codeS S l st [u] := by simp [codeS, outB]

set_option maxHeartbeats 2000000 in
theorem l04Station_any (b : Nat) (S : Int) (A : Option Addr) (n c : Nat) (l : List Tb) (A' : Option Addr) (n' c' : Nat) (st : List Int) (u v : Int) (w : World) (h : NetAt w b S A n c l) (hl : n = l.length) (hn0 : n ≤ 1048576) (h' : IntsAt w A' st) (hl' : n' = st.length) (hn0' : n' ≤ 1048576) :
    Calls Try.prog 74 #[.pointer (some ⟨b, 0, none⟩), .slice A' n' c', .int .i64 u, .int .i64 v] w (Ret w (.int .i64 (codeS S l st [u, v]))) := by
  have HL := Lib.hid hl
  have HL' := Lib.hid hl'
  have H := Lib.hid h
  have H' := Lib.hid h'
  clear hl h hl' h'
  go_enter Try.func74, Try.ntmps74
  go_wp2_with fail
  refine (l04Ok_any b S A n c l A' n' c' st _ H.out HL.out hn0 H'.out HL'.out hn0').mono ?_
  rintro e w1 ⟨rfl, hb1⟩
  have k0 := (H.out.bel hb1).c0
  cases hv : setOK S l st
  · have E : Hid (codeS S l st [u, v] = 1) := by show _ = _; simp [codeS, hv]
    go_wp2_with fail
    go_ret
    exact ⟨ret_int E.out.symm, hb1⟩
  · obtain ⟨v0, v1, -, -⟩ := validN_true (setOK_true hv).1
    cases hu : inB u 0 (S - 1)
    · have E : Hid (codeS S l st [u, v] = 2) := by show _ = _; simp [codeS, hv, outB, hu]
      clear hv
      go_wp2_with (go_at_call 65; refine (l00In_any _ _ _ _).mono ?_; rintro e w' ⟨rfl, rfl⟩)
      go_ret
      exact ⟨ret_int E.out.symm, hb1⟩
    · cases hv2 : inB v 0 (S - 1)
      · have E : Hid (codeS S l st [u, v] = 2) := by show _ = _; simp [codeS, hv, outB, hu, hv2]
        clear hv
        go_wp2_with (go_at_call 65; refine (l00In_any _ _ _ _).mono ?_; rintro e w' ⟨rfl, rfl⟩)
        go_ret
        exact ⟨ret_int E.out.symm, hb1⟩
      · have E : Hid (codeS S l st [u, v] = 0) := by show _ = _; simp [codeS, hv, outB, hu, hv2]
        clear hv
        go_wp2_with (go_at_call 65; refine (l00In_any _ _ _ _).mono ?_; rintro e w' ⟨rfl, rfl⟩)
        go_ret
        exact ⟨ret_int E.out.symm, hb1⟩

set_option maxHeartbeats 2000000 in
theorem settingCode_any (S : Int) (A : Option Addr) (n c : Nat) (l : List Tb) (A' : Option Addr) (n' c' : Nat) (st : List Int) (A2 : Option Addr) (n2 c2 : Nat) (us : List Int) (w : World) (h : TubesAt w A l) (hl : n = l.length) (hn0 : n ≤ 1048576)
    (h' : IntsAt w A' st) (hl' : n' = st.length) (hn0' : n' ≤ 1048576) (h2 : IntsAt w A2 us) (hl2 : n2 = us.length) (hn2 : n2 ≤ 1048576) :
    Calls Try.prog 79 #[.agg #[.int .i64 S, .slice A n c], .slice A' n' c', .slice A2 n2 c2] w (Ret w (.int .i64 (codeS S l st us))) := by
  have HL := Lib.hid hl
  have H := Lib.hid h
  have HL' := Lib.hid hl'
  have H' := Lib.hid h'
  have HL2 := Lib.hid hl2
  have H2 := Lib.hid h2
  clear hl h hl' h' hl2 h2
  go_enter Try.func79, Try.ntmps79
  go_wp2_with fail
  refine (implSetting_any S A n c l A' n' c' st _ (H.out.alloc _) HL.out hn0 (H'.out.alloc _) HL'.out hn0').mono ?_
  rintro e w1 ⟨rfl, hb1⟩
  have D1 : Below w.heap.size w w1 := Below.trans (by go_grown) (hb1.mono (by simp))
  have N1 : Hid (Blk w1 w.heap.size _ _) := bel_blk (Blk.new _ _ _) hb1
  have s1 := N1.out.lt
  obtain ⟨a0, a1, -⟩ := N1.out.c2
  clear hb1
  cases hv : setOK S l st
  · have E : Hid (codeS S l st us = 1) := by show _ = _; simp [codeS, hv]
    go_wp2_with fail
    go_ret
    exact ⟨ret_int E.out.symm, D1⟩
  · obtain ⟨v0, v1, -, -⟩ := validN_true (setOK_true hv).1
    have E : Hid (codeS S l st us = if outB us 0 (S - 1) then 2 else 0) := by show _ = _; simp [codeS, hv]
    clear hv
    go_wp2_with fail
    refine (outside_any A2 n2 c2 us 0 (S - 1) _ (H2.out.bel D1) HL2.out hn2).mono ?_
    rintro e w2 ⟨rfl, hb2⟩
    have D2 := bel_next D1 hb2
    cases ho : outB us 0 (S - 1)
    · have E2 : Hid (codeS S l st us = 0) := by show _ = _; rw [E.out, ho]; rfl
      go_wp2_with fail
      go_ret
      exact ⟨ret_int E2.out.symm, D2⟩
    · have E2 : Hid (codeS S l st us = 2) := by show _ = _; rw [E.out, ho]; rfl
      go_wp2_with fail
      go_ret
      exact ⟨ret_int E2.out.symm, D2⟩

end Go.Proofs.Ytlebkjkiikehhaa
