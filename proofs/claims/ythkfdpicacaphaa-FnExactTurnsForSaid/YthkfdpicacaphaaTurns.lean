/-
  CONTRACTS: how many switches must be turned for a way (printed by tools/gen_turns.py).
-/
import Derived.Test.YthkfdpicacaphaaWayCode
namespace Go.Proofs.Ythkfdpicacaphaa
open Go.RowKit

/-- How many tubes of a way are not set. -/
def turnF (l : List Tb) (st : List Int) : List Int → Nat
  | [] => 0
  | x :: xs => (if stAt st (frW l x).toNat = x then 0 else 1) + turnF l st xs
theorem turnF_step {l : List Tb} {st way : List Int} {i : Nat} (h : i < way.length) : turnF l st (way.drop i) = (if stAt st (frW l way[i]).toNat = way[i] then 0 else 1) + turnF l st (way.drop (i + 1)) := by
  rw [drop_at' h, turnF]
def turnsR (S : Int) (l : List Tb) (st way : List Int) : Int × Int := if codeW S l st way = 0 then ((turnF l st way : Int), 0) else (0, codeW S l st way)

set_option maxHeartbeats 4000000 in
theorem l04Turns_any (b : Nat) (S : Int) (A : Option Addr) (n c : Nat) (l : List Tb) (A' : Option Addr) (n' c' : Nat) (st : List Int) (A2 : Option Addr) (n2 c2 : Nat) (way : List Int) (w : World) (h : NetAt w b S A n c l) (hl : n = l.length)
    (h' : IntsAt w A' st) (hl' : n' = st.length) (h2 : IntsAt w A2 way) (hl2 : n2 = way.length) (hn2 : n2 ≤ 1048576) (hv : setOK S l st = true) (hw : simpW l way = true) :
    Calls Try.prog 64 #[.pointer (some ⟨b, 0, none⟩), .slice A' n' c', .slice A2 n2 c2] w (Ret w (.int .i64 (turnF l st way))) := by
  have HL := Lib.hid hl
  have HL' := Lib.hid hl'
  have H' := Lib.hid h'
  have HL2 := Lib.hid hl2
  have H2 := Lib.hid h2
  obtain ⟨a0, a1, hts⟩ := h
  have H := Lib.hid hts
  have HV := Lib.hid hv
  have HO := Lib.hid (simpW_at hw)
  have E : Hid (0 + turnF l st (way.drop 0) = turnF l st way) := by show _ = _; simp
  clear hl hts hl' h' hl2 h2 hv hw
  go_enter Try.func64, Try.ntmps64
  go_wp2_with fail
  go_loopw [7, 8] (fun v u w' => ∃ (x i : Nat), v = .int .i64 x ∧ u = .int .i64 i ∧ i ≤ n2 ∧ x ≤ i ∧ Hid (x + turnF l st (way.drop i) = turnF l st way) ∧ Below w.heap.size w w') (fun _ u _ => n2 - (intOf u).toNat)
  case atStart => exact ⟨0, 0, rfl, rfl, by omega, by omega, E, Below.refl _ _⟩
  case round =>
    clear E
    obtain ⟨x, i, rfl, rfl, hin, hxi, HE, hbel⟩ := hrel
    have b0 := bel_cell hbel a0
    have b1 := bel_cell hbel a1
    by_cases hlt : i < n2
    · have hil : i < way.length := by rw [← HL2.out]; exact hlt
      obtain ⟨b3, o3, rfl, hblt3, hc⟩ := (H2.out.bel hbel) (by omega)
      have t0 := hc i hil
      obtain ⟨o1, o2⟩ := outB_at HO.out hil
      obtain ⟨q, hq⟩ : ∃ q : Nat, way[i] = q := ⟨way[i].toNat, by omega⟩
      have hd := turnF_step (l := l) (st := st) hil
      rw [hq] at t0 o1 o2 hd
      have hql : q < l.length := by omega
      have hqn : q < n := by rw [HL.out]; exact hql
      obtain ⟨b2, o4, rfl, hblt2, hc2⟩ := (H.out.bel hbel) (by omega)
      obtain ⟨y0, y1, y2⟩ := hc2 q hql
      obtain ⟨hvn, hsl, -⟩ := setOK_true HV.out
      have hgd := validN_at (validN_true hvn).2.2.2 hql
      simp only [validTube, Bool.and_eq_true] at hgd
      have hf1 := inB_true hgd.1.1.1
      rw [frW_eq hql] at hd
      obtain ⟨f, hf⟩ : ∃ f : Nat, l[q].1 = f := ⟨l[q].1.toNat, by omega⟩
      rw [hf] at y0 hd hf1
      rw [Int.toNat_natCast] at hd
      have hfs : f < st.length := by omega
      have hfn : f < n' := by rw [HL'.out]; exact hfs
      obtain ⟨b5, o5, rfl, hblt5, hc5⟩ := (H'.out.bel hbel) (by omega)
      have t1 := hc5 f hfs
      rw [stAt_eq hfs] at hd
      obtain ⟨z, hz⟩ : ∃ z, st[f] = z := ⟨_, rfl⟩
      rw [hz] at t1 hd
      clear hc hc2 hc5 hq hf hz hgd hvn hsl y1 y2 hf1 o1 o2
      by_cases hzq : z = (q : Int)
      · have HE2 : Hid (x + turnF l st (way.drop (i + 1)) = turnF l st way) := by show _ = _; rw [← HE.out, hd, if_pos hzq]; omega
        subst hzq
        clear hd HE
        go_wp2_with fail
        go_quiet (fail)
        go_wp2_with fail
        go_roundw
        case rel => exact ⟨x, i + 1, rfl, by go_num, by omega, by omega, HE2, below_drewN hbel _⟩
        case measure => simp [intOf]; omega
      · have HE2 : Hid ((x + 1) + turnF l st (way.drop (i + 1)) = turnF l st way) := by show _ = _; rw [← HE.out, hd, if_neg hzq]; omega
        have hzb : (z == (q : Int)) = false := by simpa using hzq
        have hzn : (z != (q : Int)) = true := by simpa using hzq
        clear hd HE
        go_wp2_with fail
        go_quiet (fail)
        go_wp2_with fail
        go_roundw
        case rel => exact ⟨x + 1, i + 1, by go_num, by go_num, by omega, by omega, HE2, below_drewN hbel _⟩
        case measure => simp [intOf]; omega
    · have HF : Hid (turnF l st way = x) := by show _ = _; rw [← HE.out, List.drop_of_length_le (by rw [← HL2.out]; omega), turnF]; omega
      go_wp2_with fail
      go_ret
      rw [HF.out]
      exact ⟨rfl, hbel⟩

set_option maxHeartbeats 4000000 in
theorem turns_any (S : Int) (A : Option Addr) (n c : Nat) (l : List Tb) (A' : Option Addr) (n' c' : Nat) (st : List Int) (A2 : Option Addr) (n2 c2 : Nat) (way : List Int) (w : World) (h : TubesAt w A l) (hl : n = l.length)
    (h' : IntsAt w A' st) (hl' : n' = st.length) (h2 : IntsAt w A2 way) (hl2 : n2 = way.length) (hn2 : n2 ≤ 1048576) (hv : setOK S l st = true) (hw : simpW l way = true) :
    Calls Try.prog 65 #[.agg #[.int .i64 S, .slice A n c], .slice A' n' c', .slice A2 n2 c2] w (Ret w (.int .i64 (turnF l st way))) := by
  have HL := Lib.hid hl
  have HL' := Lib.hid hl'
  have H' := Lib.hid h'
  have HL2 := Lib.hid hl2
  have H2 := Lib.hid h2
  have H := Lib.hid h
  have HV := Lib.hid hv
  have HO := Lib.hid (simpW_at hw)
  have E : Hid (0 + turnF l st (way.drop 0) = turnF l st way) := by show _ = _; simp
  clear hl h hl' h' hl2 h2 hv hw
  go_enter Try.func65, Try.ntmps65
  go_wp2_with fail
  go_loopw [7, 12] (fun v u w' => ∃ (x i : Nat), v = .int .i64 x ∧ u = .int .i64 i ∧ i ≤ n2 ∧ x ≤ i ∧ Hid (x + turnF l st (way.drop i) = turnF l st way) ∧ Hid (Blk w' w.heap.size 30 #[.int .i64 S, .slice A n c]) ∧ Below w.heap.size w w') (fun _ u _ => n2 - (intOf u).toNat)
  case atStart => exact ⟨0, 0, rfl, rfl, by omega, by omega, E, Blk.new _ _ _, by go_grown⟩
  case round =>
    clear E
    obtain ⟨x, i, rfl, rfl, hin, hxi, HE, HN, hbel⟩ := hrel
    obtain ⟨b0, b1, -⟩ := HN.out.c2
    by_cases hlt : i < n2
    · have hil : i < way.length := by rw [← HL2.out]; exact hlt
      obtain ⟨b3, o3, rfl, hblt3, hc⟩ := (H2.out.bel hbel) (by omega)
      have t0 := hc i hil
      obtain ⟨o1, o2⟩ := outB_at HO.out hil
      obtain ⟨q, hq⟩ : ∃ q : Nat, way[i] = q := ⟨way[i].toNat, by omega⟩
      have hd := turnF_step (l := l) (st := st) hil
      rw [hq] at t0 o1 o2 hd
      have hql : q < l.length := by omega
      have hqn : q < n := by rw [HL.out]; exact hql
      obtain ⟨b2, o4, rfl, hblt2, hc2⟩ := (H.out.bel hbel) (by omega)
      obtain ⟨y0, y1, y2⟩ := hc2 q hql
      obtain ⟨hvn, hsl, -⟩ := setOK_true HV.out
      have hgd := validN_at (validN_true hvn).2.2.2 hql
      simp only [validTube, Bool.and_eq_true] at hgd
      have hf1 := inB_true hgd.1.1.1
      rw [frW_eq hql] at hd
      obtain ⟨f, hf⟩ : ∃ f : Nat, l[q].1 = f := ⟨l[q].1.toNat, by omega⟩
      rw [hf] at y0 hd hf1
      rw [Int.toNat_natCast] at hd
      have hfs : f < st.length := by omega
      have hfn : f < n' := by rw [HL'.out]; exact hfs
      obtain ⟨b5, o5, rfl, hblt5, hc5⟩ := (H'.out.bel hbel) (by omega)
      have t1 := hc5 f hfs
      rw [stAt_eq hfs] at hd
      obtain ⟨z, hz⟩ : ∃ z, st[f] = z := ⟨_, rfl⟩
      rw [hz] at t1 hd
      clear hc hc2 hc5 hq hf hz hgd hvn hsl y1 y2 hf1 o1 o2
      by_cases hzq : z = (q : Int)
      · have HE2 : Hid (x + turnF l st (way.drop (i + 1)) = turnF l st way) := by show _ = _; rw [← HE.out, hd, if_pos hzq]; omega
        subst hzq
        clear hd HE
        go_wp2_with fail
        go_roundw
        case rel => exact ⟨x, i + 1, rfl, by go_num, by omega, by omega, HE2, HN, hbel⟩
        case measure => simp [intOf]; omega
      · have HE2 : Hid ((x + 1) + turnF l st (way.drop (i + 1)) = turnF l st way) := by show _ = _; rw [← HE.out, hd, if_neg hzq]; omega
        have hzb : (z == (q : Int)) = false := by simpa using hzq
        have hzn : (z != (q : Int)) = true := by simpa using hzq
        clear hd HE
        go_wp2_with fail
        go_roundw
        case rel => exact ⟨x + 1, i + 1, by go_num, by go_num, by omega, by omega, HE2, HN, hbel⟩
        case measure => simp [intOf]; omega
    · have HF : Hid (turnF l st way = x) := by show _ = _; rw [← HE.out, List.drop_of_length_le (by rw [← HL2.out]; omega), turnF]; omega
      go_wp2_with fail
      go_ret
      rw [HF.out]
      exact ⟨rfl, hbel⟩

set_option maxHeartbeats 2000000 in
theorem specTurns_any (S : Int) (A : Option Addr) (n c : Nat) (l : List Tb) (A' : Option Addr) (n' c' : Nat) (st : List Int) (A2 : Option Addr) (n2 c2 : Nat) (way : List Int) (w : World) (h : TubesAt w A l) (hl : n = l.length) (hn0 : n ≤ 1048576)
    (h' : IntsAt w A' st) (hl' : n' = st.length) (hn0' : n' ≤ 1048576) (h2 : IntsAt w A2 way) (hl2 : n2 = way.length) (hn2 : n2 ≤ 1048576) :
    Calls Try.prog 37 #[.agg #[.int .i64 S, .slice A n c], .slice A' n' c', .slice A2 n2 c2] w (Ret w (.tuple #[.int .i64 (turnsR S l st way).1, .int .i64 (turnsR S l st way).2])) := by
  have HL := Lib.hid hl
  have H := Lib.hid h
  have HL' := Lib.hid hl'
  have H' := Lib.hid h'
  have HL2 := Lib.hid hl2
  have H2 := Lib.hid h2
  clear hl h hl' h' hl2 h2
  go_enter Try.func37, Try.ntmps37
  go_wp2_with fail
  refine (l04Code_any _ S A n c l A' n' c' st A2 n2 c2 way _ (NetAt.box H.out _) HL.out hn0 (H'.out.alloc _) HL'.out hn0' (H2.out.alloc _) HL2.out hn2).mono ?_
  rintro e w1 ⟨rfl, hb1⟩
  have D1 : Below w.heap.size w w1 := Below.trans (by go_grown) (hb1.mono (by simp))
  have N1 : Hid (Blk w1 w.heap.size 30 #[.int .i64 S, .slice A n c]) := bel_blk (Blk.new _ _ _) hb1
  obtain ⟨a0, a1, -⟩ := N1.out.c2
  clear hb1
  obtain ⟨k, hk⟩ : ∃ k, codeW S l st way = k := ⟨_, rfl⟩
  rw [hk]
  by_cases h0 : k = 0
  · subst h0
    obtain ⟨hv, hw⟩ := codeW_zero hk
    have E : Hid (turnsR S l st way = ((turnF l st way : Int), 0)) := by show _ = _; unfold turnsR; rw [if_pos hk]
    have HV := Lib.hid hv
    have HW := Lib.hid hw
    clear hk hv hw
    go_wp2_with fail
    refine (l04Turns_any _ S A n c l A' n' c' st A2 n2 c2 way _ ⟨a0, a1, H.out.bel D1⟩ HL.out (H'.out.bel D1) HL'.out (H2.out.bel D1) HL2.out hn2 HV.out HW.out).mono ?_
    rintro e w2 ⟨rfl, hb2⟩
    go_wp2_with fail
    refine bodyPost_ret (v := .tuple #[.int .i64 (turnF l st way), .int .i64 0]) (by simp [results, Try.results37, go_sem]) rfl ?_
    rw [E.out]
    exact ⟨rfl, bel_next D1 hb2⟩
  · have E : Hid (turnsR S l st way = (0, k)) := by show _ = _; unfold turnsR; rw [if_neg (by rw [hk]; exact h0), hk]
    clear hk
    go_wp2_with fail
    refine bodyPost_ret (v := .tuple #[.int .i64 0, .int .i64 k]) (by simp [results, Try.results37, go_sem]) rfl ?_
    rw [E.out]
    exact ⟨rfl, D1⟩

set_option maxHeartbeats 2000000 in
theorem implTurns_any (S : Int) (A : Option Addr) (n c : Nat) (l : List Tb) (A' : Option Addr) (n' c' : Nat) (st : List Int) (A2 : Option Addr) (n2 c2 : Nat) (way : List Int) (w : World) (h : TubesAt w A l) (hl : n = l.length) (hn0 : n ≤ 1048576)
    (h' : IntsAt w A' st) (hl' : n' = st.length) (hn0' : n' ≤ 1048576) (h2 : IntsAt w A2 way) (hl2 : n2 = way.length) (hn2 : n2 ≤ 1048576) :
    Calls Try.prog 38 #[.agg #[.int .i64 S, .slice A n c], .slice A' n' c', .slice A2 n2 c2] w (Ret w (.tuple #[.int .i64 (turnsR S l st way).1, .int .i64 (turnsR S l st way).2])) := by
  have HL := Lib.hid hl
  have H := Lib.hid h
  have HL' := Lib.hid hl'
  have H' := Lib.hid h'
  have HL2 := Lib.hid hl2
  have H2 := Lib.hid h2
  clear hl h hl' h' hl2 h2
  go_enter Try.func38, Try.ntmps38
  go_wp2_with fail
  refine (wayCode_any S A n c l A' n' c' st A2 n2 c2 way _ (H.out.alloc _) HL.out hn0 (H'.out.alloc _) HL'.out hn0' (H2.out.alloc _) HL2.out hn2).mono ?_
  rintro e w1 ⟨rfl, hb1⟩
  have D1 : Below w.heap.size w w1 := Below.trans (by go_grown) (hb1.mono (by simp))
  have N1 : Hid (Blk w1 w.heap.size 30 #[.int .i64 S, .slice A n c]) := bel_blk (Blk.new _ _ _) hb1
  obtain ⟨a0, a1, -⟩ := N1.out.c2
  clear hb1
  obtain ⟨k, hk⟩ : ∃ k, codeW S l st way = k := ⟨_, rfl⟩
  rw [hk]
  by_cases h0 : k = 0
  · subst h0
    obtain ⟨hv, hw⟩ := codeW_zero hk
    have E : Hid (turnsR S l st way = ((turnF l st way : Int), 0)) := by show _ = _; unfold turnsR; rw [if_pos hk]
    have HV := Lib.hid hv
    have HW := Lib.hid hw
    clear hk hv hw
    go_wp2_with fail
    refine (turns_any S A n c l A' n' c' st A2 n2 c2 way _ (H.out.bel D1) HL.out (H'.out.bel D1) HL'.out (H2.out.bel D1) HL2.out hn2 HV.out HW.out).mono ?_
    rintro e w2 ⟨rfl, hb2⟩
    go_wp2_with fail
    refine bodyPost_ret (v := .tuple #[.int .i64 (turnF l st way), .int .i64 0]) (by simp [results, Try.results38, go_sem]) rfl ?_
    rw [E.out]
    exact ⟨rfl, bel_next D1 hb2⟩
  · have E : Hid (turnsR S l st way = (0, k)) := by show _ = _; unfold turnsR; rw [if_neg (by rw [hk]; exact h0), hk]
    clear hk
    go_wp2_with fail
    refine bodyPost_ret (v := .tuple #[.int .i64 0, .int .i64 k]) (by simp [results, Try.results38, go_sem]) rfl ?_
    rw [E.out]
    exact ⟨rfl, D1⟩

end Go.Proofs.Ythkfdpicacaphaa
