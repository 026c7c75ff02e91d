/-
  CONTRACTS: small functions that FewestTurns leans on (printed by tools/gen_few0.py).
-/
import Derived.Test.YtlebkjkiikehhaaFewP
import Derived.Test.YtlebkjkiikehhaaSet
import Derived.Test.YtlebkjkiikehhaaMadeI
namespace Go.Proofs.Ytlebkjkiikehhaa.Cst
open Go.RowKit

theorem tuF_step {l : List Tb} {st way : List Int} {i : Nat} (h : i < way.length) : tuF l st (way.drop i) = (if stAt st (tbAt l way[i].toNat).1.toNat = way[i] then 0 else 1) + tuF l st (way.drop (i + 1)) := by
  rw [drop_at' h, tuF]
theorem leF_step {l : List Tb} {way : List Int} {i : Nat} (h : i < way.length) : leF l (way.drop i) = (tbAt l way[i].toNat).2.2 + leF l (way.drop (i + 1)) := by
  rw [drop_at' h, leF]

set_option maxHeartbeats 4000000 in
theorem l04Turns_any (b : Nat) (S : Int) (A : Option Addr) (n c : Nat) (l : List Tb) (A' : Option Addr) (n' c' : Nat) (st : List Int) (A2 : Option Addr) (n2 c2 : Nat) (way : List Int) (w : World) (h : NetAt w b S A n c l) (hl : n = l.length)
    (h' : IntsAt w A' st) (hl' : n' = st.length) (h2 : IntsAt w A2 way) (hl2 : n2 = way.length) (hn2 : n2 ≤ 1048576) (hv : setOK S l st = true) (hw : Idx l way) :
    Calls Try.prog 78 #[.pointer (some ⟨b, 0, none⟩), .slice A' n' c', .slice A2 n2 c2] w (Ret w (.int .i64 (tuF l st way))) := by
  have HL := Lib.hid hl
  have HL' := Lib.hid hl'
  have H' := Lib.hid h'
  have HL2 := Lib.hid hl2
  have H2 := Lib.hid h2
  obtain ⟨a0, a1, hts⟩ := h
  have H := Lib.hid hts
  have HV := Lib.hid hv
  have HO := Lib.hid hw
  have E : Hid (0 + tuF l st (way.drop 0) = tuF l st way) := by show _ = _; simp
  clear hl hts hl' h' hl2 h2 hv hw
  go_enter Try.func78, Try.ntmps78
  go_wp2_with fail
  go_loopw [7, 8] (fun v u w' => ∃ (x i : Nat), v = .int .i64 x ∧ u = .int .i64 i ∧ i ≤ n2 ∧ x ≤ i ∧ Hid (x + tuF l st (way.drop i) = tuF l st way) ∧ Below w.heap.size w w') (fun _ u _ => n2 - (intOf u).toNat)
  case atStart => exact ⟨0, 0, rfl, rfl, by omega, by omega, E, Below.refl _ _⟩
  case round =>
    clear E
    obtain ⟨x, i, rfl, rfl, hin, hxi, HE, hbel⟩ := hrel
    have b0 := bel_cell hbel a0
    have b1 := bel_cell hbel a1
    by_cases hlt : i < n2
    · have hil : i < way.length := by rw [← HL2.out]; exact hlt
      obtain ⟨b3, o3, rfl, hblt3, hc⟩ := (H2.out.bel hbel) (by omega)
      have t0 := hc i hil
      obtain ⟨q, hq, hql⟩ := HO.out _ (List.getElem_mem hil)
      have hd := tuF_step (l := l) (st := st) hil
      rw [hq] at t0 hd
      rw [Int.toNat_natCast, tbAt_eq hql] at hd
      have hqn : q < n := by rw [HL.out]; exact hql
      obtain ⟨b2, o4, rfl, hblt2, hc2⟩ := (H.out.bel hbel) (by omega)
      obtain ⟨y0, y1, y2⟩ := hc2 q hql
      obtain ⟨hvn, hsl, -⟩ := setOK_true HV.out
      have hgd := validN_at (validN_true hvn).2.2.2 hql
      simp only [validTube, Bool.and_eq_true] at hgd
      have hf1 := inB_true hgd.1.1.1
      obtain ⟨f, hf⟩ : ∃ f : Nat, l[q].1 = f := ⟨l[q].1.toNat, by omega⟩
      rw [hf] at y0 hd hf1
      rw [Int.toNat_natCast] at hd
      have hfs : f < st.length := by omega
      have hfn : f < n' := by rw [HL'.out]; exact hfs
      obtain ⟨b5, o5, rfl, hblt5, hc5⟩ := (H'.out.bel hbel) (by omega)
      have t1 := hc5 f hfs
      rw [stAt_eq hfs] at hd
      obtain ⟨z, hz⟩ : ∃ z, st[f] = z := ⟨_, rfl⟩
      rw [hz] at t1 hd
      clear hc hc2 hc5 hq hf hz hgd hvn hsl y1 y2 hf1
      by_cases hzq : z = (q : Int)
      · have HE2 : Hid (x + tuF l st (way.drop (i + 1)) = tuF l st way) := by show _ = _; rw [← HE.out, hd, if_pos hzq]; omega
        subst hzq
        clear hd HE
        go_wp2_with fail
        go_quiet (fail)
        go_wp2_with fail
        go_roundw
        case rel => exact ⟨x, i + 1, rfl, by go_num, by omega, by omega, HE2, below_drewN hbel _⟩
        case measure => simp [intOf]; omega
      · have HE2 : Hid ((x + 1) + tuF l st (way.drop (i + 1)) = tuF l st way) := by show _ = _; rw [← HE.out, hd, if_neg hzq]; omega
        have hzb : (z == (q : Int)) = false := by simpa using hzq
        have hzn : (z != (q : Int)) = true := by simpa using hzq
        clear hd HE
        go_wp2_with fail
        go_quiet (fail)
        go_wp2_with fail
        go_roundw
        case rel => exact ⟨x + 1, i + 1, by go_num, by go_num, by omega, by omega, HE2, below_drewN hbel _⟩
        case measure => simp [intOf]; omega
    · have HF : Hid (tuF l st way = x) := by show _ = _; rw [← HE.out, List.drop_of_length_le (by rw [← HL2.out]; omega), tuF]; omega
      go_wp2_with fail
      go_ret
      rw [HF.out]
      exact ⟨rfl, hbel⟩

set_option maxHeartbeats 4000000 in
theorem turns_any (S : Int) (A : Option Addr) (n c : Nat) (l : List Tb) (A' : Option Addr) (n' c' : Nat) (st : List Int) (A2 : Option Addr) (n2 c2 : Nat) (way : List Int) (w : World) (h : TubesAt w A l) (hl : n = l.length)
    (h' : IntsAt w A' st) (hl' : n' = st.length) (h2 : IntsAt w A2 way) (hl2 : n2 = way.length) (hn2 : n2 ≤ 1048576) (hv : setOK S l st = true) (hw : Idx l way) :
    Calls Try.prog 82 #[.agg #[.int .i64 S, .slice A n c], .slice A' n' c', .slice A2 n2 c2] w (Ret w (.int .i64 (tuF l st way))) := by
  have HL := Lib.hid hl
  have HL' := Lib.hid hl'
  have H' := Lib.hid h'
  have HL2 := Lib.hid hl2
  have H2 := Lib.hid h2
  have H := Lib.hid h
  have HV := Lib.hid hv
  have HO := Lib.hid hw
  have E : Hid (0 + tuF l st (way.drop 0) = tuF l st way) := by show _ = _; simp
  clear hl h hl' h' hl2 h2 hv hw
  go_enter Try.func82, Try.ntmps82
  go_wp2_with fail
  go_loopw [7, 12] (fun v u w' => ∃ (x i : Nat), v = .int .i64 x ∧ u = .int .i64 i ∧ i ≤ n2 ∧ x ≤ i ∧ Hid (x + tuF l st (way.drop i) = tuF l st way) ∧ Hid (Blk w' w.heap.size 30 #[.int .i64 S, .slice A n c]) ∧ Below w.heap.size w w') (fun _ u _ => n2 - (intOf u).toNat)
  case atStart => exact ⟨0, 0, rfl, rfl, by omega, by omega, E, Blk.new _ _ _, by go_grown⟩
  case round =>
    clear E
    obtain ⟨x, i, rfl, rfl, hin, hxi, HE, HN, hbel⟩ := hrel
    obtain ⟨b0, b1, -⟩ := HN.out.c2
    by_cases hlt : i < n2
    · have hil : i < way.length := by rw [← HL2.out]; exact hlt
      obtain ⟨b3, o3, rfl, hblt3, hc⟩ := (H2.out.bel hbel) (by omega)
      have t0 := hc i hil
      obtain ⟨q, hq, hql⟩ := HO.out _ (List.getElem_mem hil)
      have hd := tuF_step (l := l) (st := st) hil
      rw [hq] at t0 hd
      rw [Int.toNat_natCast, tbAt_eq hql] at hd
      have hqn : q < n := by rw [HL.out]; exact hql
      obtain ⟨b2, o4, rfl, hblt2, hc2⟩ := (H.out.bel hbel) (by omega)
      obtain ⟨y0, y1, y2⟩ := hc2 q hql
      obtain ⟨hvn, hsl, -⟩ := setOK_true HV.out
      have hgd := validN_at (validN_true hvn).2.2.2 hql
      simp only [validTube, Bool.and_eq_true] at hgd
      have hf1 := inB_true hgd.1.1.1
      obtain ⟨f, hf⟩ : ∃ f : Nat, l[q].1 = f := ⟨l[q].1.toNat, by omega⟩
      rw [hf] at y0 hd hf1
      rw [Int.toNat_natCast] at hd
      have hfs : f < st.length := by omega
      have hfn : f < n' := by rw [HL'.out]; exact hfs
      obtain ⟨b5, o5, rfl, hblt5, hc5⟩ := (H'.out.bel hbel) (by omega)
      have t1 := hc5 f hfs
      rw [stAt_eq hfs] at hd
      obtain ⟨z, hz⟩ : ∃ z, st[f] = z := ⟨_, rfl⟩
      rw [hz] at t1 hd
      clear hc hc2 hc5 hq hf hz hgd hvn hsl y1 y2 hf1
      by_cases hzq : z = (q : Int)
      · have HE2 : Hid (x + tuF l st (way.drop (i + 1)) = tuF l st way) := by show _ = _; rw [← HE.out, hd, if_pos hzq]; omega
        subst hzq
        clear hd HE
        go_wp2_with fail
        go_roundw
        case rel => exact ⟨x, i + 1, rfl, by go_num, by omega, by omega, HE2, HN, hbel⟩
        case measure => simp [intOf]; omega
      · have HE2 : Hid ((x + 1) + tuF l st (way.drop (i + 1)) = tuF l st way) := by show _ = _; rw [← HE.out, hd, if_neg hzq]; omega
        have hzb : (z == (q : Int)) = false := by simpa using hzq
        have hzn : (z != (q : Int)) = true := by simpa using hzq
        clear hd HE
        go_wp2_with fail
        go_roundw
        case rel => exact ⟨x + 1, i + 1, by go_num, by go_num, by omega, by omega, HE2, HN, hbel⟩
        case measure => simp [intOf]; omega
    · have HF : Hid (tuF l st way = x) := by show _ = _; rw [← HE.out, List.drop_of_length_le (by rw [← HL2.out]; omega), tuF]; omega
      go_wp2_with fail
      go_ret
      rw [HF.out]
      exact ⟨rfl, hbel⟩


set_option maxHeartbeats 4000000 in
theorem length_any (S : Int) (A : Option Addr) (n c : Nat) (l : List Tb) (A2 : Option Addr) (n2 c2 : Nat) (way : List Int) (w : World) (h : TubesAt w A l) (hl : n = l.length)
    (h2 : IntsAt w A2 way) (hl2 : n2 = way.length) (hn2 : n2 ≤ 1048576) (hv : validN S l = true) (hw : Idx l way) :
    Calls Try.prog 83 #[.agg #[.int .i64 S, .slice A n c], .slice A2 n2 c2] w (Ret w (.int .i64 (leF l way))) := by
  have HL := Lib.hid hl
  have HL2 := Lib.hid hl2
  have H2 := Lib.hid h2
  have H := Lib.hid h
  have HV := Lib.hid hv
  have HO := Lib.hid hw
  have E : Hid (0 + leF l (way.drop 0) = leF l way) := by show _ = _; simp
  clear hl h hl2 h2 hv hw
  go_enter Try.func83, Try.ntmps83
  go_wp2_with fail
  go_loopw [5, 10] (fun v u w' => ∃ (x : Int) (i : Nat), v = .int .i64 x ∧ u = .int .i64 i ∧ i ≤ n2 ∧ 0 ≤ x ∧ x ≤ 2000 * (i : Int) ∧ Hid (x + leF l (way.drop i) = leF l way) ∧ Hid (Blk w' w.heap.size 30 #[.int .i64 S, .slice A n c]) ∧ Below w.heap.size w w') (fun _ u _ => n2 - (intOf u).toNat)
  case atStart => exact ⟨0, 0, rfl, rfl, by omega, by omega, by omega, E, Blk.new _ _ _, by go_grown⟩
  case round =>
    clear E
    obtain ⟨x, i, rfl, rfl, hin, hx0, hx1, HE, HN, hbel⟩ := hrel
    obtain ⟨b0, b1, -⟩ := HN.out.c2
    by_cases hlt : i < n2
    · have hil : i < way.length := by rw [← HL2.out]; exact hlt
      obtain ⟨b3, o3, rfl, hblt3, hc⟩ := (H2.out.bel hbel) (by omega)
      have t0 := hc i hil
      obtain ⟨q, hq, hql⟩ := HO.out _ (List.getElem_mem hil)
      have hd := leF_step (l := l) hil
      rw [hq] at t0 hd
      rw [Int.toNat_natCast, tbAt_eq hql] at hd
      have hqn : q < n := by rw [HL.out]; exact hql
      obtain ⟨b2, o4, rfl, hblt2, hc2⟩ := (H.out.bel hbel) (by omega)
      obtain ⟨y0, y1, y2⟩ := hc2 q hql
      have hgd := validN_at (validN_true HV.out).2.2.2 hql
      simp only [validTube, Bool.and_eq_true] at hgd
      have hf1 := inB_true hgd.2
      obtain ⟨z, hz⟩ : ∃ z, l[q].2.2 = z := ⟨_, rfl⟩
      rw [hz] at y2 hd hf1
      have HE2 : Hid ((x + z) + leF l (way.drop (i + 1)) = leF l way) := by show _ = _; rw [← HE.out, hd]; omega
      clear hc hc2 hq hz hgd y0 y1 hd HE
      go_wp2_with fail
      go_roundw
      case rel => exact ⟨x + z, i + 1, by go_num, by go_num, by omega, by omega, by omega, HE2, HN, hbel⟩
      case measure => simp [intOf]; omega
    · have HF : Hid (leF l way = x) := by show _ = _; rw [← HE.out, List.drop_of_length_le (by rw [← HL2.out]; omega), leF]; omega
      go_wp2_with fail
      go_ret
      rw [HF.out]
      exact ⟨rfl, hbel⟩

set_option maxHeartbeats 2000000 in
theorem l04Cost_any (b : Nat) (S : Int) (A : Option Addr) (n c : Nat) (l : List Tb) (A' : Option Addr) (n' c' : Nat) (st : List Int) (k : Nat) (w : World) (h : NetAt w b S A n c l) (hl : n = l.length)
    (h' : IntsAt w A' st) (hl' : n' = st.length) (hv : validN S l = true) (hs : (st.length : Int) = S) (hk : k < l.length) :
    Calls Try.prog 75 #[.pointer (some ⟨b, 0, none⟩), .slice A' n' c', .int .i64 k] w (Ret w (.int .i64 (costT st k (tbAt l k)))) := by
  obtain ⟨a0, a1, hts⟩ := h
  rw [tbAt_eq hk]
  have hgd := validN_at (validN_true hv).2.2.2 hk
  simp only [validTube, Bool.and_eq_true] at hgd
  have hf1 := inB_true hgd.1.1.1
  have hf2 := inB_true hgd.2
  obtain ⟨b2, o4, rfl, hblt2, hc2⟩ := hts (by omega)
  obtain ⟨y0, y1, y2⟩ := hc2 k hk
  have hkn : k < n := by rw [hl]; exact hk
  have E : costT st k l[k] = if stAt st l[k].1.toNat = (k : Int) then l[k].2.2 else l[k].2.2 + 100000 := rfl
  obtain ⟨f, hf⟩ : ∃ f : Nat, l[k].1 = f := ⟨l[k].1.toNat, by omega⟩
  obtain ⟨d, hd⟩ : ∃ d : Int, l[k].2.1 = d := ⟨_, rfl⟩
  obtain ⟨x, hx⟩ : ∃ x : Int, l[k].2.2 = x := ⟨_, rfl⟩
  rw [hf] at y0 hf1 E
  rw [hd] at y1
  rw [hx] at y2 hf2 E
  rw [Int.toNat_natCast] at E
  have hfs : f < st.length := by omega
  have hfn : f < n' := by rw [hl']; exact hfs
  rw [stAt_eq hfs] at E
  obtain ⟨b5, o5, rfl, hblt5, hc5⟩ := h' (by omega)
  have t1 := hc5 f hfs
  obtain ⟨z, hz⟩ : ∃ z, st[f] = z := ⟨_, rfl⟩
  rw [hz] at t1 E
  have ab := cell_lt a0
  rw [E]
  clear hts hc2 hc5 hgd hf hd hx hz hl hl' hv hs E hk hfs
  by_cases hzk : z = (k : Int)
  · subst hzk
    rw [if_pos rfl]
    go_enter Try.func75, Try.ntmps75
    go_wp2_with fail
    go_ret
    exact ⟨rfl, by go_grown⟩
  · have hzb : (z == (k : Int)) = false := by simpa using hzk
    rw [if_neg hzk]
    go_enter Try.func75, Try.ntmps75
    go_wp2_with fail
    go_ret
    exact ⟨rfl, by go_grown⟩

def hasD (l : List Int) (x : Int) : Bool := l.any fun y => decide (y = x)
theorem hasD_step {l : List Int} {i : Nat} {x : Int} (h : i < l.length) : hasD (l.drop i) x = (decide (l[i] = x) || hasD (l.drop (i + 1)) x) := by
  unfold hasD
  rw [drop_at' h, List.any_cons]
theorem hasD_end {l : List Int} {i : Nat} {x : Int} (h : l.length ≤ i) : hasD (l.drop i) x = false := by
  rw [List.drop_of_length_le h]; rfl
theorem hasD_app (a : List Int) (b x : Int) : hasD (a ++ [b]) x = (hasD a x || decide (b = x)) := by simp [hasD]
def FoundD (w : World) (b : Bool) (e : Ending) (w' : World) : Prop := ∃ r : Int, e = .returned (.int .i64 r) ∧ decide (0 ≤ r) = b ∧ w = w'

theorem Index_intD (A : Option Addr) (n c : Nat) (l : List Int) (x : Int) (w : World) (h : IntsAt w A l) (hl : n = l.length) (hn0 : n ≤ 1048576) :
    Calls Try.prog 116 #[.slice A n c, .int .i64 x] w (FoundD w (hasD l x)) := by
  have H := Lib.hid h
  have HL := Lib.hid hl
  clear h hl
  go_enter Try.func116, Try.ntmps116
  go_wp2
  go_loop [8] (fun u => ∃ (i : Nat), u = .int .i64 i ∧ i ≤ n ∧ Hid (hasD l x = hasD (l.drop i) x)) (fun u => n - (intOf u).toNat)
  case atStart => exact ⟨0, rfl, by omega, rfl⟩
  case round =>
    obtain ⟨i, rfl, hin, HA⟩ := hrel
    by_cases hlt : i < n
    · obtain ⟨b, o, rfl, hblt, hc⟩ := H.out (by rw [← HL.out]; omega)
      have hil : i < l.length := by rw [← HL.out]; exact hlt
      have c0 := hc i hil
      clear hc
      have hd := hasD_step (x := x) hil
      by_cases hv : x = l[i]
      · have HS : Hid (hasD l x = true) := by show _ = _; rw [HA.out, hd]; simp [hv]
        have hb : (x == l[i]) = true := by simpa using hv
        clear hd hv
        go_wp2_with fail
        go_ret
        exact ⟨_, rfl, by rw [HS.out]; simp, rfl⟩
      · have hv2 : ¬ l[i] = x := fun e => hv e.symm
        have HS : Hid (hasD l x = hasD (l.drop (i + 1)) x) := by show _ = _; rw [HA.out, hd]; simp [hv2]
        have hb : (x == l[i]) = false := by simpa using hv
        clear hd hv hv2
        go_wp2_with fail
        go_round
        case rel => exact ⟨i + 1, by go_num, by omega, HS⟩
        case measure => simp [intOf]; omega
    · have HS : Hid (hasD l x = false) := by show _ = _; rw [HA.out]; exact hasD_end (by rw [← HL.out]; omega)
      go_wp2_with fail
      go_ret
      exact ⟨-1, rfl, by rw [HS.out]; rfl, rfl⟩
theorem Contains_intD (A : Option Addr) (n c : Nat) (l : List Int) (x : Int) (w : World) (h : IntsAt w A l) (hl : n = l.length) (hn0 : n ≤ 1048576) :
    Calls Try.prog 110 #[.slice A n c, .int .i64 x] w (Ret0 w (.bool (hasD l x))) := by
  have HL := Lib.hid hl
  clear hl
  go_enter Try.func110, Try.ntmps110
  go_wp2_with fail
  refine (Index_intD A n c l x _ h HL.out hn0).mono ?_
  rintro e w1 ⟨r, rfl, hr, rfl⟩
  have HR := Lib.hid hr
  clear hr
  go_wp2_with fail
  go_ret
  exact ⟨ret_bool (by rw [← HR.out]), rfl⟩

theorem run_eql_nil1 {P : Program} (w : World) (t e : TypeId) (a : Option Addr) (n c : Nat) (h : P.underlying t = some (.slice e)) : (binOp .eql t (.slice a n c) (.slice none 0 0)).run P w = .ok (.bool a.isNone) w := by
  simp only [binOp]
  simp [Op.equal, Op.maxDepth, Lib.run_equalIn_slice_nil w 9999 t e a n c 0 0 h]

set_option maxHeartbeats 2000000 in
set_option maxRecDepth 100000 in
theorem cloneN_any (w : World) : Calls Try.prog 84 #[.slice none 0 0] w (MadeI w 2 []) := by
  have hnil := run_eql_nil1 (P := Try.prog) w 39 2 none 0 0 Try.underlying39
  go_enter Try.func84, Try.ntmps84
  go_wp2_with fail
  go_ret
  exact ⟨none, 0, rfl, own_none _ _ _, Below.refl _ _⟩

set_option maxHeartbeats 2000000 in
set_option maxRecDepth 100000 in
theorem cloneY_any (b o n c : Nat) (l : List Int) (w : World) (h : IntsAt w (some ⟨b, o, none⟩) l) (hl : n = l.length) (hn0 : n ≤ 1048576) :
    Calls Try.prog 84 #[.slice (some ⟨b, o, none⟩) n c] w (MadeI w 2 l) := by
  obtain ⟨i0, hi, hz0, hz1, hz2⟩ := info_parts info_int64M
  have HI := Lib.hid (And.intro hi (And.intro hz0 (And.intro hz1 hz2)))
  have HL := Lib.hid hl
  have HC2 : Hid (∀ j u, (l.map (Value.int .i64))[j]? = some u → (w.alloc (.cells #[] 2)).cell? ((⟨b, o, none⟩ : Addr).add j) = some u) := by
    show ∀ j, _
    intro j u hu
    have hj : j < l.length := by
      have := (List.getElem?_eq_some_iff.1 hu).1
      simpa using this
    rw [List.getElem?_map, List.getElem?_eq_getElem hj] at hu
    obtain ⟨b', o', e, -, hc⟩ := h (by omega)
    injection e with e
    injection e with e1 e2
    subst e1 e2
    rw [Addr.add_lit]
    rw [← Option.some.inj hu]
    exact bel_cell ((Below.refl _ _).alloc (Nat.le_refl _) _) (hc j hj)
  have HM : Hid ((l.map (Value.int .i64)).length = n) := by show _ = _; rw [List.length_map, hl]
  have H1 : Hid (∀ u ∈ l.map (Value.int .i64), u.oneCell' = true) := ints_oneCell .i64 l
  obtain ⟨ns, hns⟩ : ∃ ns, ns = l.map (Value.int .i64) := ⟨_, rfl⟩
  rw [← hns] at HC2 HM H1
  have HNS := Lib.hid hns
  clear hl h hi hz0 hz1 hz2 hns
  have hnil := run_eql_nil1 (P := Try.prog) w 39 2 (some ⟨b, o, none⟩) n c Try.underlying39
  go_enter Try.func84, Try.ntmps84
  go_wp2_with (at_builtin; refine wpList_append_own _ rfl _ _ 39 rfl w.heap.size 2 i0 (.int .i64 0) 1 8 Try.underlying39 HI.out.1 HI.out.2.1 HI.out.2.2.1 HI.out.2.2.2 rfl (by decide) _ _ [] rfl (own_nil' _ _ _ rfl (Nat.le_refl _)) ⟨b, o, none⟩ n c ns rfl (by rw [HM.out, Nat.mul_one]) HC2.out H1.out ?d3 ?d4 ?d5 ?_)
  try case d3 => unfold maxLen; omega
  try case d4 => omega
  try case d5 => first | (simp; done) | (simp; omega) | omega
  intro v' w4 hown1 hgrow _
  have hown2 : w4.ownsRow w.heap.size 2 1 v' l.length (l.map (Value.int .i64)) := by
    have h5 := hown1
    rw [HNS.out, HL.out] at h5
    simpa using h5
  obtain ⟨A4, c4, rfl⟩ := own_form hown2
  have HB := Lib.hid hown2
  have hb4 : Below w.heap.size w w4 := Below.grown (by go_grown) hgrow (by simp) (fun k hk => by simp [Value.ownBlock] at hk; omega)
  clear hown1 hown2 hgrow HC2 H1
  go_wp2_with fail
  go_ret
  exact ⟨A4, c4, rfl, HB.out, hb4⟩

end Go.Proofs.Ytlebkjkiikehhaa.Cst
