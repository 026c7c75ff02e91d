/-
  CONTRACTS: is a list of tubes a way.
-/
import Derived.Test.YtliamhhmjnhgcaaNetCode
import Derived.Test.YtliamhhmjnhgcaaAid
import Derived.StillTailTactics
namespace Go.Proofs.Ytliamhhmjnhgcaa
open Go.RowKit

/-- Where the tubes of a list lead from a station. -/
def wayEnd (l : List Tb) : List Int → Int → Option Int
  | [], u => some u
  | k :: ks, u => if (l[k.toNat]?.getD (0, 0, 0)).1 = u then wayEnd l ks (l[k.toNat]?.getD (0, 0, 0)).2.1 else none
theorem wayEnd_step {l : List Tb} {us : List Int} {i j : Nat} (h : i < us.length) (hj : us[i] = (j : Int)) (hjl : j < l.length) (u : Int) :
    wayEnd l (us.drop i) u = (if l[j].1 = u then wayEnd l (us.drop (i + 1)) l[j].2.1 else none) := by
  rw [drop_at' h, wayEnd, hj]
  simp [hjl]
def isWay (S : Int) (l : List Tb) (us : List Int) (u v : Int) : Bool × Int :=
  if codeN S l [u, v] = 0 then (if outB us 0 ((l.length : Int) - 1) then (false, 2) else (decide (wayEnd l us u = some v), 0)) else (false, codeN S l [u, v])
theorem outB_at {us : List Int} {a b : Int} (h : outB us a b = false) {i : Nat} (hi : i < us.length) : a ≤ us[i] ∧ us[i] ≤ b := by
  unfold outB at h
  rw [List.any_eq_false] at h
  have := h _ (List.getElem_mem hi)
  simp at this
  exact inB_true this

set_option maxHeartbeats 2000000 in
theorem l02Tubes_any (b : Nat) (S : Int) (A : Option Addr) (n c : Nat) (l : List Tb) (A' : Option Addr) (n' c' : Nat) (us : List Int) (w : World) (h : NetAt w b S A n c l) (_hl : n = l.length) (hn0 : n ≤ 1048576)
    (h' : IntsAt w A' us) (hl' : n' = us.length) (hn0' : n' ≤ 1048576) :
    Calls Try.prog 62 #[.pointer (some ⟨b, 0, none⟩), .slice A' n' c'] w (Ret w (.bool (!outB us 0 ((n : Int) - 1)))) := by
  obtain ⟨k0, k1, -⟩ := h
  have HL' := Lib.hid hl'
  have H' := Lib.hid h'
  clear hl' h' _hl
  go_enter Try.func62, Try.ntmps62
  go_wp2_with fail
  go_loopw [5] (fun u w' => ∃ (i : Nat), u = .int .i64 i ∧ i ≤ n' ∧ Hid (outB us 0 ((n : Int) - 1) = outB (us.drop i) 0 ((n : Int) - 1)) ∧ Below w.heap.size w w') (fun u _ => n' - (intOf u).toNat)
  case atStart => exact ⟨0, rfl, by omega, rfl, Below.refl _ _⟩
  case round =>
    obtain ⟨i, rfl, hin, HA, hbel⟩ := hrel
    by_cases hlt : i < n'
    · have hil : i < us.length := by rw [← HL'.out]; exact hlt
      obtain ⟨b', o, rfl, hblt, hc⟩ := H'.out (by omega)
      have hci := bel_cell hbel (hc i hil)
      clear hc
      have m0 := bel_cell hbel k0
      have m1 := bel_cell hbel k1
      have hst := outB_step (lo := 0) (hi := (n : Int) - 1) hil
      cases hv : inB us[i] 0 ((n : Int) - 1)
      · have HS : Hid (outB us 0 ((n : Int) - 1) = true) := by show _ = _; rw [HA.out, hst, hv]; rfl
        clear hst
        go_wp2_with fail
        go_quiet (first | (go_at_call 72; exact q0 (l00In_any _ _ _ _)))
        go_wp2_with fail
        go_ret
        exact ⟨ret_bool (by rw [HS.out]; rfl), below_drewN hbel _⟩
      · have HS : Hid (outB us 0 ((n : Int) - 1) = outB (us.drop (i + 1)) 0 ((n : Int) - 1)) := by show _ = _; rw [HA.out, hst, hv]; rfl
        clear hst
        go_wp2_with fail
        go_quiet (first | (go_at_call 72; exact q0 (l00In_any _ _ _ _)))
        go_wp2_with fail
        go_roundw
        case rel => exact ⟨i + 1, by go_num, by omega, HS, below_drewN hbel _⟩
        case measure => simp [intOf]; omega
    · have HS : Hid (outB us 0 ((n : Int) - 1) = false) := by show _ = _; rw [HA.out, List.drop_of_length_le (by rw [← HL'.out]; omega)]; rfl
      go_wp2_with fail
      go_ret
      exact ⟨ret_bool (by rw [HS.out]; rfl), hbel⟩

set_option maxHeartbeats 1000000 in
theorem areTubes_any (S : Int) (A : Option Addr) (n c : Nat) (A' : Option Addr) (n' c' : Nat) (us : List Int) (w : World) (hn0 : n ≤ 1048576)
    (h' : IntsAt w A' us) (hl' : n' = us.length) (hn0' : n' ≤ 1048576) :
    Calls Try.prog 64 #[.agg #[.int .i64 S, .slice A n c], .slice A' n' c'] w (Ret w (.bool (!outB us 0 ((n : Int) - 1)))) := by
  have HL' := Lib.hid hl'
  have H' := Lib.hid h'
  clear hl' h'
  go_enter Try.func64, Try.ntmps64
  go_wp2_with fail
  refine (outside_any A' n' c' us 0 ((n : Int) - 1) _ (H'.out.alloc _) HL'.out hn0').mono ?_
  rintro e w2 ⟨rfl, hb2⟩
  go_wp2_with fail
  go_ret
  exact ⟨rfl, Below.trans (by go_grown) (hb2.mono (by simp))⟩

set_option maxHeartbeats 2000000 in
theorem l02Is_any (b : Nat) (S : Int) (A : Option Addr) (n c : Nat) (l : List Tb) (A' : Option Addr) (n' c' : Nat) (us : List Int) (u v : Int) (w : World) (h : NetAt w b S A n c l) (hl : n = l.length) (hn0 : n ≤ 1048576)
    (h' : IntsAt w A' us) (hl' : n' = us.length) (hn0' : n' ≤ 1048576) (ho : outB us 0 ((n : Int) - 1) = false) :
    Calls Try.prog 63 #[.pointer (some ⟨b, 0, none⟩), .slice A' n' c', .int .i64 u, .int .i64 v] w (Ret w (.bool (decide (wayEnd l us u = some v)))) := by
  obtain ⟨k0, k1, hts⟩ := h
  have HL' := Lib.hid hl'
  have H' := Lib.hid h'
  have HL := Lib.hid hl
  have H := Lib.hid hts
  have HO := Lib.hid ho
  clear hl' h' hl hts ho
  go_enter Try.func63, Try.ntmps63
  go_wp2_with fail
  go_loopw [2, 9] (fun x y w' => ∃ (i : Nat) (s : Int), x = .int .i64 s ∧ y = .int .i64 i ∧ i ≤ n' ∧ Hid (wayEnd l us u = wayEnd l (us.drop i) s) ∧ Below w.heap.size w w') (fun _ y _ => n' - (intOf y).toNat)
  case atStart => exact ⟨0, u, rfl, rfl, by omega, rfl, Below.refl _ _⟩
  case round =>
    obtain ⟨i, s, rfl, rfl, hin, HA, hbel⟩ := hrel
    by_cases hlt : i < n'
    · have hil : i < us.length := by rw [← HL'.out]; exact hlt
      obtain ⟨b', o, rfl, hblt, hc⟩ := H'.out (by omega)
      have hci := bel_cell hbel (hc i hil)
      clear hc
      have hin2 := outB_at HO.out hil
      obtain ⟨j, hj⟩ : ∃ j : Nat, us[i] = (j : Int) := ⟨us[i].toNat, by omega⟩
      have hjn : j < n := by omega
      have hjl : j < l.length := by rw [← HL.out]; exact hjn
      obtain ⟨b2, o2, rfl, hblt2, hc2⟩ := H.out (by omega)
      obtain ⟨t0, t1, t2⟩ := (hc2 j hjl).bel hbel
      clear hc2
      have hst := wayEnd_step hil hj hjl s
      rw [hj] at hci
      clear hj hin2
      have m0 := bel_cell hbel k0
      have m1 := bel_cell hbel k1
      have hsz := hbel.size
      have z0 := cell_lt m0
      have z1 := cell_lt hci
      have z2 := cell_lt t0
      by_cases hv : l[j].1 = s
      · have HS : Hid (wayEnd l us u = wayEnd l (us.drop (i + 1)) l[j].2.1) := by show _ = _; rw [HA.out, hst, if_pos hv]
        have hb : (l[j].1 == s) = true := by simpa using hv
        clear hst hv
        go_wp2_with fail
        go_region
        go_wp2_with fail
        go_roundw
        case rel => exact ⟨i + 1, l[j].2.1, rfl, by go_num, by omega, HS, by go_grown⟩
        case measure => simp [intOf]; omega
      · have HS : Hid (wayEnd l us u = none) := by show _ = _; rw [HA.out, hst, if_neg hv]
        have hb : (l[j].1 == s) = false := by simpa using hv
        clear hst hv
        go_wp2_with fail
        go_region
        go_wp2_with fail
        go_ret
        exact ⟨ret_bool (by rw [HS.out]; simp), by go_grown⟩
    · have HS : Hid (wayEnd l us u = some s) := by show _ = _; rw [HA.out, List.drop_of_length_le (by rw [← HL'.out]; omega)]; rfl
      go_wp2_with fail
      go_ret
      exact ⟨ret_bool (by rw [HS.out]; simp [BEq.beq]), hbel⟩


set_option maxHeartbeats 2000000 in
theorem specIsWay_any (S : Int) (A : Option Addr) (n c : Nat) (l : List Tb) (A' : Option Addr) (n' c' : Nat) (us : List Int) (u v : Int) (w : World) (h : TubesAt w A l) (hl : n = l.length) (hn0 : n ≤ 1048576)
    (h' : IntsAt w A' us) (hl' : n' = us.length) (hn0' : n' ≤ 1048576) :
    Calls Try.prog 31 #[.agg #[.int .i64 S, .slice A n c], .slice A' n' c', .int .i64 u, .int .i64 v] w (Ret w (.tuple #[.bool (isWay S l us u v).1, .int .i64 (isWay S l us u v).2])) := by
  have EL : Hid ((l.length : Int) = (n : Int)) := by show _ = _; rw [hl]
  have HL' := Lib.hid hl'
  have H' := Lib.hid h'
  have HL := Lib.hid hl
  have H := Lib.hid h
  clear hl' h' hl h
  go_enter Try.func31, Try.ntmps31
  go_wp2_with fail
  refine (l02Code_any _ S A n c l u v _ (NetAt.box H.out _) HL.out hn0).mono ?_
  rintro e w1 ⟨rfl, hb1⟩
  have D1 : Below w.heap.size w w1 := Below.trans (by go_grown) (hb1.mono (by simp))
  have N1 : NetAt w1 w.heap.size S A n c l := (NetAt.box H.out _).bel hb1
  clear hb1
  obtain ⟨k, hk⟩ : ∃ k, codeN S l [u, v] = k := ⟨_, rfl⟩
  rw [hk]
  by_cases h0 : k = 0
  · subst h0
    cases ho : outB us 0 ((n : Int) - 1)
    · have E : Hid (isWay S l us u v = (decide (wayEnd l us u = some v), 0)) := by show _ = _; unfold isWay; rw [if_pos hk, EL.out, ho]; rfl
      clear hk
      go_wp2_with fail
      refine (l02Tubes_any _ S A n c l A' n' c' us _ N1 HL.out hn0 (H'.out.bel D1) HL'.out hn0').mono ?_
      rintro e w2 ⟨rfl, hb2⟩
      rw [ho]
      have D2 := bel_next D1 hb2
      have N2 := N1.bel hb2
      go_wp2_with fail
      refine (l02Is_any _ S A n c l A' n' c' us u v _ N2 HL.out hn0 (H'.out.bel D2) HL'.out hn0' ho).mono ?_
      rintro e w3 ⟨rfl, hb3⟩
      have D3 := bel_next D2 hb3
      go_wp2_with fail
      refine bodyPost_ret (v := .tuple #[.bool (decide (wayEnd l us u = some v)), .int .i64 0]) (by simp [results, Try.results31, go_sem]) rfl ?_
      rw [E.out]
      exact ⟨rfl, D3⟩
    · have E : Hid (isWay S l us u v = (false, 2)) := by show _ = _; unfold isWay; rw [if_pos hk, EL.out, ho]; rfl
      clear hk
      go_wp2_with fail
      refine (l02Tubes_any _ S A n c l A' n' c' us _ N1 HL.out hn0 (H'.out.bel D1) HL'.out hn0').mono ?_
      rintro e w2 ⟨rfl, hb2⟩
      rw [ho]
      have D2 := bel_next D1 hb2
      go_wp2_with fail
      refine bodyPost_ret (v := .tuple #[.bool false, .int .i64 2]) (by simp [results, Try.results31, go_sem]) rfl ?_
      rw [E.out]
      exact ⟨rfl, D2⟩
  · have E : Hid (isWay S l us u v = (false, k)) := by show _ = _; unfold isWay; rw [if_neg (by rw [hk]; exact h0), hk]
    clear hk
    go_wp2_with fail
    refine bodyPost_ret (v := .tuple #[.bool false, .int .i64 k]) (by simp [results, Try.results31, go_sem]) rfl ?_
    rw [E.out]
    exact ⟨rfl, D1⟩

set_option maxHeartbeats 2000000 in
theorem endOf_any (S : Int) (A : Option Addr) (n c : Nat) (l : List Tb) (A' : Option Addr) (n' c' : Nat) (us : List Int) (u : Int) (w : World) (h : TubesAt w A l) (hl : n = l.length) (hn0 : n ≤ 1048576)
    (h' : IntsAt w A' us) (hl' : n' = us.length) (hn0' : n' ≤ 1048576) (ho : outB us 0 ((n : Int) - 1) = false) :
    Calls Try.prog 65 #[.agg #[.int .i64 S, .slice A n c], .slice A' n' c', .int .i64 u] w (Ret w (.tuple #[.int .i64 ((wayEnd l us u).getD 0), .bool (wayEnd l us u).isSome])) := by
  have HL' := Lib.hid hl'
  have H' := Lib.hid h'
  have HL := Lib.hid hl
  have H := Lib.hid h
  have HO := Lib.hid ho
  clear hl' h' hl h ho
  go_enter Try.func65, Try.ntmps65
  go_wp2_with fail
  go_loopw [2, 12] (fun x y w' => ∃ (i : Nat) (s : Int), x = .int .i64 s ∧ y = .int .i64 i ∧ i ≤ n' ∧ Hid (wayEnd l us u = wayEnd l (us.drop i) s) ∧ Hid (Blk w' w.heap.size 29 #[.int .i64 S, .slice A n c]) ∧ Below w.heap.size w w') (fun _ y _ => n' - (intOf y).toNat)
  case atStart => exact ⟨0, u, rfl, rfl, by omega, rfl, Blk.new _ _ _, by go_grown⟩
  case round =>
    obtain ⟨i, s, rfl, rfl, hin, HA, HB, hbel⟩ := hrel
    by_cases hlt : i < n'
    · have hil : i < us.length := by rw [← HL'.out]; exact hlt
      obtain ⟨b', o, rfl, hblt, hc⟩ := H'.out (by omega)
      have hci := bel_cell hbel (hc i hil)
      clear hc
      have hin2 := outB_at HO.out hil
      obtain ⟨j, hj⟩ : ∃ j : Nat, us[i] = (j : Int) := ⟨us[i].toNat, by omega⟩
      have hjn : j < n := by omega
      have hjl : j < l.length := by rw [← HL.out]; exact hjn
      obtain ⟨b2, o2, rfl, hblt2, hc2⟩ := H.out (by omega)
      obtain ⟨t0, t1, t2⟩ := (hc2 j hjl).bel hbel
      clear hc2
      have hst := wayEnd_step hil hj hjl s
      rw [hj] at hci
      clear hj hin2
      obtain ⟨m0, m1, -⟩ := HB.out.c2
      by_cases hv : l[j].1 = s
      · have HS : Hid (wayEnd l us u = wayEnd l (us.drop (i + 1)) l[j].2.1) := by show _ = _; rw [HA.out, hst, if_pos hv]
        have hb : (l[j].1 == s) = true := by simpa using hv
        clear hst hv
        go_wp2_with fail
        go_roundw
        case rel => exact ⟨i + 1, l[j].2.1, rfl, by go_num, by omega, HS, HB, hbel⟩
        case measure => simp [intOf]; omega
      · have HS : Hid (wayEnd l us u = none) := by show _ = _; rw [HA.out, hst, if_neg hv]
        have hb : (l[j].1 == s) = false := by simpa using hv
        clear hst hv
        go_wp2_with fail
        refine bodyPost_ret (v := .tuple #[.int .i64 0, .bool false]) (by simp [results, Try.results65, go_sem]) rfl ?_
        rw [HS.out]
        exact ⟨rfl, hbel⟩
    · have HS : Hid (wayEnd l us u = some s) := by show _ = _; rw [HA.out, List.drop_of_length_le (by rw [← HL'.out]; omega)]; rfl
      go_wp2_with fail
      refine bodyPost_ret (v := .tuple #[.int .i64 s, .bool true]) (by simp [results, Try.results65, go_sem]) rfl ?_
      rw [HS.out]
      exact ⟨rfl, hbel⟩

set_option maxHeartbeats 2000000 in
theorem implIsWay_any (S : Int) (A : Option Addr) (n c : Nat) (l : List Tb) (A' : Option Addr) (n' c' : Nat) (us : List Int) (u v : Int) (w : World) (h : TubesAt w A l) (hl : n = l.length) (hn0 : n ≤ 1048576)
    (h' : IntsAt w A' us) (hl' : n' = us.length) (hn0' : n' ≤ 1048576) :
    Calls Try.prog 33 #[.agg #[.int .i64 S, .slice A n c], .slice A' n' c', .int .i64 u, .int .i64 v] w (Ret w (.tuple #[.bool (isWay S l us u v).1, .int .i64 (isWay S l us u v).2])) := by
  have EL : Hid ((l.length : Int) = (n : Int)) := by show _ = _; rw [hl]
  have HL' := Lib.hid hl'
  have H' := Lib.hid h'
  have HL := Lib.hid hl
  have H := Lib.hid h
  clear hl' h' hl h
  go_enter Try.func33, Try.ntmps33
  go_wp2_with fail
  refine (netCode_any S A n c l _ 2 2 [u, v] _ ((H.out.alloc _).alloc _) HL.out hn0 (IntsAt.new _ _ [u, v] (by simp)) rfl (by omega)).mono ?_
  rintro e w1 ⟨rfl, hb1⟩
  have D1 : Below w.heap.size w w1 := Below.trans (by go_grown) (hb1.mono (by simp only [World.size_alloc]; omega))
  have N1 : Hid (Blk w1 w.heap.size 29 #[.int .i64 S, .slice A n c]) := bel_blk ((Blk.new _ _ _).alloc _) hb1
  obtain ⟨a0, a1, -⟩ := N1.out.c2
  have s1 := N1.out.lt
  clear hb1
  obtain ⟨k, hk⟩ : ∃ k, codeN S l [u, v] = k := ⟨_, rfl⟩
  rw [hk]
  by_cases h0 : k = 0
  · subst h0
    cases ho : outB us 0 ((n : Int) - 1)
    · have E : Hid (isWay S l us u v = (decide (wayEnd l us u = some v), 0)) := by show _ = _; unfold isWay; rw [if_pos hk, EL.out, ho]; rfl
      clear hk
      go_wp2_with fail
      refine (areTubes_any S A n c A' n' c' us _ hn0 (H'.out.bel D1) HL'.out hn0').mono ?_
      rintro e w2 ⟨rfl, hb2⟩
      rw [ho]
      have D2 := bel_next D1 hb2
      have N2 := hid_blk N1 hb2
      clear a0 a1 s1
      obtain ⟨a0, a1, -⟩ := N2.out.c2
      go_wp2_with fail
      refine (endOf_any S A n c l A' n' c' us u _ (H.out.bel D2) HL.out hn0 (H'.out.bel D2) HL'.out hn0' ho).mono ?_
      rintro e w3 ⟨rfl, hb3⟩
      have D3 := bel_next D2 hb3
      clear a0 a1
      rcases hw : wayEnd l us u with _ | s
      · have E2 : Hid (isWay S l us u v = (false, 0)) := by show _ = _; rw [E.out, hw]; rfl
        go_wp2_with fail
        refine bodyPost_ret (v := .tuple #[.bool false, .int .i64 0]) (by simp [results, Try.results33, go_sem]) rfl ?_
        rw [E2.out]
        exact ⟨rfl, D3⟩
      · have E2 : Hid (isWay S l us u v = (s == v, 0)) := by show _ = _; rw [E.out, hw]; simp [BEq.beq]
        go_wp2_with fail
        refine bodyPost_ret (v := .tuple #[.bool (s == v), .int .i64 0]) (by simp [results, Try.results33, go_sem]) rfl ?_
        rw [E2.out]
        exact ⟨rfl, D3⟩
    · have E : Hid (isWay S l us u v = (false, 2)) := by show _ = _; unfold isWay; rw [if_pos hk, EL.out, ho]; rfl
      clear hk
      go_wp2_with fail
      refine (areTubes_any S A n c A' n' c' us _ hn0 (H'.out.bel D1) HL'.out hn0').mono ?_
      rintro e w2 ⟨rfl, hb2⟩
      rw [ho]
      have D2 := bel_next D1 hb2
      go_wp2_with fail
      refine bodyPost_ret (v := .tuple #[.bool false, .int .i64 2]) (by simp [results, Try.results33, go_sem]) rfl ?_
      rw [E.out]
      exact ⟨rfl, D2⟩
  · have E : Hid (isWay S l us u v = (false, k)) := by show _ = _; unfold isWay; rw [if_neg (by rw [hk]; exact h0), hk]
    clear hk
    go_wp2_with fail
    refine bodyPost_ret (v := .tuple #[.bool false, .int .i64 k]) (by simp [results, Try.results33, go_sem]) rfl ?_
    rw [E.out]
    exact ⟨rfl, D1⟩

end Go.Proofs.Ytliamhhmjnhgcaa
