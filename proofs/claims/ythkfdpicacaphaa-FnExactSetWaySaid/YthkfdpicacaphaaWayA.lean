/-
  CONTRACTS: which lists of tubes are simple ways.
-/
import Derived.Test.YthkfdpicacaphaaSet
import Derived.StillTailTactics
namespace Go.Proofs.Ythkfdpicacaphaa
open Go.RowKit

/-- Where the tubes of a list lead from a station. -/
def wayEnd (l : List Tb) : List Int → Int → Option Int
  | [], u => some u
  | k :: ks, u => if (l[k.toNat]?.getD (0, 0, 0)).1 = u then wayEnd l ks (l[k.toNat]?.getD (0, 0, 0)).2.1 else none
theorem wayEnd_step {l : List Tb} {us : List Int} {i j : Nat} (h : i < us.length) (hj : us[i] = (j : Int)) (hjl : j < l.length) (u : Int) :
    wayEnd l (us.drop i) u = (if l[j].1 = u then wayEnd l (us.drop (i + 1)) l[j].2.1 else none) := by
  rw [drop_at' h, wayEnd, hj]
  simp [hjl]
theorem outB_at {us : List Int} {a b : Int} (h : outB us a b = false) {i : Nat} (hi : i < us.length) : a ≤ us[i] ∧ us[i] ≤ b := by
  unfold outB at h
  rw [List.any_eq_false] at h
  have := h _ (List.getElem_mem hi)
  simp at this
  exact inB_true this


/-- The stations between which a tube of a list leads. -/
def frW (l : List Tb) (x : Int) : Int := (l[x.toNat]?.getD (0, 0, 0)).1
def ttW (l : List Tb) (x : Int) : Int := (l[x.toNat]?.getD (0, 0, 0)).2.1
def hasD (l : List Int) (x : Int) : Bool := l.any fun y => decide (y = x)
theorem hasD_step {l : List Int} {i : Nat} {x : Int} (h : i < l.length) : hasD (l.drop i) x = (decide (l[i] = x) || hasD (l.drop (i + 1)) x) := by
  unfold hasD
  rw [drop_at' h, List.any_cons]
theorem hasD_end {l : List Int} {i : Nat} {x : Int} (h : l.length ≤ i) : hasD (l.drop i) x = false := by
  rw [List.drop_of_length_le h]; rfl
theorem hasD_app (a : List Int) (b x : Int) : hasD (a ++ [b]) x = (hasD a x || decide (b = x)) := by simp [hasD]
/-- The specification's way: no tube begins where one began, each goes on where the last one ended, the end is none of the begins. -/
def simpF (l : List Tb) : List Int → Option Int → List Int → Bool
  | [], none, _ => true
  | [], some e, seen => !hasD seen e
  | x :: xs, p, seen => inB x 0 ((l.length : Int) - 1) && !hasD seen (frW l x) && (match p with | none => true | some e => decide (e = frW l x)) && simpF l xs (some (ttW l x)) (seen ++ [frW l x])
def simpW (l : List Tb) (way : List Int) : Bool := simpF l way none []
def nodF (l : List Tb) : List Int → List Int → Bool
  | [], _ => true
  | x :: xs, seen => !hasD seen (frW l x) && nodF l xs (seen ++ [frW l x])
/-- The program's loop. -/
def implF (l : List Tb) (e : Int) : List Int → List Int → Bool
  | [], _ => true
  | x :: xs, seen => !hasD seen (frW l x) && decide (frW l x ≠ e) && implF l e xs (seen ++ [frW l x])
theorem outB_cons (x : Int) (xs : List Int) (a b : Int) : outB (x :: xs) a b = (!inB x a b || outB xs a b) := by simp [outB]
theorem simpF_some (l : List Tb) : ∀ (xs : List Int) (e0 : Int) (seen : List Int),
    simpF l xs (some e0) seen = (!outB xs 0 ((l.length : Int) - 1) && (match wayEnd l xs e0 with | none => false | some e => nodF l xs seen && !hasD (seen ++ xs.map (frW l)) e))
  | [], e0, seen => by simp [simpF, outB, wayEnd, nodF]
  | x :: xs, e0, seen => by
    rw [simpF, simpF_some l xs, outB_cons, wayEnd, nodF]
    have h1 : (l[x.toNat]?.getD (0, 0, 0)).1 = frW l x := rfl
    have h2 : (l[x.toNat]?.getD (0, 0, 0)).2.1 = ttW l x := rfl
    rw [h1, h2]
    by_cases hf : frW l x = e0
    · rw [if_pos hf]
      cases wayEnd l xs (ttW l x) with
      | none => simp
      | some e =>
        simp only [List.map_cons, List.append_assoc, List.singleton_append]
        cases inB x 0 ((l.length : Int) - 1) <;> cases hasD seen (frW l x) <;> simp [hf]
    · rw [if_neg hf]
      have hf2 : ¬ e0 = frW l x := fun e => hf e.symm
      simp [hf2]
theorem implF_eq (l : List Tb) (e : Int) : ∀ (xs seen : List Int), implF l e xs seen = (nodF l xs seen && !hasD (xs.map (frW l)) e)
  | [], seen => by simp [implF, nodF, hasD]
  | x :: xs, seen => by
    rw [implF, nodF, implF_eq l e xs]
    have h : hasD ((x :: xs).map (frW l)) e = (decide (frW l x = e) || hasD (xs.map (frW l)) e) := by simp [hasD]
    rw [h]
    cases hasD seen (frW l x) <;> by_cases hf : frW l x = e <;> simp [hf]
theorem simpW_impl (l : List Tb) (x : Int) (xs : List Int) : simpW l (x :: xs) = (!outB (x :: xs) 0 ((l.length : Int) - 1) && (match wayEnd l (x :: xs) (frW l x) with | none => false | some e => implF l e (x :: xs) [])) := by
  have h : simpW l (x :: xs) = simpF l (x :: xs) (some (frW l x)) [] := by
    unfold simpW
    rw [simpF, simpF]
    simp
  rw [h, simpF_some]
  cases wayEnd l (x :: xs) (frW l x) with
  | none => rfl
  | some e => simp only [List.nil_append]; rw [implF_eq]
theorem frW_eq {l : List Tb} {q : Nat} (h : q < l.length) : frW l (q : Int) = l[q].1 := by simp [frW, h]
theorem ttW_eq {l : List Tb} {q : Nat} (h : q < l.length) : ttW l (q : Int) = l[q].2.1 := by simp [ttW, h]

/-- The first place of a number, or -1. -/
def FoundD (w : World) (b : Bool) (e : Ending) (w' : World) : Prop := ∃ r : Int, e = .returned (.int .i64 r) ∧ decide (0 ≤ r) = b ∧ w = w'
set_option maxHeartbeats 1000000 in
theorem l00Has_any (A : Option Addr) (n c : Nat) (l : List Int) (x : Int) (w : World) (h : IntsAt w A l) (hl : n = l.length) (hn0 : n ≤ 1048576) :
    Calls Try.prog 82 #[.slice A n c, .int .i64 x] w (Ret0 w (.bool (hasD l x))) := by
  have H := Lib.hid h
  have HL := Lib.hid hl
  clear h hl
  go_enter Try.func82, Try.ntmps82
  go_wp2
  go_loop [5] (fun u => ∃ (i : Nat), u = .int .i64 i ∧ i ≤ n ∧ Hid (hasD l x = hasD (l.drop i) x)) (fun u => n - (intOf u).toNat)
  case atStart => exact ⟨0, rfl, by omega, rfl⟩
  case round =>
    obtain ⟨i, rfl, hin, HA⟩ := hrel
    by_cases hlt : i < n
    · obtain ⟨b, o, rfl, hblt, hc⟩ := H.out (by rw [← HL.out]; omega)
      have hil : i < l.length := by rw [← HL.out]; exact hlt
      have c0 := hc i hil
      clear hc
      have hd := hasD_step (x := x) hil
      by_cases hv : l[i] = x
      · have HS : Hid (hasD l x = true) := by show _ = _; rw [HA.out, hd]; simp [hv]
        have hb : (l[i] == x) = true := by simpa using hv
        clear hd hv
        go_wp2_with fail
        go_ret
        rw [HS.out]
        exact ⟨rfl, rfl⟩
      · have HS : Hid (hasD l x = hasD (l.drop (i + 1)) x) := by show _ = _; rw [HA.out, hd]; simp [hv]
        have hb : (l[i] == x) = false := by simpa using hv
        clear hd hv
        go_wp2_with fail
        go_round
        case rel => exact ⟨i + 1, by go_num, by omega, HS⟩
        case measure => simp [intOf]; omega
    · have HS : Hid (hasD l x = false) := by show _ = _; rw [HA.out]; exact hasD_end (by rw [← HL.out]; omega)
      go_wp2_with fail
      go_ret
      rw [HS.out]
      exact ⟨rfl, rfl⟩
theorem l00Has_yes {A : Option Addr} {n c : Nat} {l : List Int} {x : Int} (w : World) (h : IntsAt w A l) (hl : n = l.length) (hn0 : n ≤ 1048576) (hh : hasD l x = true) : Calls Try.prog 82 #[.slice A n c, .int .i64 x] w (Ret0 w (.bool true)) := by
  have := l00Has_any A n c l x w h hl hn0
  rw [hh] at this
  exact this
theorem l00Has_no {A : Option Addr} {n c : Nat} {l : List Int} {x : Int} (w : World) (h : IntsAt w A l) (hl : n = l.length) (hn0 : n ≤ 1048576) (hh : hasD l x = false) : Calls Try.prog 82 #[.slice A n c, .int .i64 x] w (Ret0 w (.bool false)) := by
  have := l00Has_any A n c l x w h hl hn0
  rw [hh] at this
  exact this

theorem Index_intD (A : Option Addr) (n c : Nat) (l : List Int) (x : Int) (w : World) (h : IntsAt w A l) (hl : n = l.length) (hn0 : n ≤ 1048576) :
    Calls Try.prog 92 #[.slice A n c, .int .i64 x] w (FoundD w (hasD l x)) := by
  have H := Lib.hid h
  have HL := Lib.hid hl
  clear h hl
  go_enter Try.func92, Try.ntmps92
  go_wp2
  go_loop [8] (fun u => ∃ (i : Nat), u = .int .i64 i ∧ i ≤ n ∧ Hid (hasD l x = hasD (l.drop i) x)) (fun u => n - (intOf u).toNat)
  case atStart => exact ⟨0, rfl, by omega, rfl⟩
  case round =>
    obtain ⟨i, rfl, hin, HA⟩ := hrel
    by_cases hlt : i < n
    · obtain ⟨b, o, rfl, hblt, hc⟩ := H.out (by rw [← HL.out]; omega)
      have hil : i < l.length := by rw [← HL.out]; exact hlt
      have c0 := hc i hil
      clear hc
      have hd := hasD_step (x := x) hil
      by_cases hv : x = l[i]
      · have HS : Hid (hasD l x = true) := by show _ = _; rw [HA.out, hd]; simp [hv]
        have hb : (x == l[i]) = true := by simpa using hv
        clear hd hv
        go_wp2_with fail
        go_ret
        exact ⟨_, rfl, by rw [HS.out]; simp, rfl⟩
      · have hv2 : ¬ l[i] = x := fun e => hv e.symm
        have HS : Hid (hasD l x = hasD (l.drop (i + 1)) x) := by show _ = _; rw [HA.out, hd]; simp [hv2]
        have hb : (x == l[i]) = false := by simpa using hv
        clear hd hv hv2
        go_wp2_with fail
        go_round
        case rel => exact ⟨i + 1, by go_num, by omega, HS⟩
        case measure => simp [intOf]; omega
    · have HS : Hid (hasD l x = false) := by show _ = _; rw [HA.out]; exact hasD_end (by rw [← HL.out]; omega)
      go_wp2_with fail
      go_ret
      exact ⟨-1, rfl, by rw [HS.out]; rfl, rfl⟩
theorem Contains_intD (A : Option Addr) (n c : Nat) (l : List Int) (x : Int) (w : World) (h : IntsAt w A l) (hl : n = l.length) (hn0 : n ≤ 1048576) :
    Calls Try.prog 86 #[.slice A n c, .int .i64 x] w (Ret0 w (.bool (hasD l x))) := by
  have HL := Lib.hid hl
  clear hl
  go_enter Try.func86, Try.ntmps86
  go_wp2_with fail
  refine (Index_intD A n c l x _ h HL.out hn0).mono ?_
  rintro e w1 ⟨r, rfl, hr, rfl⟩
  have HR := Lib.hid hr
  clear hr
  go_wp2_with fail
  go_ret
  exact ⟨ret_bool (by rw [← HR.out]), rfl⟩

theorem areTubes_any (S : Int) (A : Option Addr) (n c : Nat) (A' : Option Addr) (n' c' : Nat) (us : List Int) (w : World) (hn0 : n ≤ 1048576)
    (h' : IntsAt w A' us) (hl' : n' = us.length) (hn0' : n' ≤ 1048576) :
    Calls Try.prog 84 #[.agg #[.int .i64 S, .slice A n c], .slice A' n' c'] w (Ret w (.bool (!outB us 0 ((n : Int) - 1)))) := by
  have HL' := Lib.hid hl'
  have H' := Lib.hid h'
  clear hl' h'
  go_enter Try.func84, Try.ntmps84
  go_wp2_with fail
  refine (outside_any A' n' c' us 0 ((n : Int) - 1) _ (H'.out.alloc _) HL'.out hn0').mono ?_
  rintro e w2 ⟨rfl, hb2⟩
  go_wp2_with fail
  go_ret
  exact ⟨rfl, Below.trans (by go_grown) (hb2.mono (by simp))⟩

set_option maxHeartbeats 2000000 in
theorem endOf_any (S : Int) (A : Option Addr) (n c : Nat) (l : List Tb) (A' : Option Addr) (n' c' : Nat) (us : List Int) (u : Int) (w : World) (h : TubesAt w A l) (hl : n = l.length) (hn0 : n ≤ 1048576)
    (h' : IntsAt w A' us) (hl' : n' = us.length) (hn0' : n' ≤ 1048576) (ho : outB us 0 ((n : Int) - 1) = false) :
    Calls Try.prog 85 #[.agg #[.int .i64 S, .slice A n c], .slice A' n' c', .int .i64 u] w (Ret w (.tuple #[.int .i64 ((wayEnd l us u).getD 0), .bool (wayEnd l us u).isSome])) := by
  have HL' := Lib.hid hl'
  have H' := Lib.hid h'
  have HL := Lib.hid hl
  have H := Lib.hid h
  have HO := Lib.hid ho
  clear hl' h' hl h ho
  go_enter Try.func85, Try.ntmps85
  go_wp2_with fail
  go_loopw [2, 12] (fun x y w' => ∃ (i : Nat) (s : Int), x = .int .i64 s ∧ y = .int .i64 i ∧ i ≤ n' ∧ Hid (wayEnd l us u = wayEnd l (us.drop i) s) ∧ Hid (Blk w' w.heap.size 30 #[.int .i64 S, .slice A n c]) ∧ Below w.heap.size w w') (fun _ y _ => n' - (intOf y).toNat)
  case atStart => exact ⟨0, u, rfl, rfl, by omega, rfl, Blk.new _ _ _, by go_grown⟩
  case round =>
    obtain ⟨i, s, rfl, rfl, hin, HA, HB, hbel⟩ := hrel
    by_cases hlt : i < n'
    · have hil : i < us.length := by rw [← HL'.out]; exact hlt
      obtain ⟨b', o, rfl, hblt, hc⟩ := H'.out (by omega)
      have hci := bel_cell hbel (hc i hil)
      clear hc
      have hin2 := outB_at HO.out hil
      obtain ⟨j, hj⟩ : ∃ j : Nat, us[i] = (j : Int) := ⟨us[i].toNat, by omega⟩
      have hjn : j < n := by omega
      have hjl : j < l.length := by rw [← HL.out]; exact hjn
      obtain ⟨b2, o2, rfl, hblt2, hc2⟩ := H.out (by omega)
      obtain ⟨t0, t1, t2⟩ := (hc2 j hjl).bel hbel
      clear hc2
      have hst := wayEnd_step hil hj hjl s
      rw [hj] at hci
      clear hj hin2
      obtain ⟨m0, m1, -⟩ := HB.out.c2
      by_cases hv : l[j].1 = s
      · have HS : Hid (wayEnd l us u = wayEnd l (us.drop (i + 1)) l[j].2.1) := by show _ = _; rw [HA.out, hst, if_pos hv]
        have hb : (l[j].1 == s) = true := by simpa using hv
        clear hst hv
        go_wp2_with fail
        go_roundw
        case rel => exact ⟨i + 1, l[j].2.1, rfl, by go_num, by omega, HS, HB, hbel⟩
        case measure => simp [intOf]; omega
      · have HS : Hid (wayEnd l us u = none) := by show _ = _; rw [HA.out, hst, if_neg hv]
        have hb : (l[j].1 == s) = false := by simpa using hv
        clear hst hv
        go_wp2_with fail
        refine bodyPost_ret (v := .tuple #[.int .i64 0, .bool false]) (by simp [results, Try.results85, go_sem]) rfl ?_
        rw [HS.out]
        exact ⟨rfl, hbel⟩
    · have HS : Hid (wayEnd l us u = some s) := by show _ = _; rw [HA.out, List.drop_of_length_le (by rw [← HL'.out]; omega)]; rfl
      go_wp2_with fail
      refine bodyPost_ret (v := .tuple #[.int .i64 s, .bool true]) (by simp [results, Try.results85, go_sem]) rfl ?_
      rw [HS.out]
      exact ⟨rfl, hbel⟩


end Go.Proofs.Ythkfdpicacaphaa
