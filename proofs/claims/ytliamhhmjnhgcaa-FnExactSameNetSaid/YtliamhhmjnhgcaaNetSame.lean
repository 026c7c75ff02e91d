/-
  CONTRACTS: are two networks the same.
-/
import Derived.Test.YtliamhhmjnhgcaaNetV
import Derived.Test.YtliamhhmjnhgcaaAid
import Derived.Laws.StructEq
import Derived.ChangeKeysEq
namespace Go.Proofs.Ytliamhhmjnhgcaa
open Go.RowKit

def sameTb (x y : Tb) : Bool := x.1 == y.1 && (x.2.1 == y.2.1 && x.2.2 == y.2.2)
def sameL : List Tb → List Tb → Bool
  | [], [] => true
  | a :: r, b :: q => sameTb (a.1, a.2.1, a.2.2) (b.1, b.2.1, b.2.2) && sameL r q
  | _, _ => false
theorem sameL_step {l m : List Tb} {i : Nat} (h : i < l.length) (h' : i < m.length) : sameL (l.drop i) (m.drop i) = (sameTb (l[i].1, l[i].2.1, l[i].2.2) (m[i].1, m[i].2.1, m[i].2.2) && sameL (l.drop (i + 1)) (m.drop (i + 1))) := by
  rw [drop_at' h, drop_at' h', sameL]
theorem sameL_len : ∀ {l m : List Tb}, l.length ≠ m.length → sameL l m = false
  | [], [], h => absurd rfl h
  | [], _ :: _, _ => rfl
  | _ :: _, [], _ => rfl
  | _ :: r, _ :: q, h => by rw [sameL, sameL_len (l := r) (m := q) (by simpa using h), Bool.and_false]
def sameN (S : Int) (l : List Tb) (S' : Int) (l' : List Tb) : Bool := S == S' && sameL l l'

@[go_sem] theorem tube_guard : Try.prog.eqGuardType Try.prog.depth 38 = false := by kernel_rfl
theorem tube_fields : (Try.prog.fieldsOf 38).toList.map (fun f => (f.name == "_", f.type, f.offset)) = [(false, 2, 0), (false, 2, 1), (false, 2, 2)] := by kernel_rfl

theorem sameTb_cases (a0 a1 a2 b0 b1 b2 : Int) : (sameTb (a0, a1, a2) (b0, b1, b2) = false ∧ (a0 == b0) = false) ∨ (sameTb (a0, a1, a2) (b0, b1, b2) = false ∧ (a0 == b0) = true ∧ (a1 == b1) = false) ∨
    (sameTb (a0, a1, a2) (b0, b1, b2) = false ∧ (a0 == b0) = true ∧ (a1 == b1) = true ∧ (a2 == b2) = false) ∨ (sameTb (a0, a1, a2) (b0, b1, b2) = true ∧ (a0 == b0) = true ∧ (a1 == b1) = true ∧ (a2 == b2) = true) := by
  unfold sameTb
  cases (a0 == b0) <;> cases (a1 == b1) <;> cases (a2 == b2) <;> simp
theorem three {α β : Type} {f : α → β} {xs : List α} {a b c : β} (h : xs.map f = [a, b, c]) : ∃ x y z, xs = [x, y, z] ∧ f x = a ∧ f y = b ∧ f z = c := by
  match xs, h with
  | [x, y, z], h => simp at h; exact ⟨x, y, z, rfl, h.1, h.2.1, h.2.2⟩
theorem tube_equal (w : World) (a0 a1 a2 b0 b1 b2 : Int) :
    (Op.equalIn 10000 38 (.agg #[.int .i64 a0, .int .i64 a1, .int .i64 a2]) (.agg #[.int .i64 b0, .int .i64 b1, .int .i64 b2])).run Try.prog w = .ok (sameTb (a0, a1, a2) (b0, b1, b2)) w := by
  obtain ⟨f0, f1, f2, hf, h0, h1, h2⟩ := three tube_fields
  simp only [Prod.mk.injEq, beq_eq_false_iff_ne] at h0 h1 h2
  have hi : Try.prog.underlying 2 = some (.int .i64) := by kernel_rfl
  rw [run_equalIn_agg w 9999 38 _ _ (by kernel_rfl) (by kernel_rfl), hf]
  have pk : Try.prog.plainKey 2 = true := by kernel_rfl
  have e0 := fun (k : Nat) (xs : Array Value) (v : Value) (h : xs[k]? = some v) => run_part_plain (off := k) w pk h
  simp only [Op.eqFields, h0.1, h1.1, h2.1, h0.2.1, h1.2.1, h2.2.1, h0.2.2, h1.2.2, h2.2.2, ne_eq, not_false_eq_true, if_true, Sem.run_bind]
  rw [e0 0 _ (.int .i64 a0) rfl, Result.andThen_ok, e0 0 _ (.int .i64 b0) rfl, Result.andThen_ok, run_equalIn_int w _ _ _ _ _ _ hi, Result.andThen_ok, Sem.run_ite]
  cases c0 : a0 == b0
  · simp [sameTb, c0]
  · simp only [Bool.not_true, Bool.false_eq_true, if_false, Sem.run_bind]
    rw [e0 1 _ (.int .i64 a1) rfl, Result.andThen_ok, e0 1 _ (.int .i64 b1) rfl, Result.andThen_ok, run_equalIn_int w _ _ _ _ _ _ hi, Result.andThen_ok, Sem.run_ite]
    cases c1 : a1 == b1
    · simp [sameTb, c0, c1]
    · simp only [Bool.not_true, Bool.false_eq_true, if_false, Sem.run_bind]
      rw [e0 2 _ (.int .i64 a2) rfl, Result.andThen_ok, e0 2 _ (.int .i64 b2) rfl, Result.andThen_ok, run_equalIn_int w _ _ _ _ _ _ hi, Result.andThen_ok, Sem.run_ite]
      cases c2 : a2 == b2 <;> simp [sameTb, c0, c1, c2]
@[go_sem] theorem tube_neq (w : World) (a0 a1 a2 b0 b1 b2 : Int) :
    (binOp .neq 38 (.agg #[.int .i64 a0, .int .i64 a1, .int .i64 a2]) (.agg #[.int .i64 b0, .int .i64 b1, .int .i64 b2])).run Try.prog w = .ok (.bool (!sameTb (a0, a1, a2) (b0, b1, b2))) w := by
  rw [run_neq_struct, tube_equal]
  rfl


set_option maxHeartbeats 2000000 in
theorem specSameNet_any (S : Int) (A : Option Addr) (n c : Nat) (l : List Tb) (S' : Int) (A' : Option Addr) (n' c' : Nat) (l' : List Tb) (w : World) (h : TubesAt w A l) (hl : n = l.length) (hn0 : n ≤ 1048576)
    (h' : TubesAt w A' l') (hl' : n' = l'.length) (hn0' : n' ≤ 1048576) :
    Calls Try.prog 15 #[.agg #[.int .i64 S, .slice A n c], .agg #[.int .i64 S', .slice A' n' c']] w (Ret w (.bool (sameN S l S' l'))) := by
  have HN : Hid (n ≠ n' → sameL l l' = false) := fun h => sameL_len (by rw [← hl, ← hl']; exact h)
  have HL := Lib.hid hl
  have HL' := Lib.hid hl'
  have H := Lib.hid h
  have H' := Lib.hid h'
  clear hl h hl' h'
  by_cases hS : S = S'
  · have hSb : (S == S') = true := by simpa using hS
    by_cases hn : n = n'
    · have E : Hid (sameN S l S' l' = sameL l l') := by show _ = _; rw [sameN, hSb, Bool.true_and]
      clear hSb
      subst hS hn
      go_enter Try.func15, Try.ntmps15
      go_wp2_with fail
      go_loopw [5] (fun u w' => ∃ (i : Nat), u = .int .i64 i ∧ i ≤ n ∧ Hid (sameL l l' = sameL (l.drop i) (l'.drop i)) ∧ Hid (Blk w' w.heap.size 29 #[.int .i64 S, .slice A n c]) ∧ Hid (Blk w' (w.heap.size + 1) 29 #[.int .i64 S, .slice A' n c']) ∧ Below w.heap.size w w') (fun u _ => n - (intOf u).toNat)
      case atStart => exact ⟨0, rfl, by omega, rfl, (Blk.new _ _ _).alloc _, Blk.newAt (n := w.heap.size + 1) (by simp), by go_grown⟩
      case round =>
        obtain ⟨i, rfl, hin, HA, HB, HC, hbel⟩ := hrel
        obtain ⟨m0, m1, -⟩ := HB.out.c2
        obtain ⟨k0, k1, -⟩ := HC.out.c2
        by_cases hlt : i < n
        · obtain ⟨b', o, rfl, hblt, hc⟩ := H.out (by rw [← HL.out]; omega)
          obtain ⟨b2, o2, rfl, hblt2, hc2⟩ := H'.out (by rw [← HL'.out]; omega)
          have hil : i < l.length := by rw [← HL.out]; exact hlt
          have hil' : i < l'.length := by rw [← HL'.out]; exact hlt
          obtain ⟨t0, t1, t2⟩ := (hc i hil).bel hbel
          obtain ⟨r0, r1, r2⟩ := (hc2 i hil').bel hbel
          clear hc hc2
          have hst := sameL_step hil hil'
          rcases sameTb_cases l[i].1 l[i].2.1 l[i].2.2 l'[i].1 l'[i].2.1 l'[i].2.2 with ⟨hv, b0⟩ | ⟨hv, b0, b1⟩ | ⟨hv, b0, b1, b2⟩ | ⟨hv, b0, b1, b2⟩
          · have HS : Hid (sameL l l' = false) := by show _ = _; rw [HA.out, hst, hv]; rfl
            clear hst hv
            go_wp2_with fail
            go_region
            go_wp2_with fail
            go_ret
            exact ⟨ret_bool (by rw [E.out, HS.out]), below_drewN hbel _⟩
          · have HS : Hid (sameL l l' = false) := by show _ = _; rw [HA.out, hst, hv]; rfl
            clear hst hv
            go_wp2_with fail
            go_region
            go_wp2_with fail
            go_ret
            exact ⟨ret_bool (by rw [E.out, HS.out]), below_drewN hbel _⟩
          · have HS : Hid (sameL l l' = false) := by show _ = _; rw [HA.out, hst, hv]; rfl
            clear hst hv
            go_wp2_with fail
            go_region
            go_wp2_with fail
            go_ret
            exact ⟨ret_bool (by rw [E.out, HS.out]), below_drewN hbel _⟩
          · have HS : Hid (sameL l l' = sameL (l.drop (i + 1)) (l'.drop (i + 1))) := by show _ = _; rw [HA.out, hst, hv]; rfl
            clear hst hv
            go_wp2_with fail
            go_region
            go_wp2_with fail
            go_roundw
            case rel => exact ⟨i + 1, by go_num, by omega, HS, HB.out.drewN _, HC.out.drewN _, below_drewN hbel _⟩
            case measure => simp [intOf]; omega
        · have HS : Hid (sameL l l' = true) := by show _ = _; rw [HA.out, List.drop_of_length_le (by rw [← HL.out]; omega), List.drop_of_length_le (by rw [← HL'.out]; omega)]; rfl
          go_wp2_with fail
          go_ret
          exact ⟨ret_bool (by rw [E.out, HS.out]), hbel⟩
    · have E : Hid (sameN S l S' l' = false) := by show _ = _; rw [sameN, HN.out hn, Bool.and_false]
      have hnb : (n == n') = false := by simpa using hn
      go_enter Try.func15, Try.ntmps15
      go_wp2_with fail
      go_ret
      exact ⟨ret_bool E.out.symm, by go_grown⟩
  · have hSb : (S == S') = false := by simpa using hS
    have E : Hid (sameN S l S' l' = false) := by show _ = _; rw [sameN, hSb, Bool.false_and]
    go_enter Try.func15, Try.ntmps15
    go_wp2_with fail
    go_ret
    exact ⟨ret_bool E.out.symm, by go_grown⟩

set_option maxHeartbeats 2000000 in
theorem Equal_tubes (A : Option Addr) (n c : Nat) (l : List Tb) (A' : Option Addr) (n' c' : Nat) (l' : List Tb) (w : World) (h : TubesAt w A l) (hl : n = l.length) (hn0 : n ≤ 1048576)
    (h' : TubesAt w A' l') (hl' : n' = l'.length) (hn0' : n' ≤ 1048576) :
    Calls Try.prog 48 #[.slice A n c, .slice A' n' c'] w (Ret w (.bool (sameL l l'))) := by
  have HN : Hid (n ≠ n' → sameL l l' = false) := fun h => sameL_len (by rw [← hl, ← hl']; exact h)
  have HL := Lib.hid hl
  have HL' := Lib.hid hl'
  have H := Lib.hid h
  have H' := Lib.hid h'
  clear hl h hl' h'
  by_cases hn : n = n'
  · subst hn
    go_enter Try.func48, Try.ntmps48
    go_wp2_with fail
    go_loopw [13] (fun u w' => ∃ (i : Nat), u = .int .i64 i ∧ i ≤ n ∧ Hid (sameL l l' = sameL (l.drop i) (l'.drop i)) ∧ Below w.heap.size w w') (fun u _ => n - (intOf u).toNat)
    case atStart => exact ⟨0, rfl, by omega, rfl, by go_grown⟩
    case round =>
      obtain ⟨i, rfl, hin, HA, hbel⟩ := hrel
      by_cases hlt : i < n
      · obtain ⟨b', o, rfl, hblt, hc⟩ := H.out (by rw [← HL.out]; omega)
        obtain ⟨b2, o2, rfl, hblt2, hc2⟩ := H'.out (by rw [← HL'.out]; omega)
        have hil : i < l.length := by rw [← HL.out]; exact hlt
        have hil' : i < l'.length := by rw [← HL'.out]; exact hlt
        obtain ⟨t0, t1, t2⟩ := (hc i hil).bel hbel
        obtain ⟨r0, r1, r2⟩ := (hc2 i hil').bel hbel
        clear hc hc2
        have hst := sameL_step hil hil'
        rcases sameTb_cases l[i].1 l[i].2.1 l[i].2.2 l'[i].1 l'[i].2.1 l'[i].2.2 with ⟨hv, b0⟩ | ⟨hv, b0, b1⟩ | ⟨hv, b0, b1, b2⟩ | ⟨hv, b0, b1, b2⟩
        · have HS : Hid (sameL l l' = false) := by show _ = _; rw [HA.out, hst, hv]; rfl
          clear hst hv
          go_wp2_with fail
          go_region
          go_wp2_with fail
          go_ret
          exact ⟨ret_bool (by rw [HS.out]), below_drewN hbel _⟩
        · have HS : Hid (sameL l l' = false) := by show _ = _; rw [HA.out, hst, hv]; rfl
          clear hst hv
          go_wp2_with fail
          go_region
          go_wp2_with fail
          go_ret
          exact ⟨ret_bool (by rw [HS.out]), below_drewN hbel _⟩
        · have HS : Hid (sameL l l' = false) := by show _ = _; rw [HA.out, hst, hv]; rfl
          clear hst hv
          go_wp2_with fail
          go_region
          go_wp2_with fail
          go_ret
          exact ⟨ret_bool (by rw [HS.out]), below_drewN hbel _⟩
        · have HS : Hid (sameL l l' = sameL (l.drop (i + 1)) (l'.drop (i + 1))) := by show _ = _; rw [HA.out, hst, hv]; rfl
          clear hst hv
          go_wp2_with fail
          go_region
          go_wp2_with fail
          go_roundw
          case rel => exact ⟨i + 1, by go_num, by omega, HS, below_drewN hbel _⟩
          case measure => simp [intOf]; omega
      · have HS : Hid (sameL l l' = true) := by show _ = _; rw [HA.out, List.drop_of_length_le (by rw [← HL.out]; omega), List.drop_of_length_le (by rw [← HL'.out]; omega)]; rfl
        go_wp2_with fail
        go_ret
        exact ⟨ret_bool (by rw [HS.out]), hbel⟩
  · have E : Hid (sameL l l' = false) := HN.out hn
    have hnb : (n == n') = false := by simpa using hn
    go_enter Try.func48, Try.ntmps48
    go_wp2_with fail
    go_ret
    exact ⟨ret_bool E.out.symm, by go_grown⟩

set_option maxHeartbeats 2000000 in
theorem implSameNet_any (S : Int) (A : Option Addr) (n c : Nat) (l : List Tb) (S' : Int) (A' : Option Addr) (n' c' : Nat) (l' : List Tb) (w : World) (h : TubesAt w A l) (hl : n = l.length) (hn0 : n ≤ 1048576)
    (h' : TubesAt w A' l') (hl' : n' = l'.length) (hn0' : n' ≤ 1048576) :
    Calls Try.prog 17 #[.agg #[.int .i64 S, .slice A n c], .agg #[.int .i64 S', .slice A' n' c']] w (Ret w (.bool (sameN S l S' l'))) := by
  have HL := Lib.hid hl
  have HL' := Lib.hid hl'
  have H := Lib.hid h
  have H' := Lib.hid h'
  clear hl h hl' h'
  by_cases hS : S = S'
  · have hSb : (S == S') = true := by simpa using hS
    have E : Hid (sameN S l S' l' = sameL l l') := by show _ = _; rw [sameN, hSb, Bool.true_and]
    clear hSb
    subst hS
    go_enter Try.func17, Try.ntmps17
    go_wp2_with fail
    refine (Equal_tubes A n c l A' n' c' l' _ ((H.out.alloc _).alloc _) HL.out hn0 ((H'.out.alloc _).alloc _) HL'.out hn0').mono ?_
    rintro e w1 ⟨rfl, hb1⟩
    go_wp2_with fail
    go_ret
    exact ⟨ret_bool E.out.symm, Below.trans (by go_grown) (hb1.mono (by simp only [World.size_alloc]; omega))⟩
  · have hSb : (S == S') = false := by simpa using hS
    have E : Hid (sameN S l S' l' = false) := by show _ = _; rw [sameN, hSb, Bool.false_and]
    go_enter Try.func17, Try.ntmps17
    go_wp2_with fail
    go_ret
    exact ⟨ret_bool E.out.symm, by go_grown⟩

end Go.Proofs.Ytliamhhmjnhgcaa
