/-
  CONTRACTS: the addresses for which another one can be misread (printed by tools/gen_misread.py).
-/
import Derived.Test.YtfhmmebciikgeaaLeastR
namespace Go.Proofs.Ytfhmmebciikgeaa
open Go.RowKit

def MadeIC (w : World) (t : TypeId) (xs : List Int) (k : Int) (e : Ending) (w' : World) : Prop :=
  ∃ A c, e = .returned (.tuple #[.slice A xs.length c, .int .i64 k]) ∧ w'.ownsRow w.heap.size t 1 (.slice A xs.length c) xs.length (xs.map (Value.int .i64)) ∧ Below w.heap.size w w'
theorem own_none (w : World) (base : Nat) (t : TypeId) : w.ownsRow base t 1 (.slice none 0 0) 0 (([] : List Int).map (Value.int .i64)) := ⟨by simp, .inl ⟨rfl, rfl⟩⟩
theorem own_base {w : World} {base base' n size : Nat} {t : TypeId} {v : Value} {xs : List Value} (h : w.ownsRow base' t size v n xs) (hb : base ≤ base') : w.ownsRow base t size v n xs := by
  refine ⟨h.1, ?_⟩
  rcases h.2 with hn | ⟨g, cap, cur, hv, hg, rest⟩
  · exact .inl hn
  · exact .inr ⟨g, cap, cur, hv, Nat.le_trans hb hg, rest⟩
theorem own_belw {w w' : World} {base n size : Nat} {t : TypeId} {v : Value} {xs : List Value} (h : w.ownsRow base t size v n xs) (hb : Below w.heap.size w w') : w'.ownsRow base t size v n xs := by
  refine ⟨h.1, ?_⟩
  rcases h.2 with hn | ⟨g, cap, cur, hv, hg, hB, rest⟩
  · exact .inl hn
  · exact .inr ⟨g, cap, cur, hv, hg, bel_blk (t := t) hB hb, rest⟩
theorem info_int64M : (Try.prog.info? 2).map (fun i => (i.zero, i.size, i.bytes)) = some (some (.int .i64 0), 1, 8) := by kernel_rfl

/-- The places, from i on, of the words that are not far from the one at k. -/
def misF (t : ByteArray) (k : Nat) (r : Int) : List ByteArray → Nat → List Int
  | [], _ => []
  | s :: ss, i => if i ≠ k ∧ (farB s t : Int) ≤ r then (i : Int) :: misF t k r ss (i + 1) else misF t k r ss (i + 1)
theorem misF_step {t : ByteArray} {k : Nat} {r : Int} {l : List ByteArray} {i : Nat} (h : i < l.length) : misF t k r (l.drop i) i = if i ≠ k ∧ (farB l[i] t : Int) ≤ r then (i : Int) :: misF t k r (l.drop (i + 1)) (i + 1) else misF t k r (l.drop (i + 1)) (i + 1) := by
  rw [drop_at' h, misF]
theorem misF_le (t : ByteArray) (k : Nat) (r : Int) : ∀ (l : List ByteArray) (i : Nat), (misF t k r l i).length ≤ l.length
  | [], _ => Nat.le_refl _
  | s :: ss, i => by
    have := misF_le t k r ss (i + 1)
    rw [misF]
    split <;> simp <;> omega
def misR (g : Int) (l : List ByteArray) (k r : Int) : List Int × Int :=
  if validA g l then (if inB k 0 ((l.length : Int) - 1) && inB r 0 8 then (misF (strAt l k.toNat) k.toNat r l 0, 0) else ([], 2)) else ([], 1)
theorem misR_len {g : Int} {l : List ByteArray} {k r : Int} {n : Nat} (hl : n = l.length) (hn : n ≤ 1048576) : (misR g l k r).1.length ≤ 1048576 := by
  unfold misR
  split
  · split
    · have := misF_le (strAt l k.toNat) k.toNat r l 0
      show (misF _ _ _ _ _).length ≤ _
      omega
    · simp
  · simp

set_option maxHeartbeats 1000000 in
theorem specMis_any (g : Int) (A : Option Addr) (n c : Nat) (l : List ByteArray) (k r : Int) (w : World) (h : StrsAt w A l) (hl : n = l.length) (hs : SmallS l) :
    Calls Try.prog 34 #[.int .i64 g, .slice A n c, .int .i64 k, .int .i64 r] w (MadeIC w 2 (misR g l k r).1 (misR g l k r).2) := by
  obtain ⟨i0, hi, hz0, hz1, hz2⟩ := info_parts info_int64M
  have HI := Lib.hid (And.intro hi (And.intro hz0 (And.intro hz1 hz2)))
  have hn0 : n ≤ 1048576 := by rw [hl]; exact hs.1
  have HL := Lib.hid hl
  have HS := Lib.hid hs
  have H := Lib.hid h
  clear hl hs h hi hz0 hz1 hz2
  go_enter Try.func34, Try.ntmps34
  go_wp2_with fail
  refine (l05Ok_any g A n c l _ H.out HL.out HS.out).mono ?_
  rintro e w1 ⟨rfl, hb1⟩
  cases hv : validA g l
  · have E : Hid (misR g l k r = ([], 1)) := by show _ = _; simp [misR, hv]
    clear hv
    go_wp2_with fail
    refine bodyPost_ret (v := .tuple #[.slice none 0 0, .int .i64 1]) (by simp [results, Try.results34, go_sem]) rfl ?_
    rw [E.out]
    exact ⟨none, 0, rfl, own_none _ _ _, hb1⟩
  · obtain ⟨hg0, hg1, hl40, hev⟩ := validA_true hv
    rw [← HL.out] at hl40
    have e0 : IntKind.i64.wrap ((n : Int) - 1) = (n : Int) - 1 := IntWalk.i64_in _ (by omega)
    cases hk : inB k 0 ((n : Int) - 1)
    · have E : Hid (misR g l k r = ([], 2)) := by show _ = _; simp [misR, hv, ← HL.out, hk]
      clear hv hev
      go_wp2_with (first | (go_at_call 59; (with_reducible refine (l00In_any _ _ _ _).mono ?_); rintro e w2 ⟨rfl, rfl⟩; rw [hk]))
      refine bodyPost_ret (v := .tuple #[.slice none 0 0, .int .i64 2]) (by simp [results, Try.results34, go_sem]) rfl ?_
      rw [E.out]
      exact ⟨none, 0, rfl, own_none _ _ _, hb1⟩
    · obtain ⟨k0, k1⟩ := inB_true hk
      cases hr : inB r 0 8
      · have E : Hid (misR g l k r = ([], 2)) := by show _ = _; simp [misR, hv, ← HL.out, hk, hr]
        clear hv hev
        go_wp2_with (first | (go_at_call 59; (with_reducible refine (l00In_any k _ _ _).mono ?_); rintro e w2 ⟨rfl, rfl⟩; rw [hk]) | (go_at_call 59; (with_reducible refine (l00In_any r _ _ _).mono ?_); rintro e w2 ⟨rfl, rfl⟩; rw [hr]))
        refine bodyPost_ret (v := .tuple #[.slice none 0 0, .int .i64 2]) (by simp [results, Try.results34, go_sem]) rfl ?_
        rw [E.out]
        exact ⟨none, 0, rfl, own_none _ _ _, hb1⟩
      · obtain ⟨r0, r1⟩ := inB_true hr
        obtain ⟨q, rfl⟩ : ∃ q : Nat, k = q := ⟨k.toNat, by omega⟩
        have hql : q < l.length := by rw [← HL.out]; omega
        have hqn : q < n := by omega
        have E : Hid (misR g l q r = (misF (strAt l q) q r l 0, 0)) := by show _ = _; unfold misR; rw [if_pos hv, ← HL.out, if_pos (by rw [hk, hr]; rfl), Int.toNat_natCast]
        rw [strAt_eq hql] at E
        obtain ⟨t, ht⟩ : ∃ t, l[q] = t := ⟨_, rfl⟩
        obtain ⟨hts0, hts1, htz⟩ := hev q hql
        rw [ht] at E hts0 hts1 htz
        have HEV : Hid (∀ (j : Nat) (h : j < l.length), l[j].size = t.size) := by
          show ∀ j, _
          intro j hj
          rw [(hev j hj).2.2, htz]
        have HT := Lib.hid ht
        have HTT := Lib.hid (H.out.bel hb1)
        have sw := hb1.size
        clear hv hev ht htz
        go_wp2_with (first | (go_at_call 59; (with_reducible refine (l00In_any (q : Int) _ _ _).mono ?_); rintro e w2 ⟨rfl, rfl⟩; rw [hk]) | (go_at_call 59; (with_reducible refine (l00In_any r _ _ _).mono ?_); rintro e w2 ⟨rfl, rfl⟩; rw [hr]))
        clear hk hr k0 k1
        go_loopw [10, 11] (fun v u w' => ∃ (i : Nat) (xs : List Int), u = .int .i64 i ∧ i ≤ n ∧ xs.length ≤ i ∧ w'.ownsRow w1.heap.size 2 1 v xs.length (xs.map (Value.int .i64)) ∧ Hid (xs ++ misF t q r (l.drop i) i = misF t q r l 0) ∧ Below w1.heap.size w1 w') (fun _ u _ => n - (intOf u).toNat)
        case atStart => exact ⟨0, [], rfl, by omega, by simp, own_nil' _ _ _ rfl (Nat.le_refl _), rfl, by go_grown⟩
        case round =>
          obtain ⟨i, xs, rfl, hin, hxi, hown, HX, hbel⟩ := hrel
          have HO := Lib.hid hown
          clear hown
          obtain ⟨A2, c2, rfl⟩ := own_form HO.out
          by_cases hlt : i < n
          · have hil : i < l.length := by rw [← HL.out]; exact hlt
            have hst := misF_step (t := t) (k := q) (r := r) hil
            obtain ⟨b, o, rfl, hblt, hc⟩ := (HTT.out.bel hbel) (by omega)
            have ti := hc i hil
            have tq := hc q hql
            rw [HT.out] at tq
            obtain ⟨s, hs⟩ : ∃ s, l[i] = s := ⟨_, rfl⟩
            have hsz := HEV.out i hil
            rw [hs] at ti hst hsz
            have hs48 : s.size ≤ 1048576 := by omega
            have hsw := hbel.size
            clear hc hs
            by_cases hiq : i = q
            · have HX2 : Hid (xs ++ misF t q r (l.drop (i + 1)) (i + 1) = misF t q r l 0) := by show _ = _; rw [← HX.out, hst, if_neg (fun h => h.1 hiq)]
              have hib : ((i : Int) == (q : Int)) = true := by rw [hiq]; exact beq_self_eq_true _
              have hin2 : ((i : Int) != (q : Int)) = false := by rw [bne, hib]; rfl
              clear hst HX hiq
              go_wp2_with fail
              go_quiet (fail)
              go_wp2_with fail
              go_roundw
              case rel => exact ⟨i + 1, xs, by go_num, by omega, by omega, own_belw HO.out (below_drewN (Below.refl _ _) _), HX2, below_drewN hbel _⟩
              case measure => simp [intOf]; omega
            · have hib : ((i : Int) == (q : Int)) = false := by rw [beq_eq_false_iff_ne]; omega
              have hin2 : ((i : Int) != (q : Int)) = true := by rw [bne, hib]; rfl
              have hf8 := farF_le s t s.size 0
              have hfb : farB s t ≤ 8 := by show farF s t s.size 0 ≤ 8; omega
              by_cases hfr : (farB s t : Int) ≤ r
              · have HX2 : Hid ((xs ++ [(i : Int)]) ++ misF t q r (l.drop (i + 1)) (i + 1) = misF t q r l 0) := by show _ = _; rw [← HX.out, hst, if_pos ⟨hiq, hfr⟩, List.append_assoc]; rfl
                have hfd : decide ((farB s t : Int) ≤ r) = true := decide_eq_true hfr
                clear hst HX hiq
                go_wp2_with fail
                go_quiet (first | (go_at_call 42; exact qN (l05Far_any s t _ hs48 hsz)))
                have hb6 : Below w1.heap.size w1 (wr.drewN nq) := below_drewN hbel _
                have ho6 : (wr.drewN nq).ownsRow w1.heap.size 2 1 (.slice A2 xs.length c2) xs.length (xs.map (Value.int .i64)) := own_belw HO.out (below_drewN (Below.refl _ _) _)
                generalize wr.drewN nq = w6 at *
                have HO6 := Lib.hid ho6
                have s6 := hb6.size
                clear ho6
                go_wp2_with (at_builtin; refine wpList_append_own _ rfl _ _ 39 rfl w1.heap.size 2 i0 (.int .i64 0) 1 8 Try.underlying39 HI.out.1 HI.out.2.1 HI.out.2.2.1 HI.out.2.2.2 rfl (by decide) _ _ _ rfl (HO6.out.alloc _) ⟨w6.heap.size, 0, none⟩ 1 1 [.int .i64 (i : Int)] rfl rfl ?c1 ?c2 ?c3 ?c4 ?c5 ?_)
                try
                  case c1 =>
                    intro j u hu
                    cases j with
                    | zero => simp at hu; subst hu; simp [Addr.add]
                    | succ j => simp at hu
                try case c2 => first | exact ints_oneCell .i64 [(i : Int)] | rfl
                try case c3 => unfold maxLen; omega
                try case c4 => omega
                try case c5 => first | (simp; omega) | omega
                intro v' w4 hown1 hgrow _
                have hown2 : w4.ownsRow w1.heap.size 2 1 v' (xs ++ [(i : Int)]).length ((xs ++ [(i : Int)]).map (Value.int .i64)) := by simpa using hown1
                have HO4 := Lib.hid hown2
                have hb4 : Below w1.heap.size w1 w4 := Below.grown (show Below w1.heap.size w1 _ from hb6.alloc hb6.size _) hgrow (by simp; omega) (fun k hk => by have := (HO6.out.lt k hk).1; omega)
                clear hown1 hown2 hgrow
                go_wp2_with fail
                go_roundw
                case rel => exact ⟨i + 1, xs ++ [(i : Int)], by go_num, by omega, by simp; omega, HO4.out, HX2, hb4⟩
                case measure => simp [intOf]; omega
              · have HX2 : Hid (xs ++ misF t q r (l.drop (i + 1)) (i + 1) = misF t q r l 0) := by show _ = _; rw [← HX.out, hst, if_neg (fun h => hfr h.2)]
                have hfd : decide ((farB s t : Int) ≤ r) = false := decide_eq_false hfr
                have hfe : ((farB s t : Int) ≤ r) = False := eq_false hfr
                clear hst HX hiq
                go_wp2_with fail
                go_quiet (first | (go_at_call 42; exact qN (l05Far_any s t _ hs48 hsz)))
                have hb6 : Below w1.heap.size w1 (wr.drewN nq) := below_drewN hbel _
                have ho6 : (wr.drewN nq).ownsRow w1.heap.size 2 1 (.slice A2 xs.length c2) xs.length (xs.map (Value.int .i64)) := own_belw HO.out (below_drewN (Below.refl _ _) _)
                generalize wr.drewN nq = w6 at *
                have HO6 := Lib.hid ho6
                have s6 := hb6.size
                clear ho6
                go_wp2_with fail
                go_roundw
                case rel => exact ⟨i + 1, xs, by go_num, by omega, by omega, HO6.out, HX2, hb6⟩
                case measure => simp [intOf]; omega
          · have HF : Hid (misF t q r l 0 = xs) := by show _ = _; rw [← HX.out, List.drop_of_length_le (by rw [← HL.out]; omega), misF, List.append_nil]
            go_wp2_with fail
            refine bodyPost_ret (v := .tuple #[.slice A2 xs.length c2, .int .i64 0]) (by simp [results, Try.results34, go_sem]) rfl ?_
            rw [E.out, HF.out]
            exact ⟨A2, c2, rfl, own_base HO.out sw, bel_next hb1 hbel⟩

set_option maxHeartbeats 1000000 in
theorem implMis_any (g : Int) (A : Option Addr) (n c : Nat) (l : List ByteArray) (k r : Int) (w : World) (h : StrsAt w A l) (hl : n = l.length) (hs : SmallS l) (hc : n ≤ c := by omega) :
    Calls Try.prog 35 #[.int .i64 g, .slice A n c, .int .i64 k, .int .i64 r] w (MadeIC w 2 (misR g l k r).1 (misR g l k r).2) := by
  obtain ⟨i0, hi, hz0, hz1, hz2⟩ := info_parts info_int64M
  have HI := Lib.hid (And.intro hi (And.intro hz0 (And.intro hz1 hz2)))
  have hn0 : n ≤ 1048576 := by rw [hl]; exact hs.1
  have HL := Lib.hid hl
  have HS := Lib.hid hs
  have H := Lib.hid h
  clear hl hs h hi hz0 hz1 hz2
  go_enter Try.func35, Try.ntmps35
  go_wp2_with fail
  refine (implValidA_any g A n c l _ H.out HL.out HS.out hc).mono ?_
  rintro e w1 ⟨rfl, hb1⟩
  cases hv : validA g l
  · have E : Hid (misR g l k r = ([], 1)) := by show _ = _; simp [misR, hv]
    clear hv
    go_wp2_with fail
    refine bodyPost_ret (v := .tuple #[.slice none 0 0, .int .i64 1]) (by simp [results, Try.results35, go_sem]) rfl ?_
    rw [E.out]
    exact ⟨none, 0, rfl, own_none _ _ _, hb1⟩
  · obtain ⟨hg0, hg1, hl40, hev⟩ := validA_true hv
    rw [← HL.out] at hl40
    have e0 : IntKind.i64.wrap ((n : Int) - 1) = (n : Int) - 1 := IntWalk.i64_in _ (by omega)
    cases hk : inB k 0 ((n : Int) - 1)
    · have E : Hid (misR g l k r = ([], 2)) := by show _ = _; simp [misR, hv, ← HL.out, hk]
      clear hv hev
      go_wp2_with (first | (go_at_call 60; (with_reducible refine (within_any _ _ _ _).mono ?_); rintro e w2 ⟨rfl, rfl⟩; rw [hk]))
      refine bodyPost_ret (v := .tuple #[.slice none 0 0, .int .i64 2]) (by simp [results, Try.results35, go_sem]) rfl ?_
      rw [E.out]
      exact ⟨none, 0, rfl, own_none _ _ _, hb1⟩
    · obtain ⟨k0, k1⟩ := inB_true hk
      cases hr : inB r 0 8
      · have E : Hid (misR g l k r = ([], 2)) := by show _ = _; simp [misR, hv, ← HL.out, hk, hr]
        clear hv hev
        go_wp2_with (first | (go_at_call 60; (with_reducible refine (within_any k _ _ _).mono ?_); rintro e w2 ⟨rfl, rfl⟩; rw [hk]) | (go_at_call 60; (with_reducible refine (within_any r _ _ _).mono ?_); rintro e w2 ⟨rfl, rfl⟩; rw [hr]))
        refine bodyPost_ret (v := .tuple #[.slice none 0 0, .int .i64 2]) (by simp [results, Try.results35, go_sem]) rfl ?_
        rw [E.out]
        exact ⟨none, 0, rfl, own_none _ _ _, hb1⟩
      · obtain ⟨r0, r1⟩ := inB_true hr
        obtain ⟨q, rfl⟩ : ∃ q : Nat, k = q := ⟨k.toNat, by omega⟩
        have hql : q < l.length := by rw [← HL.out]; omega
        have hqn : q < n := by omega
        have E : Hid (misR g l q r = (misF (strAt l q) q r l 0, 0)) := by show _ = _; unfold misR; rw [if_pos hv, ← HL.out, if_pos (by rw [hk, hr]; rfl), Int.toNat_natCast]
        rw [strAt_eq hql] at E
        obtain ⟨t, ht⟩ : ∃ t, l[q] = t := ⟨_, rfl⟩
        obtain ⟨hts0, hts1, htz⟩ := hev q hql
        rw [ht] at E hts0 hts1 htz
        have HEV : Hid (∀ (j : Nat) (h : j < l.length), l[j].size = t.size) := by
          show ∀ j, _
          intro j hj
          rw [(hev j hj).2.2, htz]
        have HT := Lib.hid ht
        have HTT := Lib.hid (H.out.bel hb1)
        have sw := hb1.size
        clear hv hev ht htz
        go_wp2_with (first | (go_at_call 60; (with_reducible refine (within_any (q : Int) _ _ _).mono ?_); rintro e w2 ⟨rfl, rfl⟩; rw [hk]) | (go_at_call 60; (with_reducible refine (within_any r _ _ _).mono ?_); rintro e w2 ⟨rfl, rfl⟩; rw [hr]))
        clear hk hr k0 k1
        go_loopw [10, 33] (fun v u w' => ∃ (i : Nat) (xs : List Int), u = .int .i64 i ∧ i ≤ n ∧ xs.length ≤ i ∧ w'.ownsRow w1.heap.size 2 1 v xs.length (xs.map (Value.int .i64)) ∧ Hid (xs ++ misF t q r (l.drop i) i = misF t q r l 0) ∧ Below w1.heap.size w1 w') (fun _ u _ => n - (intOf u).toNat)
        case atStart => exact ⟨0, [], rfl, by omega, by simp, own_nil' _ _ _ rfl (Nat.le_refl _), rfl, by go_grown⟩
        case round =>
          obtain ⟨i, xs, rfl, hin, hxi, hown, HX, hbel⟩ := hrel
          have HO := Lib.hid hown
          clear hown
          obtain ⟨A2, c2, rfl⟩ := own_form HO.out
          by_cases hlt : i < n
          · have hil : i < l.length := by rw [← HL.out]; exact hlt
            have hst := misF_step (t := t) (k := q) (r := r) hil
            obtain ⟨b, o, rfl, hblt, hc⟩ := (HTT.out.bel hbel) (by omega)
            have ti := hc i hil
            have tq := hc q hql
            rw [HT.out] at tq
            obtain ⟨s, hs⟩ : ∃ s, l[i] = s := ⟨_, rfl⟩
            have hsz := HEV.out i hil
            rw [hs] at ti hst hsz
            have hs48 : s.size ≤ 1048576 := by omega
            have hsw := hbel.size
            clear hc hs
            by_cases hiq : i = q
            · have HX2 : Hid (xs ++ misF t q r (l.drop (i + 1)) (i + 1) = misF t q r l 0) := by show _ = _; rw [← HX.out, hst, if_neg (fun h => h.1 hiq)]
              have hib : ((i : Int) == (q : Int)) = true := by rw [hiq]; exact beq_self_eq_true _
              have hin2 : ((i : Int) != (q : Int)) = false := by rw [bne, hib]; rfl
              clear hst HX hiq
              go_wp2_with fail
              
              go_roundw
              case rel => exact ⟨i + 1, xs, by go_num, by omega, by omega, HO.out, HX2, hbel⟩
              case measure => simp [intOf]; omega
            · have hib : ((i : Int) == (q : Int)) = false := by rw [beq_eq_false_iff_ne]; omega
              have hin2 : ((i : Int) != (q : Int)) = true := by rw [bne, hib]; rfl
              have hf8 := farF_le s t s.size 0
              have hfb : farB s t ≤ 8 := by show farF s t s.size 0 ≤ 8; omega
              by_cases hfr : (farB s t : Int) ≤ r
              · have HX2 : Hid ((xs ++ [(i : Int)]) ++ misF t q r (l.drop (i + 1)) (i + 1) = misF t q r l 0) := by show _ = _; rw [← HX.out, hst, if_pos ⟨hiq, hfr⟩, List.append_assoc]; rfl
                have hfd : decide ((farB s t : Int) ≤ r) = true := decide_eq_true hfr
                clear hst HX hiq
                go_wp2_with fail
                refine (distance_any s t _ hs48 hsz).mono ?_
                rintro e w5 ⟨rfl, m1, rfl⟩
                have hb6 : Below w1.heap.size w1 (wr.drewN m1) := below_drewN hbel _
                have ho6 : (wr.drewN m1).ownsRow w1.heap.size 2 1 (.slice A2 xs.length c2) xs.length (xs.map (Value.int .i64)) := own_belw HO.out (below_drewN (Below.refl _ _) _)
                generalize wr.drewN m1 = w6 at *
                have HO6 := Lib.hid ho6
                have s6 := hb6.size
                clear ho6
                go_wp2_with (at_builtin; refine wpList_append_own _ rfl _ _ 39 rfl w1.heap.size 2 i0 (.int .i64 0) 1 8 Try.underlying39 HI.out.1 HI.out.2.1 HI.out.2.2.1 HI.out.2.2.2 rfl (by decide) _ _ _ rfl (HO6.out.alloc _) ⟨w6.heap.size, 0, none⟩ 1 1 [.int .i64 (i : Int)] rfl rfl ?c1 ?c2 ?c3 ?c4 ?c5 ?_)
                try
                  case c1 =>
                    intro j u hu
                    cases j with
                    | zero => simp at hu; subst hu; simp [Addr.add]
                    | succ j => simp at hu
                try case c2 => first | exact ints_oneCell .i64 [(i : Int)] | rfl
                try case c3 => unfold maxLen; omega
                try case c4 => omega
                try case c5 => first | (simp; omega) | omega
                intro v' w4 hown1 hgrow _
                have hown2 : w4.ownsRow w1.heap.size 2 1 v' (xs ++ [(i : Int)]).length ((xs ++ [(i : Int)]).map (Value.int .i64)) := by simpa using hown1
                have HO4 := Lib.hid hown2
                have hb4 : Below w1.heap.size w1 w4 := Below.grown (show Below w1.heap.size w1 _ from hb6.alloc hb6.size _) hgrow (by simp; omega) (fun k hk => by have := (HO6.out.lt k hk).1; omega)
                clear hown1 hown2 hgrow
                go_wp2_with fail
                go_roundw
                case rel => exact ⟨i + 1, xs ++ [(i : Int)], by go_num, by omega, by simp; omega, HO4.out, HX2, hb4⟩
                case measure => simp [intOf]; omega
              · have HX2 : Hid (xs ++ misF t q r (l.drop (i + 1)) (i + 1) = misF t q r l 0) := by show _ = _; rw [← HX.out, hst, if_neg (fun h => hfr h.2)]
                have hfd : decide ((farB s t : Int) ≤ r) = false := decide_eq_false hfr
                have hfe : ((farB s t : Int) ≤ r) = False := eq_false hfr
                clear hst HX hiq
                go_wp2_with fail
                refine (distance_any s t _ hs48 hsz).mono ?_
                rintro e w5 ⟨rfl, m1, rfl⟩
                have hb6 : Below w1.heap.size w1 (wr.drewN m1) := below_drewN hbel _
                have ho6 : (wr.drewN m1).ownsRow w1.heap.size 2 1 (.slice A2 xs.length c2) xs.length (xs.map (Value.int .i64)) := own_belw HO.out (below_drewN (Below.refl _ _) _)
                generalize wr.drewN m1 = w6 at *
                have HO6 := Lib.hid ho6
                have s6 := hb6.size
                clear ho6
                go_wp2_with fail
                go_roundw
                case rel => exact ⟨i + 1, xs, by go_num, by omega, by omega, HO6.out, HX2, hb6⟩
                case measure => simp [intOf]; omega
          · have HF : Hid (misF t q r l 0 = xs) := by show _ = _; rw [← HX.out, List.drop_of_length_le (by rw [← HL.out]; omega), misF, List.append_nil]
            go_wp2_with fail
            refine bodyPost_ret (v := .tuple #[.slice A2 xs.length c2, .int .i64 0]) (by simp [results, Try.results35, go_sem]) rfl ?_
            rw [E.out, HF.out]
            exact ⟨A2, c2, rfl, own_base HO.out sw, bel_next hb1 hbel⟩

end Go.Proofs.Ytfhmmebciikgeaa
