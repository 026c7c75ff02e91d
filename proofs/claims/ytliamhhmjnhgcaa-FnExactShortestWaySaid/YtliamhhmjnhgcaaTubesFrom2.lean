/-
  CONTRACTS: TubesFrom, the specification's and the program's.
-/
import Derived.Test.YtliamhhmjnhgcaaTubesFrom
import Derived.Test.YtliamhhmjnhgcaaNetCode
import Derived.Test.YtliamhhmjnhgcaaAid
namespace Go.Proofs.Ytliamhhmjnhgcaa
open Go.RowKit

/-- The call returns a slice of its own that reads as a list of integers, and a code. -/
def MadeIC (w : World) (t : TypeId) (xs : List Int) (k : Int) (e : Ending) (w' : World) : Prop :=
  ∃ A c, e = .returned (.tuple #[.slice A xs.length c, .int .i64 k]) ∧ w'.ownsRow w.heap.size t 1 (.slice A xs.length c) xs.length (xs.map (Value.int .i64)) ∧ Below w.heap.size w w'
theorem own_none (w : World) (base : Nat) (t : TypeId) : w.ownsRow base t 1 (.slice none 0 0) 0 (([] : List Int).map (Value.int .i64)) := ⟨by simp, .inl ⟨rfl, rfl⟩⟩

theorem own_base {w : World} {base base' n size : Nat} {t : TypeId} {v : Value} {xs : List Value} (h : w.ownsRow base' t size v n xs) (hb : base ≤ base') : w.ownsRow base t size v n xs := by
  refine ⟨h.1, ?_⟩
  rcases h.2 with hn | ⟨g, cap, cur, hv, hg, rest⟩
  · exact .inl hn
  · exact .inr ⟨g, cap, cur, hv, Nat.le_trans hb hg, rest⟩

def tubesRes (S : Int) (l : List Tb) (st : Int) : List Int × Int := if codeN S l [st] = 0 then (fromI st l 0, 0) else ([], codeN S l [st])

set_option maxHeartbeats 2000000 in
theorem implTubesFrom_any (S : Int) (A : Option Addr) (n c : Nat) (l : List Tb) (st : Int) (w : World) (h : TubesAt w A l) (hl : n = l.length) (hn0 : n ≤ 1048576) :
    Calls Try.prog 27 #[.agg #[.int .i64 S, .slice A n c], .int .i64 st] w (MadeIC w 2 (tubesRes S l st).1 (tubesRes S l st).2) := by
  have HL := Lib.hid hl
  have H := Lib.hid h
  clear hl h
  go_enter Try.func27, Try.ntmps27
  go_wp2_with fail
  refine (netCode_any S A n c l _ 1 1 [st] _ ((H.out.alloc _).alloc _) HL.out hn0 (IntsAt.new _ _ [st] (by simp)) rfl (by omega)).mono ?_
  rintro e w1 ⟨rfl, hb1⟩
  have D1 : Below w.heap.size w w1 := Below.trans (by go_grown) (hb1.mono (by simp only [World.size_alloc]; omega))
  have N1 : Hid (Blk w1 w.heap.size 29 #[.int .i64 S, .slice A n c]) := bel_blk ((Blk.new _ _ _).alloc _) hb1
  obtain ⟨a0, a1, -⟩ := N1.out.c2
  have s1 := N1.out.lt
  clear hb1
  obtain ⟨k, hk⟩ : ∃ k, codeN S l [st] = k := ⟨_, rfl⟩
  rw [hk]
  by_cases h0 : k = 0
  · subst h0
    have E : Hid (tubesRes S l st = (fromI st l 0, 0)) := by show _ = _; unfold tubesRes; rw [if_pos hk]
    clear hk
    go_wp2_with fail
    refine (tubesFrom_any S A n c l st _ (H.out.bel D1) HL.out hn0).mono ?_
    rintro e w2 ⟨A2, c2, rfl, hown, hb2⟩
    have HO := Lib.hid hown
    clear hown
    go_wp2_with fail
    refine bodyPost_ret (v := .tuple #[.slice A2 (fromI st l 0).length c2, .int .i64 0]) (by simp [results, Try.results27, go_sem]) rfl ?_
    rw [E.out]
    refine ⟨A2, c2, rfl, ?_, bel_next D1 hb2⟩
    exact own_base HO.out D1.size
  · have E : Hid (tubesRes S l st = ([], k)) := by show _ = _; unfold tubesRes; rw [if_neg (by rw [hk]; exact h0), hk]
    clear hk
    go_wp2_with fail
    refine bodyPost_ret (v := .tuple #[.slice none 0 0, .int .i64 k]) (by simp [results, Try.results27, go_sem]) rfl ?_
    rw [E.out]
    exact ⟨none, 0, rfl, own_none _ _ _, D1⟩


set_option maxHeartbeats 4000000 in
theorem specTubesFrom_any (S : Int) (A : Option Addr) (n c : Nat) (l : List Tb) (st : Int) (w : World) (h : TubesAt w A l) (hl : n = l.length) (hn0 : n ≤ 1048576) :
    Calls Try.prog 26 #[.agg #[.int .i64 S, .slice A n c], .int .i64 st] w (MadeIC w 2 (tubesRes S l st).1 (tubesRes S l st).2) := by
  obtain ⟨i0, hi, hz0, hz1, hz2⟩ := info_parts info_int64'
  have HI := Lib.hid (And.intro hi (And.intro hz0 (And.intro hz1 hz2)))
  have HL := Lib.hid hl
  have H := Lib.hid h
  clear hl h hi hz0 hz1 hz2
  go_enter Try.func26, Try.ntmps26
  go_wp2_with fail
  refine (l02Code_any _ S A n c l st st _ (NetAt.box H.out _) HL.out hn0).mono ?_
  rintro e w1 ⟨rfl, hb1⟩
  have D1 : Below w.heap.size w w1 := Below.trans (by go_grown) (hb1.mono (by simp))
  have N1 : NetAt w1 w.heap.size S A n c l := (NetAt.box H.out _).bel hb1
  clear hb1
  rw [codeN_twice]
  obtain ⟨k, hk⟩ : ∃ k, codeN S l [st] = k := ⟨_, rfl⟩
  rw [hk]
  by_cases h0 : k = 0
  · subst h0
    have E : Hid (tubesRes S l st = (fromI st l 0, 0)) := by show _ = _; unfold tubesRes; rw [if_pos hk]
    clear hk
    obtain ⟨a0, a1, HT⟩ := N1
    have H1 := Lib.hid HT
    clear HT
    have s1 := cell_lt a1
    go_wp2_with fail
    go_loopw [7, 8] (fun v u w' => ∃ (i : Nat) (xs : List Int), u = .int .i64 i ∧ i ≤ n ∧ xs.length ≤ i ∧ w'.ownsRow w1.heap.size 2 1 v xs.length (xs.map (Value.int .i64)) ∧ Hid (xs ++ fromI st (l.drop i) i = fromI st l 0) ∧ Below w1.heap.size w1 w') (fun _ u _ => n - (intOf u).toNat)
    case atStart =>
      refine ⟨0, [], rfl, by omega, by simp, ?_, rfl, by go_grown⟩
      exact own_nil _ _ _ rfl (Nat.le_refl _)
    case round =>
      obtain ⟨i, xs, rfl, hin, hxi, hown, HS, hbel⟩ := hrel
      have m0 := bel_cell hbel a0
      have m1 := bel_cell hbel a1
      have hsz := hbel.size
      by_cases hlt : i < n
      · obtain ⟨b', o, rfl, hblt, hc⟩ := H1.out (by rw [← HL.out]; omega)
        have hil : i < l.length := by rw [← HL.out]; exact hlt
        obtain ⟨t0, t1, t2⟩ := (hc i hil).bel hbel
        clear hc
        have hd := fromI_step (st := st) hil
        have HO := Lib.hid hown
        clear hown
        by_cases hv : l[i].1 = st
        · have HS2 : Hid ((xs ++ [(i : Int)]) ++ fromI st (l.drop (i + 1)) (i + 1 : Nat) = fromI st l 0) := by show _ = _; rw [← HS.out, hd, if_pos hv, List.append_assoc]; rfl
          have hb : (l[i].1 == st) = true := by simpa using hv
          clear hd hv HS
          go_wp2_with (at_builtin; refine wpList_append_own _ rfl _ _ 42 rfl w1.heap.size 2 i0 (.int .i64 0) 1 8 Try.underlying42 HI.out.1 HI.out.2.1 HI.out.2.2.1 HI.out.2.2.2 rfl (by decide) _ _ _ rfl (HO.out.alloc _) ⟨wr.heap.size, 0, none⟩ 1 1 [.int .i64 (i : Int)] rfl rfl ?c1 ?c2 ?c3 ?c4 ?c5 ?_)
          case c1 =>
            intro j u hu
            cases j with
            | zero => simp at hu; subst hu; simp [Addr.add]
            | succ j => simp at hu
          case c2 => exact ints_oneCell .i64 [(i : Int)]
          case c3 => unfold maxLen; omega
          case c4 => omega
          case c5 => simp; omega
          intro v' w2 hown1 hgrow _
          have hown2 : w2.ownsRow w1.heap.size 2 1 v' (xs ++ [(i : Int)]).length ((xs ++ [(i : Int)]).map (Value.int .i64)) := by simpa using hown1
          have HO2 := Lib.hid hown2
          have hb2 : Below w1.heap.size w1 w2 := Below.grown (by go_grown) hgrow (by simp; omega) (fun k hk => (HO.out.lt k hk).1)
          clear hown1 hown2 hgrow HO
          go_wp2_with fail
          go_roundw
          case rel => exact ⟨i + 1, xs ++ [(i : Int)], by go_num, by omega, by simp; omega, HO2.out, HS2, hb2⟩
          case measure => simp [intOf]; omega
        · have HS2 : Hid (xs ++ fromI st (l.drop (i + 1)) (i + 1 : Nat) = fromI st l 0) := by show _ = _; rw [← HS.out, hd, if_neg hv]
          have hb : (l[i].1 == st) = false := by simpa using hv
          clear hd hv HS
          go_wp2_with fail
          go_roundw
          case rel => exact ⟨i + 1, xs, by go_num, by omega, by omega, HO.out, HS2, hbel⟩
          case measure => simp [intOf]; omega
      · have HS2 : Hid (xs = fromI st l 0) := by
          show _ = _; rw [← HS.out, List.drop_of_length_le (by rw [← HL.out]; omega)]; simp [fromI]
        obtain ⟨A', c', rfl⟩ := own_form hown
        have HO := Lib.hid hown
        clear hown
        go_wp2_with fail
        refine bodyPost_ret (v := .tuple #[.slice A' xs.length c', .int .i64 0]) (by simp [results, Try.results26, go_sem]) rfl ?_
        rw [E.out, ← HS2.out]
        exact ⟨A', c', rfl, own_base HO.out D1.size, bel_next D1 hbel⟩
  · have E : Hid (tubesRes S l st = ([], k)) := by show _ = _; unfold tubesRes; rw [if_neg (by rw [hk]; exact h0), hk]
    clear hk
    go_wp2_with fail
    refine bodyPost_ret (v := .tuple #[.slice none 0 0, .int .i64 k]) (by simp [results, Try.results26, go_sem]) rfl ?_
    rw [E.out]
    exact ⟨none, 0, rfl, own_none _ _ _, D1⟩

theorem fromI_le (st : Int) : ∀ (l : List Tb) (k : Int), (fromI st l k).length ≤ l.length
  | [], _ => Nat.le_refl _
  | t :: ts, k => by
    have := fromI_le st ts (k + 1)
    rw [fromI]
    split <;> simp <;> omega
theorem tubesRes_len {S st : Int} {l : List Tb} {n : Nat} (hl : n = l.length) (hn : n ≤ 1048576) : (tubesRes S l st).1.length ≤ 1048576 := by
  unfold tubesRes
  split
  · have := fromI_le st l 0
    show (fromI st l 0).length ≤ _
    omega
  · simp

end Go.Proofs.Ytliamhhmjnhgcaa
