/-
  CONTRACT: the tubes that begin at a station.
-/
import Derived.Test.YtlebkjkiikehhaaNetV
namespace Go.Proofs.Ytlebkjkiikehhaa
open Go.RowKit

/-- The places, from k on, of the tubes that begin at a station. -/
def fromI (st : Int) : List Tb → Int → List Int
  | [], _ => []
  | t :: ts, k => if t.1 = st then k :: fromI st ts (k + 1) else fromI st ts (k + 1)
theorem fromI_step {st : Int} {l : List Tb} {i : Nat} (h : i < l.length) : fromI st (l.drop i) i = (if l[i].1 = st then (i : Int) :: fromI st (l.drop (i + 1)) (i + 1 : Nat) else fromI st (l.drop (i + 1)) (i + 1 : Nat)) := by
  rw [drop_at' h, fromI]
  rfl

/-- A fresh empty slice owns its row. -/
theorem own_nil (w : World) (t : TypeId) (base : Nat) {g : Nat} (hg : g = w.heap.size) (hb : base ≤ w.heap.size) : (w.alloc (.cells #[] t)).ownsRow base t 1 (.slice (some ⟨g, 0, none⟩) 0 0) 0 [] := by
  subst hg
  have := World.ownsRow_lit (base := base) (e := t) (size := 1) w #[] 0 hb (by unfold maxLen; omega) rfl
  simpa using this

theorem info_int64' : (Try.prog.info? 2).map (fun i => (i.zero, i.size, i.bytes)) = some (some (.int .i64 0), 1, 8) := by kernel_rfl

set_option maxHeartbeats 2000000 in
theorem tubesFrom_any (S : Int) (A : Option Addr) (n c : Nat) (l : List Tb) (st : Int) (w : World) (h : TubesAt w A l) (hl : n = l.length) (hn0 : n ≤ 1048576) :
    Calls Try.prog 109 #[.agg #[.int .i64 S, .slice A n c], .int .i64 st] w (MadeI w 2 (fromI st l 0)) := by
  obtain ⟨i0, hi, hz0, hz1, hz2⟩ := info_parts info_int64'
  have HI := Lib.hid (And.intro hi (And.intro hz0 (And.intro hz1 hz2)))
  have HL := Lib.hid hl
  have H := Lib.hid h
  clear hl h hi hz0 hz1 hz2
  go_enter Try.func109, Try.ntmps109
  go_wp2_with fail
  go_loopw [5, 12] (fun v u w' => ∃ (i : Nat) (xs : List Int), u = .int .i64 i ∧ i ≤ n ∧ xs.length ≤ i ∧ w'.ownsRow w.heap.size 2 1 v xs.length (xs.map (Value.int .i64)) ∧ Hid (xs ++ fromI st (l.drop i) i = fromI st l 0) ∧ Below w.heap.size w w') (fun _ u _ => n - (intOf u).toNat)
  case atStart =>
    refine ⟨0, [], rfl, by omega, by simp, ?_, rfl, by go_grown⟩
    exact own_nil _ _ _ (by simp) (by simp only [World.size_alloc]; omega)
  case round =>
    obtain ⟨i, xs, rfl, hin, hxi, hown, HS, hbel⟩ := hrel
    by_cases hlt : i < n
    · obtain ⟨b', o, rfl, hblt, hc⟩ := H.out (by rw [← HL.out]; omega)
      have hil : i < l.length := by rw [← HL.out]; exact hlt
      obtain ⟨t0, t1, t2⟩ := (hc i hil).bel hbel
      clear hc
      have hd := fromI_step (st := st) hil
      have HO := Lib.hid hown
      have hsz := hbel.size
      clear hown
      by_cases hv : l[i].1 = st
      · have HS2 : Hid ((xs ++ [(i : Int)]) ++ fromI st (l.drop (i + 1)) (i + 1 : Nat) = fromI st l 0) := by show _ = _; rw [← HS.out, hd, if_pos hv, List.append_assoc]; rfl
        have hb : (l[i].1 == st) = true := by simpa using hv
        clear hd hv HS
        go_wp2_with (at_builtin; refine wpList_append_own _ rfl _ _ 39 rfl w.heap.size 2 i0 (.int .i64 0) 1 8 Try.underlying39 HI.out.1 HI.out.2.1 HI.out.2.2.1 HI.out.2.2.2 rfl (by decide) _ _ _ rfl ((HO.out.alloc _).alloc _) ⟨wr.heap.size + 1, 0, none⟩ 1 1 [.int .i64 (i : Int)] rfl rfl ?c1 ?c2 ?c3 ?c4 ?c5 ?_)
        case c1 =>
          intro j u hu
          cases j with
          | zero => simp at hu; subst hu; simp [Addr.add]
          | succ j => simp at hu
        case c2 => exact ints_oneCell .i64 [(i : Int)]
        case c3 => unfold maxLen; omega
        case c4 => omega
        case c5 => simp; omega
        intro v' w1 hown1 hgrow _
        have hown2 : w1.ownsRow w.heap.size 2 1 v' (xs ++ [(i : Int)]).length ((xs ++ [(i : Int)]).map (Value.int .i64)) := by simpa using hown1
        have HO2 := Lib.hid hown2
        have hb2 : Below w.heap.size w w1 := Below.grown (by go_grown) hgrow (by simp; omega) (fun k hk => (HO.out.lt k hk).1)
        clear hown1 hown2 hgrow HO
        go_wp2_with fail
        go_roundw
        case rel => exact ⟨i + 1, xs ++ [(i : Int)], by go_num, by omega, by simp; omega, HO2.out, HS2, hb2⟩
        case measure => simp [intOf]; omega
      · have HS2 : Hid (xs ++ fromI st (l.drop (i + 1)) (i + 1 : Nat) = fromI st l 0) := by show _ = _; rw [← HS.out, hd, if_neg hv]
        have hb : (l[i].1 == st) = false := by simpa using hv
        clear hd hv HS
        go_wp2_with fail
        go_roundw
        case rel => exact ⟨i + 1, xs, by go_num, by omega, by omega, HO.out.alloc _, HS2, by go_grown⟩
        case measure => simp [intOf]; omega
    · have HS2 : Hid (xs = fromI st l 0) := by
        show _ = _; rw [← HS.out, List.drop_of_length_le (by rw [← HL.out]; omega)]; simp [fromI]
      obtain ⟨A', c', rfl⟩ := own_form hown
      have HO := Lib.hid hown
      clear hown
      go_wp2_with fail
      go_ret
      rw [← HS2.out]
      exact ⟨A', c', rfl, HO.out, hbel⟩

end Go.Proofs.Ytlebkjkiikehhaa
