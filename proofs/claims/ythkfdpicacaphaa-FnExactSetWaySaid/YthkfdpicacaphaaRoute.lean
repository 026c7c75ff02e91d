/-
  CONTRACTS: how a carrier runs, the specification's and the program's (printed by tools/gen_route.py).
-/
import Derived.Test.YthkfdpicacaphaaSet
namespace Go.Proofs.Ythkfdpicacaphaa
open Go.RowKit

/-- The call returns a slice of its own that reads as a list of integers, and a code. -/
def MadeIC (w : World) (t : TypeId) (xs : List Int) (k : Int) (e : Ending) (w' : World) : Prop :=
  ∃ A c, e = .returned (.tuple #[.slice A xs.length c, .int .i64 k]) ∧ w'.ownsRow w.heap.size t 1 (.slice A xs.length c) xs.length (xs.map (Value.int .i64)) ∧ Below w.heap.size w w'
theorem own_none (w : World) (base : Nat) (t : TypeId) : w.ownsRow base t 1 (.slice none 0 0) 0 (([] : List Int).map (Value.int .i64)) := ⟨by simp, .inl ⟨rfl, rfl⟩⟩
theorem own_base {w : World} {base base' n size : Nat} {t : TypeId} {v : Value} {xs : List Value} (h : w.ownsRow base' t size v n xs) (hb : base ≤ base') : w.ownsRow base t size v n xs := by
  refine ⟨h.1, ?_⟩
  rcases h.2 with hn | ⟨g, cap, cur, hv, hg, rest⟩
  · exact .inl hn
  · exact .inr ⟨g, cap, cur, hv, Nat.le_trans hb hg, rest⟩
theorem own_bel {w w' : World} {base n size : Nat} {t : TypeId} {v : Value} {xs : List Value} (h : w.ownsRow base t size v n xs) (hb : Below w.heap.size w w') : w'.ownsRow base t size v n xs := by
  refine ⟨h.1, ?_⟩
  rcases h.2 with hn | ⟨g, cap, cur, hv, hg, hB, rest⟩
  · exact .inl hn
  · exact .inr ⟨g, cap, cur, hv, hg, bel_blk (t := t) hB hb, rest⟩

/-- Where the tube that is set for a station leads. -/
def nx (l : List Tb) (st : List Int) (a : Nat) : Nat := (tbAt l (stAt st a).toNat).2.1.toNat
def lenV : Value → Nat
  | .slice _ n _ => n
  | _ => 0
/-- A carrier runs until it stops or is at a station. -/
def runF (l : List Tb) (st : List Int) (gl : Int) : Nat → Nat → List Int → List Int × Int
  | 0, a, xs => if (a : Int) = gl ∨ stAt st a < 0 then (xs, a) else ([], -1)
  | k + 1, a, xs => if (a : Int) = gl ∨ stAt st a < 0 then (xs, a) else runF l st gl k (nx l st a) (xs ++ [stAt st a])
theorem runF_stop {l : List Tb} {st : List Int} {gl : Int} {k a : Nat} {xs : List Int} (h : (a : Int) = gl ∨ stAt st a < 0) : runF l st gl k a xs = (xs, (a : Int)) := by
  cases k with
  | zero => rw [runF, if_pos h]
  | succ k => rw [runF, if_pos h]
theorem runF_clash {l : List Tb} {st : List Int} {gl : Int} {a : Nat} {xs : List Int} (h : ¬((a : Int) = gl ∨ stAt st a < 0)) : runF l st gl 0 a xs = ([], -1) := by rw [runF, if_neg h]
theorem runF_on {l : List Tb} {st : List Int} {gl : Int} {k a : Nat} {xs : List Int} (h : ¬((a : Int) = gl ∨ stAt st a < 0)) : runF l st gl (k + 1) a xs = runF l st gl k (nx l st a) (xs ++ [stAt st a]) := by rw [runF, if_neg h]
theorem runF_len (l : List Tb) (st : List Int) (gl : Int) : ∀ (k a : Nat) (xs : List Int), (runF l st gl k a xs).1.length ≤ xs.length + k
  | 0, a, xs => by rw [runF]; split <;> simp
  | k + 1, a, xs => by
    rw [runF]
    split
    · show xs.length ≤ _; omega
    · have := runF_len l st gl k (nx l st a) (xs ++ [stAt st a])
      simp at this
      omega
/-- What a valid setting says of a station whose switch is set. -/
theorem nx_ok {S : Int} {l : List Tb} {st : List Int} (h : setOK S l st = true) {a : Nat} (ha : a < st.length) (h0 : 0 ≤ st[a]) : ∃ q : Nat, ∃ hq : q < l.length, st[a] = q ∧ 0 ≤ l[q].2.1 ∧ l[q].2.1 < S ∧ nx l st a = l[q].2.1.toNat := by
  obtain ⟨hv, hl, hs⟩ := setOK_true h
  rcases hs a ha with h1 | ⟨h1, h2, h3⟩
  · omega
  · obtain ⟨q, hq⟩ : ∃ q : Nat, st[a] = q := ⟨st[a].toNat, by omega⟩
    have hql : q < l.length := by omega
    have hva := validN_at (validN_true hv).2.2.2 hql
    simp only [validTube, Bool.and_eq_true] at hva
    have := inB_true hva.1.1.2
    refine ⟨q, hql, hq, by omega, by omega, ?_⟩
    unfold nx
    rw [stAt_eq ha, hq, Int.toNat_natCast, tbAt_eq hql]

theorem info_int64F : (Try.prog.info? 2).map (fun i => (i.zero, i.size, i.bytes)) = some (some (.int .i64 0), 1, 8) := by kernel_rfl

set_option maxHeartbeats 4000000 in
theorem l04Run_any (b : Nat) (S : Int) (A : Option Addr) (n c : Nat) (l : List Tb) (A' : Option Addr) (n' c' : Nat) (st : List Int) (fr : Nat) (gl : Int) (w : World) (h : NetAt w b S A n c l) (hl : n = l.length) (h' : IntsAt w A' st) (hl' : n' = st.length) (hv : setOK S l st = true) (hf : (fr : Int) < S) :
    Calls Try.prog 48 #[.pointer (some ⟨b, 0, none⟩), .slice A' n' c', .int .i64 fr, .int .i64 gl] w (MadeIC w 2 (runF l st gl (S.toNat + 1) fr []).1 (runF l st gl (S.toNat + 1) fr []).2) := by
  obtain ⟨i0, hi, hz0, hz1, hz2⟩ := info_parts info_int64F
  have HI := Lib.hid (And.intro hi (And.intro hz0 (And.intro hz1 hz2)))
  have HL := Lib.hid hl
  have HL' := Lib.hid hl'
  have H' := Lib.hid h'
  obtain ⟨a0, a1, hts⟩ := h
  have H := Lib.hid hts
  have HV := Lib.hid hv
  obtain ⟨hvn, hsl, -⟩ := setOK_true hv
  obtain ⟨v0, v1, v2, -⟩ := validN_true hvn
  obtain ⟨s, rfl⟩ : ∃ s : Nat, S = s := ⟨S.toNat, by omega⟩
  rw [Int.toNat_natCast]
  have hn's : s = n' := by rw [hl']; omega
  subst hn's
  have hs10 : s ≤ 10 := by omega
  have hfs : fr < s := by omega
  have bw := cell_lt a0
  clear hl h' hl' hts hv hi hz0 hz1 hz2 hsl hvn v0 v1 v2 hf
  obtain ⟨rx, HX⟩ : ∃ r, Hid (runF l st gl (s + 1) fr [] = r) := ⟨_, rfl⟩
  rw [HX.out]
  go_enter Try.func48, Try.ntmps48
  go_wp2_with fail
  go_loopw [10, 11] (fun v u w' => ∃ (a k : Nat) (xs : List Int), u = .int .i64 a ∧ a < s ∧ xs.length + k = s + 1 ∧ w'.ownsRow w.heap.size 2 1 v xs.length (xs.map (Value.int .i64)) ∧ Hid (runF l st gl k a xs = rx) ∧ Below w.heap.size w w') (fun v _ _ => s + 2 - lenV v)
  case atStart => exact ⟨fr, s + 1, [], rfl, hfs, by simp, own_nil' _ _ _ rfl (Nat.le_refl _), HX, by go_grown⟩
  case round =>
    clear HX hfs
    obtain ⟨a, k, xs, rfl, has, hxk, hown, HX, hbel⟩ := hrel
    have hsz := hbel.size
    have b0 := bel_cell hbel a0
    have b1 := bel_cell hbel a1
    have HO := Lib.hid hown
    clear hown
    have hal : a < st.length := by rw [← HL'.out]; omega
    obtain ⟨b', o, rfl, hblt, hc⟩ := (H'.out.bel hbel) (by omega)
    have t0 := hc a hal
    have hst : stAt st a = st[a] := stAt_eq hal
    obtain ⟨x, hx⟩ : ∃ x, st[a] = x := ⟨_, rfl⟩
    rw [hx] at t0 hst
    have HC := Lib.hid hc
    clear hc
    obtain ⟨A1, cc, rfl⟩ := own_form HO.out
    by_cases hgl : (a : Int) = gl
    · have hr : runF l st gl k a xs = (xs, (a : Int)) := runF_stop (.inl hgl)
      have HR : Hid (rx = (xs, (a : Int))) := by show _ = _; rw [← HX.out, hr]
      subst hgl
      clear hr hst hx
      go_wp2_with fail
      refine bodyPost_ret (v := .tuple #[.slice A1 xs.length cc, .int .i64 a]) (by simp [results, Try.results48, go_sem]) rfl ?_
      rw [HR.out]
      exact ⟨A1, cc, rfl, HO.out, hbel⟩
    · have hgb : ((a : Int) == gl) = false := by simpa using hgl
      have hgn : ((a : Int) != gl) = true := by simpa using hgl
      by_cases hx0 : x < 0
      · have hr : runF l st gl k a xs = (xs, (a : Int)) := runF_stop (.inr (by rw [hst]; exact hx0))
        have HR : Hid (rx = (xs, (a : Int))) := by show _ = _; rw [← HX.out, hr]
        clear hr hst hx
        go_wp2_with fail
        refine bodyPost_ret (v := .tuple #[.slice A1 xs.length cc, .int .i64 a]) (by simp [results, Try.results48, go_sem]) rfl ?_
        rw [HR.out]
        exact ⟨A1, cc, rfl, HO.out, hbel⟩
      · have hno : ¬((a : Int) = gl ∨ stAt st a < 0) := by rw [hst]; omega
        cases k with
        | zero =>
          have HR : Hid (rx = ([], -1)) := by show _ = _; rw [← HX.out, runF_clash hno]
          clear hno hst hx
          go_wp2_with fail
          refine bodyPost_ret (v := .tuple #[.slice none 0 0, .int .i64 (-1)]) (by simp [results, Try.results48, go_sem]) rfl ?_
          rw [HR.out]
          exact ⟨none, 0, rfl, own_none _ _ _, hbel⟩
        | succ k =>
          have hr : runF l st gl (k + 1) a xs = runF l st gl k (nx l st a) (xs ++ [x]) := by rw [runF_on hno, hst]
          obtain ⟨q, hql, hq1, hq2, hq3, hq4⟩ := nx_ok HV.out hal (by rw [hx]; omega)
          rw [hx] at hq1
          subst hq1
          obtain ⟨b2, o2, rfl, hblt2, hc2⟩ := (H.out.bel hbel) (by omega)
          obtain ⟨y0, y1, y2⟩ := hc2 q hql
          obtain ⟨d, hd⟩ : ∃ d : Nat, l[q].2.1 = d := ⟨l[q].2.1.toNat, by omega⟩
          rw [hd] at y1 hq2 hq3 hq4
          rw [Int.toNat_natCast] at hq4
          rw [hq4] at hr
          have HX2 : Hid (runF l st gl k d (xs ++ [(q : Int)]) = rx) := by show _ = _; rw [← hr]; exact HX.out
          have HSX := Lib.hid hx
          have HD := Lib.hid hd
          clear hr hno hst hx hq4 hc2 hd y0 y2 HX HC
          go_wp2_with (at_builtin; refine wpList_append_own _ rfl _ _ 25 rfl w.heap.size 2 i0 (.int .i64 0) 1 8 Try.underlying25 HI.out.1 HI.out.2.1 HI.out.2.2.1 HI.out.2.2.2 rfl (by decide) _ _ _ rfl (HO.out.alloc _) ⟨wr.heap.size, 0, none⟩ 1 1 [.int .i64 (q : Int)] rfl rfl ?c1 ?c2 ?c3 ?c4 ?c5 ?_)
          try
            case c1 =>
              intro j u hu
              cases j with
              | zero => simp at hu; subst hu; simp [Addr.add]
              | succ j => simp at hu
          try case c2 => first | exact ints_oneCell .i64 [(q : Int)] | rfl
          try case c3 => unfold maxLen; omega
          try case c4 => omega
          try case c5 => first | (simp; omega) | omega
          intro v' w4 hown1 hgrow _
          have hown2 : w4.ownsRow w.heap.size 2 1 v' (xs ++ [(q : Int)]).length ((xs ++ [(q : Int)]).map (Value.int .i64)) := by simpa using hown1
          have HO2 := Lib.hid hown2
          have hb4 : Below w.heap.size w w4 := Below.grown (show Below w.heap.size w _ from hbel.alloc hbel.size _) hgrow (by simp; omega) (fun k hk => by have := (HO.out.lt k hk).1; omega)
          clear hown1 hown2 hgrow
          obtain ⟨_, _, e1, -, hc2⟩ := (H.out.bel hb4) (by omega)
          cases e1
          obtain ⟨-, z1, -⟩ := hc2 q hql
          obtain ⟨_, _, e1, -, hc⟩ := (H'.out.bel hb4) (by omega)
          cases e1
          have zt := hc a hal
          rw [HSX.out] at zt
          rw [HD.out] at z1
          have z0 := bel_cell hb4 a1
          have hqn : q < n := by rw [HL.out]; exact hql
          clear HO b0 b1 t0 y1 hc hc2 hsz
          obtain ⟨A4, c4, rfl⟩ := own_form HO2.out
          go_wp2_with fail
          go_quiet (fail)
          go_wp2_with fail
          go_roundw
          case rel => exact ⟨d, k, xs ++ [(q : Int)], rfl, by omega, by simp; omega, own_bel HO2.out (below_drewN (Below.refl _ _) _), HX2, below_drewN hb4 _⟩
          case measure => simp [lenV]; omega
    

end Go.Proofs.Ythkfdpicacaphaa
