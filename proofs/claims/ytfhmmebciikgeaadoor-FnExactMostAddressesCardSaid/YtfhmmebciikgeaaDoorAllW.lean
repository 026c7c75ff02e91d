/-
  CONTRACTS: the codes of signs and rings; all words with so many letters.
-/
import Derived.Test.YtfhmmebciikgeaaDoorAllP
import Derived.Deep.RegionLaw
namespace Go.Proofs.YtfhmmebciikgeaaDoor
open Go.RowKit

theorem own_noneS (w : World) (base : Nat) (t : TypeId) : w.ownsRow base t 1 (.slice none 0 0) 0 (([] : List ByteArray).map Value.string) := ⟨by simp, .inl ⟨rfl, rfl⟩⟩
theorem own_baseS {w : World} {base base' n size : Nat} {t : TypeId} {v : Value} {xs : List Value} (h : w.ownsRow base' t size v n xs) (hb : base ≤ base') : w.ownsRow base t size v n xs := by
  refine ⟨h.1, ?_⟩
  rcases h.2 with hn | ⟨g, cap, cur, hv, hg, rest⟩
  · exact .inl hn
  · exact .inr ⟨g, cap, cur, hv, Nat.le_trans hb hg, rest⟩
theorem own_belS {w w' : World} {base n size : Nat} {t : TypeId} {v : Value} {xs : List Value} (h : w.ownsRow base t size v n xs) (hb : Below w.heap.size w w') : w'.ownsRow base t size v n xs := by
  refine ⟨h.1, ?_⟩
  rcases h.2 with hn | ⟨g, cap, cur, hv, hg, hB, rest⟩
  · exact .inl hn
  · exact .inr ⟨g, cap, cur, hv, hg, bel_blk (t := t) hB hb, rest⟩
theorem strs_oneCell (l : List ByteArray) : ∀ u ∈ l.map Value.string, u.oneCell' = true := by
  intro u hu
  obtain ⟨s, -, rfl⟩ := List.mem_map.1 hu
  rfl
theorem capF_mul {g lim k : Nat} (hg : g ≤ 4) (hl : lim ≤ 1000) : capF g lim k * g ≤ 4004 := by
  have h1 := capF_le g lim k
  have h2 : capF g lim k * g ≤ 1001 * 4 := Nat.mul_le_mul (by omega) hg
  omega
theorem pw_mul {g k : Nat} (hg : g ≤ 4) (hk : k ≤ 8) : pw g k * g ≤ 262144 := by
  have h2 : pw g k * g ≤ 65536 * 4 := Nat.mul_le_mul (pw_le g (by omega) k (by omega)) hg
  omega

theorem count_any (g r lim : Nat) (w : World) (hg : g ≤ 4) (hr : r ≤ 8) (hl : lim ≤ 1000) :
    Calls Tryd.prog 19 #[.int .i64 g, .int .i64 r, .int .i64 lim] w (Ret0 w (.int .i64 (capF g lim r : Nat))) := by
  go_enter Tryd.func19, Tryd.ntmps19
  go_wp2_with fail
  go_loop [7, 9] (fun v u => ∃ k : Nat, v = .int .i64 (capF g lim k : Nat) ∧ u = .int .i64 k ∧ k ≤ r) (fun _ u => r - (intOf u).toNat)
  case atStart => exact ⟨0, rfl, rfl, by omega⟩
  case round =>
    obtain ⟨k, rfl, rfl, hk⟩ := hrel
    by_cases hlt : k < r
    · have hm := capF_mul (k := k) hg hl
      have hs : Hid (capF g lim (k + 1) = min (capF g lim k * g) (lim + 1)) := rfl
      obtain ⟨q, hq⟩ : ∃ q, capF g lim k = q := ⟨_, rfl⟩
      rw [hq] at hm hs ⊢
      obtain ⟨z, hz⟩ : ∃ z, q * g = z := ⟨_, rfl⟩
      have hz' : ((q : Nat) : Int) * (g : Int) = (z : Int) := by rw [← hz]; exact (Int.natCast_mul q g).symm
      rw [hz] at hm hs
      have hw : IntKind.i64.wrap ((q : Int) * (g : Int)) = (z : Int) := by rw [hz']; exact IntWalk.i64_in _ (by omega)
      clear hq hz
      rcases Nat.lt_or_ge lim z with h1 | h1
      · have hs2 : Hid (capF g lim (k + 1) = lim + 1) := by show _ = _; rw [hs.out]; omega
        have hmn : min (z : Int) ((lim : Int) + 1) = (lim : Int) + 1 := by omega
        clear hz' hs
        go_wp2_with fail
        go_round
        case rel => exact ⟨k + 1, by rw [hs2.out]; go_num, by go_num, by omega⟩
        case measure => simp [intOf]; omega
      · have hs2 : Hid (capF g lim (k + 1) = z) := by show _ = _; rw [hs.out]; omega
        have hmn : min (z : Int) ((lim : Int) + 1) = (z : Int) := by omega
        clear hz' hs
        go_wp2_with fail
        go_round
        case rel => exact ⟨k + 1, by rw [hs2.out]; go_num, by go_num, by omega⟩
        case measure => simp [intOf]; omega
    · have hkr : k = r := by omega
      subst hkr
      go_wp2_with fail
      go_ret
      exact ⟨rfl, rfl⟩

/-- CODES -/
theorem wcode_no1 {g r d : Int} {lim : Nat} (h : inB g 2 4 = false) : wcode g r d lim = 2 := by simp [wcode, h]
theorem wcode_no2 {g r d : Int} {lim : Nat} (h : inB r 1 8 = false) : wcode g r d lim = 2 := by simp [wcode, h]
theorem wcode_no3 {g r d : Int} {lim : Nat} (h : inB d 1 r = false) : wcode g r d lim = 2 := by simp [wcode, h]
theorem wcode_yes {g r : Nat} {d : Int} {lim : Nat} (h1 : inB g 2 4 = true) (h2 : inB r 1 8 = true) (h3 : inB d 1 r = true) : wcode g r d lim = if lim < pw g r then 5 else 0 := by simp [wcode, h1, h2, h3]
theorem capF_pw {g r lim : Nat} (hL : lim = 300 ∨ lim = 32) (hg : g ≤ 4) (hr : r ≤ 8) (h1 : 1 < g) : (lim < capF g lim r ↔ lim < pw g r) := by
  rcases hL with rfl | rfl
  · have := capF_300 g (by omega) r (by omega) h1
    exact decide_eq_decide.1 this
  · have := capF_32 g (by omega) r (by omega) h1
    exact decide_eq_decide.1 this

set_option maxHeartbeats 1000000 in
theorem wordsCode_any (g r d : Int) (lim : Nat) (w : World) (hL : lim = 300 ∨ lim = 32) :
    Calls Tryd.prog 10 #[.int .i64 g, .int .i64 r, .int .i64 d, .int .i64 lim] w (Ret0 w (.int .i64 (wcode g r d lim))) := by
  cases hg : inB g 2 4
  · have E := Lib.hid (wcode_no1 (r := r) (d := d) (lim := lim) hg)
    go_enter Tryd.func10, Tryd.ntmps10
    go_wp2_with (go_at_call 17; refine (areSigns_any _ _).mono ?_; rintro e w2 ⟨rfl, rfl⟩; rw [hg])
    go_ret
    rw [E.out]
    exact ⟨rfl, rfl⟩
  · cases hr : inB r 1 8
    · have E := Lib.hid (wcode_no2 (g := g) (d := d) (lim := lim) hr)
      go_enter Tryd.func10, Tryd.ntmps10
      go_wp2_with (first | (go_at_call 17; refine (areSigns_any _ _).mono ?_; rintro e w2 ⟨rfl, rfl⟩; rw [hg]) | (go_at_call 18; (with_reducible refine (within_any r _ _ _).mono ?_); rintro e w2 ⟨rfl, rfl⟩; rw [hr]))
      go_ret
      rw [E.out]
      exact ⟨rfl, rfl⟩
    · cases hd : inB d 1 r
      · have E := Lib.hid (wcode_no3 (g := g) (d := d) (lim := lim) hd)
        go_enter Tryd.func10, Tryd.ntmps10
        go_wp2_with (first | (go_at_call 17; refine (areSigns_any _ _).mono ?_; rintro e w2 ⟨rfl, rfl⟩; rw [hg]) | (go_at_call 18; (with_reducible refine (within_any r _ _ _).mono ?_); rintro e w2 ⟨rfl, rfl⟩; rw [hr]) | (go_at_call 18; (with_reducible refine (within_any d _ _ _).mono ?_); rintro e w2 ⟨rfl, rfl⟩; rw [hd]))
        go_ret
        rw [E.out]
        exact ⟨rfl, rfl⟩
      · have hg2 := inB_true hg
        have hr2 := inB_true hr
        obtain ⟨g, rfl⟩ : ∃ q : Nat, g = q := ⟨g.toNat, by omega⟩
        obtain ⟨r, rfl⟩ : ∃ q : Nat, r = q := ⟨r.toNat, by omega⟩
        have E := Lib.hid (wcode_yes (lim := lim) hg hr hd)
        have hc := capF_pw (g := g) (r := r) hL (by omega) (by omega) (by omega)
        have hl : lim ≤ 1000 := by omega
        have hg4 : g ≤ 4 := by omega
        have hr8 : r ≤ 8 := by omega
        have hcl := capF_le g lim r
        by_cases h5 : lim < pw g r
        · have E2 : Hid (wcode g r d lim = 5) := by show _ = _; rw [E.out, if_pos h5]
          have h6 := hc.2 h5
          obtain ⟨z, hz⟩ : ∃ z, capF g lim r = z := ⟨_, rfl⟩
          have HZ := Lib.hid hz
          rw [hz] at h6 hcl
          clear hc h5 E hz hL
          go_enter Tryd.func10, Tryd.ntmps10
          go_wp2_with (first | (go_at_call 17; refine (areSigns_any _ _).mono ?_; rintro e w2 ⟨rfl, rfl⟩; rw [hg]) | (go_at_call 18; (with_reducible refine (within_any (r : Int) _ _ _).mono ?_); rintro e w2 ⟨rfl, rfl⟩; rw [hr]) | (go_at_call 18; (with_reducible refine (within_any d _ _ _).mono ?_); rintro e w2 ⟨rfl, rfl⟩; rw [hd]) | (go_at_call 19; refine (count_any g r lim _ hg4 hr8 hl).mono ?_; rintro e w2 ⟨rfl, rfl⟩; rw [HZ.out]))
          go_ret
          rw [E2.out]
          exact ⟨rfl, rfl⟩
        · have E2 : Hid (wcode g r d lim = 0) := by show _ = _; rw [E.out, if_neg h5]
          have h6 : capF g lim r ≤ lim := by
            rcases Nat.lt_or_ge lim (capF g lim r) with h | h
            · exact absurd (hc.1 h) h5
            · exact h
          obtain ⟨z, hz⟩ : ∃ z, capF g lim r = z := ⟨_, rfl⟩
          have HZ := Lib.hid hz
          rw [hz] at h6 hcl
          clear hc h5 E hz hL
          go_enter Tryd.func10, Tryd.ntmps10
          go_wp2_with (first | (go_at_call 17; refine (areSigns_any _ _).mono ?_; rintro e w2 ⟨rfl, rfl⟩; rw [hg]) | (go_at_call 18; (with_reducible refine (within_any (r : Int) _ _ _).mono ?_); rintro e w2 ⟨rfl, rfl⟩; rw [hr]) | (go_at_call 18; (with_reducible refine (within_any d _ _ _).mono ?_); rintro e w2 ⟨rfl, rfl⟩; rw [hd]) | (go_at_call 19; refine (count_any g r lim _ hg4 hr8 hl).mono ?_; rintro e w2 ⟨rfl, rfl⟩; rw [HZ.out]))
          go_ret
          rw [E2.out]
          exact ⟨rfl, rfl⟩
theorem wordsCode_300 (g r d : Int) (w : World) : Calls Tryd.prog 10 #[.int .i64 g, .int .i64 r, .int .i64 d, .int .i64 300] w (Ret0 w (.int .i64 (wcode g r d 300))) := wordsCode_any g r d 300 w (.inl rfl)
theorem wordsCode_all (g r : Int) (w : World) : Calls Tryd.prog 10 #[.int .i64 g, .int .i64 r, .int .i64 1, .int .i64 300] w (Ret0 w (.int .i64 (whole g r))) := by
  have h := wordsCode_300 g r 1 w
  rw [wcode_one] at h
  exact h

set_option maxHeartbeats 1000000 in
theorem l05Whole_any (g r : Int) (w : World) :
    Calls Tryd.prog 16 #[.int .i64 g, .int .i64 r] w (Ret0 w (.int .i64 (whole g r))) := by
  cases hg : inB g 2 4
  · have E : Hid (whole g r = 2) := by show _ = _; simp [whole, hg]
    go_enter Tryd.func16, Tryd.ntmps16
    go_wp2_with (go_at_call 14; refine (l05Signs_any _ _).mono ?_; rintro e w2 ⟨rfl, rfl⟩; rw [hg])
    go_ret
    rw [E.out]
    exact ⟨rfl, rfl⟩
  · cases hr : inB r 1 8
    · have E : Hid (whole g r = 2) := by show _ = _; simp [whole, hr]
      go_enter Tryd.func16, Tryd.ntmps16
      go_wp2_with (first | (go_at_call 14; refine (l05Signs_any _ _).mono ?_; rintro e w2 ⟨rfl, rfl⟩; rw [hg]) | (go_at_call 15; (with_reducible refine (l00In_any r _ _ _).mono ?_); rintro e w2 ⟨rfl, rfl⟩; rw [hr]))
      go_ret
      rw [E.out]
      exact ⟨rfl, rfl⟩
    · have hg2 := inB_true hg
      have hr2 := inB_true hr
      obtain ⟨g, rfl⟩ : ∃ q : Nat, g = q := ⟨g.toNat, by omega⟩
      obtain ⟨r, rfl⟩ : ∃ q : Nat, r = q := ⟨r.toNat, by omega⟩
      have E : Hid (whole g r = if 300 < pw g r then 5 else 0) := by show _ = _; simp [whole, hg, hr]
      have hg4 : g ≤ 4 := by omega
      have hr8 : r ≤ 8 := by omega
      go_enter Tryd.func16, Tryd.ntmps16
      go_wp2_with (first | (go_at_call 14; refine (l05Signs_any _ _).mono ?_; rintro e w2 ⟨rfl, rfl⟩; rw [hg]) | (go_at_call 15; (with_reducible refine (l00In_any (r : Int) _ _ _).mono ?_); rintro e w2 ⟨rfl, rfl⟩; rw [hr]))
      clear hg hr
      go_loop [5, 6] (fun v u => ∃ k : Nat, v = .int .i64 (pw g k : Nat) ∧ u = .int .i64 k ∧ k ≤ r) (fun _ u => r - (intOf u).toNat)
      case atStart => exact ⟨0, rfl, rfl, by omega⟩
      case round =>
        obtain ⟨k, rfl, rfl, hk⟩ := hrel
        have hpk := pw_le g (by omega) k (by omega)
        by_cases hlt : k < r
        · have hm := pw_mul (k := k) hg4 (by omega)
          have hs : Hid (pw g (k + 1) = pw g k * g) := rfl
          obtain ⟨q, hq⟩ : ∃ q, pw g k = q := ⟨_, rfl⟩
          rw [hq] at hm hs hpk ⊢
          obtain ⟨z, hz⟩ : ∃ z, q * g = z := ⟨_, rfl⟩
          have hz' : ((q : Nat) : Int) * (g : Int) = (z : Int) := by rw [← hz]; exact (Int.natCast_mul q g).symm
          rw [hz] at hm hs
          have hw : IntKind.i64.wrap ((q : Int) * (g : Int)) = (z : Int) := by rw [hz']; exact IntWalk.i64_in _ (by omega)
          clear hq hz hz'
          go_wp2_with fail
          go_round
          case rel => exact ⟨k + 1, by rw [hs.out], by go_num, by omega⟩
          case measure => simp [intOf]; omega
        · have hkr : k = r := by omega
          subst hkr
          by_cases h5 : 300 < pw g k
          · have E2 : Hid (whole g k = 5) := by show _ = _; rw [E.out, if_pos h5]
            clear E
            go_wp2_with fail
            go_ret
            rw [E2.out]
            exact ⟨rfl, rfl⟩
          · have E2 : Hid (whole g k = 0) := by show _ = _; rw [E.out, if_neg h5]
            clear E
            go_wp2_with fail
            go_ret
            rw [E2.out]
            exact ⟨rfl, rfl⟩

theorem l05Code_any (g r d : Int) (w : World) :
    Calls Tryd.prog 6 #[.int .i64 g, .int .i64 r, .int .i64 d] w (Ret0 w (.int .i64 (wcode g r d 300))) := by
  cases hg : inB g 2 4
  · have E := Lib.hid (wcode_no1 (r := r) (d := d) (lim := 300) hg)
    go_enter Tryd.func6, Tryd.ntmps6
    go_wp2_with (go_at_call 14; refine (l05Signs_any _ _).mono ?_; rintro e w2 ⟨rfl, rfl⟩; rw [hg])
    go_ret
    rw [E.out]
    exact ⟨rfl, rfl⟩
  · cases hr : inB r 1 8
    · have E := Lib.hid (wcode_no2 (g := g) (d := d) (lim := 300) hr)
      go_enter Tryd.func6, Tryd.ntmps6
      go_wp2_with (first | (go_at_call 14; refine (l05Signs_any _ _).mono ?_; rintro e w2 ⟨rfl, rfl⟩; rw [hg]) | (go_at_call 15; (with_reducible refine (l00In_any r _ _ _).mono ?_); rintro e w2 ⟨rfl, rfl⟩; rw [hr]))
      go_ret
      rw [E.out]
      exact ⟨rfl, rfl⟩
    · cases hd : inB d 1 r
      · have E := Lib.hid (wcode_no3 (g := g) (d := d) (lim := 300) hd)
        go_enter Tryd.func6, Tryd.ntmps6
        go_wp2_with (first | (go_at_call 14; refine (l05Signs_any _ _).mono ?_; rintro e w2 ⟨rfl, rfl⟩; rw [hg]) | (go_at_call 15; (with_reducible refine (l00In_any r _ _ _).mono ?_); rintro e w2 ⟨rfl, rfl⟩; rw [hr]) | (go_at_call 15; (with_reducible refine (l00In_any d _ _ _).mono ?_); rintro e w2 ⟨rfl, rfl⟩; rw [hd]))
        go_ret
        rw [E.out]
        exact ⟨rfl, rfl⟩
      · have E : Hid (whole g r = wcode g r d 300) := by show _ = _; simp [whole, wcode, hg, hr, hd]
        go_enter Tryd.func6, Tryd.ntmps6
        go_wp2_with (first | (go_at_call 14; refine (l05Signs_any _ _).mono ?_; rintro e w2 ⟨rfl, rfl⟩; rw [hg]) | (go_at_call 15; (with_reducible refine (l00In_any r _ _ _).mono ?_); rintro e w2 ⟨rfl, rfl⟩; rw [hr]) | (go_at_call 15; (with_reducible refine (l00In_any d _ _ _).mono ?_); rintro e w2 ⟨rfl, rfl⟩; rw [hd]) | (go_at_call 16; refine (l05Whole_any _ _ _).mono ?_; rintro e w2 ⟨rfl, rfl⟩; rw [E.out]))
        go_ret
        exact ⟨rfl, rfl⟩

theorem conv_lettr (c : Nat) (hc : c < 4) (w : World) : (convert 21 9 (.int .i32 (97 + (c : Int)))).run Tryd.prog w = .ok (.string (lettr c)) w := by
  rcases (show c = 0 ∨ c = 1 ∨ c = 2 ∨ c = 3 by omega) with rfl | rfl | rfl | rfl <;> kernel_rfl

set_option maxHeartbeats 2000000 in
set_option maxRecDepth 100000 in
theorem allWords_any (g r : Nat) (w : World) (hg : g ≤ 4) (hr : r ≤ 8) :
    Calls Tryd.prog 11 #[.int .i64 g, .int .i64 r] w (MadeSO w 9 (allW g r)) := by
  obtain ⟨i0, hi, hz0, hz1, hz2⟩ := info_parts info_string
  have HI := Lib.hid (And.intro hi (And.intro hz0 (And.intro hz1 hz2)))
  clear hi hz0 hz1 hz2
  go_enter Tryd.func11, Tryd.ntmps11
  go_wp2_with fail
  go_loopw [5, 12] (fun v u w' => ∃ (k : Nat) (l : List ByteArray), u = .int .i64 k ∧ k ≤ r ∧ Hid (l = allW g k) ∧ w'.ownsRow w.heap.size 9 1 v l.length (l.map Value.string) ∧ Below w.heap.size w w') (fun _ u _ => r - (intOf u).toNat)
  case atStart =>
    refine ⟨0, _, rfl, by omega, rfl, ?_, by go_grown⟩
    have := World.ownsRow_lit (base := w.heap.size) (e := 9) (size := 1) w #[.string ⟨#[]⟩] 1 (Nat.le_refl _) (by unfold maxLen; omega) rfl
    exact this
  case round =>
    obtain ⟨k, l, rfl, hkr, HA, hown, hbel⟩ := hrel
    by_cases hlt : k < r
    · have hl1 : l.length ≤ 65536 := by rw [HA.out]; exact allW_le hg (by omega)
      have hY : nextW g l = allW g (k + 1) := by rw [HA.out]; rfl
      have hYl : (nextW g l).length ≤ 65536 := by rw [hY]; exact allW_le hg (by omega)
      have HSZ : Hid (∀ (j : Nat) (h : j < l.length), l[j].size ≤ 8) := by
        show ∀ j, _
        intro j hj
        have := allW_size k l[j] (by rw [← HA.out]; exact List.getElem_mem hj)
        omega
      obtain ⟨Y, hYY⟩ : ∃ Y, nextW g l = Y := ⟨_, rfl⟩
      have HY : Hid (([] : List ByteArray) ++ nextW g (l.drop 0) = Y) := hYY
      rw [hYY] at hY hYl
      have HYA := Lib.hid hY
      obtain ⟨A, c, rfl⟩ := own_form hown
      have I0 := Lib.hid (StrsAt.ofOwn hown).1
      obtain ⟨wp, rfl⟩ : ∃ wp : World, wp = wr := ⟨_, rfl⟩
      have hws := hbel.size
      obtain ⟨n, hn⟩ : ∃ n, l.length = n := ⟨_, rfl⟩
      rw [hn] at hl1
      have HN := Lib.hid hn
      clear hown hY hYY
      rw [hn]
      clear hn
      go_wp2_with fail
      go_loopw [6, 17] (fun v u w' => ∃ (i : Nat) (ys : List ByteArray), u = .int .i64 i ∧ i ≤ n ∧ w'.ownsRow wp.heap.size 9 1 v ys.length (ys.map Value.string) ∧ Hid (ys ++ nextW g (l.drop i) = Y) ∧ Below wp.heap.size wp w') (fun _ u _ => n - (intOf u).toNat)
      case atStart => exact ⟨0, [], rfl, by omega, own_nil' _ _ _ rfl (Nat.le_refl _), HY, by go_grown⟩
      case round =>
        clear HY
        obtain ⟨i, ys, rfl, hin, hown, HY, hbel2⟩ := hrel
        by_cases hil : i < n
        · have hil2 : i < l.length := by rw [HN.out]; exact hil
          obtain ⟨b, o, rfl, hblt, hc⟩ := (I0.out.bel hbel2) (by rw [HN.out]; omega)
          have c0 := hc i hil2
          have hst := nextW_step (g := g) hil2
          have hsz := HSZ.out i hil2
          obtain ⟨s, hs⟩ : ∃ s, l[i] = s := ⟨_, rfl⟩
          rw [hs] at c0 hst hsz
          obtain ⟨Z, hZ⟩ : ∃ Z, ys ++ sufF s (g - 0) 0 = Z := ⟨_, rfl⟩
          have HZ := Lib.hid hZ
          have HZY : Hid (Z ++ nextW g (l.drop (i + 1)) = Y) := by show _ = _; rw [← hZ, List.append_assoc, ← hst]; exact HY.out
          have hZl : Z.length ≤ 65536 := by have := congrArg List.length HZY.out; rw [List.length_append] at this; omega
          have HO := Lib.hid hown
          clear hc hst hs hZ HY hown
          go_wp2_with fail
          go_loopw [6, 22] (fun v u w' => ∃ (d : Nat) (zs : List ByteArray), u = .int .i64 d ∧ d ≤ g ∧ w'.ownsRow wp.heap.size 9 1 v zs.length (zs.map Value.string) ∧ Hid (zs ++ sufF s (g - d) d = Z) ∧ Below wp.heap.size wp w') (fun _ u _ => g - (intOf u).toNat)
          case atStart => exact ⟨0, ys, rfl, by omega, HO.out, HZ, hbel2⟩
          case round =>
            clear HZ HO hbel2 c0
            obtain ⟨d, zs, rfl, hdg, hown, HZ, hbel3⟩ := hrel
            by_cases hdl : d < g
            · have hst := sufF_step (s := s) hdl
              have HZ2 : Hid ((zs ++ [s ++ lettr d]) ++ sufF s (g - (d + 1)) (d + 1) = Z) := by show _ = _; rw [List.append_assoc, List.singleton_append, ← hst]; exact HZ.out
              have hzl : zs.length ≤ 65536 := by have := congrArg List.length HZ.out; rw [List.length_append] at this; omega
              have hcv := conv_lettr d (by omega)
              have hls : (lettr d).size = 1 := rfl
              have HO := Lib.hid hown
              have hsw := hbel3.size
              clear hst HZ hown
              go_wp2_with (at_builtin; refine wpList_append_own _ rfl _ _ 26 rfl wp.heap.size 9 i0 (.string ByteArray.empty) 1 16 Tryd.underlying26 HI.out.1 HI.out.2.1 HI.out.2.2.1 HI.out.2.2.2 rfl (by decide) _ _ _ rfl (HO.out.alloc _) ⟨wr.heap.size, 0, none⟩ 1 1 [.string (s ++ lettr d)] rfl rfl ?c1 ?c2 ?c3 ?c4 ?c5 ?_)
              try
                case c1 =>
                  intro j u hu
                  cases j with
                  | zero => simp at hu; subst hu; simp [Addr.add]
                  | succ j => simp at hu
              try case c2 => first | exact strs_oneCell [s ++ lettr d] | rfl
              try case c3 => unfold maxLen; omega
              try case c4 => omega
              try case c5 => first | (simp; omega) | omega
              intro v' w4 hown1 hgrow _
              have hown2 : w4.ownsRow wp.heap.size 9 1 v' (zs ++ [s ++ lettr d]).length ((zs ++ [s ++ lettr d]).map Value.string) := by simpa using hown1
              have HO4 := Lib.hid hown2
              have hb4 : Below wp.heap.size wp w4 := Below.grown (show Below wp.heap.size wp _ from hbel3.alloc hbel3.size _) hgrow (by simp; omega) (fun k hk => by have := (HO.out.lt k hk).1; omega)
              clear hown1 hown2 hgrow hcv
              go_wp2_with fail
              go_roundw
              case rel => exact ⟨d + 1, zs ++ [s ++ lettr d], by go_num, by omega, HO4.out, HZ2, hb4⟩
              case measure => simp [intOf]; omega
            · have hE : zs = Z := by
                have h5 := HZ.out
                rw [show g - d = 0 by omega, sufF, List.append_nil] at h5
                exact h5
              subst hE
              go_wp2_with fail
              go_roundw
              case rel => exact ⟨i + 1, zs, by go_num, by omega, hown, HZY, hbel3⟩
              case measure => simp [intOf]; omega
        · have hE : ys = Y := by
            have h5 := HY.out
            rw [List.drop_of_length_le (by rw [HN.out]; omega), nextW, List.append_nil] at h5
            exact h5
          subst hE
          go_wp2_with fail
          go_roundw
          case rel => exact ⟨k + 1, ys, by go_num, by omega, HYA, own_baseS hown hws, bel_next hbel hbel2⟩
          case measure => simp [intOf]; omega
    · have hkr2 : k = r := by omega
      subst hkr2
      obtain ⟨A, c, rfl⟩ := own_form hown
      go_wp2_with fail
      go_ret
      rw [← HA.out]
      exact ⟨A, c, rfl, hown, hbel⟩

end Go.Proofs.YtfhmmebciikgeaaDoor
