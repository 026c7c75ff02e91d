/-
  CONTRACTS: which words are addresses.
-/
import Derived.Test.YtfhmmebciikgeaaWord
import Derived.Test.YtfhmmebciikgeaaStr
namespace Go.Proofs.Ytfhmmebciikgeaa
open Go.RowKit

theorem beqB_no {a b : ByteArray} (h : ¬ a = b) : (a.toList == b.toList) = false := by
  rw [beq_eq_false_iff_ne]
  intro e
  apply h
  rw [ByteArray.toList_eq, ByteArray.toList_eq] at e
  obtain ⟨x⟩ := a
  obtain ⟨y⟩ := b
  have e2 : x = y := by simpa using e
  rw [e2]
def strAt (l : List ByteArray) (i : Nat) : ByteArray := l.getD i ByteArray.empty
theorem strAt_eq {l : List ByteArray} {i : Nat} (h : i < l.length) : strAt l i = l[i] := by simp [strAt, h]
def hasS (l : List ByteArray) (x : ByteArray) : Bool := l.any fun y => decide (y = x)
theorem hasS_step {l : List ByteArray} {i : Nat} {x : ByteArray} (h : i < l.length) : hasS (l.drop i) x = (decide (l[i] = x) || hasS (l.drop (i + 1)) x) := by
  unfold hasS
  rw [drop_at' h, List.any_cons]
theorem hasS_end {l : List ByteArray} {i : Nat} {x : ByteArray} (h : l.length ≤ i) : hasS (l.drop i) x = false := by
  rw [List.drop_of_length_le h]; rfl
def goodA (g : Int) (l : List ByteArray) (i : Nat) : Bool := wordB g (strAt l i) && decide ((strAt l i).size = (strAt l 0).size) && !hasS (l.take i) (strAt l i)
def okA (g : Int) (l : List ByteArray) (i : Nat) : Bool := ((List.range l.length).drop i).all fun i => goodA g l i
def validA (g : Int) (l : List ByteArray) : Bool := inB g 2 4 && decide (l.length ≤ 40) && okA g l 0
theorem okA_step {g : Int} {l : List ByteArray} {i : Nat} (h : i < l.length) : okA g l i = (goodA g l i && okA g l (i + 1)) := by
  unfold okA
  rw [drop_at' (show i < (List.range l.length).length by simpa using h), List.all_cons]
  simp
theorem okA_end {g : Int} {l : List ByteArray} {i : Nat} (h : l.length ≤ i) : okA g l i = true := by
  unfold okA
  rw [List.drop_of_length_le (by simpa using h)]; rfl
theorem validA_true {g : Int} {l : List ByteArray} (h : validA g l = true) : 2 ≤ g ∧ g ≤ 4 ∧ l.length ≤ 40 ∧ ∀ (k : Nat) (h : k < l.length), 1 ≤ l[k].size ∧ l[k].size ≤ 8 ∧ l[k].size = (strAt l 0).size := by
  simp only [validA, Bool.and_eq_true, decide_eq_true_eq] at h
  have := inB_true h.1.1
  refine ⟨by omega, by omega, h.1.2, fun k hk => ?_⟩
  have h2 := h.2
  unfold okA at h2
  rw [List.drop_zero] at h2
  have h3 := List.all_eq_true.1 h2 k (by simpa using hk)
  simp only [goodA, Bool.and_eq_true, decide_eq_true_eq] at h3
  rw [strAt_eq hk] at h3
  have h4 := wordB_size h3.1.1
  exact ⟨h4.1, h4.2, h3.1.2⟩

theorem l05Word_no {g : Int} {s : ByteArray} (w : World) (hs : s.size ≤ 9223372036854775807) (g0 : 2 ≤ g) (g1 : g ≤ 4) (h : wordB g s = false) : Calls Try.prog 41 #[.int .i64 g, .string s] w (Ret0 w (.bool false)) := by
  have := l05Word_any g s w hs g0 g1
  rw [h] at this
  exact this
theorem l05Word_yes {g : Int} {s : ByteArray} (w : World) (hs : s.size ≤ 9223372036854775807) (g0 : 2 ≤ g) (g1 : g ≤ 4) (h : wordB g s = true) : Calls Try.prog 41 #[.int .i64 g, .string s] w (Ret0 w (.bool true)) := by
  have := l05Word_any g s w hs g0 g1
  rw [h] at this
  exact this
theorem l05Signs_any (g : Int) (w : World) : Calls Try.prog 63 #[.int .i64 g] w (Ret0 w (.bool (inB g 2 4))) := by
  go_enter Try.func63, Try.ntmps63
  go_wp2_with (go_at_call 59; refine (l00In_any _ _ _ _).mono ?_; rintro e w2 ⟨rfl, rfl⟩)
  go_ret
  exact ⟨rfl, rfl⟩
theorem areSigns_any (g : Int) (w : World) : Calls Try.prog 46 #[.int .i64 g] w (Ret0 w (.bool (inB g 2 4))) := by
  go_enter Try.func46, Try.ntmps46
  go_wp2_with (go_at_call 60; refine (within_any _ _ _ _).mono ?_; rintro e w2 ⟨rfl, rfl⟩)
  go_ret
  exact ⟨rfl, rfl⟩

set_option maxHeartbeats 4000000 in
theorem l05Ok_any (g : Int) (A : Option Addr) (n c : Nat) (l : List ByteArray) (w : World) (h : StrsAt w A l) (hl : n = l.length) (hs : SmallS l) :
    Calls Try.prog 45 #[.int .i64 g, .slice A n c] w (Ret w (.bool (validA g l))) := by
  have hn0 : n ≤ 1048576 := by rw [hl]; exact hs.1
  have H := Lib.hid h
  have HL := Lib.hid hl
  have HS := Lib.hid hs
  have E : Hid (validA g l = (inB g 2 4 && decide (n ≤ 40) && okA g l 0)) := by show _ = _; rw [hl]; rfl
  clear h hl hs
  cases hg : inB g 2 4
  · have E2 : Hid (validA g l = false) := by show _ = _; rw [E.out, hg]; rfl
    go_enter Try.func45, Try.ntmps45
    go_wp2_with (go_at_call 63; refine (l05Signs_any _ _).mono ?_; rintro e w2 ⟨rfl, rfl⟩)
    go_ret
    exact ⟨ret_bool E2.out.symm, Below.refl _ _⟩
  · by_cases h40 : n ≤ 40
    · have E2 : Hid (validA g l = okA g l 0) := by show _ = _; rw [E.out, hg]; simp [h40]
      have hgg := inB_true hg
      go_enter Try.func45, Try.ntmps45
      go_wp2_with (go_at_call 63; refine (l05Signs_any _ _).mono ?_; rintro e w2 ⟨rfl, rfl⟩)
      clear hg E
      go_loopw [5] (fun u w' => ∃ (i : Nat), u = .int .i64 i ∧ i ≤ n ∧ Hid (validA g l = okA g l i) ∧ Below w.heap.size w w') (fun u _ => n - (intOf u).toNat)
      case atStart => exact ⟨0, rfl, by omega, E2, Below.refl _ _⟩
      case round =>
        clear E2
        obtain ⟨i, rfl, hin, HE, hbel⟩ := hrel
        by_cases hlt : i < n
        · obtain ⟨b, o, rfl, hblt, hc⟩ := (H.out.bel hbel) (by rw [← HL.out]; omega)
          have HC := Lib.hid hc
          have hil : i < l.length := by rw [← HL.out]; exact hlt
          have h0l : 0 < l.length := by omega
          have t0 := hc i hil
          have t00 := hc 0 h0l
          rw [Nat.add_zero] at t00
          have hd := okA_step (g := g) hil
          have hm := HS.out.2 i hil
          have hm0 := HS.out.2 0 h0l
          unfold goodA at hd
          rw [strAt_eq hil, strAt_eq h0l] at hd
          obtain ⟨x, hx⟩ : ∃ x, l[i] = x := ⟨_, rfl⟩
          obtain ⟨y, hy⟩ : ∃ y, l[0] = y := ⟨_, rfl⟩
          rw [hx] at t0 hm hd
          rw [hy] at t00 hm0 hd
          have HX := Lib.hid hx
          have hx9 : x.size ≤ 9223372036854775807 := by omega
          clear hc hx hy
          cases hw : wordB g x
          · have HF : Hid (validA g l = false) := by show _ = _; rw [HE.out, hd, hw]; rfl
            clear hd
            go_wp2_with fail
            go_quiet (first | (go_at_call 41; exact q0 (l05Word_no _ hx9 hgg.1 hgg.2 hw)))
            go_wp2_with fail
            go_ret
            rw [HF.out]
            exact ⟨rfl, below_drewN hbel _⟩
          · by_cases hsz : x.size = y.size
            · have hd2 : okA g l i = (!hasS (l.take i) x && okA g l (i + 1)) := by rw [hd, hw]; simp [hsz]
              have HD := Lib.hid hd2
              clear hd hd2
              obtain ⟨wp, rfl⟩ : ∃ wp : World, wp = wr := ⟨_, rfl⟩
              go_wp2_with fail
              go_quiet (first | (go_at_call 41; exact q0 (l05Word_yes _ hx9 hgg.1 hgg.2 hw)))
              go_wp2_with fail
              go_loopw [6] (fun u w' => ∃ (k : Nat), u = .int .i64 k ∧ k ≤ i ∧ Hid (hasS (l.take i) x = hasS ((l.take i).drop k) x) ∧ Below wp.heap.size wp w') (fun u _ => i - (intOf u).toNat)
              case atStart => exact ⟨0, rfl, by omega, rfl, below_drewN (Below.refl _ _) _⟩
              case round =>
                obtain ⟨k, rfl, hki, HK, hbel2⟩ := hrel
                have s0 := bel_cell hbel2 t0
                have D2 := bel_next hbel hbel2
                have HTL : Hid ((l.take i).length = i) := by show _ = _; simp; omega
                by_cases hkl : k < i
                · have hkl' : k < l.length := by omega
                  have s1 := bel_cell hbel2 (HC.out k hkl')
                  have hst := hasS_step (x := x) (show k < (l.take i).length by rw [HTL.out]; exact hkl)
                  rw [List.getElem_take] at hst
                  obtain ⟨z, hz⟩ : ∃ z, l[k] = z := ⟨_, rfl⟩
                  rw [hz] at s1 hst
                  clear hz
                  by_cases hv : z = x
                  · have HF : Hid (validA g l = false) := by show _ = _; rw [HE.out, HD.out, HK.out, hst]; simp [hv]
                    subst hv
                    clear hst
                    go_wp2_with fail
                    go_quiet (fail)
                    go_wp2_with fail
                    go_ret
                    rw [HF.out]
                    exact ⟨rfl, below_drewN D2 _⟩
                  · have HK2 : Hid (hasS (l.take i) x = hasS ((l.take i).drop (k + 1)) x) := by show _ = _; rw [HK.out, hst]; simp [hv]
                    have hb := beqB_no hv
                    clear hst
                    go_wp2_with fail
                    go_quiet (fail)
                    go_wp2_with fail
                    go_roundw
                    case rel => exact ⟨k + 1, by go_num, by omega, HK2, below_drewN hbel2 _⟩
                    case measure => simp [intOf]; omega
                · have HE2 : Hid (validA g l = okA g l (i + 1)) := by show _ = _; rw [HE.out, HD.out, HK.out, hasS_end (by rw [HTL.out]; omega)]; simp
                  go_wp2_with fail
                  go_roundw
                  case rel => exact ⟨i + 1, by go_num, by omega, HE2, D2⟩
                  case measure => simp [intOf]; omega
            · have HF : Hid (validA g l = false) := by show _ = _; rw [HE.out, hd, hw]; simp [hsz]
              have hb : ((x.size : Int) == (y.size : Int)) = false := by rw [beq_eq_false_iff_ne]; omega
              clear hd
              go_wp2_with fail
              go_quiet (first | (go_at_call 41; exact q0 (l05Word_yes _ hx9 hgg.1 hgg.2 hw)))
              go_wp2_with fail
              go_ret
              rw [HF.out]
              exact ⟨rfl, below_drewN hbel _⟩
        · have HF : Hid (validA g l = true) := by show _ = _; rw [HE.out, okA_end (by rw [← HL.out]; omega)]
          go_wp2_with fail
          go_ret
          rw [HF.out]
          exact ⟨rfl, hbel⟩
    · have E2 : Hid (validA g l = false) := by show _ = _; rw [E.out]; simp [h40]
      go_enter Try.func45, Try.ntmps45
      go_wp2_with (go_at_call 63; refine (l05Signs_any _ _).mono ?_; rintro e w2 ⟨rfl, rfl⟩)
      go_ret
      exact ⟨ret_bool E2.out.symm, Below.refl _ _⟩

theorem StrsAt.take {w : World} {A : Option Addr} {l : List ByteArray} (h : StrsAt w A l) (i : Nat) : StrsAt w A (l.take i) := fun h0 => by
  obtain ⟨b, o, e, hlt, hc⟩ := h (by simp at h0; omega)
  exact ⟨b, o, e, hlt, fun k hk => by rw [hc k (by simp at hk; omega), List.getElem_take]⟩

/-- The first place of a string, or -1. -/
def FoundS (w : World) (b : Bool) (e : Ending) (w' : World) : Prop := ∃ r : Int, e = .returned (.int .i64 r) ∧ decide (0 ≤ r) = b ∧ w = w'

set_option maxHeartbeats 1000000 in
theorem Index_strs (A : Option Addr) (n c : Nat) (l : List ByteArray) (x : ByteArray) (w : World) (h : StrsAt w A l) (hl : n = l.length) (hn0 : n ≤ 1048576) :
    Calls Try.prog 64 #[.slice A n c, .string x] w (FoundS w (hasS l x)) := by
  have H := Lib.hid h
  have HL := Lib.hid hl
  clear h hl
  go_enter Try.func64, Try.ntmps64
  go_wp2
  go_loop [8] (fun u => ∃ (i : Nat), u = .int .i64 i ∧ i ≤ n ∧ Hid (hasS l x = hasS (l.drop i) x)) (fun u => n - (intOf u).toNat)
  case atStart => exact ⟨0, rfl, by omega, rfl⟩
  case round =>
    obtain ⟨i, rfl, hin, HA⟩ := hrel
    by_cases hlt : i < n
    · obtain ⟨b, o, rfl, hblt, hc⟩ := H.out (by rw [← HL.out]; omega)
      have hil : i < l.length := by rw [← HL.out]; exact hlt
      have c0 := hc i hil
      clear hc
      have hd := hasS_step (x := x) hil
      obtain ⟨y, hy⟩ : ∃ y, l[i] = y := ⟨_, rfl⟩
      rw [hy] at c0 hd
      clear hy
      by_cases hv : y = x
      · have HS : Hid (hasS l x = true) := by show _ = _; rw [HA.out, hd]; simp [hv]
        subst hv
        clear hd
        go_wp2_with fail
        go_ret
        exact ⟨_, rfl, by rw [HS.out]; simp, rfl⟩
      · have HS : Hid (hasS l x = hasS (l.drop (i + 1)) x) := by show _ = _; rw [HA.out, hd]; simp [hv]
        have hv2 : ¬ x = y := fun e => hv e.symm
        have hb := beqB_no hv2
        clear hd hv
        go_wp2_with fail
        go_round
        case rel => exact ⟨i + 1, by go_num, by omega, HS⟩
        case measure => simp [intOf]; omega
    · have HS : Hid (hasS l x = false) := by show _ = _; rw [HA.out]; exact hasS_end (by rw [← HL.out]; omega)
      go_wp2_with fail
      go_ret
      exact ⟨-1, rfl, by rw [HS.out]; rfl, rfl⟩

theorem Contains_strs (A : Option Addr) (n c : Nat) (l : List ByteArray) (x : ByteArray) (w : World) (h : StrsAt w A l) (hl : n = l.length) (hn0 : n ≤ 1048576) :
    Calls Try.prog 47 #[.slice A n c, .string x] w (Ret0 w (.bool (hasS l x))) := by
  have HL := Lib.hid hl
  clear hl
  go_enter Try.func47, Try.ntmps47
  go_wp2_with fail
  refine (Index_strs A n c l x _ h HL.out hn0).mono ?_
  rintro e w1 ⟨r, rfl, hr, rfl⟩
  have HR := Lib.hid hr
  clear hr
  go_wp2_with fail
  go_ret
  exact ⟨ret_bool (by rw [← HR.out]), rfl⟩

set_option maxHeartbeats 4000000 in
theorem implValidA_any (g : Int) (A : Option Addr) (n c : Nat) (l : List ByteArray) (w : World) (h : StrsAt w A l) (hl : n = l.length) (hs : SmallS l) (hc : n ≤ c := by omega) :
    Calls Try.prog 18 #[.int .i64 g, .slice A n c] w (Ret w (.bool (validA g l))) := by
  have hn0 : n ≤ 1048576 := by rw [hl]; exact hs.1
  have H := Lib.hid h
  have HL := Lib.hid hl
  have HS := Lib.hid hs
  have E : Hid (validA g l = (inB g 2 4 && decide (n ≤ 40) && okA g l 0)) := by show _ = _; rw [hl]; rfl
  clear h hl hs
  cases hg : inB g 2 4
  · have E2 : Hid (validA g l = false) := by show _ = _; rw [E.out, hg]; rfl
    go_enter Try.func18, Try.ntmps18
    go_wp2_with (go_at_call 46; refine (areSigns_any _ _).mono ?_; rintro e w2 ⟨rfl, rfl⟩)
    go_ret
    exact ⟨ret_bool E2.out.symm, Below.refl _ _⟩
  · by_cases h40 : n ≤ 40
    · have E2 : Hid (validA g l = okA g l 0) := by show _ = _; rw [E.out, hg]; simp [h40]
      have hgg := inB_true hg
      go_enter Try.func18, Try.ntmps18
      go_wp2_with (go_at_call 46; refine (areSigns_any _ _).mono ?_; rintro e w2 ⟨rfl, rfl⟩)
      clear hg E
      go_loop [17] (fun u => ∃ (i : Nat), u = .int .i64 i ∧ i ≤ n ∧ Hid (validA g l = okA g l i)) (fun u => n - (intOf u).toNat)
      case atStart => exact ⟨0, rfl, by omega, E2⟩
      case round =>
        clear E2
        obtain ⟨i, rfl, hin, HE⟩ := hrel
        by_cases hlt : i < n
        · obtain ⟨b, o, rfl, hblt, hc'⟩ := H.out (by rw [← HL.out]; omega)
          have hil : i < l.length := by rw [← HL.out]; exact hlt
          have h0l : 0 < l.length := by omega
          have t0 := hc' i hil
          have t00 := hc' 0 h0l
          rw [Nat.add_zero] at t00
          have hd := okA_step (g := g) hil
          have hm := HS.out.2 i hil
          have hm0 := HS.out.2 0 h0l
          unfold goodA at hd
          rw [strAt_eq hil, strAt_eq h0l] at hd
          obtain ⟨x, hx⟩ : ∃ x, l[i] = x := ⟨_, rfl⟩
          obtain ⟨y, hy⟩ : ∃ y, l[0] = y := ⟨_, rfl⟩
          rw [hx] at t0 hm hd
          rw [hy] at t00 hm0 hd
          have hx9 : x.size ≤ 9223372036854775807 := by omega
          have HT : Hid (StrsAt w (some ⟨b, o, none⟩) (l.take i)) := StrsAt.take H.out i
          have HTL : Hid (i = (l.take i).length) := by show _ = _; simp; omega
          clear hc' hx hy
          cases hw : wordB g x
          · have HF : Hid (validA g l = false) := by show _ = _; rw [HE.out, hd, hw]; rfl
            clear hd
            go_wp2_with (first
              | (go_at_call 43; refine (isWord_any g x _ hx9 hgg.1 hgg.2).mono ?_; rintro e w2 ⟨rfl, rfl⟩; rw [hw]))
            go_ret
            rw [HF.out]
            exact ⟨rfl, Below.refl _ _⟩
          · by_cases hsz : x.size = y.size
            · have hd2 : okA g l i = (!hasS (l.take i) x && okA g l (i + 1)) := by rw [hd, hw]; simp [hsz]
              cases hh : hasS (l.take i) x
              · have HF : Hid (validA g l = okA g l (i + 1)) := by show _ = _; rw [HE.out, hd2, hh]; rfl
                clear hd hd2
                go_wp2_with (first
                  | (go_at_call 43; refine (isWord_any g x _ hx9 hgg.1 hgg.2).mono ?_; rintro e w2 ⟨rfl, rfl⟩; rw [hw])
                  | (go_at_call 47; refine (Contains_strs _ i _ (l.take i) x _ HT.out HTL.out (by omega)).mono ?_; rintro e w2 ⟨rfl, rfl⟩; rw [hh]))
                go_round
                case rel => exact ⟨i + 1, by go_num, by omega, HF⟩
                case measure => simp [intOf]; omega
              · have HF : Hid (validA g l = false) := by show _ = _; rw [HE.out, hd2, hh]; rfl
                clear hd hd2
                go_wp2_with (first
                  | (go_at_call 43; refine (isWord_any g x _ hx9 hgg.1 hgg.2).mono ?_; rintro e w2 ⟨rfl, rfl⟩; rw [hw])
                  | (go_at_call 47; refine (Contains_strs _ i _ (l.take i) x _ HT.out HTL.out (by omega)).mono ?_; rintro e w2 ⟨rfl, rfl⟩; rw [hh]))
                go_ret
                rw [HF.out]
                exact ⟨rfl, Below.refl _ _⟩
            · have HF : Hid (validA g l = false) := by show _ = _; rw [HE.out, hd, hw]; simp [hsz]
              have hb : ((x.size : Int) == (y.size : Int)) = false := by rw [beq_eq_false_iff_ne]; omega
              clear hd
              go_wp2_with (first
                | (go_at_call 43; refine (isWord_any g x _ hx9 hgg.1 hgg.2).mono ?_; rintro e w2 ⟨rfl, rfl⟩; rw [hw]))
              go_ret
              rw [HF.out]
              exact ⟨rfl, Below.refl _ _⟩
        · have HF : Hid (validA g l = true) := by show _ = _; rw [HE.out, okA_end (by rw [← HL.out]; omega)]
          go_wp2_with fail
          go_ret
          rw [HF.out]
          exact ⟨rfl, Below.refl _ _⟩
    · have E2 : Hid (validA g l = false) := by show _ = _; rw [E.out]; simp [h40]
      go_enter Try.func18, Try.ntmps18
      go_wp2_with (go_at_call 46; refine (areSigns_any _ _).mono ?_; rintro e w2 ⟨rfl, rfl⟩)
      go_ret
      exact ⟨ret_bool E2.out.symm, Below.refl _ _⟩

theorem specValidA_any (g : Int) (A : Option Addr) (n c : Nat) (l : List ByteArray) (w : World) (h : StrsAt w A l) (hl : n = l.length) (hs : SmallS l) :
    Calls Try.prog 16 #[.int .i64 g, .slice A n c] w (Ret w (.bool (validA g l))) := by
  have HL := Lib.hid hl
  have HS := Lib.hid hs
  clear hl hs
  go_enter Try.func16, Try.ntmps16
  go_wp2_with fail
  refine (l05Ok_any g A n c l _ h HL.out HS.out).mono ?_
  rintro e w2 ⟨rfl, hb⟩
  go_wp2_with fail
  go_ret
  exact ⟨rfl, hb⟩

end Go.Proofs.Ytfhmmebciikgeaa
