/-
  CONTRACTS: which networks are valid.
-/
import Derived.Test.YtlebkjkiikehhaaNetS
namespace Go.Proofs.Ytlebkjkiikehhaa
open Go.RowKit

def validTube (t : Tb) (S : Int) : Bool := inB t.1 0 (S - 1) && inB t.2.1 0 (S - 1) && (t.1 != t.2.1) && inB t.2.2 1 2000
def validN (S : Int) (l : List Tb) : Bool := inB S 2 10 && decide (l.length ≤ 24) && l.all fun t => validTube t S

set_option maxHeartbeats 1000000 in
theorem l02Tube_any (a b c S : Int) (w : World) (s0 : 2 ≤ S) (s1 : S ≤ 10) :
    Calls Try.prog 48 #[.agg #[.int .i64 a, .int .i64 b, .int .i64 c], .int .i64 S] w (Ret w (.bool (validTube (a, b, c) S))) := by
  go_enter Try.func48, Try.ntmps48
  go_wp2_with (go_at_call 65; refine (l00In_any _ _ _ _).mono ?_; rintro e w' ⟨rfl, rfl⟩)
  all_goals go_ret
  all_goals exact ⟨ret_bool (by simp [validTube, *]), by go_grown⟩

theorem isStation_any (S t : Int) (A : Option Addr) (n c : Nat) (w : World) (s0 : 2 ≤ S) (s1 : S ≤ 10) :
    Calls Try.prog 88 #[.agg #[.int .i64 S, .slice A n c], .int .i64 t] w (Ret w (.bool (inB t 0 (S - 1)))) := by
  go_enter Try.func88, Try.ntmps88
  go_wp2_with (go_at_call 85; refine (within_any _ _ _ _).mono ?_; rintro e w' ⟨rfl, rfl⟩)
  go_ret
  exact ⟨rfl, by go_grown⟩

set_option maxHeartbeats 2000000 in
theorem isTube_any (S a b c : Int) (A : Option Addr) (n k : Nat) (w : World) (s0 : 2 ≤ S) (s1 : S ≤ 10) :
    Calls Try.prog 51 #[.agg #[.int .i64 S, .slice A n k], .agg #[.int .i64 a, .int .i64 b, .int .i64 c]] w (Ret w (.bool (validTube (a, b, c) S))) := by
  go_enter Try.func51, Try.ntmps51
  go_wp2_with fail
  refine (isStation_any S a A n k _ s0 s1).mono ?_
  rintro e w1 ⟨rfl, hb1⟩
  have D1 : Below w.heap.size w w1 := Below.trans (by go_grown) (hb1.mono (by simp; omega))
  obtain ⟨t0, t1, t2, -⟩ := (bel_blk (Blk.newAt (n := w.heap.size + 1) (by simp)) hb1).c3
  have N1 : Hid (Blk w1 w.heap.size _ _) := bel_blk ((Blk.new _ _ _).alloc _) hb1
  have T1 : Hid (Blk w1 (w.heap.size + 1) _ _) := bel_blk (Blk.newAt (n := w.heap.size + 1) (by simp)) hb1
  obtain ⟨n0, n1, -⟩ := N1.out.c2
  clear hb1
  cases h1 : inB a 0 (S - 1)
  · go_wp2_with fail
    go_ret
    exact ⟨ret_bool (by simp [validTube, h1]), D1⟩
  · go_wp2_with fail
    refine (isStation_any S b A n k _ s0 s1).mono ?_
    rintro e w2 ⟨rfl, hb2⟩
    have D2 := bel_next D1 hb2
    obtain ⟨t0, t1, t2, -⟩ := (bel_blk T1.out hb2).c3
    clear hb2
    cases h2 : inB b 0 (S - 1)
    · go_wp2_with fail
      go_ret
      exact ⟨ret_bool (by simp [validTube, h1, h2]), D2⟩
    · go_wp2_with (go_at_call 85; refine (within_any _ _ _ _).mono ?_; rintro e w' ⟨rfl, rfl⟩)
      all_goals go_ret
      all_goals exact ⟨ret_bool (by simp [validTube, *]), D2⟩

/-- A network behind a pointer. -/
structure NetAt (w : World) (b : Nat) (S : Int) (A : Option Addr) (n c : Nat) (l : List Tb) : Prop where
  c0 : w.cell? ⟨b, 0, none⟩ = some (.int .i64 S)
  c1 : w.cell? ⟨b, 1, none⟩ = some (.slice A n c)
  ts : TubesAt w A l
theorem NetAt.bel {w w' : World} {b : Nat} {S : Int} {A : Option Addr} {n c : Nat} {l : List Tb} (h : NetAt w b S A n c l) (hb : Below w.heap.size w w') : NetAt w' b S A n c l :=
  ⟨bel_cell hb h.c0, bel_cell hb h.c1, h.ts.bel hb⟩
/-- A network that has just been boxed. -/
theorem NetAt.box {w : World} {S : Int} {A : Option Addr} {n c : Nat} {l : List Tb} (h : TubesAt w A l) (t : TypeId) : NetAt (w.alloc (.cells #[.int .i64 S, .slice A n c] t)) w.heap.size S A n c l :=
  ⟨(Blk.new _ _ _).cell 0, (Blk.new _ _ _).cell 1, h.alloc _⟩
theorem validN_at {S : Int} {l : List Tb} (h : l.all (fun t => validTube t S) = true) {i : Nat} (hi : i < l.length) : validTube l[i] S = true := List.all_eq_true.1 h _ (List.getElem_mem hi)
theorem validN_true {S : Int} {l : List Tb} (h : validN S l = true) : 2 ≤ S ∧ S ≤ 10 ∧ l.length ≤ 24 ∧ l.all (fun t => validTube t S) = true := by
  simp only [validN, Bool.and_eq_true, decide_eq_true_eq] at h
  have := inB_true h.1.1
  exact ⟨this.1, this.2, h.1.2, h.2⟩

set_option maxHeartbeats 2000000 in
theorem l02Ok_any (b : Nat) (S : Int) (A : Option Addr) (n c : Nat) (l : List Tb) (w : World) (h : NetAt w b S A n c l) (hl : n = l.length) (hn0 : n ≤ 1048576) :
    Calls Try.prog 47 #[.pointer (some ⟨b, 0, none⟩)] w (Ret w (.bool (validN S l))) := by
  have E : Hid (validN S l = (inB S 2 10 && decide (n ≤ 24) && l.all fun t => validTube t S)) := by rw [hl]; rfl
  have HL := Lib.hid hl
  obtain ⟨c0, c1, hts⟩ := h
  have H := Lib.hid hts
  clear hts hl
  cases hS : inB S 2 10
  · have E2 : Hid (validN S l = false) := by show _ = _; rw [E.out, hS]; rfl
    go_enter Try.func47, Try.ntmps47
    go_wp2_with (go_at_call 65; refine (l00In_any _ _ _ _).mono ?_; rintro e w' ⟨rfl, rfl⟩)
    go_ret
    exact ⟨ret_bool E2.out.symm, Below.refl _ _⟩
  · have hS' := inB_true hS
    by_cases h24 : n ≤ 24
    · have E2 : Hid (validN S l = l.all fun t => validTube t S) := by show _ = _; rw [E.out, hS]; simp [h24]
      go_enter Try.func47, Try.ntmps47
      go_wp2_with (go_at_call 65; refine (l00In_any _ _ _ _).mono ?_; rintro e w' ⟨rfl, rfl⟩)
      clear hS
      go_loopw [3] (fun u w' => ∃ (i : Nat), u = .int .i64 i ∧ i ≤ n ∧ Hid ((l.all fun t => validTube t S) = (l.drop i).all fun t => validTube t S) ∧ Below w.heap.size w w') (fun u _ => n - (intOf u).toNat)
      case atStart => exact ⟨0, rfl, by omega, rfl, Below.refl _ _⟩
      case round =>
        obtain ⟨i, rfl, hin, HA, hbel⟩ := hrel
        have k0 := bel_cell hbel c0
        have k1 := bel_cell hbel c1
        by_cases hlt : i < n
        · obtain ⟨b', o, rfl, hblt, hc⟩ := H.out (by rw [← HL.out]; omega)
          have hil : i < l.length := by rw [← HL.out]; exact hlt
          obtain ⟨t0, t1, t2⟩ := (hc i hil).bel hbel
          clear hc
          have hd := drop_at' hil
          cases hv : validTube l[i] S
          · have HS : Hid ((l.all fun t => validTube t S) = false) := by show _ = _; rw [HA.out, hd, List.all_cons, hv]; rfl
            clear hd
            have hv' : validTube (l[i].1, l[i].2.1, l[i].2.2) S = false := hv
            clear hv
            go_wp2_with fail
            go_region_held3 (fun w' => w'.cell? ⟨b, 0, none⟩ = some (.int .i64 S) ∧ w'.cell? ⟨b, 1, none⟩ = some (.slice (some ⟨b', o, none⟩) n c) ∧ w'.cell? ⟨b', o + i * 3, none⟩ = some (.int .i64 l[i].1) ∧ w'.cell? ⟨b', o + i * 3 + 1, none⟩ = some (.int .i64 l[i].2.1) ∧ w'.cell? ⟨b', o + i * 3 + 2, none⟩ = some (.int .i64 l[i].2.2) ∧ Below w.heap.size w w')
              (first
                | (refine ⟨k0, k1, t0, t1, t2, ?_⟩; go_grown; done)
                | (go_split_ands; refine ⟨?_, ?_, ?_, ?_, ?_, ?_⟩ <;> first | exact bel_cell hb4 (by assumption) | exact bel_next (by assumption) hb4))
              (first
                | (go_at_call 48; refine (l02Tube_any _ _ _ S _ hS'.1 hS'.2).mono ?_; rintro e w4 ⟨rfl, hb4⟩))
            obtain ⟨x0, x1, y0, y1, y2, D⟩ := ‹_ ∧ _ ∧ _ ∧ _ ∧ _ ∧ _›
            go_wp2_with fail
            go_ret
            exact ⟨ret_bool (by rw [E2.out, HS.out]), D⟩
          · have HS : Hid ((l.all fun t => validTube t S) = (l.drop (i + 1)).all fun t => validTube t S) := by show _ = _; rw [HA.out, hd, List.all_cons, hv]; rfl
            clear hd
            have hv' : validTube (l[i].1, l[i].2.1, l[i].2.2) S = true := hv
            clear hv
            go_wp2_with fail
            go_region_held3 (fun w' => w'.cell? ⟨b, 0, none⟩ = some (.int .i64 S) ∧ w'.cell? ⟨b, 1, none⟩ = some (.slice (some ⟨b', o, none⟩) n c) ∧ w'.cell? ⟨b', o + i * 3, none⟩ = some (.int .i64 l[i].1) ∧ w'.cell? ⟨b', o + i * 3 + 1, none⟩ = some (.int .i64 l[i].2.1) ∧ w'.cell? ⟨b', o + i * 3 + 2, none⟩ = some (.int .i64 l[i].2.2) ∧ Below w.heap.size w w')
              (first
                | (refine ⟨k0, k1, t0, t1, t2, ?_⟩; go_grown; done)
                | (go_split_ands; refine ⟨?_, ?_, ?_, ?_, ?_, ?_⟩ <;> first | exact bel_cell hb4 (by assumption) | exact bel_next (by assumption) hb4))
              (first
                | (go_at_call 48; refine (l02Tube_any _ _ _ S _ hS'.1 hS'.2).mono ?_; rintro e w4 ⟨rfl, hb4⟩))
            obtain ⟨x0, x1, y0, y1, y2, D⟩ := ‹_ ∧ _ ∧ _ ∧ _ ∧ _ ∧ _›
            go_wp2_with fail
            go_roundw
            case rel => exact ⟨i + 1, by go_num, by omega, HS, D⟩
            case measure => simp [intOf]; omega
        · have HS : Hid ((l.all fun t => validTube t S) = true) := by show _ = _; rw [HA.out, List.drop_of_length_le (by rw [← HL.out]; omega)]; rfl
          go_wp2_with fail
          go_ret
          exact ⟨ret_bool (by rw [E2.out, HS.out]), hbel⟩
    · have E2 : Hid (validN S l = false) := by show _ = _; rw [E.out]; simp [h24]
      go_enter Try.func47, Try.ntmps47
      go_wp2_with (go_at_call 65; refine (l00In_any _ _ _ _).mono ?_; rintro e w' ⟨rfl, rfl⟩)
      go_ret
      exact ⟨ret_bool E2.out.symm, Below.refl _ _⟩


theorem validNet1_any (S a b c : Int) (A : Option Addr) (n k p : Nat) (w : World) (s0 : 2 ≤ S) (s1 : S ≤ 10) (h0 : w.cell? ⟨p, 0, none⟩ = some (.int .i64 S)) (h1 : w.cell? ⟨p, 1, none⟩ = some (.slice A n k)) :
    Calls Try.prog 87 #[.agg #[.int .i64 a, .int .i64 b, .int .i64 c], .pointer (some ⟨p, 0, none⟩)] w (Ret w (.bool (!validTube (a, b, c) S))) := by
  have k0 := fun ob => bel_cell ((Below.refl w.heap.size w).alloc (Nat.le_refl _) ob) h0
  have k1 := fun ob => bel_cell ((Below.refl w.heap.size w).alloc (Nat.le_refl _) ob) h1
  clear h0 h1
  go_enter Try.func87, Try.ntmps87
  go_wp2_with fail
  refine (isTube_any S a b c A n k _ s0 s1).mono ?_
  rintro e w1 ⟨rfl, hb1⟩
  go_wp2_with fail
  go_ret
  exact ⟨rfl, Below.trans (by go_grown) (hb1.mono (by simp))⟩

/-- The first place at which a closure says yes, or -1. -/
def Found (w : World) (b : Bool) (e : Ending) (w' : World) : Prop := ∃ r : Int, e = .returned (.int .i64 r) ∧ decide (0 ≤ r) = b ∧ Below w.heap.size w w'

set_option maxHeartbeats 1000000 in
theorem IndexFunc_tubes (S : Int) (A : Option Addr) (n c p n' c' : Nat) (A' : Option Addr) (l : List Tb) (w : World) (h : TubesAt w A l) (hl : n = l.length) (hn0 : n ≤ 1048576) (s0 : 2 ≤ S) (s1 : S ≤ 10)
    (h0 : w.cell? ⟨p, 0, none⟩ = some (.int .i64 S)) (h1 : w.cell? ⟨p, 1, none⟩ = some (.slice A' n' c')) :
    Calls Try.prog 111 #[.slice A n c, .func (.func 87) #[] #[.pointer (some ⟨p, 0, none⟩)]] w (Found w (!l.all fun t => validTube t S)) := by
  have H := Lib.hid h
  have HL := Lib.hid hl
  clear h hl
  go_enter Try.func111, Try.ntmps111
  go_wp2
  go_loopw [8] (fun u w' => ∃ (i : Nat), u = .int .i64 i ∧ i ≤ n ∧ Hid ((l.all fun t => validTube t S) = (l.drop i).all fun t => validTube t S) ∧ Below w.heap.size w w') (fun u _ => n - (intOf u).toNat)
  case atStart => exact ⟨0, rfl, by omega, rfl, by go_grown⟩
  case round =>
    obtain ⟨i, rfl, hin, HA, hbel⟩ := hrel
    by_cases hlt : i < n
    · obtain ⟨b, o, rfl, hblt, hc⟩ := H.out (by rw [← HL.out]; omega)
      have hil : i < l.length := by rw [← HL.out]; exact hlt
      obtain ⟨t0, t1, t2⟩ := (hc i hil).bel hbel
      clear hc
      have hd := drop_at' hil
      cases hv : validTube l[i] S
      · have HS : Hid ((l.all fun t => validTube t S) = false) := by show _ = _; rw [HA.out, hd, List.all_cons, hv]; rfl
        clear hd
        have hv' : validTube (l[i].1, l[i].2.1, l[i].2.2) S = false := hv
        clear hv
        go_wp2_with (go_at_call 87; refine (validNet1_any S _ _ _ A' n' c' p _ s0 s1 (bel_cell hbel h0) (bel_cell hbel h1)).mono ?_; rintro e w2 ⟨rfl, hb2⟩)
        go_ret
        exact ⟨_, rfl, by rw [HS.out]; simp, bel_next hbel hb2⟩
      · have HS : Hid ((l.all fun t => validTube t S) = (l.drop (i + 1)).all fun t => validTube t S) := by show _ = _; rw [HA.out, hd, List.all_cons, hv]; rfl
        clear hd
        have hv' : validTube (l[i].1, l[i].2.1, l[i].2.2) S = true := hv
        clear hv
        go_wp2_with (go_at_call 87; refine (validNet1_any S _ _ _ A' n' c' p _ s0 s1 (bel_cell hbel h0) (bel_cell hbel h1)).mono ?_; rintro e w2 ⟨rfl, hb2⟩)
        go_roundw
        case rel => exact ⟨i + 1, by go_num, by omega, HS, bel_next hbel hb2⟩
        case measure => simp [intOf]; omega
    · have HS : Hid ((l.all fun t => validTube t S) = true) := by show _ = _; rw [HA.out, List.drop_of_length_le (by rw [← HL.out]; omega)]; rfl
      go_wp2_with fail
      go_ret
      exact ⟨-1, rfl, by rw [HS.out]; rfl, hbel⟩

theorem ContainsFunc_tubes (S : Int) (A : Option Addr) (n c p n' c' : Nat) (A' : Option Addr) (l : List Tb) (w : World) (h : TubesAt w A l) (hl : n = l.length) (hn0 : n ≤ 1048576) (s0 : 2 ≤ S) (s1 : S ≤ 10)
    (h0 : w.cell? ⟨p, 0, none⟩ = some (.int .i64 S)) (h1 : w.cell? ⟨p, 1, none⟩ = some (.slice A' n' c')) :
    Calls Try.prog 86 #[.slice A n c, .func (.func 87) #[] #[.pointer (some ⟨p, 0, none⟩)]] w (Ret w (.bool (!l.all fun t => validTube t S))) := by
  have HL := Lib.hid hl
  clear hl
  go_enter Try.func86, Try.ntmps86
  go_wp2_with fail
  refine (IndexFunc_tubes S A n c p n' c' A' l _ h HL.out hn0 s0 s1 h0 h1).mono ?_
  rintro e w1 ⟨r, rfl, hr, hb1⟩
  have HR := Lib.hid hr
  clear hr
  go_wp2_with fail
  go_ret
  exact ⟨ret_bool (by rw [← HR.out]), hb1⟩

theorem implValidNet_any (S : Int) (A : Option Addr) (n c : Nat) (l : List Tb) (w : World) (h : TubesAt w A l) (hl : n = l.length) (hn0 : n ≤ 1048576) :
    Calls Try.prog 50 #[.agg #[.int .i64 S, .slice A n c]] w (Ret w (.bool (validN S l))) := by
  have E : Hid (validN S l = (inB S 2 10 && decide (n ≤ 24) && l.all fun t => validTube t S)) := by rw [hl]; rfl
  have HL := Lib.hid hl
  have H := Lib.hid h
  clear hl h
  cases hS : inB S 2 10
  · have E2 : Hid (validN S l = false) := by show _ = _; rw [E.out, hS]; rfl
    go_enter Try.func50, Try.ntmps50
    go_wp2_with (go_at_call 85; refine (within_any _ _ _ _).mono ?_; rintro e w' ⟨rfl, rfl⟩)
    go_ret
    exact ⟨ret_bool E2.out.symm, by go_grown⟩
  · have hS' := inB_true hS
    by_cases h24 : n ≤ 24
    · have E2 : Hid (validN S l = l.all fun t => validTube t S) := by show _ = _; rw [E.out, hS]; simp [h24]
      go_enter Try.func50, Try.ntmps50
      go_wp2_with (first
        | (go_at_call 85; refine (within_any _ _ _ _).mono ?_; rintro e w' ⟨rfl, rfl⟩)
        | (go_at_call 86; refine (ContainsFunc_tubes S A n c w.heap.size n c A l _ (H.out.alloc _) HL.out hn0 hS'.1 hS'.2 (by go_cell) (by go_cell)).mono ?_; rintro e w1 ⟨rfl, hb1⟩))
      go_ret
      exact ⟨ret_bool (by rw [E2.out]), Below.trans (by go_grown) (hb1.mono (by simp))⟩
    · have E2 : Hid (validN S l = false) := by show _ = _; rw [E.out]; simp [h24]
      go_enter Try.func50, Try.ntmps50
      go_wp2_with (go_at_call 85; refine (within_any _ _ _ _).mono ?_; rintro e w' ⟨rfl, rfl⟩)
      go_ret
      exact ⟨ret_bool E2.out.symm, by go_grown⟩

end Go.Proofs.Ytlebkjkiikehhaa
