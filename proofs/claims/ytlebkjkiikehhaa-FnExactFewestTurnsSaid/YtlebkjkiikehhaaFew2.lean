/-
  CONTRACT: the closure of the program's FewestTurns.
-/
import Derived.Test.YtlebkjkiikehhaaFew1
import Derived.Test.YtlebkjkiikehhaaMarkRun
import Derived.Test.YtlebkjkiikehhaaTubesFrom
namespace Go.Proofs.Ytlebkjkiikehhaa.Cst
open Go.RowKit

theorem clone_any (A : Option Addr) (n c : Nat) (l : List Int) (w : World) (hs : (A = none ∧ n = 0 ∧ c = 0) ∨ ∃ b o, A = some ⟨b, o, none⟩) (h : IntsAt w A l) (hl : n = l.length) (hn0 : n ≤ 1048576) :
    Calls Try.prog 84 #[.slice A n c] w (MadeI w 2 l) := by
  rcases hs with ⟨rfl, rfl, rfl⟩ | ⟨b, o, rfl⟩
  · have : l = [] := by cases l with
      | nil => rfl
      | cons x xs => simp at hl
    subst this
    exact cloneN_any w
  · exact cloneY_any b o n c l w h hl hn0

/-- The three boxes hold a state of the search. -/
def StW (w : World) (h0 e : Nat) (s : St) : Prop :=
  Blk w (e + 1) 2 #[.int .i64 s.2.1] ∧ Blk w (e + 2) 2 #[.int .i64 s.2.2] ∧
  ∃ A c, Blk w e 39 #[.slice A s.1.length c] ∧ w.ownsRow h0 2 1 (.slice A s.1.length c) s.1.length (s.1.map (Value.int .i64))
theorem StW.bel {w w' : World} {h0 e : Nat} {s : St} (h : StW w h0 e s) (hb : Below w.heap.size w w') : StW w' h0 e s := by
  obtain ⟨h1, h2, A, c, h3, h4⟩ := h
  exact ⟨bel_blk h1 hb, bel_blk h2 hb, A, c, bel_blk h3 hb, own_belw h4 hb⟩
theorem StW.put {w : World} {h0 e b : Nat} {s : St} {A : Option Addr} {c : Nat} {way : List Int} (h : StW w h0 e s) (ho : w.ownsRow b 2 1 (.slice A way.length c) way.length (way.map (Value.int .i64))) (hb : h0 ≤ e ∧ e + 3 ≤ b) (q z : Int) :
    StW (((w.setCell ⟨e, 0, none⟩ (.slice A way.length c)).setCell ⟨e + 1, 0, none⟩ (.int .i64 q)).setCell ⟨e + 2, 0, none⟩ (.int .i64 z)) h0 e (way, q, z) := by
  obtain ⟨h1, h2, A0, c0, h3, -⟩ := h
  refine ⟨?_, ?_, A, c, ?_, ?_⟩
  · exact ((h1.far (by simp) _).set_ 0 _).far (by simp) _
  · exact ((h2.far (by simp) _).far (by simp) _).set_ 0 _
  · exact ((h3.set_ 0 _).far (by simp) _).far (by simp) _
  · exact own_base (own_far (own_far (own_far ho (by show e < b; omega) _) (by show e + 1 < b; omega) _) (by show e + 2 < b; omega) _) (by omega)
theorem butR_bel {lo hi : Nat} {w w' : World} (h : Below w.heap.size w w') : ButR lo hi w w' := ButR.ofBut (A := none) (But.ofBelow h) (fun p hp => by cases hp)
theorem butR_put {w : World} {e : Nat} (v q z : Value) : ButR e (e + 3) w (((w.setCell ⟨e, 0, none⟩ v).setCell ⟨e + 1, 0, none⟩ q).setCell ⟨e + 2, 0, none⟩ z) :=
  ((ButR.set w ⟨by omega, by omega⟩ 0 v).trans (ButR.set _ ⟨by omega, by omega⟩ 0 q)).trans (ButR.set _ ⟨by omega, by omega⟩ 0 z)
/-- What the search leaves. -/
def Searched (w : World) (h0 e : Nat) (s : St) (x : Ending) (w' : World) : Prop := ∃ v, x = .returned v ∧ StW w' h0 e s ∧ ButR e (e + 3) w w'
theorem stepS_yes {l : List Tb} {st : List Int} {s : St} {way : List Int} (h : s.2.1 < 0 ∨ (tuF l st way : Int) < s.2.1 ∨ ((tuF l st way : Int) = s.2.1 ∧ leF l way < s.2.2)) : stepS l st s way = (way, (tuF l st way : Int), leF l way) := if_pos h
theorem stepS_no {l : List Tb} {st : List Int} {s : St} {way : List Int} (h : ¬ (s.2.1 < 0 ∨ (tuF l st way : Int) < s.2.1 ∨ ((tuF l st way : Int) = s.2.1 ∧ leF l way < s.2.2))) : stepS l st s way = s := if_neg h

set_option maxHeartbeats 8000000 in
set_option maxRecDepth 100000 in
theorem yield_any (h0 nb sb e : Nat) (S : Int) (A : Option Addr) (n c : Nat) (l : List Tb) (A' : Option Addr) (n' c' : Nat) (st : List Int) (A2 : Option Addr) (n2 c2 : Nat) (way : List Int) (s : St) (w : World)
    (hN : Blk w nb 30 #[.int .i64 S, .slice A n c]) (hB : Blk w sb 39 #[.slice A' n' c']) (h : TubesAt w A l) (hl : n = l.length) (h' : IntsAt w A' st) (hl' : n' = st.length)
    (hs2 : (A2 = none ∧ n2 = 0 ∧ c2 = 0) ∨ ∃ b o, A2 = some ⟨b, o, none⟩) (h2 : IntsAt w A2 way) (hl2 : n2 = way.length) (hn2 : n2 ≤ 1048576) (hv : setOK S l st = true) (hw : Idx l way) (hS : StW w h0 e s) (he : h0 ≤ e) :
    Calls Try.prog 81 #[.slice A2 n2 c2, .pointer (some ⟨nb, 0, none⟩), .pointer (some ⟨sb, 0, none⟩), .pointer (some ⟨e + 1, 0, none⟩), .pointer (some ⟨e + 2, 0, none⟩), .pointer (some ⟨e, 0, none⟩)] w (Searched w h0 e (stepS l st s way)) := by
  have HL := Lib.hid hl
  have HL' := Lib.hid hl'
  have H := Lib.hid h
  have H' := Lib.hid h'
  have HL2 := Lib.hid hl2
  have H2 := Lib.hid h2
  have HS2 := Lib.hid hs2
  have HV := Lib.hid hv
  have HW := Lib.hid hw
  have HS := Lib.hid hS
  have HVN := Lib.hid (setOK_true hv).1
  obtain ⟨n0, n1, -⟩ := hN.c2
  have s0 : w.cell? ⟨sb, 0, none⟩ = some (.slice A' n' c') := hB.cell 0
  have he2 : e + 2 < w.heap.size := hS.2.1.lt
  obtain ⟨q, hq⟩ : ∃ q, tuF l st way = q := ⟨_, rfl⟩
  obtain ⟨z, hz⟩ : ∃ z, leF l way = z := ⟨_, rfl⟩
  obtain ⟨T, hT⟩ : ∃ T, s.2.1 = T := ⟨_, rfl⟩
  obtain ⟨G, hG⟩ : ∃ G, s.2.2 = G := ⟨_, rfl⟩
  have HQ := Lib.hid hq
  have HZ := Lib.hid hz
  have HT := Lib.hid hT
  have HG := Lib.hid hG
  have EY : Hid ((T < 0 ∨ (q : Int) < T ∨ ((q : Int) = T ∧ z < G)) → stepS l st s way = (way, (q : Int), z)) := by
    show _ → _
    intro hh
    have := stepS_yes (l := l) (st := st) (s := s) (way := way) (by rw [hq, hz, hT, hG]; exact hh)
    rw [hq, hz] at this
    exact this
  have EN : Hid (¬ (T < 0 ∨ (q : Int) < T ∨ ((q : Int) = T ∧ z < G)) → stepS l st s way = s) := by
    show _ → _
    intro hh
    exact stepS_no (by rw [hq, hz, hT, hG]; exact hh)
  clear hN hB h hl h' hl' hs2 h2 hl2 hv hw hS hq hz hT hG
  go_enter Try.func81, Try.ntmps81
  go_wp2_with fail
  go_region_held3 (fun w' => w'.cell? ⟨nb, 0, none⟩ = some (.int .i64 S) ∧ w'.cell? ⟨nb, 1, none⟩ = some (.slice A n c) ∧ w'.cell? ⟨sb, 0, none⟩ = some (.slice A' n' c') ∧ Below w.heap.size w w')
    (first
      | (exact ⟨n0, n1, s0, (Below.refl _ _).drew⟩)
      | (have hS := ‹_ ∧ _ ∧ _ ∧ Below _ _ _›; exact ⟨bel_cell hbR hS.1, bel_cell hbR hS.2.1, bel_cell hbR hS.2.2.1, bel_next hS.2.2.2 hbR⟩))
    (first
      | (go_at_call 82; (with_reducible refine (turns_any S A n c l A' n' c' st A2 n2 c2 way _ (H.out.bel (‹_ ∧ _ ∧ _ ∧ Below _ _ _›).2.2.2) HL.out (H'.out.bel (‹_ ∧ _ ∧ _ ∧ Below _ _ _›).2.2.2) HL'.out (H2.out.bel (‹_ ∧ _ ∧ _ ∧ Below _ _ _›).2.2.2) HL2.out hn2 HV.out HW.out).mono ?_); rintro x w5 ⟨rfl, hbR⟩; rw [HQ.out])
      | (go_at_call 83; (with_reducible refine (length_any S A n c l A2 n2 c2 way _ (H.out.bel (‹_ ∧ _ ∧ _ ∧ Below _ _ _›).2.2.2) HL.out (H2.out.bel (‹_ ∧ _ ∧ _ ∧ Below _ _ _›).2.2.2) HL2.out hn2 HVN.out HW.out).mono ?_); rintro x w5 ⟨rfl, hbR⟩; rw [HZ.out]))
  all_goals
    rename_i hHX
    have D5 : Below w.heap.size w w5 := hHX.2.2.2
    clear hHX
    have S5 := Lib.hid (HS.out.bel D5)
    have c1 : w5.cell? ⟨e + 1, 0, none⟩ = some (.int .i64 T) := by rw [← HT.out]; exact S5.out.1.cell 0
    have c2' : w5.cell? ⟨e + 2, 0, none⟩ = some (.int .i64 G) := by rw [← HG.out]; exact S5.out.2.1.cell 0
    have he5 : e + 3 ≤ w5.heap.size := by have := D5.size; omega
    clear hbR
    by_cases h1 : T < 0
    · skip
      have E := Lib.hid <| EY.out (.inl h1)
      clear EY EN
      go_wp2_with fail
      refine (clone_any A2 n2 c2 way _ HS2.out (H2.out.bel D5) HL2.out hn2).mono ?_
      rintro x w6 ⟨A6, c6, rfl, O6, hb⟩
      have S6 := Lib.hid (S5.out.bel hb)
      have R6 := Lib.hid ((butR_bel (lo := e) (hi := e + 3) D5).trans (butR_bel hb))
      have he6 : e + 2 < w6.heap.size := S6.out.2.1.lt
      have HE6 : Hid (h0 ≤ e ∧ e + 3 ≤ w5.heap.size) := ⟨he, he5⟩
      have O6' := Lib.hid O6
      obtain ⟨f1, f2, A7, c7, f3, -⟩ := S6.out
      have g1 : w6.cell? ⟨e + 1, 0, none⟩ = some (.int .i64 s.2.1) := f1.cell 0
      have g2 : w6.cell? ⟨e + 2, 0, none⟩ = some (.int .i64 s.2.2) := f2.cell 0
      have g3 : w6.cell? ⟨e, 0, none⟩ = some (.slice A7 s.1.length c7) := f3.cell 0
      have k1 := f1.frozen 0
      have k2 := f2.frozen 0
      have k3 := f3.frozen 0
      clear hb O6 f1 f2 f3 D5 S5 c1 c2'
      go_wp2_with fail
      refine bodyPost_end (v := .tuple #[]) (by simp [results, Try.results81, go_sem]) rfl ?_
      rw [E.out]
      exact ⟨_, rfl, StW.put S6.out O6'.out HE6.out _ _, R6.out.trans (butR_put _ _ _)⟩
    · by_cases h2 : (q : Int) < T
      · skip
        have E := Lib.hid <| EY.out (.inr (.inl h2))
        clear EY EN
        go_wp2_with fail
        refine (clone_any A2 n2 c2 way _ HS2.out (H2.out.bel D5) HL2.out hn2).mono ?_
        rintro x w6 ⟨A6, c6, rfl, O6, hb⟩
        have S6 := Lib.hid (S5.out.bel hb)
        have R6 := Lib.hid ((butR_bel (lo := e) (hi := e + 3) D5).trans (butR_bel hb))
        have he6 : e + 2 < w6.heap.size := S6.out.2.1.lt
        have HE6 : Hid (h0 ≤ e ∧ e + 3 ≤ w5.heap.size) := ⟨he, he5⟩
        have O6' := Lib.hid O6
        obtain ⟨f1, f2, A7, c7, f3, -⟩ := S6.out
        have g1 : w6.cell? ⟨e + 1, 0, none⟩ = some (.int .i64 s.2.1) := f1.cell 0
        have g2 : w6.cell? ⟨e + 2, 0, none⟩ = some (.int .i64 s.2.2) := f2.cell 0
        have g3 : w6.cell? ⟨e, 0, none⟩ = some (.slice A7 s.1.length c7) := f3.cell 0
        have k1 := f1.frozen 0
        have k2 := f2.frozen 0
        have k3 := f3.frozen 0
        clear hb O6 f1 f2 f3 D5 S5 c1 c2'
        go_wp2_with fail
        refine bodyPost_end (v := .tuple #[]) (by simp [results, Try.results81, go_sem]) rfl ?_
        rw [E.out]
        exact ⟨_, rfl, StW.put S6.out O6'.out HE6.out _ _, R6.out.trans (butR_put _ _ _)⟩
      · by_cases h3 : (q : Int) = T
        · subst h3
          have h3b : ((q : Int) == (q : Int)) = true := by simp
          by_cases h4 : z < G
          · skip
            have E := Lib.hid <| EY.out (.inr (.inr ⟨rfl, h4⟩))
            clear EY EN
            go_wp2_with fail
            refine (clone_any A2 n2 c2 way _ HS2.out (H2.out.bel D5) HL2.out hn2).mono ?_
            rintro x w6 ⟨A6, c6, rfl, O6, hb⟩
            have S6 := Lib.hid (S5.out.bel hb)
            have R6 := Lib.hid ((butR_bel (lo := e) (hi := e + 3) D5).trans (butR_bel hb))
            have he6 : e + 2 < w6.heap.size := S6.out.2.1.lt
            have HE6 : Hid (h0 ≤ e ∧ e + 3 ≤ w5.heap.size) := ⟨he, he5⟩
            have O6' := Lib.hid O6
            obtain ⟨f1, f2, A7, c7, f3, -⟩ := S6.out
            have g1 : w6.cell? ⟨e + 1, 0, none⟩ = some (.int .i64 s.2.1) := f1.cell 0
            have g2 : w6.cell? ⟨e + 2, 0, none⟩ = some (.int .i64 s.2.2) := f2.cell 0
            have g3 : w6.cell? ⟨e, 0, none⟩ = some (.slice A7 s.1.length c7) := f3.cell 0
            have k1 := f1.frozen 0
            have k2 := f2.frozen 0
            have k3 := f3.frozen 0
            clear hb O6 f1 f2 f3 D5 S5 c1 c2'
            go_wp2_with fail
            refine bodyPost_end (v := .tuple #[]) (by simp [results, Try.results81, go_sem]) rfl ?_
            rw [E.out]
            exact ⟨_, rfl, StW.put S6.out O6'.out HE6.out _ _, R6.out.trans (butR_put _ _ _)⟩
          · skip
            have E := Lib.hid <| EN.out (by omega)
            clear EY EN
            go_wp2_with fail
            refine bodyPost_end (v := .tuple #[]) (by simp [results, Try.results81, go_sem]) rfl ?_
            rw [E.out]
            exact ⟨_, rfl, S5.out, butR_bel D5⟩
        · have h3b : ((q : Int) == T) = false := by simpa using h3
          have E := Lib.hid <| EN.out (by omega)
          clear EY EN
          go_wp2_with fail
          refine bodyPost_end (v := .tuple #[]) (by simp [results, Try.results81, go_sem]) rfl ?_
          rw [E.out]
          exact ⟨_, rfl, S5.out, butR_bel D5⟩

end Go.Proofs.Ytlebkjkiikehhaa.Cst
