/-
  THE WALK of the law on AddTube.
-/
import Derived.Test.YtlebkjkiikehhaaAddT3
import Derived.Test.YtlebkjkiikehhaaHeldN
import Derived.Test.YtlebkjkiikehhaaAid
import Derived.Test.YtlebkjkiikehhaaFrameNet
namespace Go.Proofs.Ytlebkjkiikehhaa
open Go.RowKit

/-- What is the same behind each way through a region is walked once. -/
theorem share {α β γ δ ε : Type} {F G : α → β → γ → δ → ε → Prop} {Z : Prop} (h1 : (∀ a b c d e, F a b c d e → G a b c d e) → Z) (h2 : ∀ a b c d e, F a b c d e → G a b c d e) : Z := h1 h2
theorem share4 {α β γ δ : Type} {F G : α → β → γ → δ → Prop} {Z : Prop} (h1 : (∀ a b c d, F a b c d → G a b c d) → Z) (h2 : ∀ a b c d, F a b c d → G a b c d) : Z := h1 h2
theorem own_gives3 {w : World} {base n c : Nat} {e : TypeId} {A : Option Addr} {l : List Tb} (h : w.ownsRow base e 3 (.slice A n c) n (cells3 l)) (hl : l.length = n) :
    TubesAt w A l ∧ Own w A (n * 3) ∧ (∀ p, A = some p → base ≤ p.block ∧ p.block < w.heap.size) := by
  refine ⟨?_, ?_, ?_⟩
  · intro h0
    subst hl
    obtain ⟨b, o, e, hlt, hc⟩ := SpAt.ofOwn h h0
    exact ⟨b, o, e, hlt, fun k hk => ⟨(hc k hk).1, (hc k hk).2.1, (hc k hk).2.2⟩⟩
  · intro h0
    rcases h.2 with ⟨hv, hn⟩ | ⟨g, cap, cur, hv, hb, hg, hnc, _, hsz, _⟩
    · omega
    · injection hv with hA
      exact ⟨g, e, cur, hA, hg, by rw [hsz]; exact Nat.mul_le_mul_right 3 hnc⟩
  · intro p hp
    rcases h.2 with ⟨hv, hn⟩ | ⟨g, cap, cur, hv, hb, hg, hnc, _, hsz, _⟩
    · injection hv with hA
      rw [hA] at hp
      cases hp
    · injection hv with hA
      rw [hA] at hp
      injection hp with hp
      subst hp
      exact ⟨hb, Blk.lt hg⟩

theorem addT_len {S : Int} {l rl : List Tb} {t : Tb} {RS rk : Int} (h : addT S l t = ((RS, rl), rk)) : rl.length ≤ 1048576 := by
  unfold addT at h
  split at h
  · cases h; simp
  · split at h
    · cases h; simp
    · split at h
      · cases h; simp
      · cases h; simp; omega
/-- A network of one's own in a box, behind a region. -/
def ResN (w1 : World) (t : TypeId) (RS : Int) (rl : List Tb) (w' : World) (g : Nat) (A : Option Addr) (c : Nat) : Prop :=
  Blk w' g t #[.int .i64 RS, .slice A rl.length c] ∧ TubesAt w' A rl ∧ Own w' A (rl.length * 3) ∧ (∀ p, A = some p → p.block ≠ g ∧ w1.heap.size ≤ p.block ∧ p.block < w'.heap.size) ∧ w1.heap.size ≤ g ∧ Below w1.heap.size w1 w'
theorem fin_A {w1 w7 : World} {base c : Nat} {t tt : TypeId} {RS : Int} {rl : List Tb} {A : Option Addr} (O6 : w7.ownsRow base tt 3 (.slice A rl.length c) rl.length (cells3 rl)) (D7 : Below w1.heap.size w1 w7) (hb : w1.heap.size ≤ base) :
    ResN w1 t RS rl (w7.alloc (.cells #[.int .i64 RS, .slice A rl.length c] t)) w7.heap.size A c := by
  obtain ⟨I, W, U⟩ := own_gives3 O6 rfl
  have hB : Below w7.heap.size w7 (w7.alloc (.cells #[.int .i64 RS, .slice A rl.length c] t)) := (Below.refl _ _).alloc (Nat.le_refl _) _
  exact ⟨Blk.new _ _ _, I.bel hB, W.bel hB, fun p hp => by have := U p hp; simp only [World.size_alloc]; omega, D7.size, bel_next D7 hB⟩
theorem fin_B {w1 w7 : World} {base c X : Nat} {t tt : TypeId} {RS : Int} {rl : List Tb} {A : Option Addr} (O6 : w7.ownsRow base tt 3 (.slice A rl.length c) rl.length (cells3 rl)) (D7 : Below w1.heap.size w1 w7)
    (RB : Hid (Blk w7 X t #[.int .i64 0, .slice none 0 0])) (hX : w1.heap.size ≤ X) (hb : X < base) :
    ResN w1 t RS rl ((w7.setCell ⟨X, 0, none⟩ (.int .i64 RS)).setCell ⟨X, 1, none⟩ (.slice A rl.length c)) X A c := by
  obtain ⟨I, W, U⟩ := own_gives3 O6 rfl
  have hB : But (some ⟨X, 0, none⟩) w7 ((w7.setCell ⟨X, 0, none⟩ (.int .i64 RS)).setCell ⟨X, 1, none⟩ (.slice A rl.length c)) := ((But.refl _ _).set rfl _).set rfl _
  have hne : ∀ p q, A = some p → (some ⟨X, 0, none⟩ : Option Addr) = some q → q.block ≠ p.block := fun p q hp hq => by
    injection hq with hq
    subst hq
    have := U p hp
    simp only
    omega
  exact ⟨(RB.out.set_ 0 (.int .i64 RS)).set_ 1 _, I.but hB (fun _ => hne), W.but hB (fun _ => hne), fun p hp => by have := U p hp; have := hB.size; omega, hX, (D7.setCell hX _).setCell hX _⟩

set_option maxHeartbeats 8000000 in
theorem walk_FnExactAddTube {w : World} (S0 : Int) (A0 : Option Addr) (n0 : Nat) (c0 : Nat) (l0 : List Tb) (F0 : NetArg w A0 n0 l0) (X1 Y1 Z1 : Int) : Calls Try.prog 3 #[.agg #[.int .i64 S0, .slice A0 n0 c0], .agg #[.int .i64 X1, .int .i64 Y1, .int .i64 Z1]] w (Ret w (.bool true)) := by
  obtain ⟨hl0, H0, hn0⟩ := F0
  have HL0 := Lib.hid hl0.symm
  clear hl0
  obtain ⟨⟨⟨RS, rl⟩, rk⟩, hx⟩ : ∃ x, addT S0 l0 (X1, Y1, Z1) = x := ⟨_, rfl⟩
  have HX := Lib.hid hx
  clear hx
  have V0 := H0.src
  go_enter Try.func3, Try.ntmps3
  go_wp2_with fail
  refine (szNet_any S0 A0 n0 c0 1048576 _ (by omega) (by omega) hn0).mono ?_
  rintro e w1 ⟨rfl, hb⟩
  obtain ⟨z0, Z0⟩ : ∃ z, Hid (szF 1048576 n0 = z) := ⟨_, rfl⟩
  rw [Z0.out]
  have B0 := szF_ok (by omega) (by omega) Z0.out
  have N0 : Hid (Blk w1 (w.heap.size) 24 #[.int .i64 S0, .slice A0 n0 c0]) := bel_blk ((Blk.new _ _ _).alloc _) hb
  have T0 : Hid (Blk w1 (w.heap.size + 1) 26 #[.int .i64 X1, .int .i64 Y1, .int .i64 Z1]) := bel_blk (Blk.newAt (by simp)) hb
  replace hb : Below w.heap.size w w1 := Below.trans (by go_grown) (hb.mono (by simp only [World.size_alloc]; omega))
  have bN0 := T0.out.lt
  replace H0 := H0.bel hb
  have D := hb
  clear hb
  clear Z0
  rcases Int.lt_or_le z0 0 with hz0 | hz0
  · go_wp2_with fail
    go_ret
    exact ⟨rfl, D⟩
  obtain ⟨hy0, hs0⟩ := B0 hz0
  clear B0
  obtain ⟨N0_0, N0_1, -⟩ := N0.out.c2
  obtain ⟨T0_0, T0_1, T0_2, -⟩ := T0.out.c3
  have N0_s : w.heap.size < w1.heap.size := by omega
  have HW1 := Lib.hid (show w1.heap.size ≤ w1.heap.size from Nat.le_refl _)
  go_wp2_with fail
  apply share (F := fun (w' : World) (g : Nat) (A : Option Addr) (c : Nat) (_ : Nat) => ResN w1 30 RS rl w' g A c)
  · intro rest
    have keepS : ∀ w', Below w1.heap.size w1 w' → (w'.cell? ⟨w.heap.size, 0, none⟩ = some (.int .i64 S0) ∧ w'.cell? ⟨w.heap.size, 1, none⟩ = some (.slice A0 n0 c0) ∧ w'.cell? ⟨w.heap.size + 1, 0, none⟩ = some (.int .i64 X1) ∧ w'.cell? ⟨w.heap.size + 1, 1, none⟩ = some (.int .i64 Y1) ∧ w'.cell? ⟨w.heap.size + 1, 2, none⟩ = some (.int .i64 Z1) ∧ TubesAt w' A0 l0 ∧ Below w1.heap.size w1 w') := fun w' hB => ⟨bel_cell hB N0_0, bel_cell hB N0_1, bel_cell hB T0_0, bel_cell hB T0_1, bel_cell hB T0_2, H0.bel hB, hB⟩
    go_region_held3 (fun w' => w'.cell? ⟨w.heap.size, 0, none⟩ = some (.int .i64 S0) ∧ w'.cell? ⟨w.heap.size, 1, none⟩ = some (.slice A0 n0 c0) ∧ w'.cell? ⟨w.heap.size + 1, 0, none⟩ = some (.int .i64 X1) ∧ w'.cell? ⟨w.heap.size + 1, 1, none⟩ = some (.int .i64 Y1) ∧ w'.cell? ⟨w.heap.size + 1, 2, none⟩ = some (.int .i64 Z1) ∧ TubesAt w' A0 l0 ∧ Below w1.heap.size w1 w')
      (first
        | (exact keepS _ (Below.refl _ _).drew)
        | (exact keepS _ (bel_next (‹_ ∧ _ ∧ _ ∧ _ ∧ _ ∧ TubesAt _ _ _ ∧ Below _ _ _›).2.2.2.2.2.2 hbR))
        | (exact keepS _ (Below.alloc (‹_ ∧ _ ∧ _ ∧ _ ∧ _ ∧ TubesAt _ _ _ ∧ Below _ _ _›).2.2.2.2.2.2 (‹_ ∧ _ ∧ _ ∧ _ ∧ _ ∧ TubesAt _ _ _ ∧ Below _ _ _›).2.2.2.2.2.2.size _))
        | (exact keepS _ (Below.alloc D7 D7.size _))
        | (exact keepS _ (Below.setCell (Below.setCell D7 (by first | (simp; done) | (simp; omega)) _) (by first | (simp; done) | (simp; omega)) _))
        | (exact keepS _ (Below.setCell (Below.setCell (‹_ ∧ _ ∧ _ ∧ _ ∧ _ ∧ TubesAt _ _ _ ∧ Below _ _ _›).2.2.2.2.2.2 (by first | (simp; done) | (simp; omega)) _) (by first | (simp; done) | (simp; omega)) _)))
      (first
        | (go_at_call 11; (with_reducible refine (toNet_any S0 A0 n0 c0 l0 _ (by first | exact (‹_ ∧ _ ∧ _ ∧ _ ∧ _ ∧ TubesAt _ _ _ ∧ Below _ _ _›).2.2.2.2.2.1 | exact H0.drew) HL0.out hs0).mono ?_); rintro e w5 ⟨gs0, rfl, hgs0, Rs0, hbR⟩; (first | (have RB := Lib.hid (bel_blk (Blk.new _ _ _) hbR)) | (have RB := Lib.hid (bel_blk (Blk.new _ _ _).drew hbR)) | skip); have Ps0 := Rs0.tubes; have qy5 := hbR.size; have qz5 : w1.heap.size ≤ w5.heap.size := (by first | exact Nat.le_trans (‹_ ∧ _ ∧ _ ∧ _ ∧ _ ∧ TubesAt _ _ _ ∧ Below _ _ _›).2.2.2.2.2.2.size hbR.size | exact hbR.size))
        | (go_at_call 12; (with_reducible refine (toTube_any X1 Y1 Z1 _).mono ?_); rintro e w6 ⟨rfl, hbR⟩; (first | (replace RB := hid_blk RB hbR) | (have RB := Lib.hid (bel_blk (Blk.new _ _ _) hbR)) | (have RB := Lib.hid (bel_blk (Blk.new _ _ _).drew hbR)) | skip); have Ps0 := Ps0.bel (w' := w6) (by first | exact hbR | exact Below.trans ((Below.refl _ _).alloc (Nat.le_refl _) _) (hbR.mono (by simp))); have qy6 := hbR.size; have qz6 : w1.heap.size ≤ w6.heap.size := (by first | exact Nat.le_trans (‹_ ∧ _ ∧ _ ∧ _ ∧ _ ∧ TubesAt _ _ _ ∧ Below _ _ _›).2.2.2.2.2.2.size hbR.size | exact hbR.size))
        | (go_at_call 10; refine (specAddTube_any S0 gs0 n0 n0 l0 X1 Y1 Z1 _ (by first | exact Ps0 | exact Ps0.alloc _) HL0.out hs0).mono ?_; rw [HX.out]; rintro e w7 ⟨A6, c6, rfl, O6, hbR⟩; (first | (replace RB := hid_blk RB hbR) | (have RB := Lib.hid (bel_blk (Blk.new _ _ _) hbR)) | (have RB := Lib.hid (bel_blk (Blk.new _ _ _).drew hbR)) | skip); (try obtain ⟨y0, y1, y2, y3⟩ := RB.out.c2); have qz7 : w1.heap.size ≤ w7.heap.size := (by first | exact Nat.le_trans (‹_ ∧ _ ∧ _ ∧ _ ∧ _ ∧ TubesAt _ _ _ ∧ Below _ _ _›).2.2.2.2.2.2.size hbR.size | exact hbR.size); have D7 : Below w1.heap.size w1 w7 := bel_next (‹_ ∧ _ ∧ _ ∧ _ ∧ _ ∧ TubesAt _ _ _ ∧ Below _ _ _›).2.2.2.2.2.2 hbR))
    all_goals go_step
    all_goals go_step
    all_goals first
      | (have f := fin_A (t := 30) (RS := RS) O6 D7 qz6
         generalize hW : w7.alloc (.cells #[.int .i64 RS, .slice A6 rl.length c6] 30) = W at f ⊢
         generalize hg : w7.heap.size = g at f ⊢
         exact rest _ _ _ _ gs0 f)
      | (have f := fin_B (RS := RS) O6 D7 RB qz6 (by simp)
         generalize hW : (w7.setCell ⟨w6.heap.size, 0, none⟩ (.int .i64 RS)).setCell ⟨w6.heap.size, 1, none⟩ (.slice A6 rl.length c6) = W at f ⊢
         generalize hg : w6.heap.size = g at f ⊢
         exact rest _ _ _ _ gs0 f)
      | (have f := fin_B (RS := RS) O6 D7 RB qz5 (Nat.lt_of_lt_of_le (by simp) qy6)
         generalize hW : (w7.setCell ⟨w5.heap.size, 0, none⟩ (.int .i64 RS)).setCell ⟨w5.heap.size, 1, none⟩ (.slice A6 rl.length c6) = W at f ⊢
         generalize hg : w5.heap.size = g at f ⊢
         exact rest _ _ _ _ gs0 f)
      | (have f := fin_B (RS := RS) O6 D7 RB (Nat.le_refl _) (Nat.lt_of_lt_of_le (show w1.heap.size < (w1.alloc _).heap.size by simp) (Nat.le_trans qy5 qy6))
         generalize hW : (w7.setCell ⟨w1.heap.size, 0, none⟩ (.int .i64 RS)).setCell ⟨w1.heap.size, 1, none⟩ (.slice A6 rl.length c6) = W at f ⊢
         generalize hg : w1.heap.size = g at f ⊢
         exact rest _ _ _ _ gs0 f)
  · rintro w6 g6 A6 c6 gq ⟨R6, I6, W6, U6, hg6, hb6⟩
    replace H0 := H0.bel hb6
    have hbw : Below w1.heap.size w1 w6 := hb6
    replace N0 := hid_blk N0 hb6
    replace T0 := hid_blk T0 hb6
    replace D := bel_next D hb6
    have R6 := Lib.hid R6
    have hr := addT_len HX.out
    have v6 := R6.out.lt
    have q6 := hb6.size
    clear N0_0 N0_1 T0_0 T0_1 T0_2 N0_s HW1 hb6 hbw
    obtain ⟨N0_0, N0_1, -⟩ := N0.out.c2
    have N0_s := N0.out.lt
    go_wp2_with fail
    refine (toNet_any S0 A0 n0 c0 l0 _ H0 HL0.out hs0).mono ?_
    rintro e w7 ⟨gi0, rfl, hgi0, Ri0, hb⟩
    have Pi0 := Ri0.tubes
    have Wi0 := Own.ofTB Ri0 HL0.out
    have vi0 := TB.lt Ri0
    replace H0 := H0.bel hb
    replace N0 := hid_blk N0 hb
    replace T0 := hid_blk T0 hb
    replace R6 := hid_blk R6 hb
    replace I6 := I6.bel hb
    replace D := bel_next D hb
    have q7 := hb.size
    clear hb Ri0 N0_0 N0_1 N0_s W6
    go_wp2_with fail
    have X0 : Hid (Blk (w7.alloc (.cells #[.int .i64 S0, .slice (some ⟨gi0, 0, none⟩) n0 n0] 30)) w7.heap.size 30 #[.int .i64 S0, .slice (some ⟨gi0, 0, none⟩) n0 n0]) := Blk.new _ _ _
    have hb : Below w7.heap.size w7 (w7.alloc (.cells #[.int .i64 S0, .slice (some ⟨gi0, 0, none⟩) n0 n0] 30)) := (Below.refl _ _).alloc (Nat.le_refl _) _
    have q8 : (w7.alloc (.cells #[.int .i64 S0, .slice (some ⟨gi0, 0, none⟩) n0 n0] 30)).heap.size = w7.heap.size + 1 := by simp
    obtain ⟨w8, hw8⟩ : ∃ w8, w7.alloc (.cells #[.int .i64 S0, .slice (some ⟨gi0, 0, none⟩) n0 n0] 30) = w8 := ⟨_, rfl⟩
    rw [hw8] at X0 hb q8 ⊢
    replace H0 := H0.bel hb
    replace Pi0 := Pi0.bel hb
    replace Wi0 := Wi0.bel hb
    replace N0 := hid_blk N0 hb
    replace T0 := hid_blk T0 hb
    replace R6 := hid_blk R6 hb
    replace I6 := I6.bel hb
    replace D := bel_next D hb
    obtain ⟨x0, hx0⟩ : ∃ x0, w7.heap.size = x0 := ⟨_, rfl⟩
    rw [hx0] at X0 q7 q8 vi0 ⊢
    have vx0 : x0 < w8.heap.size := by omega
    have bT0 : w.heap.size + 1 < w8.heap.size := by omega
    clear hb hw8 hx0 q8
    obtain ⟨X0_0, X0_1, -⟩ := X0.out.c2
    obtain ⟨T0_0, T0_1, T0_2, -⟩ := T0.out.c3
    apply share4 (F := fun (w' : World) (g : Nat) (A : Option Addr) (c : Nat) => ResN w8 30 RS rl w' g A c)
    · intro rest
      have keepS : ∀ w', Below w8.heap.size w8 w' → (w'.cell? ⟨x0, 0, none⟩ = some (.int .i64 S0) ∧ w'.cell? ⟨x0, 1, none⟩ = some (.slice (some ⟨gi0, 0, none⟩) n0 n0) ∧ w'.cell? ⟨w.heap.size + 1, 0, none⟩ = some (.int .i64 X1) ∧ w'.cell? ⟨w.heap.size + 1, 1, none⟩ = some (.int .i64 Y1) ∧ w'.cell? ⟨w.heap.size + 1, 2, none⟩ = some (.int .i64 Z1) ∧ Below w8.heap.size w8 w') := fun w' hB => ⟨bel_cell hB X0_0, bel_cell hB X0_1, bel_cell hB T0_0, bel_cell hB T0_1, bel_cell hB T0_2, hB⟩
      go_region_held3 (fun w' => w'.cell? ⟨x0, 0, none⟩ = some (.int .i64 S0) ∧ w'.cell? ⟨x0, 1, none⟩ = some (.slice (some ⟨gi0, 0, none⟩) n0 n0) ∧ w'.cell? ⟨w.heap.size + 1, 0, none⟩ = some (.int .i64 X1) ∧ w'.cell? ⟨w.heap.size + 1, 1, none⟩ = some (.int .i64 Y1) ∧ w'.cell? ⟨w.heap.size + 1, 2, none⟩ = some (.int .i64 Z1) ∧ Below w8.heap.size w8 w')
        (first
          | (exact keepS _ (Below.refl _ _).drew)
          | (exact keepS _ (bel_next (‹_ ∧ _ ∧ _ ∧ _ ∧ _ ∧ Below _ _ _›).2.2.2.2.2 hbR))
          | (exact keepS _ (Below.alloc (‹_ ∧ _ ∧ _ ∧ _ ∧ _ ∧ Below _ _ _›).2.2.2.2.2 (‹_ ∧ _ ∧ _ ∧ _ ∧ _ ∧ Below _ _ _›).2.2.2.2.2.size _))
          | (exact keepS _ (Below.alloc D7 D7.size _))
          | (exact keepS _ (Below.setCell (Below.setCell D7 (by first | (simp; done) | (simp; omega)) _) (by first | (simp; done) | (simp; omega)) _)))
        (first
          | (go_at_call 12; (with_reducible refine (toTube_any X1 Y1 Z1 _).mono ?_); rintro e v6 ⟨rfl, hbR⟩; (first | (have RB := Lib.hid (bel_blk (Blk.new _ _ _) hbR)) | (have RB := Lib.hid (bel_blk (Blk.new _ _ _).drew hbR)) | skip); have qy6 := hbR.size; have qz6 : w8.heap.size ≤ v6.heap.size := (by first | exact Nat.le_trans (‹_ ∧ _ ∧ _ ∧ _ ∧ _ ∧ Below _ _ _›).2.2.2.2.2.size hbR.size | exact hbR.size))
          | (go_at_call 13; refine (implAddTube_any S0 gi0 n0 n0 l0 X1 Y1 Z1 _ (by first | exact Pi0.bel (‹_ ∧ _ ∧ _ ∧ _ ∧ _ ∧ Below _ _ _›).2.2.2.2.2 | exact (Pi0.bel (‹_ ∧ _ ∧ _ ∧ _ ∧ _ ∧ Below _ _ _›).2.2.2.2.2).alloc _) HL0.out hs0).mono ?_; rw [HX.out]; rintro e v7 ⟨A9, c9, rfl, O9, hbR⟩; (first | (replace RB := hid_blk RB hbR) | (have RB := Lib.hid (bel_blk (Blk.new _ _ _) hbR)) | (have RB := Lib.hid (bel_blk (Blk.new _ _ _).drew hbR)) | skip); (try obtain ⟨y0, y1, y2, y3⟩ := RB.out.c2); have D7 : Below w8.heap.size w8 v7 := bel_next (‹_ ∧ _ ∧ _ ∧ _ ∧ _ ∧ Below _ _ _›).2.2.2.2.2 hbR))
      all_goals go_step
      all_goals go_step
      all_goals first
        | (have f := fin_A (t := 30) (RS := RS) O9 D7 qz6
           generalize hW : v7.alloc (.cells #[.int .i64 RS, .slice A9 rl.length c9] 30) = W at f ⊢
           generalize hg : v7.heap.size = g at f ⊢
           exact rest _ _ _ _ f)
        | (have f := fin_B (RS := RS) O9 D7 RB qz6 (by simp)
           generalize hW : (v7.setCell ⟨v6.heap.size, 0, none⟩ (.int .i64 RS)).setCell ⟨v6.heap.size, 1, none⟩ (.slice A9 rl.length c9) = W at f ⊢
           generalize hg : v6.heap.size = g at f ⊢
           exact rest _ _ _ _ f)
        | (have f := fin_B (RS := RS) O9 D7 RB (Nat.le_refl _) (Nat.lt_of_lt_of_le (show w8.heap.size < (w8.alloc _).heap.size by simp) qy6)
           generalize hW : (v7.setCell ⟨w8.heap.size, 0, none⟩ (.int .i64 RS)).setCell ⟨w8.heap.size, 1, none⟩ (.slice A9 rl.length c9) = W at f ⊢
           generalize hg : w8.heap.size = g at f ⊢
           exact rest _ _ _ _ f)
    rintro w9 g9 A9 c9 ⟨R9, I9, W9, U9, hg9, hb⟩
    have R9 := Lib.hid R9
    have v9 := R9.out.lt
    have q9 := hb.size
    replace H0 := H0.bel hb
    replace Pi0 := Pi0.bel hb
    replace Wi0 := Wi0.bel hb
    replace N0 := hid_blk N0 hb
    replace T0 := hid_blk T0 hb
    replace X0 := hid_blk X0 hb
    replace R6 := hid_blk R6 hb
    replace I6 := I6.bel hb
    replace D := bel_next D hb
    clear hb bT0
    obtain ⟨R9_0, R9_1, -⟩ := R9.out.c2
    obtain ⟨R6_0, R6_1, -⟩ := R6.out.c2
    have R9_s := R9.out.lt
    go_wp2_with fail
    refine (eqNet_any RS A9 A6 rl.length c9 c6 rl _ I9 I6 rfl hr).mono ?_
    rintro e w10 ⟨rfl, hb⟩
    clear R9_0 R9_1 R6_0 R6_1 R9_s
    have qw10 := hb.size
    replace H0 := H0.bel hb
    replace N0 := hid_blk N0 hb
    replace T0 := hid_blk T0 hb
    replace R6 := hid_blk R6 hb
    replace I6 := I6.bel hb
    replace R9 := hid_blk R9 hb
    replace I9 := I9.bel hb
    replace W9 := W9.bel hb
    replace D := bel_next D hb
    replace Pi0 := Pi0.bel hb
    replace Wi0 := Wi0.bel hb
    replace X0 := hid_blk X0 hb
    clear hb
    -- the argument afterwards
    obtain ⟨N0_0, N0_1, -⟩ := N0.out.c2
    obtain ⟨X0_0, X0_1, -⟩ := X0.out.c2
    have N0_s := N0.out.lt
    have X0_s := X0.out.lt
    go_wp2_with fail
    have keepX : ∀ w', Below w10.heap.size w10 w' → (w'.cell? ⟨x0, 0, none⟩ = some (.int .i64 S0) ∧ w'.cell? ⟨x0, 1, none⟩ = some (.slice (some ⟨gi0, 0, none⟩) n0 n0) ∧ w'.cell? ⟨w.heap.size, 0, none⟩ = some (.int .i64 S0) ∧ w'.cell? ⟨w.heap.size, 1, none⟩ = some (.slice A0 n0 c0) ∧ Below w10.heap.size w10 w') := fun w' hB => ⟨bel_cell hB X0_0, bel_cell hB X0_1, bel_cell hB N0_0, bel_cell hB N0_1, hB⟩
    go_region_held3 (fun w' => w'.cell? ⟨x0, 0, none⟩ = some (.int .i64 S0) ∧ w'.cell? ⟨x0, 1, none⟩ = some (.slice (some ⟨gi0, 0, none⟩) n0 n0) ∧ w'.cell? ⟨w.heap.size, 0, none⟩ = some (.int .i64 S0) ∧ w'.cell? ⟨w.heap.size, 1, none⟩ = some (.slice A0 n0 c0) ∧ Below w10.heap.size w10 w')
      (first
        | (exact keepX _ (Below.refl _ _).drew)
        | (exact keepX _ (bel_next (‹_ ∧ _ ∧ _ ∧ _ ∧ Below _ _ _›).2.2.2.2 hbR)))
      (first
        | (go_at_call 11; (with_reducible refine (toNet_any S0 A0 n0 c0 l0 _ (by first | exact H0.bel (‹_ ∧ _ ∧ _ ∧ _ ∧ Below _ _ _›).2.2.2.2 | exact H0.drew) HL0.out hs0).mono ?_); rintro e v5 ⟨ge0, rfl, hge0, Re0, hbR⟩)
        | (go_at_call 14; (with_reducible refine (eqNet_any S0 _ _ n0 n0 n0 l0 _ (Pi0.bel (‹_ ∧ _ ∧ _ ∧ _ ∧ Below _ _ _›).2.2.2.2) (by first | exact Re0.tubes | exact (Re0.tubes).bel (by go_grown)) HL0.out hs0).mono ?_); rintro e w11 ⟨rfl, hbR⟩))
    have hb : Below w10.heap.size w10 w11 := (‹_ ∧ _ ∧ _ ∧ _ ∧ Below _ _ _›).2.2.2.2
    clear X0_0 X0_1 N0_0 N0_1 N0_s X0_s keepX
    have q11 := hb.size
    replace H0 := H0.bel hb
    replace Wi0 := Wi0.bel hb
    replace N0 := hid_blk N0 hb
    replace T0 := hid_blk T0 hb
    replace X0 := hid_blk X0 hb
    replace R6 := hid_blk R6 hb
    replace I6 := I6.bel hb
    replace R9 := hid_blk R9 hb
    replace I9 := I9.bel hb
    replace W9 := W9.bel hb
    replace D := bel_next D hb
    clear hb Pi0
    -- the copy is marked
    obtain ⟨X0_0, X0_1, -⟩ := X0.out.c2
    have X0_s := X0.out.lt
    go_wp2_with fail
    refine (markNet_any S0 _ n0 n0 1 _ Wi0 (by omega) (by omega) (by omega)).mono ?_
    rintro e w12 ⟨rfl, hm0, hbut⟩
    have q12 := hbut.size
    clear X0_0 X0_1 X0_s hm0
    replace H0 := H0.but hbut (by intro h0 p q hp hq; have yp := V0 h0 p hp; cases hq; (try simp only); omega)
    replace N0 := Lib.hid (hbut.blk N0.out (by intro q hq; cases hq; (try simp only); omega))
    replace T0 := Lib.hid (hbut.blk T0.out (by intro q hq; cases hq; (try simp only); omega))
    replace R6 := Lib.hid (hbut.blk R6.out (by intro q hq; cases hq; (try simp only); omega))
    replace I6 := I6.but hbut (by intro h0 p q hp hq; have yp := U6 p hp; cases hq; (try simp only); omega)
    replace R9 := Lib.hid (hbut.blk R9.out (by intro q hq; cases hq; (try simp only); omega))
    replace I9 := I9.but hbut (by intro h0 p q hp hq; have yp := U9 p hp; cases hq; (try simp only); omega)
    replace W9 := W9.but hbut (by intro h0 p q hp hq; have yp := U9 p hp; cases hq; (try simp only); omega)
    replace D := hbut.below D (by intro q hq; cases hq; (try simp only); omega)
    clear hbut X0 Wi0
    obtain ⟨R9_0, R9_1, -⟩ := R9.out.c2
    obtain ⟨R6_0, R6_1, -⟩ := R6.out.c2
    have R9_s := R9.out.lt
    go_wp2_with fail
    refine (eqNet_any RS A9 A6 rl.length c9 c6 rl _ I9 I6 rfl hr).mono ?_
    rintro e w13 ⟨rfl, hb⟩
    clear R9_0 R9_1 R6_0 R6_1 R9_s
    have qw13 := hb.size
    replace H0 := H0.bel hb
    replace N0 := hid_blk N0 hb
    replace T0 := hid_blk T0 hb
    replace R6 := hid_blk R6 hb
    replace I6 := I6.bel hb
    replace R9 := hid_blk R9 hb
    replace I9 := I9.bel hb
    replace W9 := W9.bel hb
    replace D := bel_next D hb
    clear hb
    obtain ⟨R9_0, R9_1, -⟩ := R9.out.c2
    have R9_s := R9.out.lt
    go_wp2_with fail
    refine (markNet_any RS A9 rl.length c9 1 _ W9 (by omega) (by omega) (by omega)).mono ?_
    rintro e w14 ⟨rfl, M9, hbut⟩
    have q14 := hbut.size
    clear R9_0 R9_1 R9_s
    replace H0 := H0.but hbut (by intro h0 p q hp hq; have yp := V0 h0 p hp; have yq := U9 q hq; omega)
    replace N0 := Lib.hid (hbut.blk N0.out (by intro q hq; have yq := U9 q hq; omega))
    replace T0 := Lib.hid (hbut.blk T0.out (by intro q hq; have yq := U9 q hq; omega))
    replace R6 := Lib.hid (hbut.blk R6.out (by intro q hq; have yq := U9 q hq; omega))
    replace I6 := I6.but hbut (by intro h0 p q hp hq; have yp := U6 p hp; have yq := U9 q hq; omega)
    replace R9 := Lib.hid (hbut.blk R9.out (by intro q hq; have yq := U9 q hq; omega))
    replace D := hbut.below D (by intro q hq; have yq := U9 q hq; omega)
    clear hbut I9 W9
    obtain ⟨R9_0, R9_1, -⟩ := R9.out.c2
    have R9_s := R9.out.lt
    go_wp2_with fail
    refine (heldNet_any RS A9 rl.length c9 1 _ M9 (by omega) (by omega) (by omega)).mono ?_
    rintro e w15 ⟨rfl, hb⟩
    clear R9_0 R9_1 R9_s
    have q15 := hb.size
    replace H0 := H0.bel hb
    replace N0 := hid_blk N0 hb
    replace T0 := hid_blk T0 hb
    replace R6 := hid_blk R6 hb
    replace I6 := I6.bel hb
    replace R9 := hid_blk R9 hb
    replace M9 := M9.bel hb
    replace D := bel_next D hb
    clear hb
    obtain ⟨N0_0, N0_1, -⟩ := N0.out.c2
    obtain ⟨T0_0, T0_1, T0_2, -⟩ := T0.out.c3
    have N0_s : w.heap.size < w15.heap.size := N0.out.lt
    have T0_s : w.heap.size + 1 < w15.heap.size := T0.out.lt
    go_wp2_with fail
    apply share (F := fun (w' : World) (g : Nat) (A : Option Addr) (c : Nat) (_ : Nat) => ResN w15 30 RS rl w' g A c)
    · intro rest
      have keepS : ∀ w', Below w15.heap.size w15 w' → (w'.cell? ⟨w.heap.size, 0, none⟩ = some (.int .i64 S0) ∧ w'.cell? ⟨w.heap.size, 1, none⟩ = some (.slice A0 n0 c0) ∧ w'.cell? ⟨w.heap.size + 1, 0, none⟩ = some (.int .i64 X1) ∧ w'.cell? ⟨w.heap.size + 1, 1, none⟩ = some (.int .i64 Y1) ∧ w'.cell? ⟨w.heap.size + 1, 2, none⟩ = some (.int .i64 Z1) ∧ TubesAt w' A0 l0 ∧ Below w15.heap.size w15 w') := fun w' hB => ⟨bel_cell hB N0_0, bel_cell hB N0_1, bel_cell hB T0_0, bel_cell hB T0_1, bel_cell hB T0_2, H0.bel hB, hB⟩
      go_region_held3 (fun w' => w'.cell? ⟨w.heap.size, 0, none⟩ = some (.int .i64 S0) ∧ w'.cell? ⟨w.heap.size, 1, none⟩ = some (.slice A0 n0 c0) ∧ w'.cell? ⟨w.heap.size + 1, 0, none⟩ = some (.int .i64 X1) ∧ w'.cell? ⟨w.heap.size + 1, 1, none⟩ = some (.int .i64 Y1) ∧ w'.cell? ⟨w.heap.size + 1, 2, none⟩ = some (.int .i64 Z1) ∧ TubesAt w' A0 l0 ∧ Below w15.heap.size w15 w')
        (first
          | (exact keepS _ (Below.refl _ _).drew)
          | (exact keepS _ (bel_next (‹_ ∧ _ ∧ _ ∧ _ ∧ _ ∧ TubesAt _ _ _ ∧ Below _ _ _›).2.2.2.2.2.2 hbR))
          | (exact keepS _ (Below.alloc (‹_ ∧ _ ∧ _ ∧ _ ∧ _ ∧ TubesAt _ _ _ ∧ Below _ _ _›).2.2.2.2.2.2 (‹_ ∧ _ ∧ _ ∧ _ ∧ _ ∧ TubesAt _ _ _ ∧ Below _ _ _›).2.2.2.2.2.2.size _))
          | (exact keepS _ (Below.alloc D7 D7.size _))
          | (exact keepS _ (Below.setCell (Below.setCell D7 (by first | (simp; done) | (simp; omega)) _) (by first | (simp; done) | (simp; omega)) _))
          | (exact keepS _ (Below.setCell (Below.setCell (‹_ ∧ _ ∧ _ ∧ _ ∧ _ ∧ TubesAt _ _ _ ∧ Below _ _ _›).2.2.2.2.2.2 (by first | (simp; done) | (simp; omega)) _) (by first | (simp; done) | (simp; omega)) _)))
        (first
          | (go_at_call 11; (with_reducible refine (toNet_any S0 A0 n0 c0 l0 _ (by first | exact (‹_ ∧ _ ∧ _ ∧ _ ∧ _ ∧ TubesAt _ _ _ ∧ Below _ _ _›).2.2.2.2.2.1 | exact H0.drew) HL0.out hs0).mono ?_); rintro e v5 ⟨gs0, rfl, hgs0, Rs0, hbR⟩; (first | (have RB := Lib.hid (bel_blk (Blk.new _ _ _) hbR)) | (have RB := Lib.hid (bel_blk (Blk.new _ _ _).drew hbR)) | skip); have Ps0 := Rs0.tubes; have qy5 := hbR.size; have qz5 : w15.heap.size ≤ v5.heap.size := (by first | exact Nat.le_trans (‹_ ∧ _ ∧ _ ∧ _ ∧ _ ∧ TubesAt _ _ _ ∧ Below _ _ _›).2.2.2.2.2.2.size hbR.size | exact hbR.size))
          | (go_at_call 12; (with_reducible refine (toTube_any X1 Y1 Z1 _).mono ?_); rintro e v6 ⟨rfl, hbR⟩; (first | (replace RB := hid_blk RB hbR) | (have RB := Lib.hid (bel_blk (Blk.new _ _ _) hbR)) | (have RB := Lib.hid (bel_blk (Blk.new _ _ _).drew hbR)) | skip); have Ps0 := Ps0.bel (w' := v6) (by first | exact hbR | exact Below.trans ((Below.refl _ _).alloc (Nat.le_refl _) _) (hbR.mono (by simp))); have qy6 := hbR.size; have qz6 : w15.heap.size ≤ v6.heap.size := (by first | exact Nat.le_trans (‹_ ∧ _ ∧ _ ∧ _ ∧ _ ∧ TubesAt _ _ _ ∧ Below _ _ _›).2.2.2.2.2.2.size hbR.size | exact hbR.size))
          | (go_at_call 13; refine (implAddTube_any S0 gs0 n0 n0 l0 X1 Y1 Z1 _ (by first | exact Ps0 | exact Ps0.alloc _) HL0.out hs0).mono ?_; rw [HX.out]; rintro e v7 ⟨A4, c4, rfl, O4, hbR⟩; (first | (replace RB := hid_blk RB hbR) | (have RB := Lib.hid (bel_blk (Blk.new _ _ _) hbR)) | (have RB := Lib.hid (bel_blk (Blk.new _ _ _).drew hbR)) | skip); (try obtain ⟨y0, y1, y2, y3⟩ := RB.out.c2); have qz7 : w15.heap.size ≤ v7.heap.size := (by first | exact Nat.le_trans (‹_ ∧ _ ∧ _ ∧ _ ∧ _ ∧ TubesAt _ _ _ ∧ Below _ _ _›).2.2.2.2.2.2.size hbR.size | exact hbR.size); have D7 : Below w15.heap.size w15 v7 := bel_next (‹_ ∧ _ ∧ _ ∧ _ ∧ _ ∧ TubesAt _ _ _ ∧ Below _ _ _›).2.2.2.2.2.2 hbR))
      all_goals go_step
      all_goals go_step
      all_goals first
        | (have f := fin_A (t := 30) (RS := RS) O4 D7 qz6
           generalize hW : v7.alloc (.cells #[.int .i64 RS, .slice A4 rl.length c4] 30) = W at f ⊢
           generalize hg : v7.heap.size = g at f ⊢
           exact rest _ _ _ _ gs0 f)
        | (have f := fin_B (RS := RS) O4 D7 RB qz6 (by simp)
           generalize hW : (v7.setCell ⟨v6.heap.size, 0, none⟩ (.int .i64 RS)).setCell ⟨v6.heap.size, 1, none⟩ (.slice A4 rl.length c4) = W at f ⊢
           generalize hg : v6.heap.size = g at f ⊢
           exact rest _ _ _ _ gs0 f)
        | (have f := fin_B (RS := RS) O4 D7 RB qz5 (Nat.lt_of_lt_of_le (by simp) qy6)
           generalize hW : (v7.setCell ⟨v5.heap.size, 0, none⟩ (.int .i64 RS)).setCell ⟨v5.heap.size, 1, none⟩ (.slice A4 rl.length c4) = W at f ⊢
           generalize hg : v5.heap.size = g at f ⊢
           exact rest _ _ _ _ gs0 f)
        | (have f := fin_B (RS := RS) O4 D7 RB (Nat.le_refl _) (Nat.lt_of_lt_of_le (show w15.heap.size < (w15.alloc _).heap.size by simp) (Nat.le_trans qy5 qy6))
           generalize hW : (v7.setCell ⟨w15.heap.size, 0, none⟩ (.int .i64 RS)).setCell ⟨w15.heap.size, 1, none⟩ (.slice A4 rl.length c4) = W at f ⊢
           generalize hg : w15.heap.size = g at f ⊢
           exact rest _ _ _ _ gs0 f)
    rintro w16 g4 A4 c4 gq ⟨R4, I4, W4, U4, hg4, hb⟩
    have R4 := Lib.hid R4
    clear N0_0 N0_1 T0_0 T0_1 T0_2 N0_s T0_s W4 H0 N0 T0
    replace R6 := hid_blk R6 hb
    replace I6 := I6.bel hb
    replace R9 := hid_blk R9 hb
    replace M9 := M9.bel hb
    replace D := bel_next D hb
    clear hb
    obtain ⟨R4_0, R4_1, -⟩ := R4.out.c2
    obtain ⟨R6_0, R6_1, -⟩ := R6.out.c2
    go_wp2_with fail
    refine (eqNet_any RS A4 A6 rl.length c4 c6 rl _ I4 I6 rfl hr).mono ?_
    rintro e w17 ⟨rfl, hb⟩
    clear R4_0 R4_1 R6_0 R6_1
    replace R9 := hid_blk R9 hb
    replace M9 := M9.bel hb
    replace D := bel_next D hb
    clear hb I4 I6 R4 R6
    obtain ⟨R9_0, R9_1, -⟩ := R9.out.c2
    go_wp2_with fail
    refine (heldNet_any RS A9 rl.length c9 1 _ M9 (by omega) (by omega) (by omega)).mono ?_
    rintro e w18 ⟨rfl, hb⟩
    replace D := bel_next D hb
    clear hb R9_0 R9_1
    go_wp2_with fail
    go_ret
    exact ⟨rfl, D⟩

end Go.Proofs.Ytlebkjkiikehhaa
