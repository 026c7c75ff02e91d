/-
  CONTRACT: the way with the fewest turned switches, the specification's.
-/
import Derived.Test.YtlebkjkiikehhaaFew0
import Derived.Test.YtlebkjkiikehhaaAddT3
import Derived.Test.YtlebkjkiikehhaaIntS
import Derived.Deep.RegionHeld3
namespace Go.Proofs.Ytlebkjkiikehhaa.Cst
open Go.RowKit

/-- The way, how many switches are turned, and a code. -/
def fewR (S : Int) (l : List Tb) (st : List Int) (u v : Int) : List Int × Int × Int :=
  if codeS S l st [u, v] = 0 then
    (if at_ (distN S (costs l st) v (-1)) u.toNat < 0 then ([], 0, 3)
    else (wayD (costs l st) (distN S (costs l st) v (-1)) v.toNat u.toNat, (tuF l st (wayD (costs l st) (distN S (costs l st) v (-1)) v.toNat u.toNat) : Int), 0))
  else ([], 0, codeS S l st [u, v])
def MadeIT (w : World) (t : TypeId) (xs : List Int) (r : Int × Int) (e : Ending) (w' : World) : Prop :=
  ∃ A c, e = .returned (.tuple #[.slice A xs.length c, .int .i64 r.1, .int .i64 r.2]) ∧ w'.ownsRow w.heap.size t 1 (.slice A xs.length c) xs.length (xs.map (Value.int .i64)) ∧ Below w.heap.size w w'
theorem codeS_in {S u v : Int} {l : List Tb} {st : List Int} (h : codeS S l st [u, v] = 0) : setOK S l st = true ∧ 0 ≤ u ∧ u < S ∧ 0 ≤ v ∧ v < S := by
  obtain ⟨h1, h2⟩ := codeS_zero h
  simp [outB] at h2
  have hu := inB_true h2.1
  have hv := inB_true h2.2
  exact ⟨h1, by omega, by omega, by omega, by omega⟩
theorem fewR_no {S u v k : Int} {l : List Tb} {st : List Int} (h : codeS S l st [u, v] = k) (h0 : k ≠ 0) : fewR S l st u v = ([], 0, k) := by
  unfold fewR
  rw [h, if_neg h0]
theorem fewR_3 {s u v : Nat} {l : List Tb} {st : List Int} (h : codeS (s : Int) l st [(u : Int), (v : Int)] = 0) (h0 : at_ (distN (s : Int) (costs l st) v (-1)) u < 0) : fewR s l st u v = ([], 0, 3) := by
  unfold fewR
  rw [if_pos h, Int.toNat_natCast, if_pos h0]
theorem fewR_yes {s u v : Nat} {l : List Tb} {st : List Int} (h : codeS (s : Int) l st [(u : Int), (v : Int)] = 0) (h0 : 0 ≤ at_ (distN (s : Int) (costs l st) v (-1)) u) :
    fewR s l st u v = (wayD (costs l st) (distN (s : Int) (costs l st) v (-1)) v u, (tuF l st (wayD (costs l st) (distN (s : Int) (costs l st) v (-1)) v u) : Int), 0) := by
  unfold fewR
  rw [if_pos h, Int.toNat_natCast, Int.toNat_natCast, if_neg (by omega)]
theorem setOK_of {S u v : Int} {l : List Tb} {st : List Int} (h : codeS S l st [u, v] = 0) : setOK S l st = true := (codeS_zero h).1
theorem tubes_own3 {w : World} {base n c : Nat} {e : TypeId} {A : Option Addr} {l : List Tb} (h : w.ownsRow base e 3 (.slice A n c) n (cells3 l)) (hl : l.length = n) : TubesAt w A l := by
  intro h0
  subst hl
  obtain ⟨b, o, e, hlt, hc⟩ := SpAt.ofOwn h h0
  exact ⟨b, o, e, hlt, fun k hk => ⟨(hc k hk).1, (hc k hk).2.1, (hc k hk).2.2⟩⟩

set_option maxHeartbeats 8000000 in
set_option maxRecDepth 100000 in
theorem specFew_any (S : Int) (A : Option Addr) (n c : Nat) (l : List Tb) (A' : Option Addr) (n' c' : Nat) (st : List Int) (u v : Int) (w : World) (h : TubesAt w A l) (hl : n = l.length) (hn0 : n ≤ 1048576) (h' : IntsAt w A' st) (hl' : n' = st.length) (hn0' : n' ≤ 1048576) :
    Calls Try.prog 44 #[.agg #[.int .i64 S, .slice A n c], .slice A' n' c', .int .i64 u, .int .i64 v] w (MadeIT w 2 (fewR S l st u v).1 (fewR S l st u v).2) := by
  have HL := Lib.hid hl
  have HL' := Lib.hid hl'
  have H' := Lib.hid h'
  have HN0 : Hid (NetAt (w.alloc (.cells #[.int .i64 S, .slice A n c] 30)) w.heap.size S A n c l) := NetAt.box h _
  obtain ⟨i0, hi, hz0, hz1, hz2⟩ := info_parts info_tube3
  have HI := Lib.hid (And.intro hi (And.intro hz0 (And.intro hz1 hz2)))
  clear hl h hl' h' hi hz0 hz1 hz2
  go_enter Try.func44, Try.ntmps44
  go_wp2_with fail
  refine (l04Station_any w.heap.size S A n c l A' n' c' st u v _ HN0.out HL.out hn0 (H'.out.alloc _) HL'.out hn0').mono ?_
  rintro e w1 ⟨rfl, hb⟩
  have D1 : Below w.heap.size w w1 := Below.trans (by go_grown) (hb.mono (by simp))
  have N1 := Lib.hid (HN0.out.bel hb)
  have n0 := N1.out.c0
  have n1 := N1.out.c1
  have hw1 : w.heap.size < w1.heap.size := cell_lt n0
  clear hb HN0
  obtain ⟨k, hk⟩ : ∃ k, codeS S l st [u, v] = k := ⟨_, rfl⟩
  rw [hk]
  by_cases h0 : k = 0
  · subst h0
    obtain ⟨hset, u0, u1, v0, v1⟩ := codeS_in hk
    obtain ⟨hvn, hsl, -⟩ := setOK_true hset
    obtain ⟨s0, s1, h24, -⟩ := validN_true hvn
    obtain ⟨s, rfl⟩ : ∃ s : Nat, S = s := ⟨S.toNat, by omega⟩
    obtain ⟨u, rfl⟩ : ∃ q : Nat, u = q := ⟨u.toNat, by omega⟩
    obtain ⟨v, rfl⟩ : ∃ q : Nat, v = q := ⟨v.toNat, by omega⟩
    have hus : u < s := by omega
    have hvs : v < s := by omega
    have hs10 : s ≤ 10 := by omega
    have hn24 : n ≤ 24 := by rw [HL.out]; exact h24
    have HV := Lib.hid hvn
    have HSL := Lib.hid hsl
    have HK := Lib.hid hk
    clear hk hset hvn hsl s0 h24 u0 v0
    go_wp2_with fail
    have XB : Hid (Blk (w1.alloc (.cells #[.int .i64 (s : Int), .slice none 0 0] 30)) w1.heap.size 30 #[.int .i64 (s : Int), .slice none 0 0]) := Blk.new _ _ _
    have hb : Below w1.heap.size w1 (w1.alloc (.cells #[.int .i64 (s : Int), .slice none 0 0] 30)) := (Below.refl _ _).alloc (Nat.le_refl _) _
    obtain ⟨bx, hbx⟩ : ∃ bx, w1.heap.size = bx := ⟨_, rfl⟩
    obtain ⟨w4, hw4⟩ : ∃ w4, w1.alloc (.cells #[.int .i64 (s : Int), .slice none 0 0] 30) = w4 := ⟨_, rfl⟩
    have N4 := Lib.hid (N1.out.bel hb)
    have D4 := bel_next D1 hb
    rw [hw4] at XB N4 D4 ⊢
    rw [hbx] at XB hw1 ⊢
    have hxl := XB.out.lt
    have H4' := Lib.hid (H'.out.bel D4)
    -- what lies below the box of the costs
    have HNB : Hid (0 < l.length → ∀ p, A = some p → p.block < bx) := by
      intro h0 p hp
      obtain ⟨b, o, e, hlt, -⟩ := N1.out.ts h0
      rw [e] at hp
      injection hp with hp
      subst hp
      rw [← hbx]
      exact hlt
    have HSB : Hid (0 < st.length → ∀ p, A' = some p → p.block < bx) := by
      intro h0 p hp
      obtain ⟨b, o, e, hlt, -⟩ := (H'.out.bel D1) h0
      rw [e] at hp
      injection hp with hp
      subst hp
      rw [← hbx]
      exact hlt
    have keepN : Hid (∀ w', Below bx w4 w' → NetAt w' w.heap.size s A n c l ∧ IntsAt w' A' st) := fun w' hB => by
      refine ⟨⟨(hB.cell (p := ⟨w.heap.size, 0, none⟩) hw1).trans N4.out.c0, (hB.cell (p := ⟨w.heap.size, 1, none⟩) hw1).trans N4.out.c1, fun h0 => ?_⟩, fun h0 => ?_⟩
      · obtain ⟨b, o, e, hlt, hc⟩ := N4.out.ts h0
        have hbb := HNB.out h0 _ e
        exact ⟨b, o, e, Nat.lt_of_lt_of_le hlt hB.size, fun k hk => ⟨(hB.cell (p := ⟨b, o + k * 3, none⟩) hbb).trans (hc k hk).c0, (hB.cell (p := ⟨b, o + k * 3 + 1, none⟩) hbb).trans (hc k hk).c1, (hB.cell (p := ⟨b, o + k * 3 + 2, none⟩) hbb).trans (hc k hk).c2⟩⟩
      · obtain ⟨b, o, e, hlt, hc⟩ := H4'.out h0
        have hbb := HSB.out h0 _ e
        exact ⟨b, o, e, Nat.lt_of_lt_of_le hlt hB.size, fun k hk => (hB.cell (p := ⟨b, o + k, none⟩) hbb).trans (hc k hk)⟩
    clear hb hbx hw4 N1 N4 H4' n0 n1 D1
    go_wp2_with fail
    go_loopw [13] (fun x w' => ∃ (i : Nat) (V : Value), x = .int .i64 i ∧ i ≤ n ∧ Hid (Blk w' bx 30 #[.int .i64 (s : Int), V]) ∧ Hid (w'.ownsRow (bx + 1) 34 3 V i (cells3 (costsF st (l.take i) 0))) ∧ bx + 1 ≤ w'.heap.size ∧ Below bx w4 w') (fun x _ => n - (intOf x).toNat)
    case atStart => exact ⟨0, _, rfl, by omega, XB, own_none3 _ _ _, hxl, Below.refl _ _⟩
    case round =>
      clear XB
      obtain ⟨i, V, rfl, hin, XB, HO, hsw, hbel⟩ := hrel
      obtain ⟨x0, x1, x2, x3⟩ := XB.out.c2
      obtain ⟨A5, c5, rfl⟩ := own_form HO.out
      obtain ⟨hNw, hSw⟩ := keepN.out wr hbel
      have n0 := hNw.c0
      have n1 := hNw.c1
      have hw2 : w.heap.size < wr.heap.size := by omega
      by_cases hlt : i < n
      · have hil : i < l.length := by rw [← HL.out]; exact hlt
        obtain ⟨b, o, rfl, hblt, hc⟩ := hNw.ts (by omega)
        obtain ⟨t0, t1, t2⟩ := hc i hil
        have hbb := HNB.out (by omega) _ rfl
        have hcs := costsF_snoc st l 0 i hil
        rw [Nat.zero_add] at hcs
        obtain ⟨f, hf⟩ : ∃ f : Int, l[i].1 = f := ⟨_, rfl⟩
        obtain ⟨d, hd⟩ : ∃ d : Int, l[i].2.1 = d := ⟨_, rfl⟩
        obtain ⟨y, hy⟩ : ∃ y : Int, costT st i (tbAt l i) = y := ⟨_, rfl⟩
        have hy' : costT st i l[i] = y := by rw [← tbAt_eq hil]; exact hy
        rw [hf, hd, hy'] at hcs
        rw [hf] at t0
        rw [hd] at t1
        have HCS := Lib.hid hcs
        have HY := Lib.hid hy
        have HIL := Lib.hid hil
        have hblk : ∀ k, (Value.slice A5 i c5).ownBlock = some k → bx + 1 ≤ k := fun k hk => (HO.out.lt k hk).1
        have HBK := Lib.hid hblk
        have keepS : ∀ w', Below bx w4 w' → (w'.cell? ⟨w.heap.size, 1, none⟩ = some (.slice (some ⟨b, o, none⟩) n c) ∧ w'.cell? ⟨b, o + i * 3, none⟩ = some (.int .i64 f) ∧ w'.cell? ⟨b, o + i * 3 + 1, none⟩ = some (.int .i64 d)) := fun w' hB => by
          obtain ⟨g1, g2⟩ := keepN.out w' hB
          obtain ⟨b', o', e', -, hc'⟩ := g1.ts (by omega)
          injection e' with e'
          injection e' with e1 e2
          subst e1 e2
          obtain ⟨q0, q1, q2⟩ := hc' i hil
          exact ⟨g1.c1, by rw [← hf]; exact q0, by rw [← hd]; exact q1⟩
        have KS := Lib.hid keepS
        clear hc t2 hcs hf hd hy hy' hblk hNw hSw hil keepS
        go_wp2_with fail
        refine wp_region_held_drew (S := fun w' => w'.cell? ⟨w.heap.size, 1, none⟩ = some (.slice (some ⟨b, o, none⟩) n c) ∧ w'.cell? ⟨b, o + i * 3, none⟩ = some (.int .i64 f) ∧ w'.cell? ⟨b, o + i * 3 + 1, none⟩ = some (.int .i64 d)) (by kernel_rfl) (KS.out _ hbel.drew) (fun hHeld => ?_)
        have E0 : Below bx w4 wr.drew := hbel.drew
        have XB0 : Blk wr.drew bx 30 #[.int .i64 (s : Int), .slice A5 i c5] := XB.out.drew
        have HO0 : wr.drew.ownsRow (bx + 1) 34 3 (.slice A5 i c5) i (cells3 (costsF st (l.take i) 0)) := own_belw HO.out (Below.refl _ _).drew
        have q0 : bx + 1 ≤ wr.drew.heap.size := hsw
        obtain ⟨W0, hW0⟩ : ∃ W', wr.drew = W' := ⟨_, rfl⟩
        rw [hW0] at E0 XB0 HO0 q0 hHeld ⊢
        clear hW0 x0 x1 x2 x3 n0 n1 t0 t1
        refine wpAnyH_take (i := 0) (v := ?v1) rfl (by kernel_rfl) (by kernel_rfl) (by kernel_rfl) (fun _ _ _ h => h) (Or.inl ⟨by rfl, ?y1⟩) (by assumption) ?r1
        case y1 => (intro w' hSw; obtain ⟨z1, z2, z3⟩ := hSw; go_simp <;> with_reducible rfl)
        try simp only [Act.put]
        refine wpAnyH_take (i := 2) (v := ?v2) rfl (by kernel_rfl) (by kernel_rfl) (by kernel_rfl) (fun _ _ _ h => h) (Or.inl ⟨by rfl, ?y2⟩) (by assumption) ?r2
        case y2 => (intro w' hSw; obtain ⟨z1, z2, z3⟩ := hSw; go_simp <;> with_reducible rfl)
        try simp only [Act.put]
        refine wpAnyH_take (i := 3) (v := ?v3) rfl (by kernel_rfl) (by kernel_rfl) (by kernel_rfl) (fun _ _ _ h => h) (Or.inl ⟨by rfl, ?y3⟩) (by assumption) ?r3
        case y3 => (intro w' hSw; obtain ⟨z1, z2, z3⟩ := hSw; go_simp <;> with_reducible rfl)
        try simp only [Act.put]
        refine wpAnyH_take (i := 4) (v := ?v4) rfl (by kernel_rfl) (by kernel_rfl) (by kernel_rfl) (fun _ _ _ h => h) (Or.inl ⟨by rfl, ?y4⟩) (by assumption) ?r4
        case y4 => (intro w' hSw; obtain ⟨z1, z2, z3⟩ := hSw; go_simp <;> with_reducible rfl)
        try simp only [Act.put]
        refine wpAnyH_take (i := 5) (v := ?v5) rfl (by kernel_rfl) (by kernel_rfl) (by kernel_rfl) (fun _ _ _ h => h) (Or.inl ⟨by rfl, ?y5⟩) (by assumption) ?r5
        case y5 => (intro w' hSw; obtain ⟨z1, z2, z3⟩ := hSw; go_simp <;> with_reducible rfl)
        try simp only [Act.put]
        refine wpAnyH_take (i := 6) (v := ?v6) rfl (by kernel_rfl) (by kernel_rfl) (by kernel_rfl) (fun _ _ _ h => h) (Or.inl ⟨by rfl, ?y6⟩) (by assumption) ?r6
        case y6 => (intro w' hSw; obtain ⟨z1, z2, z3⟩ := hSw; go_simp <;> with_reducible rfl)
        try simp only [Act.put]
        refine wpAnyH_take (i := 7) (v := ?v7) rfl (by kernel_rfl) (by kernel_rfl) (by kernel_rfl) (fun _ _ _ h => h) (Or.inl ⟨by rfl, ?y7⟩) (by assumption) ?r7
        case y7 => (intro w' hSw; obtain ⟨z1, z2, z3⟩ := hSw; go_simp <;> with_reducible rfl)
        try simp only [Act.put]
        refine wpAnyH_take (i := 8) (v := ?v8) rfl (by kernel_rfl) (by kernel_rfl) (by kernel_rfl) (fun _ _ _ h => h) (Or.inl ⟨by rfl, ?y8⟩) (by assumption) ?r8
        case y8 => (intro w' hSw; obtain ⟨z1, z2, z3⟩ := hSw; go_simp <;> with_reducible rfl)
        try simp only [Act.put]
        refine wpAnyH_take (i := 9) (v := ?v9) rfl (by kernel_rfl) (by kernel_rfl) (by kernel_rfl) (fun _ _ _ h => h) (Or.inl ⟨by rfl, ?y9⟩) (by assumption) ?r9
        case y9 => (intro w' hSw; obtain ⟨z1, z2, z3⟩ := hSw; go_simp <;> with_reducible rfl)
        try simp only [Act.put]
        refine wpAnyH_take (i := 10) (v := ?v10) rfl (by kernel_rfl) (by kernel_rfl) (by kernel_rfl) (fun _ _ _ h => h) (Or.inl ⟨by rfl, ?y10⟩) (by assumption) ?r10
        case y10 => (intro w' hSw; obtain ⟨z1, z2, z3⟩ := hSw; go_simp <;> with_reducible rfl)
        try simp only [Act.put]
        refine wpAnyH_take (i := 11) (v := ?v11) rfl (by kernel_rfl) (by kernel_rfl) (by kernel_rfl) (fun _ _ _ h => h) (Or.inl ⟨by rfl, ?y11⟩) (by assumption) ?r11
        case y11 => (intro w' hSw; obtain ⟨z1, z2, z3⟩ := hSw; go_simp <;> with_reducible rfl)
        try simp only [Act.put]
        refine wpAnyH_take (i := 12) (v := ?v12) rfl (by kernel_rfl) (by kernel_rfl) (by kernel_rfl) (fun _ _ _ h => h) (Or.inl ⟨by rfl, ?y12⟩) (by assumption) ?r12
        case y12 => (intro w' hSw; obtain ⟨z1, z2, z3⟩ := hSw; go_simp <;> with_reducible rfl)
        try simp only [Act.put]
        refine wpAnyH_take (i := 13) (v := ?v13) rfl (by kernel_rfl) (by kernel_rfl) (by kernel_rfl) (fun _ _ _ h => h) (Or.inl ⟨by rfl, ?y13⟩) (by assumption) ?r13
        case y13 => (intro w' hSw; obtain ⟨z1, z2, z3⟩ := hSw; go_simp <;> with_reducible rfl)
        try simp only [Act.put]
        refine wpAnyH_take (i := 14) (v := ?v14) rfl (by kernel_rfl) (by kernel_rfl) (by kernel_rfl) (fun _ _ _ h => h) (Or.inl ⟨by rfl, ?y14⟩) (by assumption) ?r14
        case y14 => (intro w' hSw; obtain ⟨z1, z2, z3⟩ := hSw; go_simp <;> with_reducible rfl)
        try simp only [Act.put]
        refine wpAnyH_take (i := 15) (v := ?v15) rfl (by kernel_rfl) (by kernel_rfl) (by kernel_rfl) (fun _ _ _ h => h) (Or.inl ⟨by rfl, ?y15⟩) (by assumption) ?r15
        case y15 => (intro w' hSw; obtain ⟨z1, z2, z3⟩ := hSw; go_simp <;> with_reducible rfl)
        try simp only [Act.put]
        refine wpAnyH_ready (rs := [1, 16]) (by kernel_rfl) (by simp) ?_
        refine AllReadyH.cons (i := 1) (rs := [16]) rfl (fun K hK => ?_) ?_
        · -- 1
          clear hHeld
          have x1_16 := XB0.c2.2.1
          go_simp
          clear x1_16
          refine hK.out _ _ (KS.out _ (E0)) (fun hHeld => ?_)
          clear hK K
          try simp only [Act.put]
          refine wpAnyH_ready (rs := [16]) (by kernel_rfl) (by simp) ?_
          refine AllReadyH.cons (i := 16) (rs := []) rfl (fun K hK => ?_) AllReadyH.nil
          clear hHeld
          go_simp
          go_at_call 75
          refine (l04Cost_any w.heap.size s (some ⟨b, o, none⟩) n c l A' n' c' st i _ (keepN.out _ E0).1 HL.out (keepN.out _ E0).2 HL'.out HV.out HSL.out HIL.out).mono ?_
          rintro e W17 ⟨rfl, hb17⟩
          rw [HY.out]
          have E17 : Below bx w4 W17 := E0.trans (hb17.mono (by omega))
          have XB17 := bel_blk XB0 hb17
          have HO17 := own_belw HO0 hb17
          have q17 : bx + 1 ≤ W17.heap.size := Nat.le_trans q0 hb17.size
          clear hb17
          refine hK.out _ _ (KS.out _ (E17)) (fun hHeld => ?_)
          clear hK K
          try simp only [Act.put]
          refine wpAnyH_take (i := 17) (v := ?v18) rfl (by kernel_rfl) (by kernel_rfl) (by kernel_rfl) (fun _ _ _ h => h) (Or.inl ⟨by rfl, ?y18⟩) (by assumption) ?r18
          case y18 => (intro w' hSw; obtain ⟨z1, z2, z3⟩ := hSw; go_simp <;> with_reducible rfl)
          try simp only [Act.put]
          refine wpAnyH_ready (rs := [18]) (by kernel_rfl) (by simp) ?_
          refine AllReadyH.cons (i := 18) (rs := []) rfl (fun K hK => ?_) AllReadyH.nil
          clear hHeld
          go_simp
          have hb19 : Below W17.heap.size W17 (W17.alloc (.cells #[.int .i64 f, .int .i64 d, .int .i64 y] 34)) := (Below.refl _ _).alloc (Nat.le_refl _) _
          have B19 : Blk (W17.alloc (.cells #[.int .i64 f, .int .i64 d, .int .i64 y] 34)) W17.heap.size 34 #[.int .i64 f, .int .i64 d, .int .i64 y] := Blk.new _ _ _
          obtain ⟨W19, hW19⟩ : ∃ W', W17.alloc (.cells #[.int .i64 f, .int .i64 d, .int .i64 y] 34) = W' := ⟨_, rfl⟩
          obtain ⟨k19, hk19⟩ : ∃ k, W17.heap.size = k := ⟨_, rfl⟩
          rw [hW19] at hb19 B19 ⊢
          rw [hk19] at B19 ⊢
          have E19 : Below bx w4 W19 := E17.trans (hb19.mono (by omega))
          have XB19 := bel_blk XB17 hb19
          have HO19 := own_belw HO17 hb19
          have q19 : bx + 1 ≤ W19.heap.size := Nat.le_trans q17 hb19.size
          clear hb19 hW19 hk19
          refine hK.out _ _ (KS.out _ (E19)) (fun hHeld => ?_)
          clear hK K
          try simp only [Act.put]
          refine wpAnyH_ready (rs := [19]) (by kernel_rfl) (by simp) ?_
          refine AllReadyH.cons (i := 19) (rs := []) rfl (fun K hK => ?_) AllReadyH.nil
          clear hHeld
          have hl20 := B19.lt
          refine step_append_lies _ (by rfl) (.tmp 33) (.tmp 50) 28 (by rfl) (bx + 1) 34 i0 (.agg #[.int .i64 0, .int .i64 0, .int .i64 0]) 3 24 Try.underlying28 HI.out.1 HI.out.2.1 HI.out.2.2.1 HI.out.2.2.2 rfl (by decide) _ _ _ (by rfl) HO19 ⟨k19, 0, none⟩ 1 1 [.int .i64 f, .int .i64 d, .int .i64 y] (by rfl) rfl (World.news_of_block B19) (ints_oneCell .i64 [f, d, y]) (by decide) (by unfold maxLen; omega) (by omega) (by first | omega | (simp; omega)) _ rfl ?_
          intro g20 c20 W20 hown20 hgrow20 hat20 hlt20
          have E20 : Below bx w4 W20 := Below.grown E19 hgrow20 (by omega) (fun k hk => by have := HBK.out k hk; omega)
          have XB20 : Blk W20 bx 30 #[.int .i64 (s : Int), .slice A5 i c5] := Blk.grown XB19 hgrow20 (fun e => absurd (HBK.out _ e.symm) (by omega))
          have q20 : bx + 1 ≤ W20.heap.size := XB20.lt
          clear hgrow20 hat20
          refine hK.out _ _ (KS.out _ (E20)) (fun hHeld => ?_)
          clear hK K
          try simp only [Act.put]
          refine wpAnyH_take (i := 20) (v := ?v21) rfl (by kernel_rfl) (by kernel_rfl) (by kernel_rfl) (fun _ _ _ h => h) (Or.inl ⟨by rfl, ?y21⟩) (by assumption) ?r21
          case y21 => (intro w' hSw; obtain ⟨z1, z2, z3⟩ := hSw; go_simp <;> with_reducible rfl)
          try simp only [Act.put]
          refine wpAnyH_ready (rs := [21]) (by kernel_rfl) (by simp) ?_
          refine AllReadyH.cons (i := 21) (rs := []) rfl (fun K hK => ?_) AllReadyH.nil
          clear hHeld
          have y1 := XB20.c2.2.1
          have y3 := XB20.c2.2.2.2
          go_simp
          refine hK.out _ _ (KS.out _ (E20.setCell (Nat.le_refl _) _)) (fun hHeld => ?_)
          clear hK K
          try simp only [Act.put]
          refine wpAnyH_done (by kernel_rfl) ?_ _
          clear hHeld
          clear KS
          have XB8 : Hid (Blk (W20.setCell ⟨bx, 1, none⟩ (.slice (some ⟨g20, 0, none⟩) (i + 1) c20)) bx 30 #[.int .i64 (s : Int), (.slice (some ⟨g20, 0, none⟩) (i + 1) c20)]) := XB20.set_ 1 _
          have HO8 : Hid ((W20.setCell ⟨bx, 1, none⟩ (.slice (some ⟨g20, 0, none⟩) (i + 1) c20)).ownsRow (bx + 1) 34 3 (.slice (some ⟨g20, 0, none⟩) (i + 1) c20) (i + 1) (cells3 (costsF st (l.take (i + 1)) 0))) := by
            rw [← HCS.out, cells3_append]
            exact own_far hown20 (by simp) _
          have D8 : Below bx w4 (W20.setCell ⟨bx, 1, none⟩ (.slice (some ⟨g20, 0, none⟩) (i + 1) c20)) := E20.setCell (Nat.le_refl _) _
          have q8 : bx + 1 ≤ (W20.setCell ⟨bx, 1, none⟩ (.slice (some ⟨g20, 0, none⟩) (i + 1) c20)).heap.size := by simp; omega
          clear hown20 XB20 E20
          go_wp2_with fail
          go_roundw
          case rel => exact ⟨i + 1, _, by go_num, by omega, XB8, HO8, q8, D8⟩
          case measure => simp [intOf]; omega
        refine AllReadyH.cons (i := 16) (rs := []) rfl (fun K hK => ?_) ?_
        · -- 16
          clear hHeld
          go_simp
          go_at_call 75
          refine (l04Cost_any w.heap.size s (some ⟨b, o, none⟩) n c l A' n' c' st i _ (keepN.out _ E0).1 HL.out (keepN.out _ E0).2 HL'.out HV.out HSL.out HIL.out).mono ?_
          rintro e W23 ⟨rfl, hb23⟩
          rw [HY.out]
          have E23 : Below bx w4 W23 := E0.trans (hb23.mono (by omega))
          have XB23 := bel_blk XB0 hb23
          have HO23 := own_belw HO0 hb23
          have q23 : bx + 1 ≤ W23.heap.size := Nat.le_trans q0 hb23.size
          clear hb23
          refine hK.out _ _ (KS.out _ (E23)) (fun hHeld => ?_)
          clear hK K
          try simp only [Act.put]
          refine wpAnyH_take (i := 17) (v := ?v24) rfl (by kernel_rfl) (by kernel_rfl) (by kernel_rfl) (fun _ _ _ h => h) (Or.inl ⟨by rfl, ?y24⟩) (by assumption) ?r24
          case y24 => (intro w' hSw; obtain ⟨z1, z2, z3⟩ := hSw; go_simp <;> with_reducible rfl)
          try simp only [Act.put]
          refine wpAnyH_ready (rs := [1, 18]) (by kernel_rfl) (by simp) ?_
          refine AllReadyH.cons (i := 1) (rs := [18]) rfl (fun K hK => ?_) ?_
          · -- 1
            clear hHeld
            have x1_25 := XB23.c2.2.1
            go_simp
            clear x1_25
            refine hK.out _ _ (KS.out _ (E23)) (fun hHeld => ?_)
            clear hK K
            try simp only [Act.put]
            refine wpAnyH_ready (rs := [18]) (by kernel_rfl) (by simp) ?_
            refine AllReadyH.cons (i := 18) (rs := []) rfl (fun K hK => ?_) AllReadyH.nil
            clear hHeld
            go_simp
            have hb26 : Below W23.heap.size W23 (W23.alloc (.cells #[.int .i64 f, .int .i64 d, .int .i64 y] 34)) := (Below.refl _ _).alloc (Nat.le_refl _) _
            have B26 : Blk (W23.alloc (.cells #[.int .i64 f, .int .i64 d, .int .i64 y] 34)) W23.heap.size 34 #[.int .i64 f, .int .i64 d, .int .i64 y] := Blk.new _ _ _
            obtain ⟨W26, hW26⟩ : ∃ W', W23.alloc (.cells #[.int .i64 f, .int .i64 d, .int .i64 y] 34) = W' := ⟨_, rfl⟩
            obtain ⟨k26, hk26⟩ : ∃ k, W23.heap.size = k := ⟨_, rfl⟩
            rw [hW26] at hb26 B26 ⊢
            rw [hk26] at B26 ⊢
            have E26 : Below bx w4 W26 := E23.trans (hb26.mono (by omega))
            have XB26 := bel_blk XB23 hb26
            have HO26 := own_belw HO23 hb26
            have q26 : bx + 1 ≤ W26.heap.size := Nat.le_trans q23 hb26.size
            clear hb26 hW26 hk26
            refine hK.out _ _ (KS.out _ (E26)) (fun hHeld => ?_)
            clear hK K
            try simp only [Act.put]
            refine wpAnyH_ready (rs := [19]) (by kernel_rfl) (by simp) ?_
            refine AllReadyH.cons (i := 19) (rs := []) rfl (fun K hK => ?_) AllReadyH.nil
            clear hHeld
            have hl27 := B26.lt
            refine step_append_lies _ (by rfl) (.tmp 33) (.tmp 50) 28 (by rfl) (bx + 1) 34 i0 (.agg #[.int .i64 0, .int .i64 0, .int .i64 0]) 3 24 Try.underlying28 HI.out.1 HI.out.2.1 HI.out.2.2.1 HI.out.2.2.2 rfl (by decide) _ _ _ (by rfl) HO26 ⟨k26, 0, none⟩ 1 1 [.int .i64 f, .int .i64 d, .int .i64 y] (by rfl) rfl (World.news_of_block B26) (ints_oneCell .i64 [f, d, y]) (by decide) (by unfold maxLen; omega) (by omega) (by first | omega | (simp; omega)) _ rfl ?_
            intro g27 c27 W27 hown27 hgrow27 hat27 hlt27
            have E27 : Below bx w4 W27 := Below.grown E26 hgrow27 (by omega) (fun k hk => by have := HBK.out k hk; omega)
            have XB27 : Blk W27 bx 30 #[.int .i64 (s : Int), .slice A5 i c5] := Blk.grown XB26 hgrow27 (fun e => absurd (HBK.out _ e.symm) (by omega))
            have q27 : bx + 1 ≤ W27.heap.size := XB27.lt
            clear hgrow27 hat27
            refine hK.out _ _ (KS.out _ (E27)) (fun hHeld => ?_)
            clear hK K
            try simp only [Act.put]
            refine wpAnyH_take (i := 20) (v := ?v28) rfl (by kernel_rfl) (by kernel_rfl) (by kernel_rfl) (fun _ _ _ h => h) (Or.inl ⟨by rfl, ?y28⟩) (by assumption) ?r28
            case y28 => (intro w' hSw; obtain ⟨z1, z2, z3⟩ := hSw; go_simp <;> with_reducible rfl)
            try simp only [Act.put]
            refine wpAnyH_ready (rs := [21]) (by kernel_rfl) (by simp) ?_
            refine AllReadyH.cons (i := 21) (rs := []) rfl (fun K hK => ?_) AllReadyH.nil
            clear hHeld
            have y1 := XB27.c2.2.1
            have y3 := XB27.c2.2.2.2
            go_simp
            refine hK.out _ _ (KS.out _ (E27.setCell (Nat.le_refl _) _)) (fun hHeld => ?_)
            clear hK K
            try simp only [Act.put]
            refine wpAnyH_done (by kernel_rfl) ?_ _
            clear hHeld
            clear KS
            have XB8 : Hid (Blk (W27.setCell ⟨bx, 1, none⟩ (.slice (some ⟨g27, 0, none⟩) (i + 1) c27)) bx 30 #[.int .i64 (s : Int), (.slice (some ⟨g27, 0, none⟩) (i + 1) c27)]) := XB27.set_ 1 _
            have HO8 : Hid ((W27.setCell ⟨bx, 1, none⟩ (.slice (some ⟨g27, 0, none⟩) (i + 1) c27)).ownsRow (bx + 1) 34 3 (.slice (some ⟨g27, 0, none⟩) (i + 1) c27) (i + 1) (cells3 (costsF st (l.take (i + 1)) 0))) := by
              rw [← HCS.out, cells3_append]
              exact own_far hown27 (by simp) _
            have D8 : Below bx w4 (W27.setCell ⟨bx, 1, none⟩ (.slice (some ⟨g27, 0, none⟩) (i + 1) c27)) := E27.setCell (Nat.le_refl _) _
            have q8 : bx + 1 ≤ (W27.setCell ⟨bx, 1, none⟩ (.slice (some ⟨g27, 0, none⟩) (i + 1) c27)).heap.size := by simp; omega
            clear hown27 XB27 E27
            go_wp2_with fail
            go_roundw
            case rel => exact ⟨i + 1, _, by go_num, by omega, XB8, HO8, q8, D8⟩
            case measure => simp [intOf]; omega
          refine AllReadyH.cons (i := 18) (rs := []) rfl (fun K hK => ?_) ?_
          · -- 18
            clear hHeld
            go_simp
            have hb30 : Below W23.heap.size W23 (W23.alloc (.cells #[.int .i64 f, .int .i64 d, .int .i64 y] 34)) := (Below.refl _ _).alloc (Nat.le_refl _) _
            have B30 : Blk (W23.alloc (.cells #[.int .i64 f, .int .i64 d, .int .i64 y] 34)) W23.heap.size 34 #[.int .i64 f, .int .i64 d, .int .i64 y] := Blk.new _ _ _
            obtain ⟨W30, hW30⟩ : ∃ W', W23.alloc (.cells #[.int .i64 f, .int .i64 d, .int .i64 y] 34) = W' := ⟨_, rfl⟩
            obtain ⟨k30, hk30⟩ : ∃ k, W23.heap.size = k := ⟨_, rfl⟩
            rw [hW30] at hb30 B30 ⊢
            rw [hk30] at B30 ⊢
            have E30 : Below bx w4 W30 := E23.trans (hb30.mono (by omega))
            have XB30 := bel_blk XB23 hb30
            have HO30 := own_belw HO23 hb30
            have q30 : bx + 1 ≤ W30.heap.size := Nat.le_trans q23 hb30.size
            clear hb30 hW30 hk30
            refine hK.out _ _ (KS.out _ (E30)) (fun hHeld => ?_)
            clear hK K
            try simp only [Act.put]
            refine wpAnyH_ready (rs := [1]) (by kernel_rfl) (by simp) ?_
            refine AllReadyH.cons (i := 1) (rs := []) rfl (fun K hK => ?_) AllReadyH.nil
            clear hHeld
            have x1_31 := XB30.c2.2.1
            go_simp
            clear x1_31
            refine hK.out _ _ (KS.out _ (E30)) (fun hHeld => ?_)
            clear hK K
            try simp only [Act.put]
            refine wpAnyH_ready (rs := [19]) (by kernel_rfl) (by simp) ?_
            refine AllReadyH.cons (i := 19) (rs := []) rfl (fun K hK => ?_) AllReadyH.nil
            clear hHeld
            have hl32 := B30.lt
            refine step_append_lies _ (by rfl) (.tmp 33) (.tmp 50) 28 (by rfl) (bx + 1) 34 i0 (.agg #[.int .i64 0, .int .i64 0, .int .i64 0]) 3 24 Try.underlying28 HI.out.1 HI.out.2.1 HI.out.2.2.1 HI.out.2.2.2 rfl (by decide) _ _ _ (by rfl) HO30 ⟨k30, 0, none⟩ 1 1 [.int .i64 f, .int .i64 d, .int .i64 y] (by rfl) rfl (World.news_of_block B30) (ints_oneCell .i64 [f, d, y]) (by decide) (by unfold maxLen; omega) (by omega) (by first | omega | (simp; omega)) _ rfl ?_
            intro g32 c32 W32 hown32 hgrow32 hat32 hlt32
            have E32 : Below bx w4 W32 := Below.grown E30 hgrow32 (by omega) (fun k hk => by have := HBK.out k hk; omega)
            have XB32 : Blk W32 bx 30 #[.int .i64 (s : Int), .slice A5 i c5] := Blk.grown XB30 hgrow32 (fun e => absurd (HBK.out _ e.symm) (by omega))
            have q32 : bx + 1 ≤ W32.heap.size := XB32.lt
            clear hgrow32 hat32
            refine hK.out _ _ (KS.out _ (E32)) (fun hHeld => ?_)
            clear hK K
            try simp only [Act.put]
            refine wpAnyH_take (i := 20) (v := ?v33) rfl (by kernel_rfl) (by kernel_rfl) (by kernel_rfl) (fun _ _ _ h => h) (Or.inl ⟨by rfl, ?y33⟩) (by assumption) ?r33
            case y33 => (intro w' hSw; obtain ⟨z1, z2, z3⟩ := hSw; go_simp <;> with_reducible rfl)
            try simp only [Act.put]
            refine wpAnyH_ready (rs := [21]) (by kernel_rfl) (by simp) ?_
            refine AllReadyH.cons (i := 21) (rs := []) rfl (fun K hK => ?_) AllReadyH.nil
            clear hHeld
            have y1 := XB32.c2.2.1
            have y3 := XB32.c2.2.2.2
            go_simp
            refine hK.out _ _ (KS.out _ (E32.setCell (Nat.le_refl _) _)) (fun hHeld => ?_)
            clear hK K
            try simp only [Act.put]
            refine wpAnyH_done (by kernel_rfl) ?_ _
            clear hHeld
            clear KS
            have XB8 : Hid (Blk (W32.setCell ⟨bx, 1, none⟩ (.slice (some ⟨g32, 0, none⟩) (i + 1) c32)) bx 30 #[.int .i64 (s : Int), (.slice (some ⟨g32, 0, none⟩) (i + 1) c32)]) := XB32.set_ 1 _
            have HO8 : Hid ((W32.setCell ⟨bx, 1, none⟩ (.slice (some ⟨g32, 0, none⟩) (i + 1) c32)).ownsRow (bx + 1) 34 3 (.slice (some ⟨g32, 0, none⟩) (i + 1) c32) (i + 1) (cells3 (costsF st (l.take (i + 1)) 0))) := by
              rw [← HCS.out, cells3_append]
              exact own_far hown32 (by simp) _
            have D8 : Below bx w4 (W32.setCell ⟨bx, 1, none⟩ (.slice (some ⟨g32, 0, none⟩) (i + 1) c32)) := E32.setCell (Nat.le_refl _) _
            have q8 : bx + 1 ≤ (W32.setCell ⟨bx, 1, none⟩ (.slice (some ⟨g32, 0, none⟩) (i + 1) c32)).heap.size := by simp; omega
            clear hown32 XB32 E32
            go_wp2_with fail
            go_roundw
            case rel => exact ⟨i + 1, _, by go_num, by omega, XB8, HO8, q8, D8⟩
            case measure => simp [intOf]; omega
          exact AllReadyH.nil
        exact AllReadyH.nil
      · have hie : i = n := by omega
        subst hie
        have hta : costsF st (l.take i) 0 = costs l st := by rw [List.take_of_length_le (by rw [HL.out]; exact Nat.le_refl _)]; rfl
        have hO := HO.out
        rw [hta] at hO
        have hcl : (costs l st).length = i := by rw [costs_len, HL.out]
        have HCL := Lib.hid hcl
        have HX : Hid (NetAt wr bx s A5 i c5 (costs l st)) := ⟨x0, x1, tubes_own3 hO hcl⟩
        have HVC := Lib.hid (valid_costs HV.out st)
        obtain ⟨D, hD⟩ : ∃ D, distN (s : Int) (costs l st) v (-1) = D := ⟨_, rfl⟩
        have HD := Lib.hid hD
        have hDl : D.length = s := by rw [← hD, distN_len, Int.toNat_natCast]
        have HDL := Lib.hid hDl
        have DW : Below w.heap.size w wr := D4.trans (hbel.mono (by omega))
        clear hta hO hcl hD hDl HO XB hNw hSw
        go_wp2_with fail
        refine (l02Far_any bx s A5 i c5 (costs l st) v (-1) _ HX.out HCL.out.symm HVC.out (by omega) (by omega)).mono ?_
        simp only [Int.toNat_natCast]
        rw [HD.out]
        rintro e w5 ⟨g, rfl, hg, HB, hb⟩
        have HX5 := Lib.hid (HX.out.bel hb)
        have D5 := bel_next DW hb
        have E5 : Below bx w4 w5 := hbel.trans (hb.mono (by omega))
        have cu : w5.cell? ⟨g, u, none⟩ = some (.int .i64 (at_ D u)) := by rw [HB.out.cell]; exact ints_get (by rw [HDL.out]; exact hus)
        have hgl := HB.out.lt
        obtain ⟨m0, m1⟩ := keepN.out w5 E5
        have k0 := m0.c0
        have k1 := m0.c1
        have hw5 : w.heap.size < w5.heap.size := cell_lt k0
        obtain ⟨z, hz⟩ : ∃ z, at_ D u = z := ⟨_, rfl⟩
        have HZ := Lib.hid hz
        rw [hz] at cu
        clear hb hz HX HB m0 m1 x0 x1 x2 x3 n0 n1
        by_cases hz0 : z < 0
        · have E : Hid (fewR s l st u v = ([], 0, 3)) := fewR_3 HK.out (by rw [HD.out, HZ.out]; exact hz0)
          go_wp2_with fail
          refine bodyPost_ret (v := .tuple #[.slice none 0 0, .int .i64 0, .int .i64 3]) (by simp [results, Try.results44, go_sem]) rfl ?_
          rw [E.out]
          exact ⟨none, 0, rfl, own_none _ _ _, D5⟩
        · have hzg : 0 ≤ at_ (distN (s : Int) (costs l st) v (-1)) u := by rw [HD.out, HZ.out]; omega
          have HZG := Lib.hid hzg
          have E : Hid (fewR s l st u v = (wayD (costs l st) D v u, (tuF l st (wayD (costs l st) D v u) : Int), 0)) := by show _ = _; rw [fewR_yes HK.out hzg, HD.out]
          obtain ⟨f1, f2, f3⟩ := (few_law (st := st) HV.out hvs hus).2 hzg
          rw [HD.out] at f2 f3
          have HI2 := Lib.hid f2
          obtain ⟨W, hW⟩ : ∃ W, wayD (costs l st) D v u = W := ⟨_, rfl⟩
          have HW := Lib.hid hW
          rw [hW] at E HI2 f3
          clear hzg hW f1 f2
          go_wp2_with fail
          refine (l02Way_any bx s A5 i c5 (costs l st) u v _ HX5.out HCL.out.symm HVC.out hus hvs HZG.out).mono ?_
          rw [HD.out, HW.out]
          rintro e w6 ⟨A6, c6, rfl, O6, hb⟩
          have D6 := bel_next D5 hb
          have E6 : Below bx w4 w6 := E5.trans (hb.mono (by omega))
          have HO6 := Lib.hid (own_base O6 D5.size)
          have I6 := Lib.hid (IntsAt.ofOwn O6).1
          clear hb O6
          go_wp2_with fail
          refine (l04Turns_any w.heap.size s A i c l A' n' c' st A6 W.length c6 W _ (keepN.out _ E6).1 HL.out (keepN.out _ E6).2 HL'.out I6.out rfl (by omega) (setOK_of HK.out) HI2.out).mono ?_
          rintro e w7 ⟨rfl, hb⟩
          have D7 := bel_next D6 hb
          have HO7 := Lib.hid (own_belw HO6.out hb)
          clear hb
          go_wp2_with fail
          refine bodyPost_ret (v := .tuple #[.slice A6 W.length c6, .int .i64 (tuF l st W), .int .i64 0]) (by simp [results, Try.results44, go_sem]) rfl ?_
          rw [E.out]
          exact ⟨A6, c6, rfl, HO7.out, D7⟩
  · have E : Hid (fewR S l st u v = ([], 0, k)) := fewR_no hk h0
    have hkb : (k == 0) = false := by simpa using h0
    clear hk
    go_wp2_with fail
    refine bodyPost_ret (v := .tuple #[.slice none 0 0, .int .i64 0, .int .i64 k]) (by simp [results, Try.results44, go_sem]) rfl ?_
    rw [E.out]
    exact ⟨none, 0, rfl, own_none _ _ _, D1⟩

end Go.Proofs.Ytlebkjkiikehhaa.Cst
