/-
  CONTRACT: the first way with the least cost (printed by tools/gen_cost.py).
-/
import Derived.Test.YtlebkjkiikehhaaCst2
import Derived.Test.YtlebkjkiikehhaaTubesFrom
import Derived.Test.YtlebkjkiikehhaaMadeI
namespace Go.Proofs.Ytlebkjkiikehhaa.Cst
open Go.RowKit

theorem eff_none {wo : Int} : ∀ (l : List Tb) (k : Int), wo < k → eff wo l k = l
  | [], _, _ => rfl
  | t :: ts, k, h => by rw [eff, if_neg (by omega), eff_none ts (k + 1) (by omega)]
/-- A tube leads on along a shortest way. -/
def leads (D : List Int) (a : Nat) (t : Tb) : Prop := t.1 = (a : Int) ∧ 0 ≤ at_ D t.2.1.toNat ∧ at_ D t.2.1.toNat + t.2.2 = at_ D a
instance (D : List Int) (a : Nat) (t : Tb) : Decidable (leads D a t) := by unfold leads; infer_instance
/-- The first tube that leads on, from k on. -/
def stepF (D : List Int) (a : Nat) : List Tb → Nat → Option Nat
  | [], _ => none
  | t :: ts, k => if leads D a t then some k else stepF D a ts (k + 1)
theorem stepF_step {D : List Int} {a i : Nat} {l : List Tb} (h : i < l.length) : stepF D a (l.drop i) i = if leads D a l[i] then some i else stepF D a (l.drop (i + 1)) (i + 1) := by
  rw [drop_at' h, stepF]
theorem stepF_some (D : List Int) (a : Nat) : ∀ (l : List Tb) (k : Nat), (∃ t ∈ l, leads D a t) → ∃ j, stepF D a l k = some (k + j) ∧ ∃ h : j < l.length, leads D a l[j]
  | [], _, ⟨t, ht, _⟩ => absurd ht (by simp)
  | t :: ts, k, h => by
    rw [stepF]
    by_cases hl : leads D a t
    · exact ⟨0, by rw [if_pos hl]; rfl, by simp, hl⟩
    · rw [if_neg hl]
      obtain ⟨j, h1, h2, h3⟩ := stepF_some D a ts (k + 1) (by
        obtain ⟨u, hu, hlu⟩ := h
        rcases List.mem_cons.1 hu with rfl | hu
        · exact absurd hlu hl
        · exact ⟨u, hu, hlu⟩)
      exact ⟨j + 1, by rw [h1]; congr 1; omega, by simpa using h2, h3⟩
/-- The way on from a station, as long as some fuel lasts. -/
def wayF (l : List Tb) (D : List Int) (gl : Nat) : Nat → Nat → List Int
  | 0, _ => []
  | k + 1, a => if a = gl then [] else match stepF D a l 0 with
    | none => []
    | some j => (j : Int) :: wayF l D gl k (l.getD j (0, 0, 0)).2.1.toNat
/-- The fuel: the length that is left. -/
def fuelD (D : List Int) (a : Nat) : Nat := (at_ D a).toNat + 1
theorem wayF_more (l : List Tb) (D : List Int) (gl : Nat) (S : Nat) (hg : Good S l) : ∀ (k m a : Nat), fuelD D a ≤ k → wayF l D gl (k + m) a = wayF l D gl k a
  | 0, m, a, h => by unfold fuelD at h; omega
  | k + 1, m, a, h => by
    rw [show k + 1 + m = (k + m) + 1 by omega, wayF, wayF]
    by_cases ha : a = gl
    · rw [if_pos ha, if_pos ha]
    · rw [if_neg ha, if_neg ha]
      by_cases he : ∃ t ∈ l, leads D a t
      · obtain ⟨j, h1, h2, h3⟩ := stepF_some D a l 0 he
        rw [h1, Nat.zero_add]
        have hj : l.getD j (0, 0, 0) = l[j] := by simp [h2]
        have hgj := hg l[j] (List.getElem_mem h2)
        have h4 := h3.2.1
        have h5 := h3.2.2
        have := hgj.g0
        simp only
        rw [hj, wayF_more l D gl S hg k m _ (by unfold fuelD at h ⊢; omega)]
      · have h1 : stepF D a l 0 = none := by
          have : ∀ (l : List Tb) (k : Nat), (∀ t ∈ l, ¬ leads D a t) → stepF D a l k = none := by
            intro l
            induction l with
            | nil => intro _ _; rfl
            | cons t ts ih => intro k h; rw [stepF, if_neg (h t List.mem_cons_self), ih _ fun u hu => h u (List.mem_cons_of_mem _ hu)]
          exact this l 0 fun t ht hl => he ⟨t, ht, hl⟩
        rw [h1]
def wayD (l : List Tb) (D : List Int) (gl a : Nat) : List Int := wayF l D gl (fuelD D a) a
theorem wayD_goal (l : List Tb) (D : List Int) (gl : Nat) : wayD l D gl gl = [] := by
  unfold wayD fuelD
  rw [wayF, if_pos rfl]
/-- One step along the way: the next tube. -/
theorem wayD_step {l : List Tb} {D : List Int} {gl S a j : Nat} (hg : Good S l) (ha : a ≠ gl) (hj : stepF D a l 0 = some j) (hjl : j < l.length) (hl : leads D a l[j]) : wayD l D gl a = (j : Int) :: wayD l D gl l[j].2.1.toNat := by
  unfold wayD
  have hgj := hg l[j] (List.getElem_mem hjl)
  have h4 := hl.2.1
  have h5 := hl.2.2
  have := hgj.g0
  have hf : fuelD D a = (at_ D a).toNat + 1 := rfl
  rw [hf, wayF, if_neg ha, hj]
  have hjj : l.getD j (0, 0, 0) = l[j] := by simp [hjl]
  simp only
  rw [hjj]
  have hle : fuelD D l[j].2.1.toNat ≤ (at_ D a).toNat := by unfold fuelD; omega
  have hw := wayF_more l D gl S hg (fuelD D l[j].2.1.toNat) ((at_ D a).toNat - fuelD D l[j].2.1.toNat) _ (Nat.le_refl _)
  rw [show fuelD D l[j].2.1.toNat + ((at_ D a).toNat - fuelD D l[j].2.1.toNat) = (at_ D a).toNat by omega] at hw
  rw [hw]
/-- From a station that reaches the goal there is a next tube. -/
theorem next_ex {s : Nat} {l : List Tb} {gl a : Nat} (hv : validC (s : Int) l) (hgl : gl < s) (has : a < s) (h0 : 0 ≤ at_ (distN s l gl (-1)) a) (ha : a ≠ gl) : ∃ j, stepF (distN s l gl (-1)) a l 0 = some j ∧ ∃ h : j < l.length, leads (distN s l gl (-1)) a l[j] := by
  have hE : eff (-1) l 0 = l := eff_none l 0 (by omega)
  have hg : Good s l := by have := good_eff hv (-1) 0; rw [hE, Int.toNat_natCast] at this; exact this
  have hd : distN s l gl (-1) = itP l (start s gl) s := by unfold distN; rw [hE, Int.toNat_natCast, Int.toNat_natCast]
  rw [hd] at h0 ⊢
  obtain ⟨t, ht, h1, h2, h3⟩ := A_next hg hgl a has h0 ha
  have hgt := (hg t ht).f0
  obtain ⟨j, h4, h5, h6⟩ := stepF_some (itP l (start s gl) s) a l 0 ⟨t, ht, by omega, h2, h3⟩
  exact ⟨j, by rw [h4, Nat.zero_add], h5, h6⟩
theorem good_l {s : Nat} {l : List Tb} (hv : validC (s : Int) l) : Good s l := by
  have := good_eff hv (-1) 0
  rw [eff_none l 0 (by omega), Int.toNat_natCast] at this
  exact this
theorem wayF_len (l : List Tb) (D : List Int) (gl : Nat) : ∀ k a, (wayF l D gl k a).length ≤ k
  | 0, _ => Nat.le_refl _
  | k + 1, a => by
    rw [wayF]
    split
    · simp
    · split
      · simp
      · have := wayF_len l D gl k
        simp only [List.length_cons]
        exact Nat.succ_le_succ (this _)
/-- A bound on all lengths. -/
theorem dist_le {s : Nat} {l : List Tb} {gl : Nat} (hv : validC (s : Int) l) (hgl : gl < s) (v : Nat) : at_ (distN s l gl (-1)) v ≤ 24480000 := by
  have hE : eff (-1) l 0 = l := eff_none l 0 (by omega)
  have hd : distN s l gl (-1) = itP l (start s gl) s := by unfold distN; rw [hE, Int.toNat_natCast, Int.toNat_natCast]
  obtain ⟨v0, v1, v2, -⟩ := validC_true hv
  have hg := good_l hv
  have hfold : ∀ (E : List Tb) (o : List Int) (B : Int), Good s E → (∀ v, at_ o v ≤ B) → 0 ≤ B → ∀ v, at_ (E.foldl relax o) v ≤ B + 102000 * (E.length : Int) := by
    intro E
    induction E with
    | nil => intro o B _ h _ v; simpa using h v
    | cons t E ih =>
      intro o B hE h hB v
      have h1 := relax_le (hE t List.mem_cons_self) o B h
      have h2 := ih (relax o t) (B + 102000) (fun u hu => hE u (List.mem_cons_of_mem _ hu)) h1 (by omega) v
      simp only [List.foldl_cons, List.length_cons]
      omega
  have hit : ∀ k : Nat, ∀ v, at_ (itP l (start s gl) k) v ≤ 2448000 * (k : Int) := by
    intro k
    induction k with
    | zero => intro v; have := start_le s gl hgl v; simpa [itP] using this
    | succ k ih =>
      intro v
      have := hfold l _ _ hg ih (by omega) v
      rw [itP]
      omega
  rw [hd]
  have := hit s v
  omega


theorem distN_len (S : Int) (l : List Tb) (gl wo : Int) : (distN S l gl wo).length = S.toNat := A_len S.toNat

theorem info_int64Z : (Try.prog.info? 2).map (fun i => (i.zero, i.size, i.bytes)) = some (some (.int .i64 0), 1, 8) := by kernel_rfl
theorem own_belw {w w' : World} {base n size : Nat} {t : TypeId} {v : Value} {xs : List Value} (h : w.ownsRow base t size v n xs) (hb : Below w.heap.size w w') : w'.ownsRow base t size v n xs := by
  refine ⟨h.1, ?_⟩
  rcases h.2 with hn | ⟨g, cap, cur, hv, hg, hB, rest⟩
  · exact .inl hn
  · exact .inr ⟨g, cap, cur, hv, hg, bel_blk (t := t) hB hb, rest⟩
theorem wayD_len (l : List Tb) {D : List Int} (gl a : Nat) (h : at_ D a ≤ 24480000) : (wayD l D gl a).length ≤ 24480001 := by
  have := wayF_len l D gl (fuelD D a) a
  unfold wayD
  have : fuelD D a ≤ 24480001 := by unfold fuelD; omega
  omega
set_option maxHeartbeats 8000000 in
theorem l02Way_any (b : Nat) (s : Nat) (A : Option Addr) (n c : Nat) (l : List Tb) (a0 gl : Nat) (w : World) (h : NetAt w b s A n c l) (hl : n = l.length) (hv : validC (s : Int) l) (ha : a0 < s) (hg : gl < s) (h0 : 0 ≤ at_ (distN s l gl (-1)) a0) :
    Calls Try.prog 77 #[.pointer (some ⟨b, 0, none⟩), .int .i64 a0, .int .i64 gl] w (MadeI w 2 (wayD l (distN s l gl (-1)) gl a0)) := by
  obtain ⟨i0, hi, hz0, hz1, hz2⟩ := info_parts info_int64Z
  have HI := Lib.hid (And.intro hi (And.intro hz0 (And.intro hz1 hz2)))
  have HL := Lib.hid hl
  have HN := Lib.hid h
  have HV := Lib.hid hv
  have HR := Lib.hid (wayD_len l gl a0 (dist_le hv hg a0))
  obtain ⟨rx, HQ⟩ : ∃ r, Hid (wayD l (distN s l gl (-1)) gl a0 = r) := ⟨_, rfl⟩
  obtain ⟨-, v1, v2, -⟩ := validC_true hv
  rw [← hl] at v2
  have hs10 : s ≤ 10 := by omega
  clear h hl hv hi hz0 hz1 hz2 v1
  go_enter Try.func77, Try.ntmps77
  go_wp2_with fail
  refine (l02Far_any b s A n c l gl (-1) _ HN.out HL.out HV.out (by omega) (by omega)).mono ?_
  simp only [Int.toNat_natCast]
  rintro e w1 ⟨g, rfl, hgg, HB, hb1⟩
  obtain ⟨D, hD⟩ : ∃ D, distN s l gl (-1) = D := ⟨_, rfl⟩
  have HD := Lib.hid hD
  rw [hD] at HB h0 HR ⊢
  have hlen : D.length = s := by rw [← hD, distN_len, Int.toNat_natCast]
  have HLN := Lib.hid hlen
  obtain ⟨c0, c1, hts⟩ := HN.out.bel hb1
  have HT := Lib.hid hts
  have gB := HB.out.lt
  have sw := hb1.size
  have HB1 := Lib.hid hb1
  have HX : Hid (wayD l D gl a0 = rx) := by show _ = _; rw [← HD.out]; exact HQ.out
  rw [HX.out] at HR
  clear hD hlen hts hb1 hgg
  go_wp2_with fail
  go_loopw [8, 9] (fun v u w' => ∃ (a : Nat) (xs : List Int), u = .int .i64 a ∧ a < s ∧ 0 ≤ at_ D a ∧ w'.ownsRow w1.heap.size 2 1 v xs.length (xs.map (Value.int .i64)) ∧ Hid (xs ++ wayD l D gl a = rx) ∧ Below w1.heap.size w1 w') (fun _ u _ => (at_ D (intOf u).toNat).toNat)
  case atStart => exact ⟨a0, [], rfl, ha, h0, own_nil _ _ _ rfl (Nat.le_refl _), HX, by go_grown⟩
  case round =>
    clear HX ha h0
    obtain ⟨a, xs, rfl, has, hz0, hown, HX, hbel⟩ := hrel
    have HO := Lib.hid hown
    clear hown
    by_cases hag : a = gl
    · have HXR : Hid (rx = xs) := by show _ = _; rw [← HX.out, hag, wayD_goal, List.append_nil]
      obtain rfl := hag
      obtain ⟨A2, c2, rfl⟩ := own_form HO.out
      go_wp2_with fail
      go_ret
      rw [HQ.out, HXR.out]
      exact ⟨A2, c2, rfl, own_base HO.out sw, bel_next HB1.out hbel⟩
    · have hgb : ((a : Int) == (gl : Int)) = false := by rw [beq_eq_false_iff_ne]; omega
      have hgn : ((a : Int) != (gl : Int)) = true := by rw [bne, hgb]; rfl
      obtain ⟨j, hj, hjl, hle⟩ := next_ex HV.out hg has (by rw [HD.out]; exact hz0) hag
      rw [HD.out] at hj hle
      have HX2 : Hid (xs ++ (j : Int) :: wayD l D gl l[j].2.1.toNat = rx) := by show _ = _; rw [← HX.out, wayD_step (good_l HV.out) hag hj hjl hle]
      have hxl : xs.length ≤ 24480001 := by have h5 := congrArg List.length HX2.out; simp at h5; have := HR.out; omega
      have HJ : Hid (stepF D a (l.drop 0) 0 = some j) := hj
      obtain ⟨z, hz⟩ : ∃ z, at_ D a = z := ⟨_, rfl⟩
      have HZ := Lib.hid hz
      rw [hz] at hz0
      clear hj hle hz
      obtain ⟨wp, rfl⟩ : ∃ wp : World, wp = wr := ⟨_, rfl⟩
      obtain ⟨A2, c2, rfl⟩ := own_form HO.out
      go_wp2_with fail
      go_loopw [8, 9, 10] (fun v8 v9 u w' => ∃ (i : Nat), v8 = .slice A2 xs.length c2 ∧ v9 = .int .i64 a ∧ u = .int .i64 i ∧ i ≤ n ∧ Hid (stepF D a (l.drop i) i = some j) ∧ Below wp.heap.size wp w') (fun _ _ u _ => n - (intOf u).toNat)
      case atStart => exact ⟨0, rfl, rfl, rfl, by omega, HJ, Below.refl _ _⟩
      case round =>
        clear HJ
        obtain ⟨i, rfl, rfl, rfl, hin, HJ, hbel2⟩ := hrel
        have D3 := bel_next hbel hbel2
        have b0 := bel_cell D3 c0
        have b1 := bel_cell D3 c1
        have hil : i < n := by
          rcases Nat.lt_or_ge i n with h5 | h5
          · exact h5
          · have h6 := HJ.out
            rw [List.drop_of_length_le (by rw [← HL.out]; exact h5), stepF] at h6
            cases h6
        have hi' : i < l.length := by rw [← HL.out]; exact hil
        have hgd := good_at HV.out hi'
        obtain ⟨p0, p1, p2, p3, p4, p5⟩ := hgd
        obtain ⟨b', o', rfl, hblt, hc⟩ := (HT.out.bel D3) (by omega)
        obtain ⟨t0, t1, t2⟩ := hc i hi'
        obtain ⟨f, hf⟩ : ∃ f : Nat, l[i].1 = f := ⟨l[i].1.toNat, by omega⟩
        obtain ⟨d, hd⟩ : ∃ d : Nat, l[i].2.1 = d := ⟨l[i].2.1.toNat, by omega⟩
        obtain ⟨x, hx⟩ : ∃ x : Int, l[i].2.2 = x := ⟨_, rfl⟩
        have hst := stepF_step (D := D) (a := a) hi'
        have hlead : leads D a l[i] ↔ ((f : Int) = (a : Int) ∧ 0 ≤ at_ D d ∧ at_ D d + x = z) := by
          unfold leads
          rw [hf, hd, hx, HZ.out, Int.toNat_natCast]
        rw [hf] at t0 p0 p1
        rw [hd] at t1 p2 p3
        rw [hx] at t2 p4 p5
        simp only [Int.toNat_natCast] at p1 p3
        have hbb := hid_blk HB D3
        have cd : wr.cell? ⟨g, d, none⟩ = some (.int .i64 (at_ D d)) := by rw [hbb.out.cell]; exact ints_get (by rw [HLN.out]; omega)
        have ca : wr.cell? ⟨g, a, none⟩ = some (.int .i64 z) := by rw [hbb.out.cell, ← HZ.out]; exact ints_get (by rw [HLN.out]; omega)
        have hgw := hbb.out.lt
        have ly := dist_le HV.out hg d
        rw [HD.out] at ly
        obtain ⟨y, hy⟩ : ∃ y, at_ D d = y := ⟨_, rfl⟩
        rw [hy] at cd hlead ly
        have HY := Lib.hid hy
        have HDD := Lib.hid hd
        have HXX := Lib.hid hx
        clear hc hf hd hx hbb hy
        by_cases hfa : f = a
        · subst hfa
          by_cases hy0 : 0 ≤ y
          · have e1 : IntKind.i64.wrap (y + x) = y + x := IntWalk.i64_in _ (by omega)
            by_cases hyz : y + x = z
            · have hij : j = i := by
                have h6 := HJ.out
                rw [hst, if_pos (hlead.2 ⟨rfl, hy0, hyz⟩)] at h6
                exact (Option.some.inj h6).symm
              subst hij
              have HX3 : Hid ((xs ++ [(j : Int)]) ++ wayD l D gl d = rx) := by show _ = _; rw [← HX2.out, HDD.out, Int.toNat_natCast, List.append_assoc]; rfl
              have HOr := Lib.hid (own_belw HO.out hbel2)
              have hyb : (y + x == z) = true := by rw [hyz]; exact beq_self_eq_true z
              have HYZ := Lib.hid hyz
              clear hst hlead HJ hyz
              go_wp2_with fail
              go_quiet (fail)
              have hb6 : Below w1.heap.size w1 ((wr.alloc (.cells #[.int .i64 (f : Int), .int .i64 (d : Int), .int .i64 x] 34)).drewN nq) := below_drewN (D3.alloc D3.size _) _
              have ho6 : ((wr.alloc (.cells #[.int .i64 (f : Int), .int .i64 (d : Int), .int .i64 x] 34)).drewN nq).ownsRow w1.heap.size 2 1 _ xs.length (xs.map (Value.int .i64)) := own_belw (HOr.out.alloc _) (below_drewN (Below.refl _ _) _)
              have kB6 : Blk ((wr.alloc (.cells #[.int .i64 (f : Int), .int .i64 (d : Int), .int .i64 x] 34)).drewN nq) wr.heap.size 34 #[.int .i64 (f : Int), .int .i64 (d : Int), .int .i64 x] := Blk.new wr _ _
              generalize ((wr.alloc (.cells #[.int .i64 (f : Int), .int .i64 (d : Int), .int .i64 x] 34)).drewN nq) = w6 at *
              obtain ⟨tb, htb⟩ : ∃ tb, wr.heap.size = tb := ⟨_, rfl⟩
              have hlt6 : ∀ k, Value.ownBlock _ = some k → k < tb := fun k hk => by rw [← htb]; exact (HOr.out.lt k hk).2
              rw [htb] at kB6 ⊢
              have HO6 := Lib.hid ho6
              have HKB := Lib.hid kB6
              have s6 := hb6.size
              have kl6 := kB6.lt
              clear ho6 kB6 htb b0 b1 t0 t1 t2 cd ca D3 hbel2 HOr HO hbel hblt hgw HX HX2
              go_wp2_with (at_builtin; refine wpList_append_own _ rfl _ _ 39 rfl w1.heap.size 2 i0 (.int .i64 0) 1 8 Try.underlying39 HI.out.1 HI.out.2.1 HI.out.2.2.1 HI.out.2.2.2 rfl (by decide) _ _ _ rfl (HO6.out.alloc _) ⟨w6.heap.size, 0, none⟩ 1 1 [.int .i64 (j : Int)] rfl rfl ?c1 ?c2 ?c3 ?c4 ?c5 ?_)
              try
                case c1 =>
                  intro j u hu
                  cases j with
                  | zero => simp at hu; subst hu; simp [Addr.add]
                  | succ j => simp at hu
              try case c2 => first | exact ints_oneCell .i64 [(j : Int)] | rfl
              try case c3 => unfold maxLen; omega
              try case c4 => omega
              try case c5 => first | (simp; omega) | omega
              intro v' w4 hown1 hgrow _
              have hown2 : w4.ownsRow w1.heap.size 2 1 v' (xs ++ [(j : Int)]).length ((xs ++ [(j : Int)]).map (Value.int .i64)) := by simpa using hown1
              have HO4 := Lib.hid hown2
              have hb4 : Below w1.heap.size w1 w4 := Below.grown (show Below w1.heap.size w1 _ from hb6.alloc hb6.size _) hgrow (by simp; omega) (fun k hk => by have := (HO6.out.lt k hk).1; omega)
              have HNG := (HKB.out.alloc _).grown hgrow (by intro e; have := hlt6 _ e.symm; omega)
              clear hown1 hown2 hgrow
              obtain ⟨-, kz, -⟩ := HNG.c3
              go_wp2_with fail
              go_roundw
              case rel => exact ⟨d, xs ++ [(j : Int)], rfl, by omega, by rw [HY.out]; exact hy0, HO4.out, HX3, hb4⟩
              case measure => have := HYZ.out; simp [intOf]; rw [HY.out, HZ.out]; omega
            · have HJ2 : Hid (stepF D f (l.drop (i + 1)) (i + 1) = some j) := by show _ = _; rw [← HJ.out, hst, if_neg (fun h => hyz (hlead.1 h).2.2)]
              have hyb : (y + x == z) = false := by simpa using hyz
              clear hst hlead HJ
              go_wp2_with fail
              go_quiet (fail)
              go_wp2_with fail
              go_roundw
              case rel => exact ⟨i + 1, rfl, rfl, by go_num, by omega, HJ2, below_drewN (hbel2.alloc hbel2.size _) _⟩
              case measure => simp [intOf]; omega
          · have HJ2 : Hid (stepF D f (l.drop (i + 1)) (i + 1) = some j) := by show _ = _; rw [← HJ.out, hst, if_neg (fun h => hy0 (hlead.1 h).2.1)]
            have hyd : decide (0 ≤ y) = false := decide_eq_false hy0
            have hye : (0 ≤ y) = False := eq_false hy0
            clear hst hlead HJ hy0
            go_wp2_with fail
            go_quiet (fail)
            go_wp2_with fail
            go_roundw
            case rel => exact ⟨i + 1, rfl, rfl, by go_num, by omega, HJ2, below_drewN (hbel2.alloc hbel2.size _) _⟩
            case measure => simp [intOf]; omega
        · have HJ2 : Hid (stepF D a (l.drop (i + 1)) (i + 1) = some j) := by show _ = _; rw [← HJ.out, hst, if_neg (fun h => hfa (by have := (hlead.1 h).1; omega))]
          have hfb : ((f : Int) == (a : Int)) = false := by rw [beq_eq_false_iff_ne]; omega
          clear hst hlead HJ
          go_wp2_with fail
          go_quiet (fail)
          go_wp2_with fail
          go_roundw
          case rel => exact ⟨i + 1, rfl, rfl, by go_num, by omega, HJ2, below_drewN (hbel2.alloc hbel2.size _) _⟩
          case measure => simp [intOf]; omega

end Go.Proofs.Ytlebkjkiikehhaa.Cst
