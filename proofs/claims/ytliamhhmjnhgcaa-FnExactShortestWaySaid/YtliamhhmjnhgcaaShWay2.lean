/-
  CONTRACT: the first shortest way, the program's (printed by tools/gen_shway.py).
-/
import Derived.Test.YtliamhhmjnhgcaaShWay
import Derived.Deep.RegionLaw
namespace Go.Proofs.Ytliamhhmjnhgcaa
open Go.RowKit

/-- The same step, over the places of the tubes that begin at the station. -/
def okG (D : List Int) (z : Int) (t : Tb) : Prop := 0 ≤ at_ D t.2.1.toNat ∧ t.2.2 + at_ D t.2.1.toNat = z
instance (D : List Int) (z : Int) (t : Tb) : Decidable (okG D z t) := by unfold okG; infer_instance
def stepG (D : List Int) (l : List Tb) (z : Int) : List Int → Option Nat
  | [] => none
  | k :: ks => if okG D z (l.getD k.toNat (0, 0, 0)) then some k.toNat else stepG D l z ks
theorem stepG_from (D : List Int) (l : List Tb) (a : Nat) : ∀ (ts : List Tb) (k : Nat), (∀ i, l[k + i]? = ts[i]?) → stepG D l (at_ D a) (fromI a ts k) = stepF D a ts k
  | [], _, _ => rfl
  | t :: ts, k, h => by
    have ih := stepG_from D l a ts (k + 1) (fun i => by rw [show k + 1 + i = k + (i + 1) by omega, h]; rfl)
    have h0 : l.getD k (0, 0, 0) = t := by have := h 0; simp at this; simp [this]
    rw [fromI, stepF]
    by_cases ht : t.1 = (a : Int)
    · rw [if_pos ht, stepG, Int.toNat_natCast, h0]
      by_cases ho : okG D (at_ D a) t
      · rw [if_pos ho, if_pos ⟨ht, ho.1, by have := ho.2; omega⟩]
      · rw [if_neg ho, if_neg (fun h => ho ⟨h.2.1, by have := h.2.2; omega⟩)]; exact ih
    · rw [if_neg ht, if_neg (fun h => ht h.1)]; exact ih
theorem fromI_mem {st : Int} : ∀ (ts : List Tb) (k : Nat) (x : Int), x ∈ fromI st ts k → ∃ q : Nat, x = q ∧ q < k + ts.length
  | [], _, _, h => by cases h
  | t :: ts, k, x, h => by
    rw [fromI] at h
    have go : x ∈ fromI st ts (k + 1 : Nat) → ∃ q : Nat, x = q ∧ q < k + (t :: ts).length := fun h => by
      obtain ⟨q, h1, h2⟩ := fromI_mem ts (k + 1) x h
      exact ⟨q, h1, by simp only [List.length_cons]; omega⟩
    split at h
    · rcases List.mem_cons.1 h with rfl | h
      · exact ⟨k, rfl, by simp⟩
      · exact go h
    · exact go h
theorem stepG_step {D : List Int} {l : List Tb} {z : Int} {R : List Int} {i k : Nat} (h : i < R.length) (hk : R[i] = (k : Int)) (hkl : k < l.length) : stepG D l z (R.drop i) = if okG D z l[k] then some k else stepG D l z (R.drop (i + 1)) := by
  rw [drop_at' h, stepG, hk, Int.toNat_natCast]
  have : l.getD k (0, 0, 0) = l[k] := by simp [hkl]
  rw [this]

theorem step_append_own {P : Program} {ops : Array Oper} {o : Oper} {a : Act} {w : World} {K : Act → World → Prop} {Q : Exit → Act → World → Prop} {E : Prop}
    (hg : o.guard = none) (s x : Operand) (t : TypeId) (hop : o.op = Op.call { callee := Callee.builtin Builtin.append, args := #[s, x], argTypes := #[t, t] })
    (base : Nat) (e : TypeId) (i : TypeInfo) (z : Value) (size bytes : Nat) (h1 : P.underlying t = some (.slice e)) (h2 : P.info? e = some i) (h3 : i.zero = some z) (h4 : i.size = size) (h5 : i.bytes = bytes) (h6 : z.cells.size = size) (h7 : 0 < size)
    (v : Value) (n : Nat) (xs : List Value) (hs : a.eval s = v) (hown : w.ownsRow base e size v n xs)
    (ad : Addr) (m c : Nat) (news : List Value) (hx : a.eval x = .slice (some ad) m c) (hn : news.length = m * size) (hc : ∀ j u, news[j]? = some u → w.cell? (ad.add j) = some u) (h1c : ∀ u ∈ news, u.oneCell' = true)
    (b1 : n + m ≤ maxLen) (b2 : (n + m) * bytes ≤ 140737488355328) (hbase : base ≤ w.heap.size)
    (hK : ∀ v' w', w'.ownsRow base e size v' (n + m) (xs ++ news) → w.grownBy w' v.ownBlock → K (a.put o.dst v') w') :
    if Region.wanted o (yielded ops a.tmps) = true then Oper.wp P o a w K Q else E := by
  have hw : Region.wanted o (yielded ops a.tmps) = true := by simp [Region.wanted, hg]
  rw [if_pos hw]
  obtain ⟨v', w', hrun, r1, r2, _⟩ := run_append_own (P := P) w base t o.type e i z size bytes h1 h2 h3 h4 h5 h6 h7 v n xs hown ad m c news hn hc h1c b1 b2 hbase
  unfold Oper.wp
  simp [execOp, hop, resolve, invoke, builtin, hs, hx, hrun, Result.andThen]
  exact hK v' w' r1 r2

set_option maxHeartbeats 8000000 in
theorem implShWay_any (S : Int) (A : Option Addr) (n c : Nat) (l : List Tb) (u v : Int) (w : World) (h : TubesAt w A l) (hl : n = l.length) (hn0 : n ≤ 1048576) :
    Calls Try.prog 43 #[.agg #[.int .i64 S, .slice A n c], .int .i64 u, .int .i64 v] w (MadeIC w 2 (shWayR S l u v).1 (shWayR S l u v).2) := by
  obtain ⟨i0, hi, hz0, hz1, hz2⟩ := info_parts info_int64Z
  have HI := Lib.hid (And.intro hi (And.intro hz0 (And.intro hz1 hz2)))
  have HL := Lib.hid hl
  have H := Lib.hid h
  clear hl h hi hz0 hz1 hz2
  go_enter Try.func43, Try.ntmps43
  go_wp2_with fail
  refine (netCode_any S A n c l _ 2 2 [u, v] _ ((H.out.alloc _).alloc _) HL.out hn0 (IntsAt.new _ _ [u, v] (by simp)) rfl (by omega)).mono ?_
  rintro e w1 ⟨rfl, hb1⟩
  have D1 : Below w.heap.size w w1 := Below.trans (by go_grown) (hb1.mono (by simp only [World.size_alloc]; omega))
  have N1 : Hid (Blk w1 w.heap.size 29 #[.int .i64 S, .slice A n c]) := bel_blk ((Blk.new _ _ _).alloc _) hb1
  clear hb1
  obtain ⟨k, hk⟩ : ∃ k, codeN S l [u, v] = k := ⟨_, rfl⟩
  by_cases h0 : k = 0
  · subst h0
    have hk0 := hk
    rw [hk]
    obtain ⟨u0, u1, z0, z1⟩ := codeN_in hk
    have hv := (codeN_zero hk).1
    obtain ⟨x, hx⟩ : ∃ x, at_ (distN S l v (-1)) u.toNat = x := ⟨_, rfl⟩
    have E0 : Hid (shortLen S l u v = if x < 0 then (0, 3) else (x, 0)) := by show _ = _; unfold shortLen; rw [if_pos hk, hx]
    obtain ⟨s, rfl⟩ : ∃ s : Nat, S = s := ⟨S.toNat, by omega⟩
    obtain ⟨a0, rfl⟩ : ∃ q : Nat, u = q := ⟨u.toNat, by omega⟩
    obtain ⟨gl, rfl⟩ : ∃ q : Nat, v = q := ⟨v.toNat, by omega⟩
    rw [Int.toNat_natCast] at hx
    have HV := Lib.hid hv
    have ha : a0 < s := by omega
    have hg : gl < s := by omega
    obtain ⟨-, v1, v2, -⟩ := validN_true hv
    rw [← HL.out] at v2
    have hs10 : s ≤ 10 := by omega
    have HR := Lib.hid (wayD_len l gl a0 (dist_le hv hg a0))
    obtain ⟨rx, HQ⟩ : ∃ r, Hid (wayD l (distN s l gl (-1)) gl a0 = r) := ⟨_, rfl⟩
    have HX0 := Lib.hid hx
    obtain ⟨m0, m1, -⟩ := N1.out.c2
    clear hk hk0 hv hx u0 u1 z0 z1 v1
    go_wp2_with fail
    refine (distances_any s A n c l gl (-1) _ (H.out.bel D1) HL.out HV.out (by omega) (by omega)).mono ?_
    simp only [Int.toNat_natCast]
    rintro e w2 ⟨g, rfl, hgg, HB, hb2⟩
    have x0 : w2.cell? ⟨g, a0, none⟩ = some (.int .i64 x) := by rw [HB.out.cell, ints_get (by rw [distN_len, Int.toNat_natCast]; omega), HX0.out]
    have D2 := bel_next D1 hb2
    have N2 := Lib.hid (bel_blk N1.out hb2)
    obtain ⟨n0, n1, -⟩ := N2.out.c2
    have gB := HB.out.lt
    clear hb2 m0 m1 hgg
    rcases Int.lt_or_le x 0 with hx0 | hx0
    · have E : Hid (shWayR s l a0 gl = ([], 3)) := by
        have h1 : shortLen s l a0 gl = (0, 3) := by rw [E0.out, if_pos hx0]
        show _ = _; unfold shWayR; rw [h1]; rfl
      go_wp2_with fail
      refine bodyPost_ret (v := .tuple #[.slice none 0 0, .int .i64 3]) (by simp [results, Try.results43, go_sem]) rfl ?_
      rw [E.out]
      exact ⟨none, 0, rfl, own_none _ _ _, D2⟩
    have E : Hid (shWayR s l a0 gl = (rx, 0)) := by
      have h1 : shortLen s l a0 gl = (x, 0) := by rw [E0.out, if_neg (by omega)]
      show _ = _; unfold shWayR; rw [h1]
      simp only [if_true, Int.toNat_natCast]
      rw [HQ.out]
    obtain ⟨D, hD⟩ : ∃ D, distN s l gl (-1) = D := ⟨_, rfl⟩
    have HD := Lib.hid hD
    rw [hD] at HB HX0
    have hlen : D.length = s := by rw [← hD, distN_len, Int.toNat_natCast]
    have HLN := Lib.hid hlen
    have HX : Hid (wayD l D gl a0 = rx) := by show _ = _; rw [← HD.out]; exact HQ.out
    rw [HQ.out] at HR
    have h0 : 0 ≤ at_ D a0 := by rw [HX0.out]; exact hx0
    have hxn : ¬ x < 0 := by omega
    have HT := Lib.hid (H.out.bel D2)
    have HD2 := Lib.hid D2
    have sw := D2.size
    clear hD hlen D2 HX0
    go_wp2_with fail
    clear hxn x0
    go_loopw [1, 10] (fun u v w' => ∃ (a : Nat) (xs : List Int), u = .int .i64 a ∧ a < s ∧ 0 ≤ at_ D a ∧ w'.ownsRow w2.heap.size 2 1 v xs.length (xs.map (Value.int .i64)) ∧ Hid (xs ++ wayD l D gl a = rx) ∧ Below w2.heap.size w2 w') (fun u _ _ => (at_ D (intOf u).toNat).toNat)
    case atStart => exact ⟨a0, [], rfl, ha, h0, own_nil _ _ _ rfl (Nat.le_refl _), HX, by go_grown⟩
    case round =>
      clear HX ha h0
      obtain ⟨a, xs, rfl, has, hz0, hown, HX, hbel⟩ := hrel
      have HO := Lib.hid hown
      clear hown n0 n1
      obtain ⟨A2, c2, rfl⟩ := own_form HO.out
      by_cases hag : a = gl
      · have HXR : Hid (rx = xs) := by show _ = _; rw [← HX.out, hag, wayD_goal, List.append_nil]
        obtain rfl := hag
        go_wp2_with fail
        refine bodyPost_ret (v := .tuple #[.slice A2 xs.length c2, .int .i64 0]) (by simp [results, Try.results43, go_sem]) rfl ?_
        rw [E.out, HXR.out]
        exact ⟨A2, c2, rfl, own_base HO.out sw, bel_next HD2.out hbel⟩
      · have hgb : ((a : Int) == (gl : Int)) = false := by rw [beq_eq_false_iff_ne]; omega
        have hgn : ((a : Int) != (gl : Int)) = true := by rw [bne, hgb]; rfl
        obtain ⟨j, hj, hjl, hle⟩ := next_ex HV.out hg has (by rw [HD.out]; exact hz0) hag
        rw [HD.out] at hj hle
        have HX2 : Hid (xs ++ (j : Int) :: wayD l D gl l[j].2.1.toNat = rx) := by show _ = _; rw [← HX.out, wayD_step (good_l HV.out) hag hj hjl hle]
        have hxl : xs.length ≤ 480001 := by have h5 := congrArg List.length HX2.out; simp at h5; have := HR.out; omega
        obtain ⟨z, hz⟩ : ∃ z, at_ D a = z := ⟨_, rfl⟩
        have HZ := Lib.hid hz
        have HJ0 : stepG D l z (fromI a l 0) = some j := by rw [← hz, ← hj]; exact stepG_from D l a l 0 (fun i => by rw [Nat.zero_add])
        obtain ⟨R, hR⟩ : ∃ R, fromI (a : Int) l 0 = R := ⟨_, rfl⟩
        have HRM : Hid (∀ y ∈ R, ∃ q : Nat, y = q ∧ q < n) := by
          show ∀ y ∈ R, _
          intro y hy
          rw [← hR] at hy
          obtain ⟨q, h1, h2⟩ := fromI_mem l 0 y hy
          exact ⟨q, h1, by rw [HL.out]; omega⟩
        rw [hR] at HJ0
        have HRR := Lib.hid hR
        have HJ : Hid (stepG D l z (R.drop 0) = some j) := HJ0
        have hRn : R.length ≤ n := by have := fromI_le (a : Int) l 0; rw [hR, ← HL.out] at this; exact this
        have hzz : 0 ≤ z := by rw [← hz]; exact hz0
        have N3 := Lib.hid (bel_blk N2.out hbel)
        obtain ⟨n0, n1, -⟩ := N3.out.c2
        clear hj hle hz hz0 hR HJ0
        go_wp2_with fail
        refine (tubesFrom_any s A n c l a _ (HT.out.bel hbel) HL.out hn0).mono ?_
        rw [HRR.out]
        rintro e w3 ⟨A3, c3, rfl, hown3, hb3⟩
        have HR3 := Lib.hid (IntsAt.ofOwn hown3).1
        have D3 := bel_next hbel hb3
        have HD3 := Lib.hid D3
        have N4 := Lib.hid (bel_blk N3.out hb3)
        have HO3 := Lib.hid (own_belw HO.out hb3)
        clear hown3 hb3 n0 n1 D3 HO
        go_wp2_with fail
        go_loopw [1, 10, 38] (fun v9 v8 u w' => ∃ (i : Nat), v8 = .slice A2 xs.length c2 ∧ v9 = .int .i64 a ∧ u = .int .i64 i ∧ i ≤ R.length ∧ Hid (stepG D l z (R.drop i) = some j) ∧ Below w3.heap.size w3 w') (fun _ _ u _ => R.length - (intOf u).toNat)
        case atStart => exact ⟨0, rfl, rfl, rfl, by omega, HJ, Below.refl _ _⟩
        case round =>
          clear HJ
          obtain ⟨i, rfl, rfl, rfl, hin, HJ, hbel2⟩ := hrel
          have D3 := bel_next HD3.out hbel2
          have hil : i < R.length := by
            rcases Nat.lt_or_ge i R.length with h5 | h5
            · exact h5
            · have h6 := HJ.out
              rw [List.drop_of_length_le h5, stepG] at h6
              cases h6
          obtain ⟨q, hq, hqn⟩ := HRM.out R[i] (List.getElem_mem hil)
          obtain ⟨b3, o3, rfl, hb3lt, hc3⟩ := (HR3.out.bel hbel2) (by omega)
          have r0 := hc3 i hil
          rw [hq] at r0
          have N5 := Lib.hid (bel_blk N4.out hbel2)
          obtain ⟨n0, n1, -⟩ := N5.out.c2
          have hi' : q < l.length := by rw [← HL.out]; exact hqn
          have hgd := good_at HV.out hi'
          obtain ⟨p0, p1, p2, p3, p4, p5⟩ := hgd
          obtain ⟨b', o', rfl, hblt, hc⟩ := (HT.out.bel D3) (by omega)
          obtain ⟨t0, t1, t2⟩ := hc q hi'
          obtain ⟨f, hf⟩ : ∃ f : Nat, l[q].1 = f := ⟨l[q].1.toNat, by omega⟩
          obtain ⟨d, hd⟩ : ∃ d : Nat, l[q].2.1 = d := ⟨l[q].2.1.toNat, by omega⟩
          obtain ⟨x, hx⟩ : ∃ x : Int, l[q].2.2 = x := ⟨_, rfl⟩
          have hst := stepG_step (D := D) (z := z) hil hq hi'
          have hlead : okG D z l[q] ↔ (0 ≤ at_ D d ∧ x + at_ D d = z) := by
            unfold okG
            rw [hd, hx, Int.toNat_natCast]
          rw [hf] at t0 p0 p1
          rw [hd] at t1 p2 p3
          rw [hx] at t2 p4 p5
          simp only [Int.toNat_natCast] at p1 p3
          have hbb := hid_blk HB D3
          have cd : wr.cell? ⟨g, d, none⟩ = some (.int .i64 (at_ D d)) := by rw [hbb.out.cell]; exact ints_get (by rw [HLN.out]; omega)
          have ca : wr.cell? ⟨g, a, none⟩ = some (.int .i64 z) := by rw [hbb.out.cell, ← HZ.out]; exact ints_get (by rw [HLN.out]; omega)
          have hgw := hbb.out.lt
          have ly := dist_le HV.out hg d
          rw [HD.out] at ly
          obtain ⟨y, hy⟩ : ∃ y, at_ D d = y := ⟨_, rfl⟩
          rw [hy] at cd hlead ly
          have HY := Lib.hid hy
          have HDD := Lib.hid hd
          clear hc hc3 hf hd hx hbb hy
          by_cases hy0 : 0 ≤ y
          · have e1 : IntKind.i64.wrap (x + y) = x + y := IntWalk.i64_in _ (by omega)
            by_cases hyz : x + y = z
            · have hij : j = q := by
                have h6 := HJ.out
                rw [hst, if_pos (hlead.2 ⟨hy0, hyz⟩)] at h6
                exact (Option.some.inj h6).symm
              subst hij
              have HX3 : Hid ((xs ++ [(j : Int)]) ++ wayD l D gl d = rx) := by show _ = _; rw [← HX2.out, HDD.out, Int.toNat_natCast, List.append_assoc]; rfl
              have HOr := Lib.hid (own_belw HO3.out hbel2)
              have hyb : (x + y == z) = true := by rw [hyz]; exact beq_self_eq_true z
              have HYZ := Lib.hid hyz
              clear hst hlead HJ hyz
              go_wp2_with fail
              go_quiet (fail)
              have hb6 : Below w2.heap.size w2 ((wr.alloc (.cells #[.int .i64 (f : Int), .int .i64 (d : Int), .int .i64 x] 38)).drewN nq) := below_drewN (D3.alloc D3.size _) _
              have ho6 : ((wr.alloc (.cells #[.int .i64 (f : Int), .int .i64 (d : Int), .int .i64 x] 38)).drewN nq).ownsRow w2.heap.size 2 1 (.slice A2 xs.length c2) xs.length (xs.map (Value.int .i64)) := own_belw (HOr.out.alloc _) (below_drewN (Below.refl _ _) _)
              have kB6 : Blk ((wr.alloc (.cells #[.int .i64 (f : Int), .int .i64 (d : Int), .int .i64 x] 38)).drewN nq) wr.heap.size 38 #[.int .i64 (f : Int), .int .i64 (d : Int), .int .i64 x] := Blk.new wr _ _
              generalize ((wr.alloc (.cells #[.int .i64 (f : Int), .int .i64 (d : Int), .int .i64 x] 38)).drewN nq) = w6 at *
              obtain ⟨tb, htb⟩ : ∃ tb, wr.heap.size = tb := ⟨_, rfl⟩
              have hlt6 : ∀ k, Value.ownBlock (.slice A2 xs.length c2) = some k → k < tb := fun k hk => by rw [← htb]; exact (HOr.out.lt k hk).2
              rw [htb] at kB6 ⊢
              have HLT6 := Lib.hid hlt6
              have HO6 := Lib.hid ho6
              have HKB := Lib.hid kB6
              have s6 := hb6.size
              have kl6 := kB6.lt
              obtain ⟨-, ky, -⟩ := kB6.c3
              have HB6 := Lib.hid hb6
              clear ho6 kB6 htb n0 n1 t0 t1 t2 cd ca D3 hbel2 HOr HO3 hbel hblt hgw HX HX2 hlt6 r0 hb3lt N5 N4 HR3 hb6
              go_wp2_with fail
              go_region_law (refine step_append_own rfl (.tmp 68) (.tmp 70) 42 rfl w2.heap.size 2 i0 (.int .i64 0) 1 8 Try.underlying42 HI.out.1 HI.out.2.1 HI.out.2.2.1 HI.out.2.2.2 rfl (by decide) (.slice A2 xs.length c2) xs.length (xs.map (Value.int .i64)) (by simp [Act.eval]) (World.ownsRow.alloc (w := w6.drew) HO6.out _) ⟨w6.heap.size, 0, none⟩ 1 1 [.int .i64 (j : Int)] (by simp [Act.eval]) rfl (fun k u hu => by cases k with | zero => (simp at hu; subst hu; simp [Addr.add]) | succ k => simp at hu) (ints_oneCell .i64 [(j : Int)]) (by unfold maxLen; omega) (by omega) (by first | exact Nat.le_succ_of_le s6 | exact s6 | (simp; omega)) ?_; intro v4 w4 hown4 hgrow4; have HNG : Blk w4 tb 38 #[.int .i64 (f : Int), .int .i64 (d : Int), .int .i64 x] := (HKB.out.drew.alloc _).grown hgrow4 (by intro e; have := HLT6.out _ e.symm; omega); have hb4 : Below w2.heap.size w2 w4 := Below.grown (show Below w2.heap.size w2 _ from HB6.out.drew.alloc HB6.out.drew.size _) hgrow4 (by first | exact Nat.le_succ_of_le s6 | exact s6 | (simp; omega)) (fun k hk => (HO6.out.lt k hk).1); have hown5 : w4.ownsRow w2.heap.size 2 1 v4 (xs ++ [(j : Int)]).length ((xs ++ [(j : Int)]).map (Value.int .i64)) := (by simpa using hown4); have HO5 := Lib.hid hown5; obtain ⟨-, kz, -⟩ := HNG.c3; clear hown4 hown5 hgrow4 HNG)
              all_goals
                simp [Act.put]
                go_wp2_with fail
                go_roundw
                case rel => exact ⟨d, xs ++ [(j : Int)], rfl, by omega, by rw [HY.out]; exact hy0, HO5.out, HX3, hb4⟩
                case measure => have := HYZ.out; simp [intOf]; rw [HY.out, HZ.out]; omega
            · have HJ2 : Hid (stepG D l z (R.drop (i + 1)) = some j) := by show _ = _; rw [← HJ.out, hst, if_neg (fun h => hyz (hlead.1 h).2)]
              have hyb : (x + y == z) = false := by simpa using hyz
              clear hst hlead HJ
              go_wp2_with fail
              go_quiet (fail)
              go_wp2_with fail
              go_roundw
              case rel => exact ⟨i + 1, rfl, rfl, by go_num, by omega, HJ2, below_drewN (hbel2.alloc hbel2.size _) _⟩
              case measure => simp [intOf]; omega
          · have HJ2 : Hid (stepG D l z (R.drop (i + 1)) = some j) := by show _ = _; rw [← HJ.out, hst, if_neg (fun h => hy0 (hlead.1 h).1)]
            have hyd : decide (0 ≤ y) = false := decide_eq_false hy0
            have hye : (0 ≤ y) = False := eq_false hy0
            clear hst hlead HJ hy0
            go_wp2_with fail
            go_quiet (fail)
            go_wp2_with fail
            go_roundw
            case rel => exact ⟨i + 1, rfl, rfl, by go_num, by omega, HJ2, below_drewN (hbel2.alloc hbel2.size _) _⟩
            case measure => simp [intOf]; omega
  · have E : Hid (shWayR S l u v = ([], k)) := by
      have h1 : shortLen S l u v = (0, k) := by unfold shortLen; rw [if_neg (by rw [hk]; exact h0), hk]
      show _ = _; unfold shWayR; rw [h1, if_neg (by exact h0)]
    rw [hk]
    obtain ⟨m0, m1, -⟩ := N1.out.c2
    clear hk
    go_wp2_with fail
    refine bodyPost_ret (v := .tuple #[.slice none 0 0, .int .i64 k]) (by simp [results, Try.results43, go_sem]) rfl ?_
    rw [E.out]
    exact ⟨none, 0, rfl, own_none _ _ _, D1⟩

end Go.Proofs.Ytliamhhmjnhgcaa
