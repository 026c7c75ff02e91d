/-
  CONTRACT: the first shortest way, the specification's (printed by tools/gen_shway.py).
-/
import Derived.Test.YtliamhhmjnhgcaaShWayP
namespace Go.Proofs.Ytliamhhmjnhgcaa
open Go.RowKit

theorem info_int64Z : (Try.prog.info? 2).map (fun i => (i.zero, i.size, i.bytes)) = some (some (.int .i64 0), 1, 8) := by kernel_rfl
theorem own_belw {w w' : World} {base n size : Nat} {t : TypeId} {v : Value} {xs : List Value} (h : w.ownsRow base t size v n xs) (hb : Below w.heap.size w w') : w'.ownsRow base t size v n xs := by
  refine ⟨h.1, ?_⟩
  rcases h.2 with hn | ⟨g, cap, cur, hv, hg, hB, rest⟩
  · exact .inl hn
  · exact .inr ⟨g, cap, cur, hv, hg, bel_blk (t := t) hB hb, rest⟩
theorem wayD_len (l : List Tb) {D : List Int} (gl a : Nat) (h : at_ D a ≤ 480000) : (wayD l D gl a).length ≤ 480001 := by
  have := wayF_len l D gl (fuelD D a) a
  unfold wayD
  have : fuelD D a ≤ 480001 := by unfold fuelD; omega
  omega
def shWayR (S : Int) (l : List Tb) (u v : Int) : List Int × Int := if (shortLen S l u v).2 = 0 then (wayD l (distN S l v (-1)) v.toNat u.toNat, 0) else ([], (shortLen S l u v).2)
theorem shortLen_zero {S u v : Int} {l : List Tb} (h : (shortLen S l u v).2 = 0) : codeN S l [u, v] = 0 ∧ 0 ≤ at_ (distN S l v (-1)) u.toNat := by
  unfold shortLen at h
  split at h
  · split at h
    · simp at h
    · exact ⟨by assumption, by omega⟩
  · simp only at h; omega
theorem shWayR_len {S u v : Int} {l : List Tb} : (shWayR S l u v).1.length ≤ 1048576 := by
  unfold shWayR
  split
  · rename_i h
    obtain ⟨h1, h2⟩ := shortLen_zero h
    obtain ⟨u0, u1, z0, z1⟩ := codeN_in h1
    have hv := (codeN_zero h1).1
    obtain ⟨s, rfl⟩ : ∃ s : Nat, S = s := ⟨S.toNat, by omega⟩
    obtain ⟨g, rfl⟩ : ∃ q : Nat, v = q := ⟨v.toNat, by omega⟩
    have h3 := dist_le hv (show g < s by omega) u.toNat
    have h4 := wayD_len l g u.toNat h3
    show (wayD l (distN s l g (-1)) ((g : Int)).toNat u.toNat).length ≤ _
    rw [Int.toNat_natCast]
    omega
  · simp

set_option maxHeartbeats 8000000 in
theorem l02Way_any (b : Nat) (s : Nat) (A : Option Addr) (n c : Nat) (l : List Tb) (a0 gl : Nat) (w : World) (h : NetAt w b s A n c l) (hl : n = l.length) (hv : validN (s : Int) l = true) (ha : a0 < s) (hg : gl < s) (h0 : 0 ≤ at_ (distN s l gl (-1)) a0) :
    Calls Try.prog 70 #[.pointer (some ⟨b, 0, none⟩), .int .i64 a0, .int .i64 gl] w (MadeI w 2 (wayD l (distN s l gl (-1)) gl a0)) := by
  obtain ⟨i0, hi, hz0, hz1, hz2⟩ := info_parts info_int64Z
  have HI := Lib.hid (And.intro hi (And.intro hz0 (And.intro hz1 hz2)))
  have HL := Lib.hid hl
  have HN := Lib.hid h
  have HV := Lib.hid hv
  have HR := Lib.hid (wayD_len l gl a0 (dist_le hv hg a0))
  obtain ⟨rx, HQ⟩ : ∃ r, Hid (wayD l (distN s l gl (-1)) gl a0 = r) := ⟨_, rfl⟩
  obtain ⟨-, v1, v2, -⟩ := validN_true hv
  rw [← hl] at v2
  have hs10 : s ≤ 10 := by omega
  clear h hl hv hi hz0 hz1 hz2 v1
  go_enter Try.func70, Try.ntmps70
  go_wp2_with fail
  refine (l02Far_any b s A n c l gl (-1) _ HN.out HL.out HV.out (by omega) (by omega)).mono ?_
  simp only [Int.toNat_natCast]
  rintro e w1 ⟨g, rfl, hgg, HB, hb1⟩
  obtain ⟨D, hD⟩ : ∃ D, distN s l gl (-1) = D := ⟨_, rfl⟩
  have HD := Lib.hid hD
  rw [hD] at HB h0 HR ⊢
  have hlen : D.length = s := by rw [← hD, distN_len, Int.toNat_natCast]
  have HLN := Lib.hid hlen
  obtain ⟨c0, c1, hts⟩ := HN.out.bel hb1
  have HT := Lib.hid hts
  have gB := HB.out.lt
  have sw := hb1.size
  have HB1 := Lib.hid hb1
  have HX : Hid (wayD l D gl a0 = rx) := by show _ = _; rw [← HD.out]; exact HQ.out
  rw [HX.out] at HR
  clear hD hlen hts hb1 hgg
  go_wp2_with fail
  go_loopw [8, 9] (fun v u w' => ∃ (a : Nat) (xs : List Int), u = .int .i64 a ∧ a < s ∧ 0 ≤ at_ D a ∧ w'.ownsRow w1.heap.size 2 1 v xs.length (xs.map (Value.int .i64)) ∧ Hid (xs ++ wayD l D gl a = rx) ∧ Below w1.heap.size w1 w') (fun _ u _ => (at_ D (intOf u).toNat).toNat)
  case atStart => exact ⟨a0, [], rfl, ha, h0, own_nil _ _ _ rfl (Nat.le_refl _), HX, by go_grown⟩
  case round =>
    clear HX ha h0
    obtain ⟨a, xs, rfl, has, hz0, hown, HX, hbel⟩ := hrel
    have HO := Lib.hid hown
    clear hown
    by_cases hag : a = gl
    · have HXR : Hid (rx = xs) := by show _ = _; rw [← HX.out, hag, wayD_goal, List.append_nil]
      obtain rfl := hag
      obtain ⟨A2, c2, rfl⟩ := own_form HO.out
      go_wp2_with fail
      go_ret
      rw [HQ.out, HXR.out]
      exact ⟨A2, c2, rfl, own_base HO.out sw, bel_next HB1.out hbel⟩
    · have hgb : ((a : Int) == (gl : Int)) = false := by rw [beq_eq_false_iff_ne]; omega
      have hgn : ((a : Int) != (gl : Int)) = true := by rw [bne, hgb]; rfl
      obtain ⟨j, hj, hjl, hle⟩ := next_ex HV.out hg has (by rw [HD.out]; exact hz0) hag
      rw [HD.out] at hj hle
      have HX2 : Hid (xs ++ (j : Int) :: wayD l D gl l[j].2.1.toNat = rx) := by show _ = _; rw [← HX.out, wayD_step (good_l HV.out) hag hj hjl hle]
      have hxl : xs.length ≤ 480001 := by have h5 := congrArg List.length HX2.out; simp at h5; have := HR.out; omega
      have HJ : Hid (stepF D a (l.drop 0) 0 = some j) := hj
      obtain ⟨z, hz⟩ : ∃ z, at_ D a = z := ⟨_, rfl⟩
      have HZ := Lib.hid hz
      rw [hz] at hz0
      clear hj hle hz
      obtain ⟨wp, rfl⟩ : ∃ wp : World, wp = wr := ⟨_, rfl⟩
      obtain ⟨A2, c2, rfl⟩ := own_form HO.out
      go_wp2_with fail
      go_loopw [8, 9, 10] (fun v8 v9 u w' => ∃ (i : Nat), v8 = .slice A2 xs.length c2 ∧ v9 = .int .i64 a ∧ u = .int .i64 i ∧ i ≤ n ∧ Hid (stepF D a (l.drop i) i = some j) ∧ Below wp.heap.size wp w') (fun _ _ u _ => n - (intOf u).toNat)
      case atStart => exact ⟨0, rfl, rfl, rfl, by omega, HJ, Below.refl _ _⟩
      case round =>
        clear HJ
        obtain ⟨i, rfl, rfl, rfl, hin, HJ, hbel2⟩ := hrel
        have D3 := bel_next hbel hbel2
        have b0 := bel_cell D3 c0
        have b1 := bel_cell D3 c1
        have hil : i < n := by
          rcases Nat.lt_or_ge i n with h5 | h5
          · exact h5
          · have h6 := HJ.out
            rw [List.drop_of_length_le (by rw [← HL.out]; exact h5), stepF] at h6
            cases h6
        have hi' : i < l.length := by rw [← HL.out]; exact hil
        have hgd := good_at HV.out hi'
        obtain ⟨p0, p1, p2, p3, p4, p5⟩ := hgd
        obtain ⟨b', o', rfl, hblt, hc⟩ := (HT.out.bel D3) (by omega)
        obtain ⟨t0, t1, t2⟩ := hc i hi'
        obtain ⟨f, hf⟩ : ∃ f : Nat, l[i].1 = f := ⟨l[i].1.toNat, by omega⟩
        obtain ⟨d, hd⟩ : ∃ d : Nat, l[i].2.1 = d := ⟨l[i].2.1.toNat, by omega⟩
        obtain ⟨x, hx⟩ : ∃ x : Int, l[i].2.2 = x := ⟨_, rfl⟩
        have hst := stepF_step (D := D) (a := a) hi'
        have hlead : leads D a l[i] ↔ ((f : Int) = (a : Int) ∧ 0 ≤ at_ D d ∧ at_ D d + x = z) := by
          unfold leads
          rw [hf, hd, hx, HZ.out, Int.toNat_natCast]
        rw [hf] at t0 p0 p1
        rw [hd] at t1 p2 p3
        rw [hx] at t2 p4 p5
        simp only [Int.toNat_natCast] at p1 p3
        have hbb := hid_blk HB D3
        have cd : wr.cell? ⟨g, d, none⟩ = some (.int .i64 (at_ D d)) := by rw [hbb.out.cell]; exact ints_get (by rw [HLN.out]; omega)
        have ca : wr.cell? ⟨g, a, none⟩ = some (.int .i64 z) := by rw [hbb.out.cell, ← HZ.out]; exact ints_get (by rw [HLN.out]; omega)
        have hgw := hbb.out.lt
        have ly := dist_le HV.out hg d
        rw [HD.out] at ly
        obtain ⟨y, hy⟩ : ∃ y, at_ D d = y := ⟨_, rfl⟩
        rw [hy] at cd hlead ly
        have HY := Lib.hid hy
        have HDD := Lib.hid hd
        have HXX := Lib.hid hx
        clear hc hf hd hx hbb hy
        by_cases hfa : f = a
        · subst hfa
          by_cases hy0 : 0 ≤ y
          · have e1 : IntKind.i64.wrap (y + x) = y + x := IntWalk.i64_in _ (by omega)
            by_cases hyz : y + x = z
            · have hij : j = i := by
                have h6 := HJ.out
                rw [hst, if_pos (hlead.2 ⟨rfl, hy0, hyz⟩)] at h6
                exact (Option.some.inj h6).symm
              subst hij
              have HX3 : Hid ((xs ++ [(j : Int)]) ++ wayD l D gl d = rx) := by show _ = _; rw [← HX2.out, HDD.out, Int.toNat_natCast, List.append_assoc]; rfl
              have HOr := Lib.hid (own_belw HO.out hbel2)
              have hyb : (y + x == z) = true := by rw [hyz]; exact beq_self_eq_true z
              have HYZ := Lib.hid hyz
              clear hst hlead HJ hyz
              go_wp2_with fail
              go_quiet (fail)
              have hb6 : Below w1.heap.size w1 ((wr.alloc (.cells #[.int .i64 (f : Int), .int .i64 (d : Int), .int .i64 x] 38)).drewN nq) := below_drewN (D3.alloc D3.size _) _
              have ho6 : ((wr.alloc (.cells #[.int .i64 (f : Int), .int .i64 (d : Int), .int .i64 x] 38)).drewN nq).ownsRow w1.heap.size 2 1 _ xs.length (xs.map (Value.int .i64)) := own_belw (HOr.out.alloc _) (below_drewN (Below.refl _ _) _)
              have kB6 : Blk ((wr.alloc (.cells #[.int .i64 (f : Int), .int .i64 (d : Int), .int .i64 x] 38)).drewN nq) wr.heap.size 38 #[.int .i64 (f : Int), .int .i64 (d : Int), .int .i64 x] := Blk.new wr _ _
              generalize ((wr.alloc (.cells #[.int .i64 (f : Int), .int .i64 (d : Int), .int .i64 x] 38)).drewN nq) = w6 at *
              obtain ⟨tb, htb⟩ : ∃ tb, wr.heap.size = tb := ⟨_, rfl⟩
              have hlt6 : ∀ k, Value.ownBlock _ = some k → k < tb := fun k hk => by rw [← htb]; exact (HOr.out.lt k hk).2
              rw [htb] at kB6 ⊢
              have HO6 := Lib.hid ho6
              have HKB := Lib.hid kB6
              have s6 := hb6.size
              have kl6 := kB6.lt
              clear ho6 kB6 htb b0 b1 t0 t1 t2 cd ca D3 hbel2 HOr HO hbel hblt hgw HX HX2
              go_wp2_with (at_builtin; refine wpList_append_own _ rfl _ _ 42 rfl w1.heap.size 2 i0 (.int .i64 0) 1 8 Try.underlying42 HI.out.1 HI.out.2.1 HI.out.2.2.1 HI.out.2.2.2 rfl (by decide) _ _ _ rfl (HO6.out.alloc _) ⟨w6.heap.size, 0, none⟩ 1 1 [.int .i64 (j : Int)] rfl rfl ?c1 ?c2 ?c3 ?c4 ?c5 ?_)
              try
                case c1 =>
                  intro j u hu
                  cases j with
                  | zero => simp at hu; subst hu; simp [Addr.add]
                  | succ j => simp at hu
              try case c2 => first | exact ints_oneCell .i64 [(j : Int)] | rfl
              try case c3 => unfold maxLen; omega
              try case c4 => omega
              try case c5 => first | (simp; omega) | omega
              intro v' w4 hown1 hgrow _
              have hown2 : w4.ownsRow w1.heap.size 2 1 v' (xs ++ [(j : Int)]).length ((xs ++ [(j : Int)]).map (Value.int .i64)) := by simpa using hown1
              have HO4 := Lib.hid hown2
              have hb4 : Below w1.heap.size w1 w4 := Below.grown (show Below w1.heap.size w1 _ from hb6.alloc hb6.size _) hgrow (by simp; omega) (fun k hk => by have := (HO6.out.lt k hk).1; omega)
              have HNG := (HKB.out.alloc _).grown hgrow (by intro e; have := hlt6 _ e.symm; omega)
              clear hown1 hown2 hgrow
              obtain ⟨-, kz, -⟩ := HNG.c3
              go_wp2_with fail
              go_roundw
              case rel => exact ⟨d, xs ++ [(j : Int)], rfl, by omega, by rw [HY.out]; exact hy0, HO4.out, HX3, hb4⟩
              case measure => have := HYZ.out; simp [intOf]; rw [HY.out, HZ.out]; omega
            · have HJ2 : Hid (stepF D f (l.drop (i + 1)) (i + 1) = some j) := by show _ = _; rw [← HJ.out, hst, if_neg (fun h => hyz (hlead.1 h).2.2)]
              have hyb : (y + x == z) = false := by simpa using hyz
              clear hst hlead HJ
              go_wp2_with fail
              go_quiet (fail)
              go_wp2_with fail
              go_roundw
              case rel => exact ⟨i + 1, rfl, rfl, by go_num, by omega, HJ2, below_drewN (hbel2.alloc hbel2.size _) _⟩
              case measure => simp [intOf]; omega
          · have HJ2 : Hid (stepF D f (l.drop (i + 1)) (i + 1) = some j) := by show _ = _; rw [← HJ.out, hst, if_neg (fun h => hy0 (hlead.1 h).2.1)]
            have hyd : decide (0 ≤ y) = false := decide_eq_false hy0
            have hye : (0 ≤ y) = False := eq_false hy0
            clear hst hlead HJ hy0
            go_wp2_with fail
            go_quiet (fail)
            go_wp2_with fail
            go_roundw
            case rel => exact ⟨i + 1, rfl, rfl, by go_num, by omega, HJ2, below_drewN (hbel2.alloc hbel2.size _) _⟩
            case measure => simp [intOf]; omega
        · have HJ2 : Hid (stepF D a (l.drop (i + 1)) (i + 1) = some j) := by show _ = _; rw [← HJ.out, hst, if_neg (fun h => hfa (by have := (hlead.1 h).1; omega))]
          have hfb : ((f : Int) == (a : Int)) = false := by rw [beq_eq_false_iff_ne]; omega
          clear hst hlead HJ
          go_wp2_with fail
          go_quiet (fail)
          go_wp2_with fail
          go_roundw
          case rel => exact ⟨i + 1, rfl, rfl, by go_num, by omega, HJ2, below_drewN (hbel2.alloc hbel2.size _) _⟩
          case measure => simp [intOf]; omega

set_option maxHeartbeats 4000000 in
theorem specShWay_any (S : Int) (A : Option Addr) (n c : Nat) (l : List Tb) (u v : Int) (w : World) (h : TubesAt w A l) (hl : n = l.length) (hn0 : n ≤ 1048576) :
    Calls Try.prog 42 #[.agg #[.int .i64 S, .slice A n c], .int .i64 u, .int .i64 v] w (MadeIC w 2 (shWayR S l u v).1 (shWayR S l u v).2) := by
  have HL := Lib.hid hl
  have H := Lib.hid h
  clear hl h
  go_enter Try.func42, Try.ntmps42
  go_wp2_with fail
  refine (specShort_any S A n c l u v _ (H.out.alloc _) HL.out hn0).mono ?_
  rintro e w1 ⟨rfl, hb1⟩
  have D1 : Below w.heap.size w w1 := Below.trans (by go_grown) (hb1.mono (by simp))
  have N1 : Hid (Blk w1 w.heap.size 29 #[.int .i64 S, .slice A n c]) := bel_blk (Blk.new _ _ _) hb1
  obtain ⟨a0, a1, -⟩ := N1.out.c2
  clear hb1
  obtain ⟨k, hk⟩ : ∃ k, (shortLen S l u v).2 = k := ⟨_, rfl⟩
  rw [hk]
  by_cases h0 : k = 0
  · subst h0
    obtain ⟨hc, hd⟩ := shortLen_zero hk
    obtain ⟨u0, u1, z0, z1⟩ := codeN_in hc
    have hv := (codeN_zero hc).1
    obtain ⟨s, rfl⟩ : ∃ s : Nat, S = s := ⟨S.toNat, by omega⟩
    obtain ⟨q, rfl⟩ : ∃ q : Nat, u = q := ⟨u.toNat, by omega⟩
    obtain ⟨g, rfl⟩ : ∃ q : Nat, v = q := ⟨v.toNat, by omega⟩
    rw [Int.toNat_natCast] at hd
    have E : Hid (shWayR s l q g = (wayD l (distN s l g (-1)) g q, 0)) := by show _ = _; unfold shWayR; rw [if_pos hk, Int.toNat_natCast, Int.toNat_natCast]
    have HV := Lib.hid hv
    have HD := Lib.hid hd
    clear hk hc hv hd u0 z0
    go_wp2_with fail
    refine (l02Way_any _ s A n c l q g _ ⟨a0, a1, H.out.bel D1⟩ HL.out HV.out (by omega) (by omega) HD.out).mono ?_
    rintro e w2 ⟨A2, c2, rfl, hown, hb2⟩
    have HO := Lib.hid hown
    clear hown
    go_wp2_with fail
    refine bodyPost_ret (v := .tuple #[.slice A2 (wayD l (distN s l g (-1)) g q).length c2, .int .i64 0]) (by simp [results, Try.results42, go_sem]) rfl ?_
    rw [E.out]
    exact ⟨A2, c2, rfl, own_base HO.out D1.size, bel_next D1 hb2⟩
  · have E : Hid (shWayR S l u v = ([], k)) := by show _ = _; unfold shWayR; rw [if_neg (by rw [hk]; exact h0), hk]
    clear hk
    go_wp2_with fail
    refine bodyPost_ret (v := .tuple #[.slice none 0 0, .int .i64 k]) (by simp [results, Try.results42, go_sem]) rfl ?_
    rw [E.out]
    exact ⟨none, 0, rfl, own_none _ _ _, D1⟩

end Go.Proofs.Ytliamhhmjnhgcaa
