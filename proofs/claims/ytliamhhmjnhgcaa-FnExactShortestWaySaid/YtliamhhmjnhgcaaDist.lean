/-
  CONTRACTS: the least lengths of ways to a station, the specification's and the program's.
-/
import Derived.Test.YtliamhhmjnhgcaaDistP
import Derived.Test.YtliamhhmjnhgcaaRepeat
import Derived.Test.YtliamhhmjnhgcaaAid
namespace Go.Proofs.Ytliamhhmjnhgcaa
open Go.RowKit

theorem ints_set (l : List Int) (i : Nat) (x : Int) : (ints l).setIfInBounds i (.int .i64 x) = ints (l.set i x) := by simp [ints, List.map_set]
theorem ints_get {l : List Int} {i : Nat} (h : i < l.length) : (ints l)[i]? = some (.int .i64 (at_ l i)) := by simp [ints, at_, h]
theorem passI_step {wo : Int} {l : List Tb} {i : Nat} (h : i < l.length) (o : List Int) : passI wo (l.drop i) i o = passI wo (l.drop (i + 1)) (i + 1 : Nat) (if (i : Int) = wo then o else relax o l[i]) := by
  rw [drop_at' h, passI]
  rfl
theorem relax_no {o : List Int} {t : Tb} {d : Nat} (hd : t.2.1 = d) (h : at_ o d < 0) : relax o t = o := by simp [relax, hd, h]
theorem relax_keep {o : List Int} {t : Tb} {f d : Nat} (hf : t.1 = f) (hd : t.2.1 = d) (h1 : 0 ≤ at_ o f) (h2 : at_ o f ≤ at_ o d + t.2.2) : relax o t = o := by
  unfold relax
  rw [hf, hd]
  simp only [Int.toNat_natCast]
  split
  · rfl
  · rw [if_neg (by omega)]
theorem relax_yes {o : List Int} {t : Tb} {f d : Nat} (hf : t.1 = f) (hd : t.2.1 = d) (h0 : 0 ≤ at_ o d) (h : at_ o f < 0 ∨ at_ o d + t.2.2 < at_ o f) : relax o t = o.set f (at_ o d + t.2.2) := by
  unfold relax
  rw [hf, hd]
  simp only [Int.toNat_natCast]
  rw [if_neg (by omega), if_pos h]
theorem start_le (S g : Nat) (h : g < S) (v : Nat) : at_ (start S g) v ≤ 0 := by
  rw [start_at S g v h]
  split <;> omega

/-- One tube more has been looked at. -/
structure Seen (wo : Int) (l : List Tb) (s n i : Nat) (o0 o : List Int) (B : Int) : Prop where
  len : o.length = s
  eq : passI wo (l.drop i) i o = passI wo l 0 o0
  le : ∀ v, at_ o v ≤ B + 2000 * (i : Int)
theorem Seen.skip {wo B : Int} {l : List Tb} {s n i : Nat} {o0 o : List Int} (h : Seen wo l s n i o0 o B) (hi : i < l.length) (hr : (i : Int) = wo ∨ relax o l[i] = o) : Seen wo l s n (i + 1) o0 o B := by
  refine ⟨h.len, ?_, fun v => by have := h.le v; omega⟩
  rw [← h.eq, passI_step hi]
  rcases hr with hr | hr
  · rw [if_pos hr]
  · rw [hr]; simp
theorem Seen.take {wo B : Int} {l : List Tb} {s n i : Nat} {o0 o : List Int} (h : Seen wo l s n i o0 o B) (hi : i < l.length) (hw : (i : Int) ≠ wo) {f : Nat} {x : Int} (hr : relax o l[i] = o.set f x) (hx : x ≤ B + 2000 * (i : Int) + 2000) : Seen wo l s n (i + 1) o0 (o.set f x) B := by
  refine ⟨by rw [List.length_set, h.len], ?_, fun v => ?_⟩
  · rw [← h.eq, passI_step hi, if_neg hw, hr]
  · have := h.le v
    rw [at_set]
    split <;> omega

set_option maxHeartbeats 8000000 in
theorem distances_any (S : Int) (A : Option Addr) (n c : Nat) (l : List Tb) (gl wo : Int) (w : World) (h : TubesAt w A l) (hl : n = l.length) (hv : validN S l = true) (hg0 : 0 ≤ gl) (hg1 : gl < S) :
    Calls Try.prog 67 #[.agg #[.int .i64 S, .slice A n c], .int .i64 gl, .int .i64 wo] w (Made1 w 2 (distN S l gl wo) S.toNat) := by
  obtain ⟨v0, v1, v2, -⟩ := validN_true hv
  obtain ⟨s, rfl⟩ : ∃ s : Nat, S = s := ⟨S.toNat, by omega⟩
  obtain ⟨q, rfl⟩ : ∃ q : Nat, gl = q := ⟨gl.toNat, by omega⟩
  have hq : q < s := by omega
  have hs2 : 2 ≤ s := by omega
  have hs10 : s ≤ 10 := by omega
  have hn24 : n ≤ 24 := by rw [hl]; exact v2
  have HL := Lib.hid hl
  have H := Lib.hid h
  have HV := Lib.hid hv
  obtain ⟨E, hE⟩ : ∃ E, E = eff wo l 0 := ⟨_, rfl⟩
  have HE := Lib.hid hE
  have HGE : Hid (Good s E) := by show Good s E; rw [hE]; exact good_eff hv wo 0
  have HR : Hid (distN s l q wo = itP E (start s q) s) := by show _ = _; rw [hE]; rfl
  clear h hl hv hE v0 v1 v2 hg0 hg1
  show Calls Try.prog 67 _ w (Made1 w 2 (distN s l q wo) s)
  go_enter Try.func67, Try.ntmps67
  go_wp2_with fail
  refine (Repeat_one _ 1 (-1) s _ (IntsAt.new _ _ [-1] (by simp)) hs2 hs10).mono ?_
  rintro e w1 ⟨g, rfl, hg, HB, hb⟩
  have hgw : w.heap.size + 2 ≤ g := by simpa using hg
  have N1 : Hid (Blk w1 w.heap.size 29 #[.int .i64 s, .slice A n c]) := bel_blk ((Blk.new _ _ _).alloc _) hb
  have D1 : Below w.heap.size w w1 := Below.trans (by go_grown) (hb.mono (by simp only [World.size_alloc]; omega))
  have x0 : w1.cell? ⟨g, q, none⟩ = some (.int .i64 (-1)) := by rw [HB.out.cell]; simp [ints, hq]
  have f0 := HB.out.frozen q
  obtain ⟨a0, a1, -⟩ := N1.out.c2
  have hne : g ≠ w.heap.size := by omega
  clear hb hg
  go_wp2_with fail
  have HB2 : Hid (Blk (w1.setCell ⟨g, q, none⟩ (.int .i64 0)) g 2 (ints (itP E (start s q) 0))) := by
    have h2 := HB.out.set_ q (.int .i64 0)
    rw [ints_set] at h2
    exact h2
  go_loopw [20] (fun u w' => ∃ (j : Nat), u = .int .i64 j ∧ j ≤ s ∧ Hid (Blk w' g 2 (ints (itP E (start s q) j))) ∧ Hid (∀ v, at_ (itP E (start s q) j) v ≤ 48000 * (j : Int)) ∧ Hid (Blk w' w.heap.size 29 #[.int .i64 s, .slice A n c]) ∧ Below w.heap.size w w') (fun u _ => s - (intOf u).toNat)
  case atStart => exact ⟨0, rfl, by omega, HB2, fun v => by have := start_le s q hq v; simpa [itP] using this, N1.out.far (by simp; omega) _, D1.setCell (by simp; omega) _⟩
  case round =>
    obtain ⟨j, rfl, hjs, HB, HLE, N1, hbel⟩ := hrel
    clear HB2 x0 f0 a0 a1 D1
    by_cases hlt : j < s
    · obtain ⟨a0, a1, -⟩ := N1.out.c2
      obtain ⟨o0, ho0⟩ : ∃ o0, o0 = itP E (start s q) j := ⟨_, rfl⟩
      have hl0 : o0.length = s := by rw [ho0]; exact A_len j
      have HO0 := Lib.hid ho0
      rw [← ho0] at HB HLE
      have HS0 : Hid (Seen wo l s n 0 o0 o0 (48000 * (j : Int))) := ⟨hl0, rfl, fun v => by have := HLE.out v; omega⟩
      clear ho0 HLE
      obtain ⟨wp, rfl⟩ : ∃ wp : World, wp = wr := ⟨_, rfl⟩
      go_wp2_with fail
      go_loopw [25] (fun u w' => ∃ (i : Nat) (o : List Int), u = .int .i64 i ∧ i ≤ n ∧ Hid (Blk w' g 2 (ints o)) ∧ Hid (Seen wo l s n i o0 o (48000 * (j : Int))) ∧ Hid (Blk w' w.heap.size 29 #[.int .i64 s, .slice A n c]) ∧ Below w.heap.size w w') (fun u _ => n - (intOf u).toNat)
      case atStart => exact ⟨0, o0, rfl, by omega, HB, HS0, N1, hbel⟩
      case round =>
        clear HB N1 a0 a1 hbel
        obtain ⟨i, o, rfl, hin, HB, HS, N1, hbel⟩ := hrel
        by_cases hil : i < n
        · have hi' : i < l.length := by rw [← HL.out]; exact hil
          have hgd := good_at HV.out hi'
          obtain ⟨y0, y1, y2, y3, y4, y5⟩ := hgd
          obtain ⟨b', o', rfl, hblt, hc⟩ := (H.out.bel hbel) (by omega)
          obtain ⟨t0, t1, t2⟩ := hc i hi'
          obtain ⟨f, hf⟩ : ∃ f : Nat, l[i].1 = f := ⟨l[i].1.toNat, by omega⟩
          obtain ⟨d, hd⟩ : ∃ d : Nat, l[i].2.1 = d := ⟨l[i].2.1.toNat, by omega⟩
          obtain ⟨x, hx⟩ : ∃ x : Int, l[i].2.2 = x := ⟨_, rfl⟩
          have hlen := HS.out.len
          rw [hf] at t0 y0 y1
          rw [hd] at t1 y2 y3
          rw [hx] at t2 y4 y5
          simp only [Int.toNat_natCast] at y1 y3
          have cd : wr.cell? ⟨g, d, none⟩ = some (.int .i64 (at_ o d)) := by rw [HB.out.cell]; exact ints_get (by omega)
          have cf : wr.cell? ⟨g, f, none⟩ = some (.int .i64 (at_ o f)) := by rw [HB.out.cell]; exact ints_get (by omega)
          have ff := HB.out.frozen f
          have ly := HS.out.le d
          obtain ⟨a0, a1, -⟩ := N1.out.c2
          have gls := HB.out.lt
          have HNO := fun h => relax_no (o := o) (t := l[i]'hi') hd h
          have HKE := fun h1 h2 => relax_keep (o := o) (t := l[i]'hi') hf hd h1 h2
          have HYE := fun h1 h2 => relax_yes (o := o) (t := l[i]'hi') hf hd h1 h2
          rw [hx] at HKE HYE
          have HNO := Lib.hid HNO
          have HKE := Lib.hid HKE
          have HYE := Lib.hid HYE
          clear hc hf hd hx
          obtain ⟨y, hy⟩ : ∃ y, at_ o d = y := ⟨_, rfl⟩
          obtain ⟨z, hz⟩ : ∃ z, at_ o f = z := ⟨_, rfl⟩
          rw [hy] at cd ly HNO HKE HYE
          rw [hz] at cf HKE HYE
          clear hy hz
          by_cases hw : (i : Int) = wo
          · have HS2 : Hid (Seen wo l s n (i + 1) o0 o (48000 * (j : Int))) := HS.out.skip hi' (.inl hw)
            subst hw
            clear HS HNO HKE HYE
            go_wp2_with fail
            go_roundw
            case rel => exact ⟨i + 1, o, by go_num, by omega, HB.out.alloc _, HS2, N1.out.alloc _, by go_grown⟩
            case measure => simp [intOf]; omega
          · by_cases hy0 : y < 0
            · have HS2 : Hid (Seen wo l s n (i + 1) o0 o (48000 * (j : Int))) := HS.out.skip hi' (.inr (HNO.out hy0))
              clear HS HNO HKE HYE
              go_wp2_with fail
              go_roundw
              case rel => exact ⟨i + 1, o, by go_num, by omega, HB.out.alloc _, HS2, N1.out.alloc _, by go_grown⟩
              case measure => simp [intOf]; omega
            · have e1 : IntKind.i64.wrap (y + x) = y + x := IntWalk.i64_in _ (by omega)
              by_cases hz0 : z < 0 ∨ y + x < z
              · have HS2 : Hid (Seen wo l s n (i + 1) o0 (o.set f (y + x)) (48000 * (j : Int))) := HS.out.take hi' hw (HYE.out (by omega) hz0) (by omega)
                clear HS HNO HKE HYE
                rcases (show z < 0 ∨ (0 ≤ z ∧ y + x < z) by omega) with hz1 | ⟨hz1, hz2⟩
                all_goals
                  clear hz0
                  go_wp2_with fail
                  go_quiet (fail)
                  go_wp2_with fail
                  go_roundw
                  case rel =>
                    refine ⟨i + 1, o.set f (y + x), by go_num, by omega, ?_, HS2, ((N1.out.alloc _).drewN _).far (by simp; omega) _, (below_drewN (hbel.alloc hbel.size _) _).setCell (by simp; omega) _⟩
                    have h3 := ((HB.out.alloc (.cells #[.int .i64 (f : Int), .int .i64 (d : Int), .int .i64 x] 38)).drewN 0).set_ f (.int .i64 (y + x))
                    rw [ints_set] at h3
                    exact h3
                  case measure => simp [intOf]; omega
              · have HS2 : Hid (Seen wo l s n (i + 1) o0 o (48000 * (j : Int))) := HS.out.skip hi' (.inr (HKE.out (by omega) (by omega)))
                clear HS HNO HKE HYE
                go_wp2_with fail
                go_quiet (fail)
                go_wp2_with fail
                go_roundw
                case rel => exact ⟨i + 1, o, by go_num, by omega, (HB.out.alloc _).drewN _, HS2, (N1.out.alloc _).drewN _, below_drewN (hbel.alloc hbel.size _) _⟩
                case measure => simp [intOf]; omega
        · have hie : i = n := by omega
          have HFI : Hid (o = itP E (start s q) (j + 1)) := by
            have h1 := HS.out.eq
            rw [List.drop_of_length_le (by rw [← HL.out]; omega)] at h1
            show o = _
            rw [itP, ← HO0.out, HE.out, ← passI_eff, ← h1]
            rfl
          have HLE2 : Hid (∀ v, at_ o v ≤ 48000 * ((j + 1 : Nat) : Int)) := by
            show ∀ v, _
            intro v
            have := HS.out.le v
            omega
          rw [HFI.out] at HB HLE2
          obtain ⟨a0, a1, -⟩ := N1.out.c2
          clear HFI HS
          go_wp2_with fail
          go_roundw
          case rel => exact ⟨j + 1, by go_num, by omega, HB, HLE2, N1, hbel⟩
          case measure => simp [intOf]; omega
    · have hje : j = s := by omega
      subst hje
      go_wp2_with fail
      go_ret
      refine ⟨g, rfl, by omega, ?_, hbel⟩
      rw [HR.out]
      exact HB


end Go.Proofs.Ytliamhhmjnhgcaa
