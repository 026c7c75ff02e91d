/-
  CONTRACTS: strong networks, and the stations that can be reached.
-/
import Derived.Test.YtliamhhmjnhgcaaShort
namespace Go.Proofs.Ytliamhhmjnhgcaa
open Go.RowKit

/-- Every station reaches the goal. -/
def allFar (o : List Int) : Bool := o.all fun x => decide (0 ≤ x)
theorem allFar_step {o : List Int} {i : Nat} (h : i < o.length) : allFar (o.drop i) = (decide (0 ≤ at_ o i) && allFar (o.drop (i + 1))) := by
  unfold allFar
  rw [drop_at' h, List.all_cons]
  simp [at_, h]
theorem allFar_end {o : List Int} {i : Nat} (h : o.length ≤ i) : allFar (o.drop i) = true := by
  rw [List.drop_of_length_le h]; rfl
/-- A network is strong without a tube: all goals from j on. -/
def strongF (S : Int) (l : List Tb) (wo : Int) (j : Nat) : Bool := ((List.range S.toNat).drop j).all fun g => allFar (distN S l (g : Int) wo)
def strongN (S : Int) (l : List Tb) (wo : Int) : Bool := strongF S l wo 0
theorem strongF_step {s j : Nat} {l : List Tb} {wo : Int} (h : j < s) : strongF (s : Int) l wo j = (allFar (distN s l (j : Int) wo) && strongF (s : Int) l wo (j + 1)) := by
  unfold strongF
  rw [Int.toNat_natCast, drop_at' (show j < (List.range s).length by simpa using h), List.all_cons]
  simp
theorem strongF_end {s j : Nat} {l : List Tb} {wo : Int} (h : s ≤ j) : strongF (s : Int) l wo j = true := by
  unfold strongF
  rw [Int.toNat_natCast, List.drop_of_length_le (by simpa using h)]; rfl

set_option maxHeartbeats 4000000 in
theorem l02Strong_any (b : Nat) (S : Int) (A : Option Addr) (n c : Nat) (l : List Tb) (wo : Int) (w : World) (h : NetAt w b S A n c l) (hl : n = l.length) (hv : validN S l = true) :
    Calls Try.prog 68 #[.pointer (some ⟨b, 0, none⟩), .int .i64 wo] w (Ret w (.bool (strongN S l wo))) := by
  obtain ⟨v0, v1, v2, -⟩ := validN_true hv
  obtain ⟨s, rfl⟩ : ∃ s : Nat, S = s := ⟨S.toNat, by omega⟩
  have hs10 : s ≤ 10 := by omega
  have HL := Lib.hid hl
  have HV := Lib.hid hv
  have H := Lib.hid h
  obtain ⟨a0, a1, -⟩ := h
  clear hl hv v0 v1 v2
  go_enter Try.func68, Try.ntmps68
  go_wp2_with fail
  go_loopw [5] (fun u w' => ∃ (j : Nat), u = .int .i64 j ∧ j ≤ s ∧ Hid (strongN s l wo = strongF s l wo j) ∧ Below w.heap.size w w') (fun u _ => s - (intOf u).toNat)
  case atStart => exact ⟨0, rfl, by omega, rfl, Below.refl _ _⟩
  case round =>
    obtain ⟨j, rfl, hjs, HS, hbel⟩ := hrel
    have b0 := bel_cell hbel a0
    by_cases hlt : j < s
    · have hst := strongF_step (l := l) (wo := wo) hlt
      go_wp2_with fail
      refine (l02Far_any b s A n c l j wo _ (H.out.bel hbel) HL.out HV.out (by omega) (by omega)).mono ?_
      simp only [Int.toNat_natCast]
      rintro e w2 ⟨g, rfl, hg, HB, hb2⟩
      have hlen : (distN s l j wo).length = s := by rw [distN_len, Int.toNat_natCast]
      obtain ⟨o, ho⟩ : ∃ o, distN s l j wo = o := ⟨_, rfl⟩
      rw [ho] at HB hlen hst
      have HLN := Lib.hid hlen
      have HST := Lib.hid hst
      have D2 := bel_next hbel hb2
      clear hst ho hlen hb2 hbel b0
      obtain ⟨wp, rfl⟩ : ∃ wp : World, wp = w2 := ⟨_, rfl⟩
      go_wp2_with fail
      go_loopw [7] (fun u w' => ∃ (i : Nat), u = .int .i64 i ∧ i ≤ s ∧ Hid (allFar o = allFar (o.drop i)) ∧ Below wp.heap.size wp w') (fun u _ => s - (intOf u).toNat)
      case atStart => exact ⟨0, rfl, by omega, rfl, Below.refl _ _⟩
      case round =>
        obtain ⟨i, rfl, his, HF, hbel⟩ := hrel
        by_cases hil : i < s
        · have hi' : i < o.length := by rw [HLN.out]; exact hil
          have x0 : wr.cell? ⟨g, i, none⟩ = some (.int .i64 (at_ o i)) := by rw [(hid_blk HB hbel).out.cell]; exact ints_get hi'
          have hd := allFar_step hi'
          obtain ⟨x, hx⟩ : ∃ x, at_ o i = x := ⟨_, rfl⟩
          rw [hx] at x0 hd
          by_cases hx0 : 0 ≤ x
          · have HF2 : Hid (allFar o = allFar (o.drop (i + 1))) := by show _ = _; rw [HF.out, hd]; simp [hx0]
            clear hd hx HF
            go_wp2_with fail
            go_roundw
            case rel => exact ⟨i + 1, by go_num, by omega, HF2, hbel⟩
            case measure => simp [intOf]; omega
          · have E : Hid (strongN s l wo = false) := by show _ = _; rw [HS.out, HST.out, HF.out, hd]; simp [hx0]
            clear hd hx HF
            go_wp2_with fail
            go_ret
            rw [E.out]
            exact ⟨rfl, bel_next D2 hbel⟩
        · have HS2 : Hid (strongN s l wo = strongF s l wo (j + 1)) := by show _ = _; rw [HS.out, HST.out, HF.out, allFar_end (by rw [HLN.out]; omega)]; simp
          go_wp2_with fail
          go_roundw
          case rel => exact ⟨j + 1, by go_num, by omega, HS2, bel_next D2 hbel⟩
          case measure => simp [intOf]; omega
    · have E : Hid (strongN s l wo = true) := by show _ = _; rw [HS.out, strongF_end (by omega)]
      go_wp2_with fail
      go_ret
      rw [E.out]
      exact ⟨rfl, hbel⟩

/-- The first place of a number, or -1. -/
def FoundX (w : World) (b : Bool) (e : Ending) (w' : World) : Prop := ∃ r : Int, e = .returned (.int .i64 r) ∧ decide (0 ≤ r) = b ∧ w = w'
def hasX (l : List Int) (x : Int) : Bool := l.any fun y => x == y
theorem hasX_step {l : List Int} {i : Nat} {x : Int} (h : i < l.length) : hasX (l.drop i) x = ((x == l[i]) || hasX (l.drop (i + 1)) x) := by
  unfold hasX
  rw [drop_at' h, List.any_cons]

set_option maxHeartbeats 1000000 in
theorem Index_any (A : Option Addr) (n c : Nat) (l : List Int) (x : Int) (w : World) (h : IntsAt w A l) (hl : n = l.length) (hn0 : n ≤ 1048576) :
    Calls Try.prog 81 #[.slice A n c, .int .i64 x] w (FoundX w (hasX l x)) := by
  have H := Lib.hid h
  have HL := Lib.hid hl
  clear h hl
  go_enter Try.func81, Try.ntmps81
  go_wp2
  go_loop [8] (fun u => ∃ (i : Nat), u = .int .i64 i ∧ i ≤ n ∧ Hid (hasX l x = hasX (l.drop i) x)) (fun u => n - (intOf u).toNat)
  case atStart => exact ⟨0, rfl, by omega, rfl⟩
  case round =>
    obtain ⟨i, rfl, hin, HA⟩ := hrel
    by_cases hlt : i < n
    · obtain ⟨b, o, rfl, hblt, hc⟩ := H.out (by rw [← HL.out]; omega)
      have hil : i < l.length := by rw [← HL.out]; exact hlt
      have c0 := hc i hil
      clear hc
      have hd := hasX_step (x := x) hil
      by_cases hv : x = l[i]
      · have HS : Hid (hasX l x = true) := by show _ = _; rw [HA.out, hd]; simp [hv]
        have hb : (x == l[i]) = true := by simpa using hv
        clear hd hv
        go_wp2_with fail
        go_ret
        exact ⟨_, rfl, by rw [HS.out]; simp, rfl⟩
      · have HS : Hid (hasX l x = hasX (l.drop (i + 1)) x) := by show _ = _; rw [HA.out, hd]; simp [hv]
        have hb : (x == l[i]) = false := by simpa using hv
        clear hd hv
        go_wp2_with fail
        go_round
        case rel => exact ⟨i + 1, by go_num, by omega, HS⟩
        case measure => simp [intOf]; omega
    · have HS : Hid (hasX l x = false) := by show _ = _; rw [HA.out, List.drop_of_length_le (by rw [← HL.out]; omega)]; rfl
      go_wp2_with fail
      go_ret
      exact ⟨-1, rfl, by rw [HS.out]; rfl, rfl⟩

theorem Contains_any (A : Option Addr) (n c : Nat) (l : List Int) (x : Int) (w : World) (h : IntsAt w A l) (hl : n = l.length) (hn0 : n ≤ 1048576) :
    Calls Try.prog 77 #[.slice A n c, .int .i64 x] w (Ret0 w (.bool (hasX l x))) := by
  have HL := Lib.hid hl
  clear hl
  go_enter Try.func77, Try.ntmps77
  go_wp2_with fail
  refine (Index_any A n c l x _ h HL.out hn0).mono ?_
  rintro e w1 ⟨r, rfl, hr, rfl⟩
  have HR := Lib.hid hr
  clear hr
  go_wp2_with fail
  go_ret
  exact ⟨ret_bool (by rw [← HR.out]), rfl⟩

theorem hasX_far {o : List Int} (h : ∀ v, -1 ≤ at_ o v) : hasX o (-1) = !allFar o := by
  unfold hasX allFar
  rw [Bool.eq_iff_iff]
  simp only [List.any_eq_true, beq_iff_eq, Bool.not_eq_true', List.all_eq_false, decide_eq_true_eq]
  constructor
  · rintro ⟨x, hx, rfl⟩
    exact ⟨_, hx, by omega⟩
  · rintro ⟨x, hx, hn⟩
    obtain ⟨i, hi, rfl⟩ := List.getElem_of_mem hx
    refine ⟨_, hx, ?_⟩
    have := h i
    simp [at_, hi] at this
    omega

set_option maxHeartbeats 4000000 in
theorem isStrong_any (S : Int) (A : Option Addr) (n c : Nat) (l : List Tb) (wo : Int) (w : World) (h : TubesAt w A l) (hl : n = l.length) (hv : validN S l = true) :
    Calls Try.prog 69 #[.agg #[.int .i64 S, .slice A n c], .int .i64 wo] w (Ret w (.bool (strongN S l wo))) := by
  obtain ⟨v0, v1, v2, -⟩ := validN_true hv
  obtain ⟨s, rfl⟩ : ∃ s : Nat, S = s := ⟨S.toNat, by omega⟩
  have hs10 : s ≤ 10 := by omega
  have HL := Lib.hid hl
  have HV := Lib.hid hv
  have H := Lib.hid h
  clear h hl hv v0 v1 v2
  go_enter Try.func69, Try.ntmps69
  go_wp2_with fail
  go_loopw [8] (fun u w' => ∃ (j : Nat), u = .int .i64 j ∧ j ≤ s ∧ Hid (strongN s l wo = strongF s l wo j) ∧ Hid (Blk w' w.heap.size 29 #[.int .i64 s, .slice A n c]) ∧ Below w.heap.size w w') (fun u _ => s - (intOf u).toNat)
  case atStart => exact ⟨0, rfl, by omega, rfl, Blk.new _ _ _, by go_grown⟩
  case round =>
    obtain ⟨j, rfl, hjs, HS, HN, hbel⟩ := hrel
    obtain ⟨b0, b1, -⟩ := HN.out.c2
    by_cases hlt : j < s
    · have hst := strongF_step (l := l) (wo := wo) hlt
      go_wp2_with fail
      refine (distances_any s A n c l j wo _ (H.out.bel hbel) HL.out HV.out (by omega) (by omega)).mono ?_
      simp only [Int.toNat_natCast]
      rintro e w2 ⟨g, rfl, hg, HB, hb2⟩
      have hlen : (distN s l j wo).length = s := by rw [distN_len, Int.toNat_natCast]
      have hfar : hasX (distN s l j wo) (-1) = !allFar (distN s l j wo) := hasX_far (distN_ge HV.out (by omega) (by omega) wo)
      obtain ⟨o, ho⟩ : ∃ o, distN s l j wo = o := ⟨_, rfl⟩
      rw [ho] at HB hlen hst hfar
      have HLN := Lib.hid hlen
      have D2 := bel_next hbel hb2
      have HN2 := hid_blk HN hb2
      have HFA := Lib.hid hfar
      have HST := Lib.hid hst
      clear hst ho hlen hb2 hbel b0 b1 hfar HN
      go_wp2_with fail
      refine (Contains_any _ s s o (-1) _ (IntsAt.ofBlk HB.out) HLN.out.symm (by omega)).mono ?_
      rintro e w3 ⟨rfl, rfl⟩
      rw [HFA.out]
      cases hv : allFar o
      · have E : Hid (strongN s l wo = false) := by show _ = _; rw [HS.out, HST.out, hv]; rfl
        clear hv
        go_wp2_with fail
        go_ret
        rw [E.out]
        exact ⟨rfl, D2⟩
      · have HS2 : Hid (strongN s l wo = strongF s l wo (j + 1)) := by show _ = _; rw [HS.out, HST.out, hv]; rfl
        clear hv
        go_wp2_with fail
        go_roundw
        case rel => exact ⟨j + 1, by go_num, by omega, HS2, HN2, D2⟩
        case measure => simp [intOf]; omega
    · have E : Hid (strongN s l wo = true) := by show _ = _; rw [HS.out, strongF_end (by omega)]
      go_wp2_with fail
      go_ret
      rw [E.out]
      exact ⟨rfl, hbel⟩

/-- Whether a network is strong, and the code. -/
def isStrongR (S : Int) (l : List Tb) : Bool × Int := if validN S l then (strongN S l (-1), 0) else (false, 1)

theorem specStrong_any (S : Int) (A : Option Addr) (n c : Nat) (l : List Tb) (w : World) (h : TubesAt w A l) (hl : n = l.length) (hn0 : n ≤ 1048576) :
    Calls Try.prog 36 #[.agg #[.int .i64 S, .slice A n c]] w (Ret w (.tuple #[.bool (isStrongR S l).1, .int .i64 (isStrongR S l).2])) := by
  have HL := Lib.hid hl
  have H := Lib.hid h
  clear hl h
  go_enter Try.func36, Try.ntmps36
  go_wp2_with fail
  refine (l02Ok_any _ S A n c l _ (NetAt.box H.out _) HL.out hn0).mono ?_
  rintro e w1 ⟨rfl, hb1⟩
  have D1 : Below w.heap.size w w1 := Below.trans (by go_grown) (hb1.mono (by simp))
  have N1 : NetAt w1 w.heap.size S A n c l := (NetAt.box H.out _).bel hb1
  clear hb1
  cases hv : validN S l
  · have E : Hid (isStrongR S l = (false, 1)) := by show _ = _; simp [isStrongR, hv]
    clear hv
    go_wp2_with fail
    refine bodyPost_ret (v := .tuple #[.bool false, .int .i64 1]) (by simp [results, Try.results36, go_sem]) rfl ?_
    rw [E.out]
    exact ⟨rfl, D1⟩
  · have E : Hid (isStrongR S l = (strongN S l (-1), 0)) := by show _ = _; simp [isStrongR, hv]
    have HV := Lib.hid hv
    clear hv
    go_wp2_with fail
    refine (l02Strong_any _ S A n c l (-1) _ N1 HL.out HV.out).mono ?_
    rintro e w2 ⟨rfl, hb2⟩
    go_wp2_with fail
    refine bodyPost_ret (v := .tuple #[.bool (strongN S l (-1)), .int .i64 0]) (by simp [results, Try.results36, go_sem]) rfl ?_
    rw [E.out]
    exact ⟨rfl, bel_next D1 hb2⟩

theorem implStrong_any (S : Int) (A : Option Addr) (n c : Nat) (l : List Tb) (w : World) (h : TubesAt w A l) (hl : n = l.length) (hn0 : n ≤ 1048576) :
    Calls Try.prog 37 #[.agg #[.int .i64 S, .slice A n c]] w (Ret w (.tuple #[.bool (isStrongR S l).1, .int .i64 (isStrongR S l).2])) := by
  have HL := Lib.hid hl
  have H := Lib.hid h
  clear hl h
  go_enter Try.func37, Try.ntmps37
  go_wp2_with fail
  refine (implValidNet_any S A n c l _ (H.out.alloc _) HL.out hn0).mono ?_
  rintro e w1 ⟨rfl, hb1⟩
  have D1 : Below w.heap.size w w1 := Below.trans (by go_grown) (hb1.mono (by simp))
  have N1 : Hid (Blk w1 w.heap.size 29 #[.int .i64 S, .slice A n c]) := bel_blk (Blk.new _ _ _) hb1
  obtain ⟨a0, a1, -⟩ := N1.out.c2
  clear hb1
  cases hv : validN S l
  · have E : Hid (isStrongR S l = (false, 1)) := by show _ = _; simp [isStrongR, hv]
    clear hv
    go_wp2_with fail
    refine bodyPost_ret (v := .tuple #[.bool false, .int .i64 1]) (by simp [results, Try.results37, go_sem]) rfl ?_
    rw [E.out]
    exact ⟨rfl, D1⟩
  · have E : Hid (isStrongR S l = (strongN S l (-1), 0)) := by show _ = _; simp [isStrongR, hv]
    have HV := Lib.hid hv
    clear hv
    go_wp2_with fail
    refine (isStrong_any S A n c l (-1) _ (H.out.bel D1) HL.out HV.out).mono ?_
    rintro e w2 ⟨rfl, hb2⟩
    go_wp2_with fail
    refine bodyPost_ret (v := .tuple #[.bool (strongN S l (-1)), .int .i64 0]) (by simp [results, Try.results37, go_sem]) rfl ?_
    rw [E.out]
    exact ⟨rfl, bel_next D1 hb2⟩

end Go.Proofs.Ytliamhhmjnhgcaa
