/-
  CONTRACT: the program's greatest number of words with a distance.
-/
import Derived.Test.YtfhmmebciikgeaaDoorGreatA
import Derived.Test.YtfhmmebciikgeaaDoorGreatS
namespace Go.Proofs.YtfhmmebciikgeaaDoor
open Go.RowKit

/-! ### which words are near one -/
def nearN (far : Nat → Nat → Bool) (i : Nat) : Nat → Nat
  | 0 => 0
  | k + 1 => if i ≠ k ∧ far i k = false then nearN far i k ||| 2 ^ k else nearN far i k
theorem nearN_bit (far : Nat → Nat → Bool) (i : Nat) : ∀ k j, (nearN far i k).testBit j = (decide (j < k) && (decide (i ≠ j) && !far i j))
  | 0, j => by simp [nearN]
  | k + 1, j => by
    rw [nearN]
    by_cases e : j = k
    · subst e
      split
      · rename_i h
        rw [Nat.testBit_or, nearN_bit far i j j, tb_one]
        simp [h.1, h.2]
      · rename_i h
        rw [nearN_bit far i j j]
        by_cases h1 : i = j
        · simp [h1]
        · have : far i j = true := by
            cases hf : far i j with
            | true => rfl
            | false => exact absurd ⟨h1, hf⟩ h
          simp [this]
    · have e2 : decide (j < k + 1) = decide (j < k) := decide_eq_decide.2 (by omega)
      rw [e2]
      split
      · have e3 : decide (k = j) = false := decide_eq_false (fun h : k = j => e h.symm)
        rw [Nat.testBit_or, nearN_bit far i k j, tb_one, e3, Bool.or_false]
      · exact nearN_bit far i k j
theorem nearN_lt (far : Nat → Nat → Bool) (i k : Nat) : nearN far i k < 2 ^ k := Nat.lt_pow_two_of_testBit _ fun j hj => by
  rw [nearN_bit, decide_eq_false (by omega), Bool.false_and]
theorem nearN_32 (far : Nat → Nat → Bool) (i : Nat) {k : Nat} (h : k ≤ 32) : nearN far i k < 4294967296 := Nat.lt_of_lt_of_le (nearN_lt far i k) (Nat.pow_le_pow_right (n := 2) (by decide) h)
def nearL (far : Nat → Nat → Bool) (n i : Nat) : List Nat := (List.range i).map fun a => nearN far a n
theorem nearL_succ (far : Nat → Nat → Bool) (n i : Nat) : nearL far n (i + 1) = nearL far n i ++ [nearN far i n] := by
  unfold nearL
  rw [List.range_succ, List.map_append]
  rfl
theorem nearL_len (far : Nat → Nat → Bool) (n i : Nat) : (nearL far n i).length = i := by simp [nearL]
theorem nearL_get (far : Nat → Nat → Bool) (n i a : Nat) (h : a < (nearL far n i).length) : (nearL far n i)[a] = nearN far a n := by simp [nearL]
theorem nearL_near {far : Nat → Nat → Bool} (hf : ∀ a b, far a b = far b a) {n : Nat} (hn : n ≤ 32) : NearS far n (nearL far n n) := by
  refine ⟨hf, nearL_len far n n, fun a h => ?_, fun a h b hb => ?_⟩
  · rw [nearL_get]
    exact nearN_32 far a hn
  · rw [nearL_get, nearN_bit, decide_eq_true hb, Bool.true_and]

abbrev u32V (l : List Nat) : List Value := l.map fun z => Value.int .u32 (z : Nat)
theorem u32_oneCell (l : List Nat) : ∀ u ∈ u32V l, u.oneCell' = true := by
  intro u hu
  obtain ⟨s, -, rfl⟩ := List.mem_map.1 hu
  rfl
theorem u32_own {w : World} {base : Nat} {e : TypeId} {A : Option Addr} {n c : Nat} {l : List Nat} (h : w.ownsRow base e 1 (.slice A n c) n (u32V l)) (h0 : 0 < l.length) :
    ∃ g, A = some ⟨g, 0, none⟩ ∧ l.length = n ∧ ∀ (k : Nat) (h : k < l.length), w.cell? ⟨g, 0 + k, none⟩ = some (.int .u32 (l[k] : Nat)) := by
  have hl : l.length = n := by have := h.1; simpa using this
  obtain ⟨g, cap, hv, _, hlt⟩ := h.form (by omega)
  have hA : A = some ⟨g, 0, none⟩ := by injection hv
  subst hA
  refine ⟨g, rfl, hl, fun k hk => ?_⟩
  have := h.cells (g := g) rfl k (.int .u32 (l[k] : Nat)) (by simp [hk])
  simpa [Addr.add_lit] using this
theorem wcode_pw {g r : Nat} {d : Int} (h : wcode g r d 32 = 0) : pw g r ≤ 32 := by
  unfold wcode at h
  split at h
  · rw [Int.toNat_natCast, Int.toNat_natCast] at h
    split at h
    · exact absurd h (by decide)
    · omega
  · exact absurd h (by decide)
theorem shl_all {n : Nat} (hn : n ≤ 32) : ((2 : Int) ^ n - 1) % 4294967296 = ((2 ^ n - 1 : Nat) : Int) := by
  have e := Int.natCast_pow 2 n
  have h1 := Nat.two_pow_pos n
  have h2 : 2 ^ n ≤ 2 ^ 32 := Nat.pow_le_pow_right (n := 2) (by decide) hn
  rw [show (2 : Int) = ((2 : Nat) : Int) from rfl, ← e]
  generalize 2 ^ n = z at *
  omega
theorem info_uint32 : (Tryd.prog.info? 35).map (fun i => (i.zero, i.size, i.bytes)) = some (some (.int .u32 0), 1, 4) := by kernel_rfl

set_option maxHeartbeats 1000000 in
set_option maxRecDepth 100000 in
theorem implGreat_any (g r d : Int) (w : World) (hT : TzTab w) : Calls Tryd.prog 5 #[.int .i64 g, .int .i64 r, .int .i64 d] w (Ret w (.tuple #[.int .i64 (greatR g r d).1, .int .i64 (greatR g r d).2])) := by
  by_cases hc : wcode g r d 32 = 0
  · obtain ⟨h1, h2, h3, h4, -, -⟩ := wcode_zero hc
    obtain ⟨g, rfl⟩ : ∃ q : Nat, g = q := ⟨g.toNat, by omega⟩
    obtain ⟨r, rfl⟩ : ∃ q : Nat, r = q := ⟨r.toNat, by omega⟩
    have E : Hid (greatR g r d = (((greatW g r d : Nat) : Int), 0)) := by show _ = _; simp [greatR, hc]
    have hp := wcode_pw hc
    have HC := Lib.hid hc
    have hg : g ≤ 4 := by omega
    have hr : r ≤ 8 := by omega
    have hlen : (allW g r).length ≤ 32 := by rw [allW_len]; exact hp
    have GS := Lib.hid (fun m (h : SetAl (farI g r d) (2 ^ (allW g r).length - 1) m) => great_setAl (by omega) hg r d h)
    obtain ⟨x, xs, hW, hG⟩ := greatW_head (g := g) (by omega) r d
    have hpos : 1 ≤ (allW g r).length := by rw [hW, List.length_cons]; omega
    have HSZ : Hid (∀ y ∈ allW g r, y.size = r) := fun y hy => allW_size r y hy
    have HFI : Hid (∀ (i k : Nat) (hi : i < (allW g r).length) (hk : k < (allW g r).length), farI g r d i k = decide (d ≤ (farB (allW g r)[i] (allW g r)[k] : Int))) := by
      show ∀ i k hi hk, _
      intro i k hi hk
      unfold farI
      rw [show (allW g r)[i]?.getD ByteArray.empty = (allW g r)[i] by simp [hi], show (allW g r)[k]?.getD ByteArray.empty = (allW g r)[k] by simp [hk]]
      exact farR_eq (allW_size r _ (List.getElem_mem hi))
    have HF := Lib.hid (farI_symm g r d)
    obtain ⟨far, hfar⟩ : ∃ far, farI g r d = far := ⟨_, rfl⟩
    obtain ⟨W, hWW⟩ : ∃ W, allW g r = W := ⟨_, rfl⟩
    have HWW := Lib.hid hWW
    rw [hfar, hWW] at GS HFI
    rw [hfar] at HF
    rw [hWW] at hlen hpos HSZ
    obtain ⟨n, hn⟩ : ∃ n, W.length = n := ⟨_, rfl⟩
    have HN := Lib.hid hn
    rw [hn] at hlen hpos GS
    have HNS := Lib.hid (nearL_near HF.out hlen)
    have HT := Lib.hid hT
    obtain ⟨i0, hi, hz0, hz1, hz2⟩ := info_parts info_uint32
    have HI := Lib.hid (And.intro hi (And.intro hz0 (And.intro hz1 hz2)))
    clear hc hi hz0 hz1 hz2 hW hG hn hfar hWW hT x xs
    go_enter Tryd.func5, Tryd.ntmps5
    go_wp2_with (go_at_call 10; refine (wordsCode_any _ _ _ 32 _ (.inr rfl)).mono ?_; rintro e w2 ⟨rfl, rfl⟩; rw [HC.out])
    refine (allWords_any g r _ hg hr).mono ?_
    rintro e w1 ⟨A, c, rfl, hO, hb⟩
    rw [HWW.out] at hO ⊢
    have HS := Lib.hid (StrsAt.ofOwn hO).1
    obtain ⟨b, o, rfl, hblt, hcs⟩ := HS.out (by rw [HN.out]; omega)
    have HCS := Lib.hid hcs
    rw [HN.out]
    clear hO hcs
    go_wp2_with fail
    go_loopw [10, 29] (fun v u w' => ∃ (i : Nat) (ys : List Nat), u = .int .i64 i ∧ i ≤ n ∧ Hid (ys = nearL far n i) ∧ w'.ownsRow w1.heap.size 35 1 v ys.length (u32V ys) ∧ Below w1.heap.size w1 w') (fun _ u _ => n - (intOf u).toNat)
    case atStart => exact ⟨0, [], rfl, by omega, rfl, own_nil' _ _ _ rfl (Nat.le_refl _), by go_grown⟩
    case round =>
      obtain ⟨i, ys, rfl, hin, HY, hown, hbel⟩ := hrel
      by_cases hlt : i < n
      · have hil : i < W.length := by rw [HN.out]; exact hlt
        obtain ⟨A2, c2, rfl⟩ := own_form hown
        have HO := Lib.hid hown
        have hyi : ys.length = i := by rw [HY.out, nearL_len]
        have hyl : ys.length ≤ 32 := by omega
        have HYI := Lib.hid hyi
        have ti := bel_cell hbel (HCS.out i hil)
        have hsz : (W[i]).size = r := HSZ.out _ (List.getElem_mem hil)
        have HFX := Lib.hid (fun k (hk : k < W.length) => HFI.out i k hil hk)
        obtain ⟨x, hx⟩ : ∃ x, W[i] = x := ⟨_, rfl⟩
        rw [hx] at ti hsz HFX
        have hx48 : x.size ≤ 1048576 := by omega
        obtain ⟨wo, rfl⟩ : ∃ wo : World, wo = wr := ⟨_, rfl⟩
        have hsw := hbel.size
        clear hown hx hyi
        go_wp2_with fail
        go_loopw [13, 36] (fun v u w' => ∃ (k q : Nat), u = .int .i64 k ∧ v = .int .u32 (nearN far i k : Nat) ∧ k ≤ n ∧ w' = wo.drewN q) (fun _ u _ => n - (intOf u).toNat)
        case atStart => exact ⟨0, 0, rfl, rfl, by omega, rfl⟩
        case round =>
          obtain ⟨k, q, rfl, rfl, hkn, rfl⟩ := hrel
          by_cases hlk : k < n
          · have hkl : k < W.length := by rw [HN.out]; exact hlk
            have tk0 := bel_cell hbel (HCS.out k hkl)
            have hyz : (W[k]).size = r := HSZ.out _ (List.getElem_mem hkl)
            have hfx := HFX.out k hkl
            obtain ⟨y, hy⟩ : ∃ y, W[k] = y := ⟨_, rfl⟩
            rw [hy] at tk0 hyz hfx
            have hxy : x.size = y.size := by omega
            have tk : (wo.drewN q).cell? ⟨b, o + k, none⟩ = some (.string y) := tk0
            have hst : nearN far i (k + 1) = if i ≠ k ∧ far i k = false then nearN far i k ||| 2 ^ k else nearN far i k := rfl
            have hk32 : k < 32 := by omega
            have how := nearN_32 far i (k := k) (by omega)
            obtain ⟨ow, how2⟩ : ∃ ow, nearN far i k = ow := ⟨_, rfl⟩
            rw [how2] at hst how ⊢
            clear hy tk0 how2
            by_cases hik : i = k
            · have H2 : Hid (nearN far i (k + 1) = ow) := by show _ = _; rw [hst, if_neg (fun h => h.1 hik)]
              have hib : ((i : Int) == (k : Int)) = true := by rw [hik]; exact beq_self_eq_true _
              have hin2 : ((i : Int) != (k : Int)) = false := by rw [bne, hib]; rfl
              clear hst hik hfx
              go_wp2_with fail
              go_roundw
              case rel => exact ⟨k + 1, q, by go_num, by rw [H2.out], by omega, rfl⟩
              case measure => simp [intOf]; omega
            · have hib : ((i : Int) == (k : Int)) = false := by rw [beq_eq_false_iff_ne]; omega
              have hin2 : ((i : Int) != (k : Int)) = true := by rw [bne, hib]; rfl
              by_cases hv : (farB x y : Int) < d
              · have hff : far i k = false := by rw [hfx]; exact decide_eq_false (by omega)
                have hp32 : 2 ^ k < 4294967296 := Nat.pow_lt_pow_right (a := 2) (by decide) hk32
                have hsp := shl_one hp32
                have bo := u32_or_nat ow (2 ^ k) how hp32
                obtain ⟨z, hz⟩ : ∃ z, ow ||| 2 ^ k = z := ⟨_, rfl⟩
                have H2 : Hid (nearN far i (k + 1) = z) := by show _ = _; rw [hst, if_pos ⟨hik, hff⟩, hz]
                rw [hz] at bo
                clear hst hik hfx hff hz
                generalize 2 ^ k = pk at *
                have hvd : decide ((farB x y : Int) < d) = true := decide_eq_true hv
                go_wp2_with fail
                refine (distance_any x y _ hx48 hxy).mono ?_
                rintro e w5 ⟨rfl, m1, rfl⟩
                go_wp2_with fail
                go_roundw
                case rel => exact ⟨k + 1, q + m1, by go_num, by rw [H2.out], by omega, rfl⟩
                case measure => simp [intOf]; omega
              · have hff : far i k = true := by rw [hfx]; exact decide_eq_true (by omega)
                have H2 : Hid (nearN far i (k + 1) = ow) := by show _ = _; rw [hst, if_neg (fun h => by rw [hff] at h; exact absurd h.2 (by decide))]
                clear hst hik hfx hff
                have hvd : decide ((farB x y : Int) < d) = false := decide_eq_false hv
                have hve : ((farB x y : Int) < d) = False := eq_false hv
                go_wp2_with fail
                refine (distance_any x y _ hx48 hxy).mono ?_
                rintro e w5 ⟨rfl, m1, rfl⟩
                go_wp2_with fail
                go_roundw
                case rel => exact ⟨k + 1, q + m1, by go_num, by rw [H2.out], by omega, rfl⟩
                case measure => simp [intOf]; omega
          · have hkn2 : k = n := by omega
            subst hkn2
            have how := nearN_32 far i (k := k) hlen
            have HNX : Hid (nearL far k (i + 1) = ys ++ [nearN far i k]) := by show _ = _; rw [nearL_succ, HY.out]
            obtain ⟨z, hz⟩ : ∃ z, nearN far i k = z := ⟨_, rfl⟩
            rw [hz] at how HNX ⊢
            have hb6 : Below w1.heap.size w1 (wo.drewN q) := below_drewN hbel _
            have ho6 : (wo.drewN q).ownsRow w1.heap.size 35 1 (.slice A2 ys.length c2) ys.length (u32V ys) := own_belS HO.out (below_drewN (Below.refl _ _) _)
            generalize wo.drewN q = w6 at *
            have HO6 := Lib.hid ho6
            have s6 := hb6.size
            clear ho6 hz
            go_wp2_with (at_builtin; refine wpList_append_own _ rfl _ _ 34 rfl w1.heap.size 35 i0 (.int .u32 0) 1 4 Tryd.underlying34 HI.out.1 HI.out.2.1 HI.out.2.2.1 HI.out.2.2.2 rfl (by decide) _ _ _ rfl (HO6.out.alloc _) ⟨w6.heap.size, 0, none⟩ 1 1 [.int .u32 (z : Nat)] rfl rfl ?c1 ?c2 ?c3 ?c4 ?c5 ?_)
            try
              case c1 =>
                intro j u hu
                cases j with
                | zero => simp at hu; subst hu; simp [Addr.add]
                | succ j => simp at hu
            try case c2 => first | exact u32_oneCell [z] | rfl
            try case c3 => unfold maxLen; omega
            try case c4 => omega
            try case c5 => first | (simp; omega) | omega
            intro v' w4 hown1 hgrow _
            have hown2 : w4.ownsRow w1.heap.size 35 1 v' (ys ++ [z]).length (u32V (ys ++ [z])) := by simpa [u32V] using hown1
            have HO4 := Lib.hid hown2
            have hb4 : Below w1.heap.size w1 w4 := Below.grown (show Below w1.heap.size w1 _ from hb6.alloc hb6.size _) hgrow (by simp; omega) (fun k hk => by have := (HO6.out.lt k hk).1; omega)
            clear hown1 hown2 hgrow
            go_wp2_with fail
            go_roundw
            case rel => exact ⟨i + 1, ys ++ [z], by go_num, by omega, HNX.out.symm, HO4.out, hb4⟩
            case measure => simp [intOf]; omega
      · have hie : i = n := by omega
        subst hie
        obtain ⟨A2, c2, rfl⟩ := own_form hown
        have hyl : ys.length = i := by rw [HY.out, nearL_len]
        have hown2 := hown
        rw [hyl] at hown2
        obtain ⟨g2, rfl, -, hcu⟩ := u32_own hown2 (by omega)
        rw [HY.out] at hcu
        have HT2 := Lib.hid ((HT.out.bel hb).bel hbel)
        have AP := Lib.hid (apart_any HNS.out hlen g2 0 c2 (2 ^ i - 1) wr (by have := Nat.two_pow_pos i; omega) HT2.out hcu)
        have GE : Hid (apM far (2 ^ i - 1) = greatW g r d) := GS.out _ (apM_al HF.out (by have h9 : 2 ^ i ≤ 2 ^ 32 := Nat.pow_le_pow_right (n := 2) (by decide) hlen; omega))
        have D2 := Lib.hid (bel_next hb hbel)
        rw [hyl] at hown ⊢
        clear hown hown2 hcu hyl
        have hsx := shl_all hlen
        go_wp2_with fail
        refine AP.out.mono ?_
        rintro e w9 ⟨rfl, q9, rfl⟩
        have hle := apM_le far (2 ^ i - 1)
        generalize apM far (2 ^ i - 1) = m at *
        go_wp2_with fail
        refine bodyPost_ret (v := .tuple #[.int .i64 (m : Nat), .int .i64 0]) (by simp [results, Tryd.results5, go_sem]) rfl ?_
        rw [E.out, ← GE.out]
        exact ⟨rfl, below_drewN D2.out _⟩
  · have E : Hid (greatR g r d = (0, wcode g r d 32)) := by show _ = _; simp [greatR, hc]
    obtain ⟨z, hz⟩ : ∃ z, wcode g r d 32 = z := ⟨_, rfl⟩
    have HZ := Lib.hid hz
    rw [hz] at E hc
    clear hz
    have hb1 : (z != 0) = true := by simpa using hc
    have hb2 : (z == 0) = false := by simpa using hc
    go_enter Tryd.func5, Tryd.ntmps5
    go_wp2_with (go_at_call 10; refine (wordsCode_any _ _ _ 32 _ (.inr rfl)).mono ?_; rintro e w2 ⟨rfl, rfl⟩; rw [HZ.out])
    refine bodyPost_ret (v := .tuple #[.int .i64 0, .int .i64 z]) (by simp [results, Tryd.results5, go_sem]) rfl ?_
    rw [E.out]
    exact ⟨rfl, Below.refl _ _⟩
end Go.Proofs.YtfhmmebciikgeaaDoor
