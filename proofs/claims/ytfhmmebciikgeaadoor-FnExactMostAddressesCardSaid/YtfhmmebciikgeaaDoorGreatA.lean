/-
  CONTRACT: the program's search over sets of words.
-/
import Derived.Test.YtfhmmebciikgeaaDoorGreatO
namespace Go.Proofs.YtfhmmebciikgeaaDoor
open Go.RowKit

theorem shl_one {k : Nat} (h : 2 ^ k < 4294967296) : (2 : Int) ^ k % 4294967296 = ((2 ^ k : Nat) : Int) := by
  have e := Int.natCast_pow 2 k
  rw [show (2 : Int) = ((2 : Nat) : Int) from rfl, ← e]
  generalize 2 ^ k = z at *
  omega

set_option maxHeartbeats 1000000 in
set_option maxRecDepth 100000 in
theorem apart_any {far : Nat → Nat → Bool} {n : Nat} {nr : List Nat} (hN : NearS far n nr) (hn : n ≤ 32) (b o c : Nat) : ∀ (s : Nat) (w : World), s < 2 ^ n → TzTab w → (∀ (k : Nat) (h : k < nr.length), w.cell? ⟨b, o + k, none⟩ = some (.int .u32 (nr[k] : Nat))) →
    Calls Tryd.prog 13 #[.slice (some ⟨b, o, none⟩) n c, .int .u32 s] w (RetN w (.int .i64 (apM far s : Nat))) := by
  intro s
  induction s using Nat.strongRecOn with
  | ind s ih =>
    intro w hs hT hc
    have HNR := Lib.hid hN
    have HLEN := Lib.hid hN.len
    have IH := Lib.hid ih
    have HT := Lib.hid hT
    have HC := Lib.hid hc
    have HS := Lib.hid hs
    have hs32 := pow_n hn hs
    clear hN ih hT hc hs
    go_enter Tryd.func13, Tryd.ntmps13
    go_wp2_with fail
    go_loopw [5, 6, 7] (fun x y v w' => ∃ (mo ma : Int) (left q : Nat), x = .int .i64 mo ∧ y = .int .i64 ma ∧ v = .int .u32 left ∧ left < 4294967296 ∧ -1 ≤ ma ∧ ma ≤ 32 ∧ w' = w.drewN q ∧ Hid ((∀ j, left.testBit j = true → s.testBit j = true) ∧ ((mo = -1 ∧ ma = -1 ∧ left = s) ∨ (∃ k : Nat, mo = k ∧ k < 32 ∧ s.testBit k = true)))) (fun _ _ v _ => (intOf v).toNat)
    case atStart => exact ⟨-1, -1, s, 0, rfl, rfl, rfl, hs32, by omega, by omega, rfl, fun j h => h, .inl ⟨rfl, rfl, rfl⟩⟩
    case round =>
      obtain ⟨mo, ma, left, q, rfl, rfl, rfl, hl32, hma1, hma2, rfl, HJ⟩ := hrel
      by_cases hl0 : left = 0
      · subst hl0
        rcases HJ.out.2 with ⟨rfl, rfl, e0⟩ | ⟨k, rfl, hk2, hsk⟩
        · have E : Hid (apM far s = 0) := by show _ = _; rw [← e0]; exact apM_zero far HNR.out.symm
          clear HJ e0
          go_wp2_with fail
          go_ret
          rw [E.out]
          exact ⟨rfl, _, rfl⟩
        · have hkn : k < n := tb_n HS.out hsk
          have hkl : k < nr.length := by rw [HLEN.out]; exact hkn
          have tk : (w.drewN q).cell? ⟨b, o + k, none⟩ = some (.int .u32 (nr[k] : Nat)) := HC.out k hkl
          have ht32 := HNR.out.lt k hkl
          have SP := Lib.hid (apM_split HNR.out HS.out hn hsk hkl)
          obtain ⟨t, ht⟩ : ∃ t, nr[k] = t := ⟨_, rfl⟩
          have tk0 := HC.out k hkl
          rw [ht] at tk ht32 SP tk0
          have hlt1 := drop_lt hs32 hsk
          have hp32 : 2 ^ k < 4294967296 := Nat.pow_lt_pow_right (a := 2) (by decide) hk2
          have b1 := u32_andNot_nat s (2 ^ k) hs32 hp32
          obtain ⟨s1, hs1⟩ : ∃ s1, s &&& (4294967295 - 2 ^ k) = s1 := ⟨_, rfl⟩
          rw [hs1] at b1 hlt1 SP
          have hs1b : s1 < 4294967296 := Nat.lt_trans hlt1 hs32
          have b2 := u32_andNot_nat s1 t hs1b ht32
          have hlt2 : s1 &&& (4294967295 - t) < s := Nat.lt_of_le_of_lt Nat.and_le_left hlt1
          obtain ⟨s2, hs2⟩ : ∃ s2, s1 &&& (4294967295 - t) = s2 := ⟨_, rfl⟩
          rw [hs2] at b2 hlt2 SP
          have hsp := shl_one hp32
          generalize 2 ^ k = pk at *
          have C1 := Lib.hid (fun w => IH.out s1 hlt1 w (Nat.lt_trans hlt1 HS.out))
          have C2 := Lib.hid (fun w => IH.out s2 hlt2 w (Nat.lt_trans hlt2 HS.out))
          have hle1 := apM_le far s1
          have hle2 := apM_le far s2
          generalize apM far s1 = m1 at *
          generalize apM far s2 = m2 at *
          obtain ⟨m, hm⟩ : ∃ m, max m1 (1 + m2) = m := ⟨_, rfl⟩
          rw [hm] at SP
          have hmx : max (m1 : Int) (1 + (m2 : Int)) = (m : Int) := by omega
          have hkneg : ¬ ((k : Int) < 0) := by omega
          clear hs1 hs2 ht HJ hm hsk
          go_wp2_with fail
          have hTq := HT.out.drewN q
          have hCq : ∀ (k : Nat) (h : k < nr.length), (w.drewN q).cell? ⟨b, o + k, none⟩ = some (.int .u32 (nr[k] : Nat)) := HC.out
          have HW : Hid (∃ q, w.drewN q = w.drewN q) := ⟨q, rfl⟩
          have HQ : Hid (∃ r, w.drewN q = w.drewN r) := ⟨q, rfl⟩
          clear HW tk0
          generalize w.drewN q = w6 at *
          have Q1 : Hid (∀ n', Calls Tryd.prog 13 #[.slice (some ⟨b, o, none⟩) n c, .int .u32 s1] (w6.drewN n') (fun e w'' => e = .returned (.int .i64 m1) ∧ ∃ m, w'' = w6.drewN m)) := fun n' => qN (C1.out (w6.drewN n') (hTq.drewN n') hCq)
          have Q2 : Hid (∀ n', Calls Tryd.prog 13 #[.slice (some ⟨b, o, none⟩) n c, .int .u32 s2] (w6.drewN n') (fun e w'' => e = .returned (.int .i64 m2) ∧ ∃ m, w'' = w6.drewN m)) := fun n' => qN (C2.out (w6.drewN n') (hTq.drewN n') hCq)
          clear hTq hCq
          go_quiet (first | (go_at_call 13; first | (with_reducible exact Q1.out _) | (with_reducible exact Q2.out _)))
          go_wp2_with fail
          all_goals
            go_ret
            rw [SP.out]
            obtain ⟨q6, h6⟩ := HQ.out
            exact ⟨ret_int (by omega), q6 + nq, by rw [h6, World.drewN_drewN]⟩
      · obtain ⟨hk1, hk2⟩ := tb_ctz hl0 hl32
        have T1 := Lib.hid (tz_any left hl0 hl32 (w.drewN q) (HT.out.drewN q))
        obtain ⟨k, hk⟩ : ∃ k, Lib.ctz 32 left = k := ⟨_, rfl⟩
        rw [hk] at hk1 hk2 T1
        have hsk : Hid (s.testBit k = true) := HJ.out.1 k hk1
        have hkn : k < n := tb_n HS.out hsk.out
        have hkl : k < nr.length := by rw [HLEN.out]; exact hkn
        have tk : (w.drewN q).cell? ⟨b, o + k, none⟩ = some (.int .u32 (nr[k] : Nat)) := HC.out k hkl
        have ht32 := HNR.out.lt k hkl
        have TAKE := Lib.hid (apM_take HNR.out HS.out hn hsk.out hkl)
        obtain ⟨t, ht⟩ : ∃ t, nr[k] = t := ⟨_, rfl⟩
        rw [ht] at tk ht32 TAKE
        have ba := u32_and_nat t s ht32 hs32
        obtain ⟨z, hz⟩ : ∃ z, t &&& s = z := ⟨_, rfl⟩
        rw [hz] at ba TAKE
        have hz32 : z < 4294967296 := by rw [← hz]; exact Nat.lt_of_le_of_lt Nat.and_le_right hs32
        have O1 := Lib.hid (fun w => ones_any z hz32 w)
        have hcl := pc32_le z
        obtain ⟨cnt, hcnt⟩ : ∃ cnt, pc32 z = cnt := ⟨_, rfl⟩
        rw [hcnt] at TAKE O1 hcl
        have hl0b : ((left : Int) != 0) = true := by rw [bne_iff_ne]; omega
        clear hk hk1 ht hz hcnt
        by_cases h1 : cnt ≤ 1
        · have TK := Lib.hid (TAKE.out h1)
          have hlt := take_lt (t := t) hs32 hsk.out
          have b1 := u32_andNot_nat s t hs32 ht32
          obtain ⟨s1, hs1⟩ : ∃ s1, s &&& (4294967295 - t) = s1 := ⟨_, rfl⟩
          rw [hs1] at b1 hlt TK
          have hs1b : s1 < 4294967296 := by rw [← hs1]; exact Nat.lt_of_le_of_lt Nat.and_le_left hs32
          have hp32 : 2 ^ k < 4294967296 := Nat.pow_lt_pow_right (a := 2) (by decide) hk2
          have b2 := u32_andNot_nat s1 (2 ^ k) hs1b hp32
          obtain ⟨s2, hs2⟩ : ∃ s2, s1 &&& (4294967295 - 2 ^ k) = s2 := ⟨_, rfl⟩
          rw [hs2] at b2 hlt TK
          have hsp := shl_one hp32
          generalize 2 ^ k = pk at *
          have C2 := Lib.hid (fun w => IH.out s2 hlt w (Nat.lt_trans hlt HS.out))
          clear hs1 hs2 TAKE HJ
          go_wp2_with fail
          refine T1.out.mono ?_
          rintro e w3 ⟨rfl, rfl⟩
          go_wp2_with fail
          refine (O1.out _).mono ?_
          rintro e w3 ⟨rfl, q3, rfl⟩
          have tk3 : (w.drewN (q + q3)).cell? ⟨b, o + k, none⟩ = some (.int .u32 (t : Nat)) := tk
          go_wp2_with fail
          refine (C2.out _ (HT.out.drewN (q + q3)) HC.out).mono ?_
          rintro e w3 ⟨rfl, q4, rfl⟩
          have hle := apM_le far s2
          generalize apM far s2 = m at *
          go_wp2_with fail
          go_ret
          rw [TK.out]
          exact ⟨by go_num, _, rfl⟩
        · have ha2 : bits BinOp.and IntKind.u32 (left : Int) ((left : Int) - 1) = ((left &&& (left - 1) : Nat) : Int) := by
            have := u32_and_nat left (left - 1) hl32 (by omega)
            rw [show ((left - 1 : Nat) : Int) = (left : Int) - 1 by omega] at this
            exact this
          have hll := less_lt hl0
          have HJ2 : Hid (∀ j, (left &&& (left - 1)).testBit j = true → s.testBit j = true) := by
            show ∀ j, _
            exact fun j hj => HJ.out.1 j (tb_less hj)
          obtain ⟨l2, hl2⟩ : ∃ l2, left &&& (left - 1) = l2 := ⟨_, rfl⟩
          rw [hl2] at ha2 hll HJ2
          clear hl2 TAKE
          by_cases h2 : (cnt : Int) > ma
          · clear HJ
            go_wp2_with fail
            refine T1.out.mono ?_
            rintro e w3 ⟨rfl, rfl⟩
            go_wp2_with fail
            refine (O1.out _).mono ?_
            rintro e w3 ⟨rfl, q3, rfl⟩
            go_wp2_with fail
            go_roundw
            case rel => exact ⟨k, cnt, l2, q + q3, rfl, rfl, rfl, by omega, by omega, by omega, rfl, HJ2.out, .inr ⟨k, rfl, hk2, hsk.out⟩⟩
            case measure => simp [intOf]; omega
          · have HJ3 : Hid ((mo = -1 ∧ ma = -1 ∧ l2 = s) ∨ (∃ k : Nat, mo = k ∧ k < 32 ∧ s.testBit k = true)) := by
              show _ ∨ _
              rcases HJ.out.2 with h | h
              · omega
              · exact .inr h
            clear HJ
            go_wp2_with fail
            refine T1.out.mono ?_
            rintro e w3 ⟨rfl, rfl⟩
            go_wp2_with fail
            refine (O1.out _).mono ?_
            rintro e w3 ⟨rfl, q3, rfl⟩
            go_wp2_with fail
            go_roundw
            case rel => exact ⟨mo, ma, l2, q + q3, rfl, rfl, rfl, by omega, by omega, by omega, rfl, HJ2.out, HJ3.out⟩
            case measure => simp [intOf]; omega
end Go.Proofs.YtfhmmebciikgeaaDoor
