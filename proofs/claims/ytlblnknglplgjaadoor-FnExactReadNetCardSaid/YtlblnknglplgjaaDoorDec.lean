/-
  CONTRACTS: a number in decimal, the specification's and the program's (printed by tools/gen_dec.py).
-/
import Derived.Test.YtlblnknglplgjaaDoorBase
import Derived.Test.YtlblnknglplgjaaDoorSlice
import Derived.Test.YtlblnknglplgjaaDoorShelf
import Derived.Lib.ItoaNum
import Derived.Lib.ItoaLen
import Derived.Lib.SmallJoins
import Derived.Lib.AppendIntMem
import Derived.Laws.IdiomStrings
namespace Go.Proofs.YtlblnknglplgjaaDoor
open Go.RowKit

def bytesC (bs : List UInt8) : List Value := bs.map fun b => Value.int .u8 (b.toNat : Int)
theorem bytesC_one (bs : List UInt8) : ∀ u ∈ bytesC bs, u.oneCell' = true := by
  intro u hu
  obtain ⟨s, -, rfl⟩ := List.mem_map.1 hu
  rfl
/-- The cells behind an address are these bytes. -/
def BytesAt (w : World) (g : Nat) (bs : List UInt8) : Prop := ∀ (j : Nat) (u : Value), (bytesC bs)[j]? = some u → w.cell? ((⟨g, 0, none⟩ : Addr).add j) = some u
theorem BytesAt.bel {w w' : World} {g : Nat} {bs : List UInt8} (h : BytesAt w g bs) (hb : Below w.heap.size w w') : BytesAt w' g bs := fun j u hu => cell_later hb (h j u hu)
theorem conv_bytes (w : World) (g c : Nat) (bs : List UInt8) (h : BytesAt w g bs) :
    (convert 87 9 (.slice (some ⟨g, 0, none⟩) bs.length c)).run Tryd.prog w = .ok (.string ⟨bs.toArray⟩) w := by
  refine run_convert_bytes_back (P := Tryd.prog) w 87 9 5 ⟨g, 0, none⟩ c bs Tryd.underlying87 Tryd.underlying5 Tryd.underlying9 ?_
  intro j hj
  exact h j _ (by simp [bytesC, hj])
theorem info_u8 : (Tryd.prog.info? 5).map (fun i => (i.zero, i.size, i.bytes)) = some (some (.int .u8 0), 1, 1) := by kernel_rfl
/-- What stands when the digits of m are laid ahead of bs. -/
def dF (m : Nat) (bs : List UInt8) : List UInt8 := if m = 0 then bs else Lib.decDigits m ++ bs
theorem dF_step {m : Nat} {bs : List UInt8} (h : 0 < m) : dF m bs = dF (m / 10) (UInt8.ofNat (48 + m % 10) :: bs) := by
  unfold dF
  rw [if_neg (by omega)]
  by_cases h1 : m < 10
  · rw [if_pos (by omega), Lib.decDigits, dif_pos h1, Nat.mod_eq_of_lt h1]
    rfl
  · rw [if_neg (by omega), Lib.decDigits, dif_neg h1, List.append_assoc]
    rfl
theorem dF_len {m : Nat} {bs F : List UInt8} (h : dF m bs = F) : bs.length ≤ F.length := by
  rw [← h]
  unfold dF
  split
  · exact Nat.le_refl _
  · rw [List.length_append]; omega
/-- The text of a number. -/
def decT (n : Int) : ByteArray := ⟨(Lib.itoa n).toArray⟩
theorem app45 (bs : List UInt8) : (⟨#[45]⟩ : ByteArray) ++ ⟨bs.toArray⟩ = ⟨(45 :: bs).toArray⟩ := by
  apply ByteArray.ext
  simp [ByteArray.data_append]
theorem itoa_len (n : Int) (h0 : -9223372036854775808 ≤ n) (h1 : n ≤ 9223372036854775807) : (Lib.itoa n).length ≤ 21 := by
  unfold Lib.itoa
  split
  · rw [List.length_cons, Lib.decDigits_length]
    have := Lib.nDigits_le20 n.natAbs (by omega)
    omega
  · rw [Lib.decDigits_length]
    have := Lib.nDigits_le20 n.toNat (by omega)
    omega
theorem decT_size (n : Int) (h0 : -9223372036854775808 ≤ n) (h1 : n ≤ 9223372036854775807) : (decT n).size ≤ 21 := by
  have := itoa_len n h0 h1
  show (Lib.itoa n).toArray.size ≤ 21
  simpa using this

set_option maxHeartbeats 2000000 in
set_option maxRecDepth 100000 in
theorem l01Dec_pos (m0 : Nat) (w : World) (hm : 0 < m0) (hm1 : m0 ≤ 9223372036854775807) :
    Calls Tryd.prog 37 #[.int .i64 (m0 : Int)] w (Ret w (.string (decT (m0 : Int)))) := by
  obtain ⟨i0, hi, hz0, hz1, hz2⟩ := info_parts info_u8
  have HI := Lib.hid (And.intro hi (And.intro hz0 (And.intro hz1 hz2)))
  obtain ⟨F, hF⟩ : ∃ F, Lib.decDigits m0 = F := ⟨_, rfl⟩
  have HX : Hid (dF m0 [] = F) := by show _ = _; unfold dF; rw [if_neg (by omega), List.append_nil, hF]
  have hFl : F.length ≤ 20 := by rw [← hF, Lib.decDigits_length]; exact Lib.nDigits_le20 m0 (by omega)
  have hF1 : 1 ≤ F.length := by
    rw [← hF, Lib.decDigits]
    split <;> simp
  have E : Hid (decT (m0 : Int) = ⟨F.toArray⟩) := by
    show _ = _
    unfold decT Lib.itoa
    rw [if_neg (by omega), Int.toNat_natCast, hF]
  clear hi hz0 hz1 hz2 hF
  go_enter Tryd.func37, Tryd.ntmps37
  go_wp2_with fail
  go_loopw [3, 4] (fun v u w' => ∃ (m : Nat) (bs : List UInt8) (g c : Nat), u = .int .i64 ((m : Int)) ∧ v = .slice (some ⟨g, 0, none⟩) bs.length c ∧ m ≤ m0 ∧ Hid (BytesAt w' g bs) ∧ Hid (dF m bs = F) ∧ Below w.heap.size w w') (fun _ u _ => (intOf u).natAbs)
  case atStart => exact ⟨m0, [], w.heap.size, 0, rfl, rfl, Nat.le_refl _, fun j u h => by simp [bytesC] at h, HX, by go_grown⟩
  case round =>
    clear HX
    obtain ⟨m, bs, g, c, rfl, rfl, hmm, HB, HX, hbel⟩ := hrel
    have hbl : bs.length ≤ 20 := by have := dF_len HX.out; omega
    rcases Nat.eq_zero_or_pos m with rfl | hpos
    · have hbs : bs = F := by have h5 := HX.out; unfold dF at h5; rw [if_pos rfl] at h5; exact h5
      have hcv := conv_bytes wr g c bs HB.out
      have hsz : (⟨bs.toArray⟩ : ByteArray).size = bs.length := by simp [ByteArray.size]
      have hbl1 : 1 ≤ bs.length := by rw [hbs]; exact hF1
      have hne : ((bs.length : Int) == 0) = false := by rw [beq_eq_false_iff_ne]; omega
      have HBS := Lib.hid hbs
      have hlt0 : ¬ ((m0 : Int) < 0) := by omega
      clear hbs
      go_wp2_with fail
      go_ret
      rw [E.out, ← HBS.out]
      exact ⟨rfl, hbel⟩
    · have HX2 : Hid (dF (m / 10) (UInt8.ofNat (48 + m % 10) :: bs) = F) := by show _ = _; rw [← dF_step hpos]; exact HX.out
      have hne : (((m : Int)) != 0) = true := by simp; omega
      have hne2 : (((m : Int)) == 0) = false := by rw [beq_eq_false_iff_ne]; omega
      have e1 : ((m : Int)).tmod 10 = ((m % 10 : Nat) : Int) := by rw [Int.ofNat_tmod]; rfl
      have e2 : ((m : Int)).tdiv 10 = ((m / 10 : Nat) : Int) := by rw [Int.ofNat_tdiv]; rfl
      have e3 : IntKind.u8.wrap (48 + ((m % 10 : Nat) : Int)) = 48 + ((m % 10 : Nat) : Int) := by rw [IntKind.wrap_u8]; omega
      obtain ⟨q, hq⟩ : ∃ q, m / 10 = q := ⟨_, rfl⟩
      obtain ⟨r, hr⟩ : ∃ r, m % 10 = r := ⟨_, rfl⟩
      have hr10 : r < 10 := by omega
      have hq10 : q < m := by omega
      rw [hr] at e1 e3 HX2
      rw [hq] at e2 HX2
      have hub : ((UInt8.ofNat (48 + r)).toNat : Int) = 48 + (r : Int) := by simp; omega
      have HUB := Lib.hid hub
      have hws := hbel.size
      have hlt : ¬ ((r : Int) < 0) := by omega
      clear hub hq hr HX
      go_wp2_with (at_builtin; refine wpList_append_own _ rfl _ _ 87 rfl w.heap.size 5 i0 (.int .u8 0) 1 1 Tryd.underlying87 HI.out.1 HI.out.2.1 HI.out.2.2.1 HI.out.2.2.2 rfl (by decide) _ 1 [.int .u8 (48 + (r : Int))] rfl (World.ownsRow_lit (base := w.heap.size) (e := 5) (size := 1) wr #[.int .u8 (48 + (r : Int))] 1 hws (by unfold maxLen; omega) rfl) ⟨g, 0, none⟩ bs.length c (bytesC bs) rfl (by simp [bytesC]) (HB.out.bel (show Below wr.heap.size wr _ from by go_grown)) (bytesC_one bs) ?c3 ?c4 ?c5 ?_)
      try case c3 => unfold maxLen; omega
      try case c4 => omega
      try case c5 => first | (simp; omega) | omega
      intro v' w4 hown1 hgrow _
      obtain ⟨g4, c4, rfl, hg4, -⟩ := hown1.form (by omega)
      have HB4 : Hid (BytesAt w4 g4 (UInt8.ofNat (48 + r) :: bs)) := by
        show BytesAt w4 g4 (UInt8.ofNat (48 + r) :: bs)
        intro j u hu
        refine hown1.cells rfl j u ?_
        have e5 : bytesC (UInt8.ofNat (48 + r) :: bs) = Value.int .u8 (48 + (r : Int)) :: bytesC bs := by
          unfold bytesC
          rw [List.map_cons, HUB.out]
        rw [← hu, e5]
      have hb4 : Below w.heap.size w w4 := Below.grown (bel_next hbel (by go_grown)) hgrow (by simp; omega) (fun k hk => by simp [Value.ownBlock] at hk; omega)
      have hle : 1 + bs.length = (UInt8.ofNat (48 + r) :: bs).length := by simp; omega
      rw [hle]
      clear hown1 hgrow hle
      go_wp2_with fail
      go_roundw
      case rel => exact ⟨q, UInt8.ofNat (48 + r) :: bs, g4, c4, by go_num, rfl, by omega, HB4, HX2, hb4⟩
      case measure => simp [intOf]; omega


set_option maxHeartbeats 2000000 in
set_option maxRecDepth 100000 in
theorem l01Dec_neg (m0 : Nat) (w : World) (hm : 0 < m0) (hm1 : m0 ≤ 9223372036854775808) :
    Calls Tryd.prog 37 #[.int .i64 (-(m0 : Int))] w (Ret w (.string (decT (-(m0 : Int))))) := by
  obtain ⟨i0, hi, hz0, hz1, hz2⟩ := info_parts info_u8
  have HI := Lib.hid (And.intro hi (And.intro hz0 (And.intro hz1 hz2)))
  obtain ⟨F, hF⟩ : ∃ F, Lib.decDigits m0 = F := ⟨_, rfl⟩
  have HX : Hid (dF m0 [] = F) := by show _ = _; unfold dF; rw [if_neg (by omega), List.append_nil, hF]
  have hFl : F.length ≤ 20 := by rw [← hF, Lib.decDigits_length]; exact Lib.nDigits_le20 m0 (by omega)
  have hF1 : 1 ≤ F.length := by
    rw [← hF, Lib.decDigits]
    split <;> simp
  have E : Hid (decT (-(m0 : Int)) = (⟨#[45]⟩ : ByteArray) ++ ⟨F.toArray⟩) := by
    show _ = _
    unfold decT Lib.itoa
    rw [if_pos (by omega), show (-(m0 : Int)).natAbs = m0 by omega, hF, app45]
  clear hi hz0 hz1 hz2 hF
  go_enter Tryd.func37, Tryd.ntmps37
  go_wp2_with fail
  go_loopw [3, 4] (fun v u w' => ∃ (m : Nat) (bs : List UInt8) (g c : Nat), u = .int .i64 (-(m : Int)) ∧ v = .slice (some ⟨g, 0, none⟩) bs.length c ∧ m ≤ m0 ∧ Hid (BytesAt w' g bs) ∧ Hid (dF m bs = F) ∧ Below w.heap.size w w') (fun _ u _ => (intOf u).natAbs)
  case atStart => exact ⟨m0, [], w.heap.size, 0, rfl, rfl, Nat.le_refl _, fun j u h => by simp [bytesC] at h, HX, by go_grown⟩
  case round =>
    clear HX
    obtain ⟨m, bs, g, c, rfl, rfl, hmm, HB, HX, hbel⟩ := hrel
    have hbl : bs.length ≤ 20 := by have := dF_len HX.out; omega
    rcases Nat.eq_zero_or_pos m with rfl | hpos
    · have hbs : bs = F := by have h5 := HX.out; unfold dF at h5; rw [if_pos rfl] at h5; exact h5
      have hcv := conv_bytes wr g c bs HB.out
      have hsz : (⟨bs.toArray⟩ : ByteArray).size = bs.length := by simp [ByteArray.size]
      have hbl1 : 1 ≤ bs.length := by rw [hbs]; exact hF1
      have hne : ((bs.length : Int) == 0) = false := by rw [beq_eq_false_iff_ne]; omega
      have HBS := Lib.hid hbs
      have hlt0 : -(m0 : Int) < 0 := by omega
      clear hbs
      go_wp2_with fail
      go_ret
      rw [E.out, ← HBS.out]
      exact ⟨rfl, hbel⟩
    · have HX2 : Hid (dF (m / 10) (UInt8.ofNat (48 + m % 10) :: bs) = F) := by show _ = _; rw [← dF_step hpos]; exact HX.out
      have hne : ((-(m : Int)) != 0) = true := by simp; omega
      have hne2 : ((-(m : Int)) == 0) = false := by rw [beq_eq_false_iff_ne]; omega
      have e1 : (-(m : Int)).tmod 10 = -((m % 10 : Nat) : Int) := by rw [Int.neg_tmod, Int.ofNat_tmod]; rfl
      have e2 : (-(m : Int)).tdiv 10 = -((m / 10 : Nat) : Int) := by rw [Int.neg_tdiv, Int.ofNat_tdiv]; rfl
      have e3 : IntKind.u8.wrap (48 + ((m % 10 : Nat) : Int)) = 48 + ((m % 10 : Nat) : Int) := by rw [IntKind.wrap_u8]; omega
      obtain ⟨q, hq⟩ : ∃ q, m / 10 = q := ⟨_, rfl⟩
      obtain ⟨r, hr⟩ : ∃ r, m % 10 = r := ⟨_, rfl⟩
      have hr10 : r < 10 := by omega
      have hq10 : q < m := by omega
      rw [hr] at e1 e3 HX2
      rw [hq] at e2 HX2
      have hub : ((UInt8.ofNat (48 + r)).toNat : Int) = 48 + (r : Int) := by simp; omega
      have HUB := Lib.hid hub
      have hws := hbel.size
      have hwn : IntKind.i64.wrap (- -(r : Int)) = (r : Int) := by rw [IntKind.wrap_i64]; omega
      clear hub hq hr HX
      rcases Nat.eq_zero_or_pos r with hr0 | hr0
      · have hlt : ¬ (-(r : Int) < 0) := by omega
        have hz : -(r : Int) = (r : Int) := by omega
        have hgn : Value.int IntKind.i64 (-(q : Int)) = Value.int IntKind.i64 (-(q : Int)) := rfl
        rw [hz] at e1
        clear hr0 hz hlt
        go_wp2_with (at_builtin; refine wpList_append_own _ rfl _ _ 87 rfl w.heap.size 5 i0 (.int .u8 0) 1 1 Tryd.underlying87 HI.out.1 HI.out.2.1 HI.out.2.2.1 HI.out.2.2.2 rfl (by decide) _ 1 [.int .u8 (48 + (r : Int))] rfl (World.ownsRow_lit (base := w.heap.size) (e := 5) (size := 1) wr #[.int .u8 (48 + (r : Int))] 1 hws (by unfold maxLen; omega) rfl) ⟨g, 0, none⟩ bs.length c (bytesC bs) rfl (by simp [bytesC]) (HB.out.bel (show Below wr.heap.size wr _ from by go_grown)) (bytesC_one bs) ?c3 ?c4 ?c5 ?_)
        try case c3 => unfold maxLen; omega
        try case c4 => omega
        try case c5 => first | (simp; omega) | omega
        intro v' w4 hown1 hgrow _
        obtain ⟨g4, c4, rfl, hg4, -⟩ := hown1.form (by omega)
        have HB4 : Hid (BytesAt w4 g4 (UInt8.ofNat (48 + r) :: bs)) := by
          show BytesAt w4 g4 (UInt8.ofNat (48 + r) :: bs)
          intro j u hu
          refine hown1.cells rfl j u ?_
          have e5 : bytesC (UInt8.ofNat (48 + r) :: bs) = Value.int .u8 (48 + (r : Int)) :: bytesC bs := by
            unfold bytesC
            rw [List.map_cons, HUB.out]
          rw [← hu, e5]
        have hb4 : Below w.heap.size w w4 := Below.grown (bel_next hbel (by go_grown)) hgrow (by simp; omega) (fun k hk => by simp [Value.ownBlock] at hk; omega)
        have hle : 1 + bs.length = (UInt8.ofNat (48 + r) :: bs).length := by simp; omega
        rw [hle]
        clear hown1 hgrow hle
        go_wp2_with fail
        go_roundw
        case rel => exact ⟨q, UInt8.ofNat (48 + r) :: bs, g4, c4, by go_num, rfl, by omega, HB4, HX2, hb4⟩
        case measure => simp [intOf]; omega
      · have hlt : -(r : Int) < 0 := by omega
        go_wp2_with (at_builtin; refine wpList_append_own _ rfl _ _ 87 rfl w.heap.size 5 i0 (.int .u8 0) 1 1 Tryd.underlying87 HI.out.1 HI.out.2.1 HI.out.2.2.1 HI.out.2.2.2 rfl (by decide) _ 1 [.int .u8 (48 + (r : Int))] rfl (World.ownsRow_lit (base := w.heap.size) (e := 5) (size := 1) wr #[.int .u8 (48 + (r : Int))] 1 hws (by unfold maxLen; omega) rfl) ⟨g, 0, none⟩ bs.length c (bytesC bs) rfl (by simp [bytesC]) (HB.out.bel (show Below wr.heap.size wr _ from by go_grown)) (bytesC_one bs) ?d3 ?d4 ?d5 ?_)
        try case d3 => unfold maxLen; omega
        try case d4 => omega
        try case d5 => first | (simp; omega) | omega
        intro v' w4 hown1 hgrow _
        obtain ⟨g4, c4, rfl, hg4, -⟩ := hown1.form (by omega)
        have HB4 : Hid (BytesAt w4 g4 (UInt8.ofNat (48 + r) :: bs)) := by
          show BytesAt w4 g4 (UInt8.ofNat (48 + r) :: bs)
          intro j u hu
          refine hown1.cells rfl j u ?_
          have e5 : bytesC (UInt8.ofNat (48 + r) :: bs) = Value.int .u8 (48 + (r : Int)) :: bytesC bs := by
            unfold bytesC
            rw [List.map_cons, HUB.out]
          rw [← hu, e5]
        have hb4 : Below w.heap.size w w4 := Below.grown (bel_next hbel (by go_grown)) hgrow (by simp; omega) (fun k hk => by simp [Value.ownBlock] at hk; omega)
        have hle : 1 + bs.length = (UInt8.ofNat (48 + r) :: bs).length := by simp; omega
        rw [hle]
        clear hown1 hgrow hle
        go_wp2_with fail
        go_roundw
        case rel => exact ⟨q, UInt8.ofNat (48 + r) :: bs, g4, c4, by go_num, rfl, by omega, HB4, HX2, hb4⟩
        case measure => simp [intOf]; omega


theorem l01Dec_any (n : Int) (w : World) (h0 : -9223372036854775808 ≤ n) (h1 : n ≤ 9223372036854775807) :
    Calls Tryd.prog 37 #[.int .i64 n] w (Ret w (.string (decT n))) := by
  rcases (show n = 0 ∨ 0 < n ∨ n < 0 by omega) with rfl | h | h
  · have E : Hid (decT 0 = ⟨#[48]⟩) := by show _ = _; unfold decT Lib.itoa; rw [if_neg (by omega), show (0 : Int).toNat = 0 from rfl, Lib.decDigits, dif_pos (by omega)]; rfl
    go_enter Tryd.func37, Tryd.ntmps37
    go_wp2_with fail
    go_loopw [3, 4] (fun v u w' => u = .int .i64 0 ∧ v = .slice (some ⟨w.heap.size, 0, none⟩) 0 0 ∧ Below w.heap.size w w') (fun _ _ _ => 0)
    case atStart => exact ⟨rfl, rfl, by go_grown⟩
    case round =>
      obtain ⟨rfl, rfl, hbel⟩ := hrel
      go_wp2_with fail
      go_ret
      rw [E.out]
      exact ⟨rfl, hbel⟩
  · obtain ⟨m, rfl⟩ : ∃ m : Nat, n = m := ⟨n.toNat, by omega⟩
    exact l01Dec_pos m w (by omega) (by omega)
  · obtain ⟨m, rfl⟩ : ∃ m : Nat, n = -(m : Int) := ⟨n.natAbs, by omega⟩
    exact l01Dec_neg m w (by omega) (by omega)

/-- The table of powers stands in its variable. -/
def Tab (w : World) : Prop := Lib.TabIs Tryd.prog w "internal/strconv.uint64pow10" .u64 Lib.pow10Tab
theorem gTab : Tryd.prog.globalNamed "internal/strconv.uint64pow10" = some 2 := by kernel_rfl
theorem Tab.bel {w w' : World} (h : Tab w) (hb : Below w.heap.size w w') : Tab w' := var?_below hb gTab (World.block_lt_of_cell? (a := ⟨_, 0, none⟩) w (Lib.TabIs.cell h gTab 0 (by decide))) h
theorem implDec_any (n : Int) (w : World) (h0 : -9223372036854775808 ≤ n) (h1 : n ≤ 9223372036854775807) (ht : Tab w) :
    Calls Tryd.prog 13 #[.int .i64 n] w (Ret w (.string (decT n))) := by
  go_enter Tryd.func13, Tryd.ntmps13
  go_wp2_with fail
  refine (Tryd.strconv_FormatInt_10 n h0 h1 _ ht).mono ?_
  rintro e w1 ⟨rfl, k, os, rfl⟩
  have hb := Lib.below_grow w.heap.size w (Nat.le_refl _) k os
  go_wp2_with fail
  go_ret
  exact ⟨rfl, hb⟩
theorem specDec_any (n : Int) (w : World) (h0 : -9223372036854775808 ≤ n) (h1 : n ≤ 9223372036854775807) :
    Calls Tryd.prog 12 #[.int .i64 n] w (Ret w (.string (decT n))) := by
  go_enter Tryd.func12, Tryd.ntmps12
  go_wp2_with fail
  refine (l01Dec_any n _ h0 h1).mono ?_
  rintro e w1 ⟨rfl, hb⟩
  go_wp2_with fail
  go_ret
  exact ⟨rfl, hb⟩

end Go.Proofs.YtlblnknglplgjaaDoor
