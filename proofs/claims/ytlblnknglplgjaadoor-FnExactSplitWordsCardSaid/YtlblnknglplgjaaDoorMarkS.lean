/-
  CONTRACTS: marks written over a slice of strings, and looked for afterwards.
-/
import Derived.Test.YtlblnknglplgjaaDoorMark
import Derived.Test.YtlblnknglplgjaaDoorStr
import Derived.Laws.IdiomStrings
namespace Go.Proofs.YtlblnknglplgjaaDoor
open Go.RowKit

/-- The text of one digit. -/
def dgt (n : Nat) : ByteArray := ⟨#[UInt8.ofNat (48 + n % 10)]⟩
def mtF : Nat → Nat → ByteArray → ByteArray
  | 0, _, s => s
  | f + 1, n, s => if n = 0 then s else mtF f (n / 10) (dgt n ++ s)
/-- The text of a mark. -/
def markTx (n : Nat) : ByteArray := if n = 0 then ⟨#[109, 48]⟩ else (⟨#[109]⟩ : ByteArray) ++ mtF n n ⟨#[]⟩
theorem mtF_zero (f : Nat) (s : ByteArray) : mtF f 0 s = s := by cases f <;> simp [mtF]

theorem conv_dgt (w : World) (g m : Nat) (h : w.cell? ⟨g, 0, none⟩ = some (.int .u8 (48 + (m : Int) % 10))) :
    (convert 87 9 (.slice (some ⟨g, 0, none⟩) 1 1)).run Tryd.prog w = .ok (.string (dgt m)) w := by
  refine run_convert_bytes_back (P := Tryd.prog) w 87 9 5 ⟨g, 0, none⟩ 1 [UInt8.ofNat (48 + m % 10)] Tryd.underlying87 Tryd.underlying5 Tryd.underlying9 ?_
  intro j hj
  obtain rfl : j = 0 := by simpa using hj
  rw [Addr.add_lit, h]
  simp
  omega

set_option maxRecDepth 100000 in
set_option maxHeartbeats 2000000 in
theorem markText_any (n : Nat) (w : World) (hn : n ≤ 1100000000) :
    Calls Tryd.prog 48 #[.int .i64 n] w (Ret w (.string (markTx n))) := by
  rcases Nat.eq_zero_or_pos n with rfl | hpos
  · go_enter Tryd.func48, Tryd.ntmps48
    go_wp2_with fail
    go_ret
    exact ⟨rfl, Below.refl _ _⟩
  · have E : Hid (mtF n n ⟨#[]⟩ = mtF n n ⟨#[]⟩) := rfl
    have E2 : Hid (markTx n = (⟨#[109]⟩ : ByteArray) ++ mtF n n ⟨#[]⟩) := by show _ = _; unfold markTx; rw [if_neg (by omega)]
    obtain ⟨T, hT⟩ : ∃ T, mtF n n ⟨#[]⟩ = T := ⟨_, rfl⟩
    have HT : Hid (mtF n n ⟨#[]⟩ = T) := hT
    rw [hT] at E2
    clear E hT
    go_enter Tryd.func48, Tryd.ntmps48
    go_wp2_with fail
    go_loopw [0, 3] (fun u v w' => ∃ (m f : Nat) (s : ByteArray), u = .int .i64 m ∧ v = .string s ∧ m ≤ f ∧ f ≤ n ∧ s.size + m ≤ n ∧ Hid (mtF f m s = T) ∧ Below w.heap.size w w') (fun u _ _ => (intOf u).toNat)
    case atStart => exact ⟨n, n, ⟨#[]⟩, rfl, rfl, Nat.le_refl _, Nat.le_refl _, by simp [ByteArray.size], HT, Below.refl _ _⟩
    case round =>
      clear HT
      obtain ⟨m, f, s, rfl, rfl, hmf, hfn, hsz, HT, hbel⟩ := hrel
      rcases Nat.eq_zero_or_pos m with rfl | hm0
      · have HE : Hid (s = T) := by show _ = _; rw [← HT.out, mtF_zero]
        go_wp2_with fail
        go_ret
        rw [E2.out, ← HE.out]
        exact ⟨rfl, hbel⟩
      · obtain ⟨f', rfl⟩ : ∃ f', f = f' + 1 := ⟨f - 1, by omega⟩
        have HE : Hid (mtF f' (m / 10) (dgt m ++ s) = T) := by show _ = _; rw [← HT.out, mtF, if_neg (by omega)]
        have e1 : (m : Int).tmod 10 = ((m % 10 : Nat) : Int) := by rw [Int.ofNat_tmod]; rfl
        have e2 : (m : Int).tdiv 10 = ((m / 10 : Nat) : Int) := by rw [Int.ofNat_tdiv]; rfl
        have e3 : IntKind.u8.wrap (48 + ((m % 10 : Nat) : Int)) = 48 + ((m % 10 : Nat) : Int) := by rw [IntKind.wrap_u8]; omega
        have hd : (dgt m).size = 1 := rfl
        have hws := hbel.size
        have hcv := conv_dgt (wr.alloc (.cells #[.int .u8 (48 + (m : Int) % 10)] 5)) wr.heap.size m (by simp)
        clear HT
        go_wp2_with fail
        go_roundw
        case rel => exact ⟨m / 10, f', dgt m ++ s, by go_num, rfl, by omega, by omega, by simp [ByteArray.size_append]; omega, HE, by go_grown⟩
        case measure => simp [intOf]; omega

theorem markText_sum (m i : Nat) (w : World) (hn : m + i ≤ 1100000000) :
    Calls Tryd.prog 48 #[.int .i64 ((m : Int) + (i : Int))] w (Ret w (.string (markTx (m + i)))) := markText_any (m + i) w hn
def marksS (m n : Nat) : List ByteArray := (List.range n).map fun k => markTx (m + k)
theorem marksS_len (m n : Nat) : (marksS m n).length = n := by simp [marksS]
theorem marksS_at {m n i : Nat} (h : i < (marksS m n).length) : (marksS m n)[i] = markTx (m + i) := by simp [marksS]
/-- Marks stand in a slice of strings, and nothing else has turned. -/
def MarkedS (w : World) (A : Option Addr) (n m : Nat) (e : Ending) (w' : World) : Prop :=
  e = .returned (.int .i64 ((m + n : Nat) : Int)) ∧ StrsAt w' A (marksS m n) ∧ But A w w'
theorem StrsAt.but {A B : Option Addr} {w w' : World} {l : List ByteArray} (h : StrsAt w A l) (hb : But B w w') (hne : 0 < l.length → ∀ p q, A = some p → B = some q → q.block ≠ p.block) : StrsAt w' A l := fun h0 => by
  obtain ⟨b, o, e, hlt, hc⟩ := h h0
  exact ⟨b, o, e, Nat.lt_of_lt_of_le hlt hb.size, fun k hk => hb.cell (fun q hq => hne h0 _ q e hq) (hc k hk)⟩
theorem StrsAt.src {A : Option Addr} {w : World} {l : List ByteArray} (h : StrsAt w A l) : 0 < l.length → ∀ p, A = some p → p.block < w.heap.size := fun h0 p hp => by
  obtain ⟨b, o, e, hlt, _⟩ := h h0
  rw [e] at hp
  injection hp with hp
  subst hp
  exact hlt
theorem Own.ofStrs {w : World} {g n : Nat} {t : TypeId} {l : List ByteArray} (h : Hid (Blk w g t (strB l))) (hl : n = l.length) : Own w (some ⟨g, 0, none⟩) n :=
  Own.ofBlk h.out (by simp [strB, hl])

set_option maxHeartbeats 2000000 in
theorem markStringS_any (A : Option Addr) (n c m : Nat) (w : World) (h : Own w A n) (hn0 : n ≤ 9000000) (m1 : m ≤ 1000000000) :
    Calls Tryd.prog 23 #[.slice A n c, .int .i64 m] w (MarkedS w A n m) := by
  rcases Nat.eq_zero_or_pos n with rfl | hpos
  · go_enter Tryd.func23, Tryd.ntmps23
    go_wp2_with fail
    go_loopw [1, 5] (fun x y w' => x = .int .i64 m ∧ y = .int .i64 0 ∧ w' = w) (fun _ _ _ => 0)
    case atStart => exact ⟨rfl, rfl, rfl⟩
    case round =>
      obtain ⟨rfl, rfl, rfl⟩ := hrel
      go_wp2_with fail
      go_ret
      exact ⟨by simp, fun h0 => absurd h0 (by simp [marksS]), But.refl _ _⟩
  · obtain ⟨g, t, cs0, rfl, hB0, hs0⟩ := h hpos
    clear h
    go_enter Tryd.func23, Tryd.ntmps23
    go_wp2_with fail
    go_loopw [1, 5] (fun x y w' => ∃ (i : Nat) (cs : Array Value), x = .int .i64 (m + i : Nat) ∧ y = .int .i64 i ∧ i ≤ n ∧ Hid (Blk w' g t cs) ∧ n ≤ cs.size ∧ Hid (∀ k, k < i → cs[k]? = some (.string (markTx (m + k)))) ∧ But (some ⟨g, 0, none⟩) w w') (fun _ y _ => n - (intOf y).toNat)
    case atStart => exact ⟨0, cs0, by simp, rfl, by omega, hB0, hs0, fun k hk => absurd hk (by omega), But.refl _ _⟩
    case round =>
      obtain ⟨i, cs, rfl, rfl, hin, HB, hsz, HF, hbut⟩ := hrel
      by_cases hlt : i < n
      · have HF2 : Hid (∀ k, k < i + 1 → (cs.setIfInBounds i (.string (markTx (m + i))))[k]? = some (.string (markTx (m + k)))) := by
          show ∀ k, _
          intro k hk
          by_cases e : k = i
          · subst e
            simp [Array.getElem?_setIfInBounds]
            omega
          · rw [Array.getElem?_setIfInBounds_ne (by omega)]; exact HF.out k (by omega)
        go_wp2_with fail
        refine (markText_any (m + i) _ (by omega)).mono ?_
        rintro e w2 ⟨rfl, hb2⟩
        have HB2 := hid_blk HB hb2
        have hbut2 := hbut.trans (But.ofBelow (A := some ⟨g, 0, none⟩) hb2)
        have x0 : w2.cell? ⟨g, i, none⟩ = some (cs[i]'(by omega)) := by rw [HB2.out.cell]; exact Array.getElem?_eq_getElem _
        have f0 := HB2.out.frozen i
        obtain ⟨tx, htx⟩ : ∃ tx, markTx (m + i) = tx := ⟨_, rfl⟩
        rw [htx] at HF2 ⊢
        clear hbut HB HF hb2 htx
        go_wp2_with fail
        go_roundw
        case rel => exact ⟨i + 1, _, by go_num, by go_num, by omega, HB2.out.set_ _ _, by simpa using hsz, HF2, hbut2.set rfl _⟩
        case measure => simp [intOf]; omega
      · have hie : i = n := by omega
        subst hie
        go_wp2_with fail
        go_ret
        refine ⟨rfl, fun _ => ⟨g, 0, rfl, HB.out.lt, fun k hk => ?_⟩, hbut⟩
        rw [Nat.zero_add, HB.out.cell, marksS_at]
        exact HF.out k (by rw [marksS_len] at hk; exact hk)

set_option maxHeartbeats 2000000 in
theorem heldStringS_any (A : Option Addr) (n c m : Nat) (w : World) (h : StrsAt w A (marksS m n)) (hn0 : n ≤ 9000000) (m1 : m ≤ 1000000000) :
    Calls Tryd.prog 24 #[.slice A n c, .int .i64 m] w (Ret w (.int .i64 ((m + n : Nat) : Int))) := by
  have H := Lib.hid h
  clear h
  go_enter Tryd.func24, Tryd.ntmps24
  go_wp2_with fail
  go_loopw [1, 5] (fun x y w' => ∃ (i : Nat), x = .int .i64 (m + i : Nat) ∧ y = .int .i64 i ∧ i ≤ n ∧ Below w.heap.size w w') (fun _ y _ => n - (intOf y).toNat)
  case atStart => exact ⟨0, by simp, rfl, by omega, Below.refl _ _⟩
  case round =>
    obtain ⟨i, rfl, rfl, hin, hbel⟩ := hrel
    by_cases hlt : i < n
    · obtain ⟨b, o, rfl, hblt, hc⟩ := H.out (by rw [marksS_len]; omega)
      have c0 := bel_cell hbel (hc i (by rw [marksS_len]; exact hlt))
      rw [marksS_at] at c0
      have hmi : m + i ≤ 1100000000 := by omega
      have hrs := Lib.hid (cell_lt c0)
      obtain ⟨tx, htx⟩ : ∃ tx, markTx (m + i) = tx := ⟨_, rfl⟩
      have HTX := Lib.hid htx
      rw [htx] at c0
      clear hc htx
      go_wp2_with fail
      go_region_held3 (fun w' => w'.cell? ⟨b, o + i, none⟩ = some (.string tx) ∧ Below w.heap.size w w')
        (first
          | (refine ⟨c0, ?_⟩; go_grown; done)
          | (have hS := ‹_ ∧ _›; exact ⟨bel_cell hbR hS.1, bel_next hS.2 hbR⟩))
        (first
          | (go_at_call 48; (with_reducible refine (markText_sum m i _ hmi).mono ?_); rintro e w5 ⟨rfl, hbR⟩; rw [HTX.out]))
      obtain ⟨-, hb2⟩ := ‹_ ∧ _›
      go_wp2_with fail
      go_roundw
      case rel => exact ⟨i + 1, by go_num, by go_num, by omega, hb2⟩
      case measure => simp [intOf]; omega
    · have hie : i = n := by omega
      subst hie
      go_wp2_with fail
      go_ret
      exact ⟨rfl, hbel⟩

end Go.Proofs.YtlblnknglplgjaaDoor
