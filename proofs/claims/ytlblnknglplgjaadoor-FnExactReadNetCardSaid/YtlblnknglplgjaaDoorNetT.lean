/-
  CONTRACTS: the text of a network (printed by tools/gen_nett.py).
-/
import Derived.Test.YtlblnknglplgjaaDoorDec
import Derived.Test.YtlblnknglplgjaaDoorNetV
import Derived.Test.YtlblnknglplgjaaDoorShelfJ
import Derived.Lib.Join
import Derived.Deep.RegionLaw
namespace Go.Proofs.YtlblnknglplgjaaDoor
open Go.RowKit

def tubeT (t : Tb) : ByteArray := decT t.1 ++ ⟨#[62]⟩ ++ decT t.2.1 ++ ⟨#[42]⟩ ++ decT t.2.2
def stepT (s : ByteArray) (t : Tb) : ByteArray := s ++ (⟨#[32]⟩ ++ decT t.1 ++ ⟨#[62]⟩ ++ decT t.2.1 ++ ⟨#[42]⟩ ++ decT t.2.2)
def headT (S : Int) : ByteArray := decT S ++ ⟨#[58]⟩
def netT (S : Int) (l : List Tb) : ByteArray := l.foldl stepT (headT S)
/-- The text of a network, or nothing. -/
def netTx (S : Int) (l : List Tb) : ByteArray := if validN S l then netT S l else ⟨#[]⟩
theorem stepT_step {s : ByteArray} {l : List Tb} {i : Nat} (h : i < l.length) : (l.drop i).foldl stepT s = (l.drop (i + 1)).foldl stepT (stepT s l[i]) := by
  rw [drop_at' h, List.foldl_cons]
theorem stepT_list (s : ByteArray) (t : Tb) : (stepT s t).data.toList = s.data.toList ++ ([32] ++ (tubeT t).data.toList) := by
  unfold stepT tubeT
  simp [ByteArray.data_append]
theorem foldT_list : ∀ (l : List Tb) (s : ByteArray), (l.foldl stepT s).data.toList = s.data.toList ++ Lib.joinTail [32] ((l.map tubeT).map (·.data.toList))
  | [], s => by simp [Lib.joinTail]
  | t :: l, s => by
    rw [List.foldl_cons, foldT_list l, stepT_list]
    simp [Lib.joinTail]
theorem netT_join (S : Int) (l : List Tb) : (⟨(Lib.join ((headT S :: l.map tubeT).map (·.data.toList)) (⟨#[32]⟩ : ByteArray).data.toList).toArray⟩ : ByteArray) = netT S l := by
  apply ByteArray.ext
  rw [List.map_cons, Lib.join_cons]
  apply Array.toList_inj.1
  unfold netT
  rw [foldT_list]
theorem netT_len (S : Int) (l : List Tb) : (Lib.join ((headT S :: l.map tubeT).map (·.data.toList)) (⟨#[32]⟩ : ByteArray).data.toList).length = (netT S l).size := by
  rw [← netT_join]
  show _ = (List.toArray _).size
  simp
theorem tubeT_size {t : Tb} {S : Int} (s1 : S ≤ 10) (h : validTube t S = true) : (tubeT t).size ≤ 65 := by
  simp only [validTube, Bool.and_eq_true] at h
  have h0 := inB_true h.1.1.1
  have h1 := inB_true h.1.1.2
  have h2 := inB_true h.2
  have z0 := decT_size t.1 (by omega) (by omega)
  have z1 := decT_size t.2.1 (by omega) (by omega)
  have z2 := decT_size t.2.2 (by omega) (by omega)
  unfold tubeT
  simp only [ByteArray.size_append]
  have e1 : (⟨#[62]⟩ : ByteArray).size = 1 := rfl
  have e2 : (⟨#[42]⟩ : ByteArray).size = 1 := rfl
  omega
theorem stepT_size (s : ByteArray) (t : Tb) : (stepT s t).size = s.size + 1 + (tubeT t).size := by
  unfold stepT tubeT
  simp only [ByteArray.size_append]
  have e0 : (⟨#[32]⟩ : ByteArray).size = 1 := rfl
  omega
theorem foldT_size {S : Int} (s1 : S ≤ 10) : ∀ (l : List Tb) (s : ByteArray), l.all (fun t => validTube t S) = true → (l.foldl stepT s).size ≤ s.size + 66 * l.length
  | [], s, _ => by simp
  | t :: l, s, h => by
    rw [List.all_cons, Bool.and_eq_true] at h
    have h1 := foldT_size s1 l (stepT s t) h.2
    have h2 := tubeT_size s1 h.1
    rw [stepT_size] at h1
    rw [List.foldl_cons, List.length_cons]
    omega
theorem headT_size {S : Int} (s0 : 2 ≤ S) (s1 : S ≤ 10) : (headT S).size ≤ 22 := by
  have := decT_size S (by omega) (by omega)
  unfold headT
  simp only [ByteArray.size_append]
  have e0 : (⟨#[58]⟩ : ByteArray).size = 1 := rfl
  omega
theorem netT_size {S : Int} {l : List Tb} (h : validN S l = true) : (netT S l).size ≤ 1606 := by
  obtain ⟨s0, s1, h24, ha⟩ := validN_true h
  have := foldT_size s1 l (headT S) ha
  have := headT_size s0 s1
  unfold netT
  omega
theorem info_strN : (Tryd.prog.info? 9).map (fun i => (i.zero, i.size, i.bytes)) = some (some (.string ByteArray.empty), 1, 16) := by kernel_rfl
theorem strs_oneN (l : List ByteArray) : ∀ u ∈ l.map Value.string, u.oneCell' = true := by
  intro u hu
  obtain ⟨s, -, rfl⟩ := List.mem_map.1 hu
  rfl
theorem own_belN {w w' : World} {base n size : Nat} {t : TypeId} {v : Value} {xs : List Value} (h : w.ownsRow base t size v n xs) (hb : Below w.heap.size w w') : w'.ownsRow base t size v n xs := by
  refine ⟨h.1, ?_⟩
  rcases h.2 with hn | ⟨g, cap, cur, hv, hg, hB, rest⟩
  · exact .inl hn
  · exact .inr ⟨g, cap, cur, hv, hg, bel_blk (t := t) hB hb, rest⟩
theorem own_newN (w : World) {base : Nat} (s : ByteArray) (hb : base ≤ w.heap.size) : (w.alloc (.cells #[.string s] 9)).ownsRow base 9 1 (.slice (some ⟨w.heap.size, 0, none⟩) 1 1) 1 ([s].map Value.string) :=
  ⟨rfl, .inr ⟨w.heap.size, 1, #[.string s], rfl, hb, heap_alloc_new w _, by omega, by unfold maxLen; omega, rfl, rfl⟩⟩

set_option maxHeartbeats 4000000 in
theorem l02Text_any (b : Nat) (S : Int) (A : Option Addr) (n c : Nat) (l : List Tb) (w : World) (h : NetAt w b S A n c l) (hl : n = l.length) (hv : validN S l = true) :
    Calls Tryd.prog 56 #[.pointer (some ⟨b, 0, none⟩)] w (Ret w (.string (netT S l))) := by
  obtain ⟨s0, s1, h24, ha⟩ := validN_true hv
  obtain ⟨c0, c1, hts⟩ := h
  have H := Lib.hid hts
  have HL := Lib.hid hl
  have HA := Lib.hid ha
  have hn24 : n ≤ 24 := by omega
  have HE : Hid ((l.drop 0).foldl stepT (decT S ++ ⟨#[58]⟩) = netT S l) := rfl
  obtain ⟨F, hF⟩ : ∃ F, netT S l = F := ⟨_, rfl⟩
  rw [hF] at HE ⊢
  have z := decT_size S (by omega) (by omega)
  obtain ⟨D, hD⟩ : ∃ D, decT S = D := ⟨_, rfl⟩
  have HD := Lib.hid hD
  rw [hD] at HE z
  have hk : ¬ 9223372036854775807 < D.size + 1 := by omega
  clear hts hl ha hv hF hD h24
  go_enter Tryd.func56, Tryd.ntmps56
  go_wp2_with fail
  refine (l01Dec_any S _ (by omega) (by omega)).mono ?_
  rintro e w1 ⟨rfl, hb1⟩
  rw [HD.out]
  go_wp2_with fail
  go_loopw [3, 4] (fun v u w' => ∃ (i : Nat) (s : ByteArray), v = .string s ∧ u = .int .i64 i ∧ i ≤ n ∧ s.size ≤ 22 + 66 * i ∧ Hid ((l.drop i).foldl stepT s = F) ∧ Below w.heap.size w w') (fun _ u _ => n - (intOf u).toNat)
  case atStart => exact ⟨0, D ++ ⟨#[58]⟩, rfl, rfl, by omega, by simp only [ByteArray.size_append]; have e0 : (⟨#[58]⟩ : ByteArray).size = 1 := rfl; omega, HE, hb1⟩
  case round =>
    obtain ⟨i, s, rfl, rfl, hin, hsz, HI, hbel⟩ := hrel
    have k0 := bel_cell hbel c0
    have k1 := bel_cell hbel c1
    clear HE hb1
    by_cases hlt : i < n
    · obtain ⟨b', o, rfl, hblt, hc⟩ := H.out (by rw [← HL.out]; omega)
      have hil : i < l.length := by rw [← HL.out]; exact hlt
      obtain ⟨t0, t1, t2⟩ := (hc i hil).bel hbel
      clear hc
      have hvt := validN_at HA.out hil
      have hst := stepT_step (s := s) hil
      have hz6 := tubeT_size s1 hvt
      obtain ⟨⟨x, y, z⟩, hx⟩ : ∃ x, l[i] = x := ⟨_, rfl⟩
      rw [hx] at t0 t1 t2 hvt hst hz6
      have hz7 := stepT_size s (x, y, z)
      simp only [validTube, Bool.and_eq_true] at hvt
      have h0 := inB_true hvt.1.1.1
      have h1 := inB_true hvt.1.1.2
      have h2 := inB_true hvt.2
      have h0 : 0 ≤ x ∧ x ≤ 10 := ⟨h0.1, by have := h0.2; omega⟩
      have h1 : 0 ≤ y ∧ y ≤ 10 := ⟨h1.1, by have := h1.2; omega⟩
      have h2 : 1 ≤ z ∧ z ≤ 2000 := h2
      have z0 := decT_size x (by omega) (by omega)
      have z1 := decT_size y (by omega) (by omega)
      have z2 := decT_size z (by omega) (by omega)
      have hsz2 : (stepT s (x, y, z)).size ≤ 22 + 66 * (i + 1) := by omega
      have HST : Hid ((l.drop (i + 1)).foldl stepT (stepT s (x, y, z)) = F) := by show _ = _; rw [← hst]; exact HI.out
      have E : Hid (stepT s (x, y, z) = s ++ (⟨#[32]⟩ ++ decT x ++ ⟨#[62]⟩ ++ decT y ++ ⟨#[42]⟩ ++ decT z)) := rfl
      have HSZ := Lib.hid hsz2
      obtain ⟨D0, e0⟩ : ∃ D, decT x = D := ⟨_, rfl⟩
      obtain ⟨D1, e1⟩ : ∃ D, decT y = D := ⟨_, rfl⟩
      obtain ⟨D2, e2⟩ : ∃ D, decT z = D := ⟨_, rfl⟩
      have H0 := Lib.hid e0
      have H1 := Lib.hid e1
      have H2 := Lib.hid e2
      rw [e0, e1, e2] at E
      rw [e0] at z0
      rw [e1] at z1
      rw [e2] at z2
      have k2 : ¬ 9223372036854775807 < 1 + D0.size := by omega
      have k3 : ¬ 9223372036854775807 < 1 + D0.size + 1 := by omega
      have k4 : ¬ 9223372036854775807 < 1 + D0.size + 1 + D1.size := by omega
      have k5 : ¬ 9223372036854775807 < 1 + D0.size + 1 + D1.size + 1 := by omega
      have k6 : ¬ 9223372036854775807 < 1 + D0.size + 1 + D1.size + 1 + D2.size := by omega
      have k7 : ¬ 9223372036854775807 < s.size + (1 + D0.size + 1 + D1.size + 1 + D2.size) := by omega
      clear e0 e1 e2 hvt hst hz6 hz7 hx hsz2 HI
      go_wp2_with fail
      go_region_held3 (fun w' => w'.cell? ⟨wr.heap.size, 0, none⟩ = some (.int .i64 x) ∧ w'.cell? ⟨wr.heap.size, 1, none⟩ = some (.int .i64 y) ∧ w'.cell? ⟨wr.heap.size, 2, none⟩ = some (.int .i64 z) ∧ Below w.heap.size w w')
        (first
          | (exact ⟨(Blk.new wr _ _).cell 0, (Blk.new wr _ _).cell 1, (Blk.new wr _ _).cell 2, (hbel.alloc hbel.size _).drew⟩)
          | (have hS := ‹_ ∧ _ ∧ _ ∧ _›; exact ⟨bel_cell hbR hS.1, bel_cell hbR hS.2.1, bel_cell hbR hS.2.2.1, bel_next hS.2.2.2 hbR⟩))
        (first
          | (go_at_call 37; (with_reducible refine (l01Dec_any x _ (by omega) (by omega)).mono ?_); rintro e w5 ⟨rfl, hbR⟩; rw [H0.out])
          | (go_at_call 37; (with_reducible refine (l01Dec_any y _ (by omega) (by omega)).mono ?_); rintro e w5 ⟨rfl, hbR⟩; rw [H1.out])
          | (go_at_call 37; (with_reducible refine (l01Dec_any z _ (by omega) (by omega)).mono ?_); rintro e w5 ⟨rfl, hbR⟩; rw [H2.out]))
      obtain ⟨-, -, -, D⟩ := ‹_ ∧ _ ∧ _ ∧ _›
      go_wp2_with fail
      go_roundw
      case rel => exact ⟨i + 1, stepT s (x, y, z), by rw [E.out], by go_num, by omega, HSZ.out, HST, D⟩
      case measure => simp [intOf]; omega
    · have HR : Hid (F = s) := by show _ = _; rw [← HI.out, List.drop_of_length_le (by rw [← HL.out]; omega)]; rfl
      go_wp2_with fail
      go_ret
      rw [HR.out]
      exact ⟨rfl, hbel⟩

end Go.Proofs.YtlblnknglplgjaaDoor
