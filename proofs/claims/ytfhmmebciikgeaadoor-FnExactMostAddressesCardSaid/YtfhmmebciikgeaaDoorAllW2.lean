/-
  CONTRACTS: all words with so many letters, the specification's way; AllWords.
-/
import Derived.Test.YtfhmmebciikgeaaDoorAllW
namespace Go.Proofs.YtfhmmebciikgeaaDoor
open Go.RowKit

theorem conv_lettrB (w : World) (g d : Nat) (hd : d < 4) (h : w.cell? ⟨g, 0, none⟩ = some (.int .u8 (97 + (d : Int)))) :
    (convert 40 9 (.slice (some ⟨g, 0, none⟩) 1 1)).run Tryd.prog w = .ok (.string (lettr d)) w := by
  refine run_convert_bytes_back (P := Tryd.prog) w 40 9 5 ⟨g, 0, none⟩ 1 [UInt8.ofNat (97 + d)] Tryd.underlying40 Tryd.underlying5 Tryd.underlying9 ?_
  intro j hj
  obtain rfl : j = 0 := by simpa using hj
  rw [Addr.add_lit, h]
  simp
  omega

set_option maxHeartbeats 2000000 in
set_option maxRecDepth 100000 in
theorem l05All_any (g r : Nat) (w : World) (hg : g ≤ 4) (hr : r ≤ 8) :
    Calls Tryd.prog 7 #[.int .i64 g, .int .i64 r] w (MadeSO w 9 (allW g r)) := by
  obtain ⟨i0, hi, hz0, hz1, hz2⟩ := info_parts info_string
  have HI := Lib.hid (And.intro hi (And.intro hz0 (And.intro hz1 hz2)))
  clear hi hz0 hz1 hz2
  go_enter Tryd.func7, Tryd.ntmps7
  go_wp2_with fail
  go_loopw [5, 6] (fun v u w' => ∃ (k : Nat) (l : List ByteArray), u = .int .i64 k ∧ k ≤ r ∧ Hid (l = allW g k) ∧ w'.ownsRow w.heap.size 9 1 v l.length (l.map Value.string) ∧ Below w.heap.size w w') (fun _ u _ => r - (intOf u).toNat)
  case atStart =>
    refine ⟨0, _, rfl, by omega, rfl, ?_, by go_grown⟩
    have := World.ownsRow_lit (base := w.heap.size) (e := 9) (size := 1) w #[.string ⟨#[]⟩] 1 (Nat.le_refl _) (by unfold maxLen; omega) rfl
    exact this
  case round =>
    obtain ⟨k, l, rfl, hkr, HA, hown, hbel⟩ := hrel
    by_cases hlt : k < r
    · have hl1 : l.length ≤ 65536 := by rw [HA.out]; exact allW_le hg (by omega)
      have hY : nextW g l = allW g (k + 1) := by rw [HA.out]; rfl
      have hYl : (nextW g l).length ≤ 65536 := by rw [hY]; exact allW_le hg (by omega)
      have HSZ : Hid (∀ (j : Nat) (h : j < l.length), l[j].size ≤ 8) := by
        show ∀ j, _
        intro j hj
        have := allW_size k l[j] (by rw [← HA.out]; exact List.getElem_mem hj)
        omega
      obtain ⟨Y, hYY⟩ : ∃ Y, nextW g l = Y := ⟨_, rfl⟩
      have HY : Hid (([] : List ByteArray) ++ nextW g (l.drop 0) = Y) := hYY
      rw [hYY] at hY hYl
      have HYA := Lib.hid hY
      obtain ⟨A, c, rfl⟩ := own_form hown
      have I0 := Lib.hid (StrsAt.ofOwn hown).1
      obtain ⟨wp, rfl⟩ : ∃ wp : World, wp = wr := ⟨_, rfl⟩
      have hws := hbel.size
      obtain ⟨n, hn⟩ : ∃ n, l.length = n := ⟨_, rfl⟩
      rw [hn] at hl1
      have HN := Lib.hid hn
      clear hown hY hYY
      rw [hn]
      clear hn
      go_wp2_with fail
      go_loopw [7, 8] (fun v u w' => ∃ (i : Nat) (ys : List ByteArray), u = .int .i64 i ∧ i ≤ n ∧ w'.ownsRow wp.heap.size 9 1 v ys.length (ys.map Value.string) ∧ Hid (ys ++ nextW g (l.drop i) = Y) ∧ Below wp.heap.size wp w') (fun _ u _ => n - (intOf u).toNat)
      case atStart => exact ⟨0, [], rfl, by omega, own_nil' _ _ _ rfl (Nat.le_refl _), HY, by go_grown⟩
      case round =>
        clear HY
        obtain ⟨i, ys, rfl, hin, hown, HY, hbel2⟩ := hrel
        by_cases hil : i < n
        · have hil2 : i < l.length := by rw [HN.out]; exact hil
          obtain ⟨b, o, rfl, hblt, hc⟩ := I0.out (by rw [HN.out]; omega)
          have C0 := Lib.hid (hc i hil2)
          have hst := nextW_step (g := g) hil2
          have hsz := HSZ.out i hil2
          obtain ⟨s, hs⟩ : ∃ s, l[i] = s := ⟨_, rfl⟩
          rw [hs] at C0 hst hsz
          obtain ⟨Z, hZ⟩ : ∃ Z, ys ++ sufF s (g - 0) 0 = Z := ⟨_, rfl⟩
          have HZ := Lib.hid hZ
          have HZY : Hid (Z ++ nextW g (l.drop (i + 1)) = Y) := by show _ = _; rw [← hZ, List.append_assoc, ← hst]; exact HY.out
          have hZl : Z.length ≤ 65536 := by have := congrArg List.length HZY.out; rw [List.length_append] at this; omega
          have HO := Lib.hid hown
          clear hc hst hs hZ HY hown
          go_wp2_with fail
          go_loopw [7, 9] (fun v u w' => ∃ (d : Nat) (zs : List ByteArray), u = .int .i64 d ∧ d ≤ g ∧ w'.ownsRow wp.heap.size 9 1 v zs.length (zs.map Value.string) ∧ Hid (zs ++ sufF s (g - d) d = Z) ∧ Below wp.heap.size wp w') (fun _ u _ => g - (intOf u).toNat)
          case atStart => exact ⟨0, ys, rfl, by omega, HO.out, HZ, hbel2⟩
          case round =>
            clear HZ HO hbel2
            obtain ⟨d, zs, rfl, hdg, hown, HZ, hbel3⟩ := hrel
            by_cases hdl : d < g
            · have hst := sufF_step (s := s) hdl
              have HZ2 : Hid ((zs ++ [s ++ lettr d]) ++ sufF s (g - (d + 1)) (d + 1) = Z) := by show _ = _; rw [List.append_assoc, List.singleton_append, ← hst]; exact HZ.out
              have hzl : zs.length ≤ 65536 := by have := congrArg List.length HZ.out; rw [List.length_append] at this; omega
              have hcv := fun W h => conv_lettrB W wr.heap.size d (by omega) h
              have hls : (lettr d).size = 1 := rfl
              have hcc : ¬ 9223372036854775807 < s.size + 1 := by omega
              have hwi : IntKind.i64.wrap (97 + (d : Int)) = 97 + (d : Int) := by rw [IntKind.wrap_i64]; omega
              have hw8 : IntKind.u8.wrap (97 + (d : Int)) = 97 + (d : Int) := by rw [IntKind.wrap_u8]; omega
              have HO := Lib.hid hown
              have hsw := hbel3.size
              have hbw : b < wr.heap.size := by omega
              have c0 := bel_cell hbel3 C0.out
              clear hst HZ hown
              go_wp2_with fail
              go_region_law (refine step_append_lies _ (by rfl) (.tmp 28) (.tmp 39) 26 (by rfl) wp.heap.size 9 i0 (.string ByteArray.empty) 1 16 Tryd.underlying26 HI.out.1 HI.out.2.1 HI.out.2.2.1 HI.out.2.2.2 rfl (by decide) _ _ _ (by rfl) (own_belS HO.out (by go_grown)) ⟨wr.heap.size + 1, 0, none⟩ 1 1 [.string (s ++ lettr d)] (by rfl) rfl (by intro j u hu; cases j with | zero => simp at hu; subst hu; simp [Addr.add] | succ j => simp at hu) (strs_oneCell [s ++ lettr d]) (by decide) (by unfold maxLen; omega) (by omega) (by simp; omega) _ rfl ?_; intro g4 cap4 w4 hown1 hgrow hat4 hlt4)
              all_goals
                have hown2 : w4.ownsRow wp.heap.size 9 1 (.slice (some ⟨g4, 0, none⟩) (zs.length + 1) cap4) (zs ++ [s ++ lettr d]).length ((zs ++ [s ++ lettr d]).map Value.string) := by simpa using hown1
                have HO4 := Lib.hid hown2
                have hb4 : Below wp.heap.size wp w4 := Below.grown (bel_next hbel3 (by go_grown)) hgrow (by simp; omega) (fun k hk => by have := (HO.out.lt k hk).1; omega)
                clear hown1 hown2 hgrow hcv hat4 hlt4 hwi hw8
                simp [Act.put]
                go_wp2_with fail
                go_roundw
                case rel => exact ⟨d + 1, zs ++ [s ++ lettr d], by go_num, by omega, HO4.out, HZ2, hb4⟩
                case measure => simp [intOf]; omega
            · have hE : zs = Z := by
                have h5 := HZ.out
                rw [show g - d = 0 by omega, sufF, List.append_nil] at h5
                exact h5
              subst hE
              go_wp2_with fail
              go_roundw
              case rel => exact ⟨i + 1, zs, by go_num, by omega, hown, HZY, hbel3⟩
              case measure => simp [intOf]; omega
        · have hE : ys = Y := by
            have h5 := HY.out
            rw [List.drop_of_length_le (by rw [HN.out]; omega), nextW, List.append_nil] at h5
            exact h5
          subst hE
          go_wp2_with fail
          go_roundw
          case rel => exact ⟨k + 1, ys, by go_num, by omega, HYA, own_baseS hown hws, bel_next hbel hbel2⟩
          case measure => simp [intOf]; omega
    · have hkr2 : k = r := by omega
      subst hkr2
      obtain ⟨A, c, rfl⟩ := own_form hown
      go_wp2_with fail
      go_ret
      rw [← HA.out]
      exact ⟨A, c, rfl, hown, hbel⟩

end Go.Proofs.YtfhmmebciikgeaaDoor
