/-
  CONTRACTS: the number with a decimal form, read by the library.
-/
import Derived.Test.YtlblnknglplgjaaDoorReadP
import Derived.Test.YtlblnknglplgjaaDoorShelfR
import Derived.Lib.ConvBytes
import Derived.Lib.AtoiErrMem
import Derived.Stop.LaidErr
namespace Go.Proofs.YtlblnknglplgjaaDoor
open Go.RowKit

/-- The two errors of the library stand in their variables. -/
structure Errs (w : World) : Prop where
  syn : ∃ tp p, w.var? Tryd.prog "strconv.ErrSyntax" = some #[.iface tp p]
  ran : ∃ tp p, w.var? Tryd.prog "strconv.ErrRange" = some #[.iface tp p]
theorem gES : Tryd.prog.globalNamed "strconv.ErrSyntax" = some 0 := by kernel_rfl
theorem gER : Tryd.prog.globalNamed "strconv.ErrRange" = some 1 := by kernel_rfl
theorem var?_lt {w : World} {n : String} {g : Nat} {v : Value} (hg : Tryd.prog.globalNamed n = some g) (h : w.var? Tryd.prog n = some #[v]) : g < w.heap.size :=
  World.block_lt_of_cell? (a := ⟨g, 0, none⟩) w (by have h0 := World.var?_cell hg h 0; simpa using h0)
theorem Errs.bel {w w' : World} (h : Errs w) (hb : Below w.heap.size w w') : Errs w' := by
  obtain ⟨⟨t0, p0, h0⟩, ⟨t1, p1, h1⟩⟩ := h
  exact ⟨⟨t0, p0, var?_below hb gES (var?_lt gES h0) h0⟩, ⟨t1, p1, var?_below hb gER (var?_lt gER h1) h1⟩⟩
theorem minusStr : (⟨#[45]⟩ : ByteArray).data.toList = [45] := rfl
theorem decT_eq {v : Int} {s : ByteArray} (h : Lib.itoa v = s.data.toList) : decT v = s := ByteArray.ext (Array.toList_inj.1 (by rw [← h]; rfl))
theorem trimS (s : ByteArray) : (⟨(Lib.trimPrefix s.data.toList (⟨#[45]⟩ : ByteArray).data.toList).toArray⟩ : ByteArray) = ⟨(strip s.data.toList).toArray⟩ := by
  rw [minusStr, trimP]
theorem readP {s : ByteArray} : readD s = resO (numP s.data.toList) := by unfold readD; rw [numP_eq]
theorem neqD {a b : ByteArray} (h : ¬ a = b) : (a.toList != b.toList) = true := by
  rw [bne_iff_ne]
  intro e
  apply h
  rw [ByteArray.toList_eq, ByteArray.toList_eq] at e
  exact ByteArray.ext (Array.toList_inj.1 e)

set_option maxHeartbeats 1000000 in
set_option maxRecDepth 100000 in
theorem implReadDecimal_any (s : ByteArray) (w : World) (hs : s.size ≤ 1048576) (ht : Tab w) (he : Errs w) :
    Calls Tryd.prog 11 #[.string s] w (Ret w (.tuple #[.int .i64 (readD s).1, .bool (readD s).2])) := by
  have HT := Lib.hid ht
  have HE := Lib.hid he
  have hlen : s.size ≤ (strip s.data.toList).length + 1 := by
    unfold strip
    split
    · simp; omega
    · simp
  obtain ⟨T, hT⟩ : ∃ T : ByteArray, T = ⟨(strip s.data.toList).toArray⟩ := ⟨_, rfl⟩
  have hTs : T.size = (strip s.data.toList).length := by rw [hT]; rfl
  have HTT : Hid ((⟨(Lib.trimPrefix s.data.toList (⟨#[45]⟩ : ByteArray).data.toList).toArray⟩ : ByteArray) = T) := by show _ = _; rw [trimS, hT]
  clear ht he
  by_cases h19 : 19 < s.size
  · have E : Hid (readD s = (0, false)) := by show _ = _; rw [readP]; unfold numP; rw [if_pos (by omega)]; rfl
    clear hT hTs hlen
    go_enter Tryd.func11, Tryd.ntmps11
    go_wp2_with fail
    refine bodyPost_ret (v := .tuple #[.int .i64 0, .bool false]) (by simp [results, Tryd.results11, go_sem]) rfl ?_
    rw [E.out]
    exact ⟨rfl, Below.refl _ _⟩
  · by_cases h18 : 18 < T.size
    · have E : Hid (readD s = (0, false)) := by show _ = _; rw [readP]; unfold numP; rw [if_pos (by omega)]; rfl
      clear hT hTs hlen
      go_enter Tryd.func11, Tryd.ntmps11
      go_wp2_with (go_at_call 35; refine (Tryd.strings_TrimPrefix s _ _).mono ?_; rintro e w2 ⟨rfl, hq⟩; obtain rfl := hq.symm; rw [HTT.out])
      refine bodyPost_ret (v := .tuple #[.int .i64 0, .bool false]) (by simp [results, Tryd.results11, go_sem]) rfl ?_
      rw [E.out]
      exact ⟨rfl, Below.refl _ _⟩
    · have E0 : Hid (readD s = resO (match Lib.parseIntB 64 s.data.toList with | .ok v => if Lib.itoa v = s.data.toList then some v else none | _ => none)) := by
        show _ = _
        rw [readP]
        unfold numP
        rw [if_neg (by omega)]
        cases Lib.parseIntB 64 s.data.toList <;> rfl
      clear hT hTs hlen
      rcases hp : Lib.parseIntB 64 s.data.toList with v | _ | _
      ·
        have hv := Lib.parseIntB_bounds hp
        have hv0 : -9223372036854775808 ≤ v := by simpa using hv.1
        have hv1 : v ≤ 9223372036854775807 := by have := hv.2; simp at this; omega
        have E1 : Hid (readD s = resO (if Lib.itoa v = s.data.toList then some v else none)) := by show _ = _; rw [E0.out, hp]
        have HP := Lib.hid hp
        clear hp E0 hv
        by_cases heq : decT v = s
        · have E : Hid (readD s = (v, true)) := by
            show _ = _
            rw [E1.out, if_pos (by rw [← heq]; rfl)]
            rfl
          have HEQ := Lib.hid heq
          clear heq E1
          go_enter Tryd.func11, Tryd.ntmps11
          go_wp2_with (go_at_call 35; refine (Tryd.strings_TrimPrefix s _ _).mono ?_; rintro e w2 ⟨rfl, hq⟩; obtain rfl := hq.symm; rw [HTT.out])
          refine (Tryd.strconv_ParseInt_10_at64_ok s (by omega) v HP.out _).mono ?_
          rintro e w1 ⟨rfl, hw⟩
          have hb : Below w.heap.size w w1 := by
            rcases hw with rfl | ⟨t, rfl⟩
            · exact Below.refl _ _
            · exact Lib.bytesWorld_below _ _ _
          have HT1 := Lib.hid (HT.out.bel hb)
          clear hw
          go_wp2_with (go_at_call 13; refine (implDec_any v _ hv0 hv1 HT1.out).mono ?_; rintro e w2 ⟨rfl, hb2⟩; rw [HEQ.out]; replace hb := bel_next hb hb2; clear hb2)
          refine bodyPost_ret (v := .tuple #[.int .i64 v, .bool true]) (by simp [results, Tryd.results11, go_sem]) rfl ?_
          rw [E.out]
          exact ⟨rfl, hb⟩
        · have E : Hid (readD s = (0, false)) := by
            show _ = _
            rw [E1.out, if_neg (fun h => heq (decT_eq h))]
            rfl
          have hne := neqD heq
          obtain ⟨D, hD⟩ : ∃ D, decT v = D := ⟨_, rfl⟩
          have HD := Lib.hid hD
          rw [hD] at hne
          have hne2 : (D.toList == s.toList) = false := by simpa using hne
          clear heq E1 hD
          go_enter Tryd.func11, Tryd.ntmps11
          go_wp2_with (go_at_call 35; refine (Tryd.strings_TrimPrefix s _ _).mono ?_; rintro e w2 ⟨rfl, hq⟩; obtain rfl := hq.symm; rw [HTT.out])
          refine (Tryd.strconv_ParseInt_10_at64_ok s (by omega) v HP.out _).mono ?_
          rintro e w1 ⟨rfl, hw⟩
          have hb : Below w.heap.size w w1 := by
            rcases hw with rfl | ⟨t, rfl⟩
            · exact Below.refl _ _
            · exact Lib.bytesWorld_below _ _ _
          have HT1 := Lib.hid (HT.out.bel hb)
          clear hw
          go_wp2_with (go_at_call 13; refine (implDec_any v _ hv0 hv1 HT1.out).mono ?_; rintro e w2 ⟨rfl, hb2⟩; rw [HD.out]; replace hb := bel_next hb hb2; clear hb2)
          refine bodyPost_ret (v := .tuple #[.int .i64 0, .bool false]) (by simp [results, Tryd.results11, go_sem]) rfl ?_
          rw [E.out]
          exact ⟨rfl, hb⟩
      ·
        have E : Hid (readD s = (0, false)) := by show _ = _; rw [E0.out, hp]; rfl
        have HP := Lib.hid hp
        obtain ⟨tp, p, hvar⟩ := HE.out.syn
        have HV := Lib.hid hvar
        clear hp E0 hvar
        go_enter Tryd.func11, Tryd.ntmps11
        go_wp2_with (go_at_call 35; refine (Tryd.strings_TrimPrefix s _ _).mono ?_; rintro e w2 ⟨rfl, hq⟩; obtain rfl := hq.symm; rw [HTT.out])
        refine (Any.strconv_ParseInt_10_at64_syntax_var Tryd.laysC174 s (by omega) HP.out tp p _ HV.out).mono ?_
        rintro e w1 ⟨n1, rfl, -, -, hb⟩
        go_wp2_with fail
        refine bodyPost_ret (v := .tuple #[.int .i64 0, .bool false]) (by simp [results, Tryd.results11, go_sem]) rfl ?_
        rw [E.out]
        exact ⟨rfl, hb⟩
      ·
        have E : Hid (readD s = (0, false)) := by show _ = _; rw [E0.out, hp]; rfl
        have HP := Lib.hid hp
        obtain ⟨tp, p, hvar⟩ := HE.out.ran
        have HV := Lib.hid hvar
        clear hp E0 hvar
        go_enter Tryd.func11, Tryd.ntmps11
        go_wp2_with (go_at_call 35; refine (Tryd.strings_TrimPrefix s _ _).mono ?_; rintro e w2 ⟨rfl, hq⟩; obtain rfl := hq.symm; rw [HTT.out])
        refine (Tryd.strconv_ParseInt_10_at64_range_var s (by omega) HP.out tp p _ HV.out).mono ?_
        rintro e w1 ⟨n1, rfl, -, -, hb⟩
        go_wp2_with fail
        refine bodyPost_ret (v := .tuple #[.int .i64 0, .bool false]) (by simp [results, Tryd.results11, go_sem]) rfl ?_
        rw [E.out]
        exact ⟨rfl, hb⟩

end Go.Proofs.YtlblnknglplgjaaDoor
