/-
  CONTRACT: the way with the fewest turned switches, the program's.
-/
import Derived.Test.YtlebkjkiikehhaaFew3
namespace Go.Proofs.Ytlebkjkiikehhaa.Cst
open Go.RowKit

set_option maxHeartbeats 8000000 in
set_option maxRecDepth 100000 in
theorem implFew_any (S : Int) (A : Option Addr) (n c : Nat) (l : List Tb) (A' : Option Addr) (n' c' : Nat) (st : List Int) (u v : Int) (w : World) (h : TubesAt w A l) (hl : n = l.length) (hn0 : n ≤ 1048576) (h' : IntsAt w A' st) (hl' : n' = st.length) (hn0' : n' ≤ 1048576) :
    Calls Try.prog 45 #[.agg #[.int .i64 S, .slice A n c], .slice A' n' c', .int .i64 u, .int .i64 v] w (MadeIT w 2 (fewR S l st u v).1 (fewR S l st u v).2) := by
  have HL := Lib.hid hl
  have HL' := Lib.hid hl'
  have HA := Lib.hid h
  have HB := Lib.hid h'
  have hmf : ∀ (fn : Fn) (first cap : Array Value) (w : World), (Instr.makeFunc fn first cap).run Try.prog w = .ok (.func fn first cap) w := fun _ _ _ _ => rfl
  obtain ⟨W2, hW2⟩ : ∃ W2, (w.alloc (.cells #[.int .i64 S, .slice A n c] 30)).alloc (.cells #[.slice A' n' c'] 39) = W2 := ⟨_, rfl⟩
  have hb2 : Below w.heap.size w W2 := by rw [← hW2]; go_grown
  have N2 : Hid (Blk W2 w.heap.size 30 #[.int .i64 S, .slice A n c]) := by show Blk _ _ _ _; rw [← hW2]; exact (Blk.new _ _ _).alloc _
  have S2 : Hid (Blk W2 (w.heap.size + 1) 39 #[.slice A' n' c']) := by show Blk _ _ _ _; rw [← hW2]; exact Blk.newAt (by simp)
  have hz2 : w.heap.size + 1 < W2.heap.size := S2.out.lt
  have HA2 := Lib.hid (h.bel hb2)
  have HB2 := Lib.hid (h'.bel hb2)
  have D2 := Lib.hid hb2
  clear hl hl' h h' hb2
  go_enter Try.func45, Try.ntmps45
  obtain ⟨n0, n1, -⟩ := N2.out.c2
  have s0 : W2.cell? ⟨w.heap.size + 1, 0, none⟩ = some (.slice A' n' c') := S2.out.cell 0
  have hzw : w.heap.size < W2.heap.size := by omega
  go_wp2_with fail
  have hbA : Below W2.heap.size W2 (W2.alloc (.cells (ints [u, v]) 2)) := (Below.refl _ _).alloc (Nat.le_refl _) _
  refine (settingCode_any S A n c l A' n' c' st (some ⟨W2.heap.size, 0, none⟩) 2 2 [u, v] _ (HA2.out.bel hbA) HL.out hn0 (HB2.out.bel hbA) HL'.out hn0' (IntsAt.lit W2 _ [u, v] rfl) rfl (by omega)).mono ?_
  rintro x w3 ⟨rfl, hb⟩
  have hb3 : Below W2.heap.size W2 w3 := bel_next hbA hb
  have D3 := Lib.hid (bel_next D2.out hb3)
  have N3 := hid_blk N2 hb3
  have S3 := hid_blk S2 hb3
  have HA3 := Lib.hid (HA2.out.bel hb3)
  have HB3 := Lib.hid (HB2.out.bel hb3)
  have hz3 : Hid (w.heap.size + 2 ≤ w3.heap.size) := by have := hb3.size; show _ ≤ _; omega
  clear hbA hb hb3 hW2 N2 S2 HA2 HB2 D2 n0 n1 s0 hz2 hzw
  obtain ⟨k, hk⟩ : ∃ k, codeS S l st [u, v] = k := ⟨_, rfl⟩
  rw [hk]
  by_cases h0 : k = 0
  · subst h0
    obtain ⟨hset, u0, u1, v0, v1⟩ := codeS_in hk
    obtain ⟨hvn, hsl, -⟩ := setOK_true hset
    obtain ⟨q0, q1, h24, -⟩ := validN_true hvn
    obtain ⟨s, rfl⟩ : ∃ s : Nat, S = s := ⟨S.toNat, by omega⟩
    obtain ⟨u, rfl⟩ : ∃ q : Nat, u = q := ⟨u.toNat, by omega⟩
    obtain ⟨v, rfl⟩ : ∃ q : Nat, v = q := ⟨v.toNat, by omega⟩
    have hus : u < s := by omega
    have hvs : v < s := by omega
    have HK := Lib.hid hk
    have HSET := Lib.hid hset
    have LAW := Lib.hid (few_law (st := st) hvn hvs hus)
    clear hk hset hvn hsl q0 q1 h24 u0 u1 v0 v1
    obtain ⟨W4, hW4⟩ : ∃ W4, (((w3.alloc (.cells #[] 2)).alloc (.cells #[.slice (some ⟨w3.heap.size, 0, none⟩) 0 0] 39)).alloc (.cells #[.int .i64 (-1)] 2)).alloc (.cells #[.int .i64 0] 2) = W4 := ⟨_, rfl⟩
    have hb4 : Below w3.heap.size w3 W4 := by rw [← hW4]; go_grown
    have Z4 : Hid (StW W4 w.heap.size (w3.heap.size + 1) st0) := by
      show StW _ _ _ _
      have hO : ((((w3.alloc (.cells #[] 2)).alloc (.cells #[.slice (some ⟨w3.heap.size, 0, none⟩) 0 0] 39)).alloc (.cells #[.int .i64 (-1)] 2)).alloc (.cells #[.int .i64 0] 2)).ownsRow w.heap.size 2 1 (.slice (some ⟨w3.heap.size, 0, none⟩) 0 0) 0 [] :=
        own_belw (own_nil' w3 2 w.heap.size rfl D3.out.size) (by go_grown)
      rw [hW4] at hO
      refine ⟨?_, ?_, some ⟨w3.heap.size, 0, none⟩, 0, ?_, hO⟩
      · rw [← hW4]; exact (Blk.newAt (by simp)).alloc _
      · rw [← hW4]; exact Blk.newAt (by simp)
      · rw [← hW4]; exact ((Blk.newAt (by simp)).alloc _).alloc _
    have E4 : Hid (EnvW W4 w.heap.size (w.heap.size + 1) (w3.heap.size + 1) s A n c l A' n' c' st) := by
      refine ⟨bel_blk N3.out hb4, bel_blk S3.out hb4, HA3.out.bel hb4, HB3.out.bel hb4, ?_, ?_, ?_, ?_⟩
      · have := hz3.out; omega
      · have := hz3.out; omega
      · intro h0 p hp
        obtain ⟨b, o, e, hlt, -⟩ := HA3.out h0
        rw [e] at hp
        injection hp with hp
        subst hp
        show b < _
        omega
      · intro h0 p hp
        obtain ⟨b, o, e, hlt, -⟩ := HB3.out h0
        rw [e] at hp
        injection hp with hp
        subst hp
        show b < _
        omega
    have D4 := Lib.hid (bel_next D3.out hb4)
    have he4 : Hid (w.heap.size ≤ w3.heap.size + 1) := by have := hz3.out; show _ ≤ _; omega
    have HW4 := Lib.hid hW4
    obtain ⟨n0', n1', -⟩ := E4.out.net.c2
    have s0' : W4.cell? ⟨w.heap.size + 1, 0, none⟩ = some (.slice A' n' c') := E4.out.set.cell 0
    have n0 : ((((w3.alloc (.cells #[] 2)).alloc (.cells #[.slice (some ⟨w3.heap.size, 0, none⟩) 0 0] 39)).alloc (.cells #[.int .i64 (-1)] 2)).alloc (.cells #[.int .i64 0] 2)).cell? ⟨w.heap.size, 0, none⟩ = some (.int .i64 (s : Int)) := by rw [hW4]; exact n0'
    have n1 : ((((w3.alloc (.cells #[] 2)).alloc (.cells #[.slice (some ⟨w3.heap.size, 0, none⟩) 0 0] 39)).alloc (.cells #[.int .i64 (-1)] 2)).alloc (.cells #[.int .i64 0] 2)).cell? ⟨w.heap.size, 1, none⟩ = some (.slice A n c) := by rw [hW4]; exact n1'
    have s0 : ((((w3.alloc (.cells #[] 2)).alloc (.cells #[.slice (some ⟨w3.heap.size, 0, none⟩) 0 0] 39)).alloc (.cells #[.int .i64 (-1)] 2)).alloc (.cells #[.int .i64 0] 2)).cell? ⟨w.heap.size + 1, 0, none⟩ = some (.slice A' n' c') := by rw [hW4]; exact s0'
    have hza : w.heap.size < w3.heap.size := by have := hz3.out; omega
    have hzb : w.heap.size + 1 < w3.heap.size := by have := hz3.out; omega
    clear n0' n1' s0'
    clear hb4 N3 S3 HA3 HB3 hz3 D3 hW4
    go_wp2_with fail
    rw [HW4.out]
    refine (ways_any w.heap.size w.heap.size (w.heap.size + 1) (w3.heap.size + 1) s A n c l A' n' c' st v HL.out hn0 HL'.out HSET.out hvs he4.out s none 0 0 [] none 0 0 [] u st0 W4 E4.out
      ⟨.inl ⟨rfl, rfl, rfl⟩, IntsAt.nil _ _, rfl, by omega, fun h0 => absurd h0 (by simp)⟩ ⟨.inl ⟨rfl, rfl, rfl⟩, IntsAt.nil _ _, rfl, by omega, fun h0 => absurd h0 (by simp)⟩ Z4.out (fun x hx => by cases hx) List.nodup_nil (fun x hx => by cases hx) (fun hx => by cases hx) hus (by simp) rfl).mono ?_
    rintro x w5 ⟨r, rfl, hz, hr⟩
    have Z5 := Lib.hid hz
    have D5 := Lib.hid (hr.below D4.out he4.out)
    clear hz hr HW4 n0 n1 s0 hza hzb
    by_cases hd : at_ (distN (s : Int) (costs l st) v (-1)) u < 0
    · have E : Hid (fewR s l st u v = ([], 0, 3)) := fewR_3 HK.out hd
      have hs := LAW.out.1 hd
      have Z6 := Z5.out
      rw [hs] at Z6
      have c1 : w5.cell? ⟨w3.heap.size + 1 + 1, 0, none⟩ = some (.int .i64 (-1)) := Z6.1.cell 0
      clear hd hs Z6 LAW Z5
      go_wp2_with fail
      refine bodyPost_ret (v := .tuple #[.slice none 0 0, .int .i64 0, .int .i64 3]) (by simp [results, Try.results45, go_sem]) rfl ?_
      rw [E.out]
      exact ⟨none, 0, rfl, own_none _ _ _, D5.out⟩
    · have hd0 : 0 ≤ at_ (distN (s : Int) (costs l st) v (-1)) u := by omega
      have E0 := fewR_yes HK.out hd0
      have hs := (LAW.out.2 hd0).1
      obtain ⟨WY, hWY⟩ : ∃ WY, wayD (costs l st) (distN (s : Int) (costs l st) v (-1)) v u = WY := ⟨_, rfl⟩
      rw [hWY] at E0 hs
      have E := Lib.hid E0
      have Z6 := Z5.out
      rw [hs] at Z6
      obtain ⟨f1, -, A6, c6, f3, O6⟩ := Z6
      have c1 : w5.cell? ⟨w3.heap.size + 1 + 1, 0, none⟩ = some (.int .i64 (tuF l st WY)) := f1.cell 0
      have c3 : w5.cell? ⟨w3.heap.size + 1, 0, none⟩ = some (.slice A6 WY.length c6) := f3.cell 0
      have HO6 := Lib.hid O6
      clear hd hd0 E0 hs LAW Z5 f1 f3 O6 hWY
      go_wp2_with fail
      go_quiet (fail)
      go_wp2_with fail
      refine bodyPost_ret (v := .tuple #[.slice A6 WY.length c6, .int .i64 (tuF l st WY), .int .i64 0]) (by simp [results, Try.results45, go_sem]) rfl ?_
      rw [E.out]
      exact ⟨A6, c6, rfl, own_belw HO6.out (below_drewN (Below.refl _ _) _), below_drewN D5.out _⟩
  · have E : Hid (fewR S l st u v = ([], 0, k)) := fewR_no hk h0
    have hkb : (k != 0) = true := by simpa using h0
    clear hk
    go_wp2_with fail
    refine bodyPost_ret (v := .tuple #[.slice none 0 0, .int .i64 0, .int .i64 k]) (by simp [results, Try.results45, go_sem]) rfl ?_
    rw [E.out]
    exact ⟨none, 0, rfl, own_none _ _ _, D3.out⟩
theorem fewR_len {S : Int} {l : List Tb} {st : List Int} {u v : Int} : (fewR S l st u v).1.length ≤ 1048576 := by
  by_cases h : codeS S l st [u, v] = 0
  · obtain ⟨hset, u0, u1, v0, v1⟩ := codeS_in h
    obtain ⟨hvn, -, -⟩ := setOK_true hset
    obtain ⟨q0, q1, -, -⟩ := validN_true hvn
    obtain ⟨s, rfl⟩ : ∃ s : Nat, S = s := ⟨S.toNat, by omega⟩
    obtain ⟨u, rfl⟩ : ∃ q : Nat, u = q := ⟨u.toNat, by omega⟩
    obtain ⟨v, rfl⟩ : ∃ q : Nat, v = q := ⟨v.toNat, by omega⟩
    by_cases hd : at_ (distN (s : Int) (costs l st) v (-1)) u < 0
    · rw [fewR_3 h hd]; simp
    · rw [fewR_yes h (by omega)]
      exact Nat.le_trans ((few_law (st := st) hvn (show v < s by omega) (show u < s by omega)).2 (by omega)).2.2 (by omega)
  · rw [fewR_no rfl h]; simp

end Go.Proofs.Ytlebkjkiikehhaa.Cst
