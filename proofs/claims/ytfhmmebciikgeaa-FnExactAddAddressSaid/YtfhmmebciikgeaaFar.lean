/-
  CONTRACTS: a word that is far from all words of a list; the words that are taken one after the other (printed by tools/gen_far.py).
-/
import Derived.Test.YtfhmmebciikgeaaAllW2
namespace Go.Proofs.Ytfhmmebciikgeaa
open Go.RowKit

theorem StrsAt.grown {w w' : World} {A : Option Addr} {l : List ByteArray} {row : Option Nat} (h : StrsAt w A l) (hg : w.grownBy w' row) (hne : 0 < l.length → ∀ p, A = some p → some p.block ≠ row) : StrsAt w' A l := fun h0 => by
  obtain ⟨b, o, e, hlt, hc⟩ := h h0
  exact ⟨b, o, e, Nat.lt_of_lt_of_le hlt hg.size, fun k hk => hg.cell (hc k hk) (hne h0 ⟨b, o, none⟩ e)⟩
/-- All words of a list have a size. -/
def Sized (l : List ByteArray) (z : Nat) : Prop := ∀ (k : Nat) (h : k < l.length), l[k].size = z
theorem Sized.snoc {l : List ByteArray} {z : Nat} {x : ByteArray} (h : Sized l z) (hx : x.size = z) : Sized (l ++ [x]) z := fun k hk => by
  rcases Nat.lt_or_ge k l.length with h1 | h1
  · rw [List.getElem_append_left h1]; exact h k h1
  · rw [List.getElem_append_right h1]
    simpa using hx
theorem Sized.allW (g r : Nat) : Sized (allW g r) r := fun _ hk => allW_size r _ (List.getElem_mem hk)

theorem far1_any (s x : ByteArray) (d : Int) (p q : Nat) (w : World) (hp : w.cell? ⟨p, 0, none⟩ = some (.string x)) (hq : w.cell? ⟨q, 0, none⟩ = some (.int .i64 d)) (hs : s.size ≤ 1048576) (hsz : s.size = x.size) :
    Calls Try.prog 66 #[.string s, .pointer (some ⟨p, 0, none⟩), .pointer (some ⟨q, 0, none⟩)] w (Ret w (.bool (decide ((farB s x : Int) < d)))) := by
  have hpl := cell_lt hp
  have hql := cell_lt hq
  go_enter Try.func66, Try.ntmps66
  go_wp2_with fail
  go_quiet (first | (go_at_call 44; exact qN (distance_any s x _ hs hsz)))
  go_wp2_with fail
  go_ret
  exact ⟨rfl, below_drewN (Below.refl _ _) _⟩
/-- The first place at which the closure says yes, or -1; the memory may have grown. -/
def FoundF (w : World) (b : Bool) (e : Ending) (w' : World) : Prop := ∃ r : Int, e = .returned (.int .i64 r) ∧ decide (0 ≤ r) = b ∧ Below w.heap.size w w'

set_option maxHeartbeats 1000000 in
theorem IndexFunc_far (x : ByteArray) (d : Int) (p q : Nat) (A : Option Addr) (n c : Nat) (l : List ByteArray) (w : World) (hp : w.cell? ⟨p, 0, none⟩ = some (.string x)) (hq : w.cell? ⟨q, 0, none⟩ = some (.int .i64 d)) (hx : x.size ≤ 1048576) (h : StrsAt w A l) (hl : n = l.length) (hn0 : n ≤ 1048576) (hs : Sized l x.size) :
    Calls Try.prog 67 #[.slice A n c, .func (.func 66) #[] #[.pointer (some ⟨p, 0, none⟩), .pointer (some ⟨q, 0, none⟩)]] w (FoundF w (!farAll l x d)) := by
  have H := Lib.hid h
  have HL := Lib.hid hl
  have HS := Lib.hid hs
  clear h hl hs
  go_enter Try.func67, Try.ntmps67
  go_wp2
  go_loopw [8] (fun u w' => ∃ (i : Nat), u = .int .i64 i ∧ i ≤ n ∧ Hid (farAll l x d = farAll (l.drop i) x d) ∧ Below w.heap.size w w') (fun u _ => n - (intOf u).toNat)
  case atStart => exact ⟨0, rfl, by omega, rfl, Below.refl _ _⟩
  case round =>
    obtain ⟨i, rfl, hin, HA, hbel⟩ := hrel
    by_cases hlt : i < n
    · obtain ⟨b, o, rfl, hblt, hc⟩ := (H.out.bel hbel) (by rw [← HL.out]; omega)
      have hil : i < l.length := by rw [← HL.out]; exact hlt
      have t0 := hc i hil
      have hsm := HS.out i hil
      have hd := farAll_step (w := x) (d := d) hil
      obtain ⟨s, hs⟩ : ∃ s, l[i] = s := ⟨_, rfl⟩
      rw [hs] at t0 hsm hd
      have hs48 : s.size ≤ 1048576 := by omega
      clear hc hs
      cases hv : decide ((farB s x : Int) < d)
      · have HF : Hid (farAll l x d = farAll (l.drop (i + 1)) x d) := by show _ = _; rw [HA.out, hd, hv]; rfl
        clear hd
        go_wp2_with fail
        refine (far1_any s x d p q _ (bel_cell hbel hp) (bel_cell hbel hq) hs48 hsm).mono ?_
        rintro e w2 ⟨rfl, hb2⟩
        rw [hv]
        go_wp2_with fail
        go_roundw
        case rel => exact ⟨i + 1, by go_num, by omega, HF, bel_next hbel hb2⟩
        case measure => simp [intOf]; omega
      · have HF : Hid (farAll l x d = false) := by show _ = _; rw [HA.out, hd, hv]; rfl
        clear hd
        go_wp2_with fail
        refine (far1_any s x d p q _ (bel_cell hbel hp) (bel_cell hbel hq) hs48 hsm).mono ?_
        rintro e w2 ⟨rfl, hb2⟩
        rw [hv]
        go_wp2_with fail
        go_ret
        exact ⟨_, rfl, by rw [HF.out]; simp, bel_next hbel hb2⟩
    · have HF : Hid (farAll l x d = true) := by show _ = _; rw [HA.out, List.drop_of_length_le (by rw [← HL.out]; omega)]; rfl
      go_wp2_with fail
      go_ret
      exact ⟨-1, rfl, by rw [HF.out]; rfl, hbel⟩

theorem ContainsFunc_far (x : ByteArray) (d : Int) (p q : Nat) (A : Option Addr) (n c : Nat) (l : List ByteArray) (w : World) (hp : w.cell? ⟨p, 0, none⟩ = some (.string x)) (hq : w.cell? ⟨q, 0, none⟩ = some (.int .i64 d)) (hx : x.size ≤ 1048576) (h : StrsAt w A l) (hl : n = l.length) (hn0 : n ≤ 1048576) (hs : Sized l x.size) :
    Calls Try.prog 65 #[.slice A n c, .func (.func 66) #[] #[.pointer (some ⟨p, 0, none⟩), .pointer (some ⟨q, 0, none⟩)]] w (Ret w (.bool (!farAll l x d))) := by
  have HL := Lib.hid hl
  clear hl
  go_enter Try.func65, Try.ntmps65
  go_wp2_with fail
  refine (IndexFunc_far x d p q A n c l _ hp hq hx h HL.out hn0 hs).mono ?_
  rintro e w1 ⟨r, rfl, hr, hb⟩
  have HR := Lib.hid hr
  clear hr
  go_wp2_with fail
  go_ret
  exact ⟨ret_bool (by rw [← HR.out]), hb⟩

theorem isFar_any (A : Option Addr) (n c : Nat) (l : List ByteArray) (x : ByteArray) (d : Int) (w : World) (hx : x.size ≤ 1048576) (h : StrsAt w A l) (hl : n = l.length) (hn0 : n ≤ 1048576) (hs : Sized l x.size) :
    Calls Try.prog 58 #[.slice A n c, .string x, .int .i64 d] w (Ret w (.bool (farAll l x d))) := by
  have HL := Lib.hid hl
  have HS := Lib.hid hs
  clear hl hs
  go_enter Try.func58, Try.ntmps58
  go_wp2_with fail
  refine (ContainsFunc_far x d w.heap.size (w.heap.size + 1) A n c l _ (by go_cell) (by go_cell) hx ((h.alloc _).alloc _) HL.out hn0 HS.out).mono ?_
  rintro e w1 ⟨rfl, hb⟩
  have D : Below w.heap.size w w1 := Below.trans (by go_grown) (hb.mono (by simp; omega))
  clear hb
  go_wp2_with fail
  go_ret
  exact ⟨rfl, D⟩

set_option maxHeartbeats 1000000 in
theorem l05Near_any (A : Option Addr) (n c : Nat) (l : List ByteArray) (x : ByteArray) (d : Int) (w : World) (hx : x.size ≤ 1048576) (h : StrsAt w A l) (hl : n = l.length) (hn0 : n ≤ 1048576) (hs : Sized l x.size) :
    Calls Try.prog 57 #[.slice A n c, .string x, .int .i64 d] w (Ret w (.bool (!farAll l x d))) := by
  have H := Lib.hid h
  have HL := Lib.hid hl
  have HS := Lib.hid hs
  clear h hl hs
  go_enter Try.func57, Try.ntmps57
  go_wp2_with fail
  go_loopw [7] (fun u w' => ∃ (i : Nat), u = .int .i64 i ∧ i ≤ n ∧ Hid (farAll l x d = farAll (l.drop i) x d) ∧ Below w.heap.size w w') (fun u _ => n - (intOf u).toNat)
  case atStart => exact ⟨0, rfl, by omega, rfl, Below.refl _ _⟩
  case round =>
    obtain ⟨i, rfl, hin, HA, hbel⟩ := hrel
    by_cases hlt : i < n
    · obtain ⟨b, o, rfl, hblt, hc⟩ := (H.out.bel hbel) (by rw [← HL.out]; omega)
      have hil : i < l.length := by rw [← HL.out]; exact hlt
      have t0 := hc i hil
      have hsm := HS.out i hil
      have hd := farAll_step (w := x) (d := d) hil
      obtain ⟨s, hs⟩ : ∃ s, l[i] = s := ⟨_, rfl⟩
      rw [hs] at t0 hsm hd
      have hs48 : s.size ≤ 1048576 := by omega
      clear hc hs
      by_cases hv : (farB s x : Int) < d
      · have HF : Hid (farAll l x d = false) := by show _ = _; rw [HA.out, hd, decide_eq_true hv]; rfl
        clear hd
        go_wp2_with fail
        refine (l05Far_any s x _ hs48 hsm).mono ?_
        rintro e w2 ⟨rfl, m2, rfl⟩
        go_wp2_with fail
        go_ret
        exact ⟨ret_bool (by rw [HF.out]; rfl), below_drewN hbel _⟩
      · have HF : Hid (farAll l x d = farAll (l.drop (i + 1)) x d) := by show _ = _; rw [HA.out, hd, decide_eq_false hv]; rfl
        clear hd
        go_wp2_with fail
        refine (l05Far_any s x _ hs48 hsm).mono ?_
        rintro e w2 ⟨rfl, m2, rfl⟩
        go_wp2_with fail
        go_roundw
        case rel => exact ⟨i + 1, by go_num, by omega, HF, below_drewN hbel _⟩
        case measure => simp [intOf]; omega
    · have HF : Hid (farAll l x d = true) := by show _ = _; rw [HA.out, List.drop_of_length_le (by rw [← HL.out]; omega)]; rfl
      go_wp2_with fail
      go_ret
      exact ⟨ret_bool (by rw [HF.out]; rfl), hbel⟩

set_option maxHeartbeats 2000000 in
set_option maxRecDepth 100000 in
theorem specGreedy_any (g r d : Int) (w : World) : Calls Try.prog 30 #[.int .i64 g, .int .i64 r, .int .i64 d] w (MadeSC w 9 (greedyR g r d).1 (greedyR g r d).2) := by
  by_cases hc : wcode g r d 300 = 0
  · obtain ⟨h1, h2, h3, h4, -, -⟩ := wcode_zero hc
    obtain ⟨g, rfl⟩ : ∃ q : Nat, g = q := ⟨g.toNat, by omega⟩
    obtain ⟨r, rfl⟩ : ∃ q : Nat, r = q := ⟨r.toNat, by omega⟩
    have E : Hid (greedyR g r d = (greedyF d [] (allW g r), 0)) := by show _ = _; simp [greedyR, hc]
    have HC := Lib.hid hc
    have hg : g ≤ 4 := by omega
    have hr : r ≤ 8 := by omega
    obtain ⟨i0, hi, hz0, hz1, hz2⟩ := info_parts info_string
    have HI := Lib.hid (And.intro hi (And.intro hz0 (And.intro hz1 hz2)))
    clear hc hi hz0 hz1 hz2
    go_enter Try.func30, Try.ntmps30
    go_wp2_with (go_at_call 56; refine (l05Code_any _ _ _ _).mono ?_; rintro e w2 ⟨rfl, rfl⟩; rw [HC.out])
    refine (l05All_any g r _ hg hr).mono ?_
    rintro e w1 ⟨A, c, rfl, hO, hb⟩
    have HO := Lib.hid hO
    have HWL := Lib.hid (StrsAt.ofOwn hO).1
    obtain ⟨W, hW⟩ : ∃ W, allW g r = W := ⟨_, rfl⟩
    have hwl : (allW g r).length ≤ 65536 := allW_le hg hr
    have HWS := Lib.hid (Sized.allW g r)
    rw [hW] at E HWL hwl HWS HO ⊢
    obtain ⟨n, hn⟩ : ∃ n, W.length = n := ⟨_, rfl⟩
    have HN := Lib.hid hn
    obtain ⟨F, hF⟩ : ∃ F, greedyF d [] W = F := ⟨_, rfl⟩
    rw [hF] at E
    have HF : Hid (greedyF d [] (W.drop 0) = F) := hF
    have D1 := hb
    rw [hn] at hwl ⊢
    clear hO hW hn hF hb HO
    go_wp2_with fail
    go_loopw [10, 11] (fun v u w' => ∃ (i : Nat) (ys : List ByteArray), u = .int .i64 i ∧ i ≤ n ∧ ys.length ≤ i ∧ w'.ownsRow w1.heap.size 9 1 v ys.length (ys.map Value.string) ∧ Hid (Sized ys r) ∧ Hid (greedyF d ys (W.drop i) = F) ∧ Below w1.heap.size w1 w') (fun _ u _ => n - (intOf u).toNat)
    case atStart => exact ⟨0, [], rfl, by omega, by simp, own_nil' _ _ _ rfl (Nat.le_refl _), fun k hk => absurd hk (by simp), HF, by go_grown⟩
    case round =>
      clear HF
      obtain ⟨i, ys, rfl, hin, hyi, hown, HSY, HF, hbel⟩ := hrel
      by_cases hlt : i < n
      · obtain ⟨b, o, rfl, hblt, hc⟩ := (HWL.out.bel hbel) (by rw [HN.out]; omega)
        have hil : i < W.length := by rw [HN.out]; exact hlt
        have t0 := hc i hil
        have hst := greedyF_step (d := d) (out := ys) hil
        have hsz := HWS.out i hil
        obtain ⟨x, hx⟩ : ∃ x, W[i] = x := ⟨_, rfl⟩
        rw [hx] at t0 hst hsz
        have hx48 : x.size ≤ 1048576 := by omega
        have HSX : Hid (Sized ys x.size) := by rw [hsz]; exact HSY.out
        obtain ⟨A2, c2, rfl⟩ := own_form hown
        have HR := Lib.hid (StrsAt.ofOwn hown).1
        have HO := Lib.hid hown
        have HSZ := Lib.hid hsz
        clear hc hx hown hsz
        cases hv : farAll ys x d
        · have HF2 : Hid (greedyF d ys (W.drop (i + 1)) = F) := by show _ = _; rw [← HF.out, hst, if_neg (by rw [hv]; exact Bool.false_ne_true)]
          clear hst HF
          go_wp2_with fail
          refine (l05Near_any A2 ys.length c2 ys x d _ hx48 HR.out rfl (by omega) HSX.out).mono ?_
          rintro e w5 ⟨rfl, hb5⟩
          rw [hv]
          have t5 := bel_cell hb5 t0
          have hbel5 := bel_next hbel hb5
          have HO5 := Lib.hid (own_belS HO.out hb5)
          have hsw := hbel5.size
          clear hb5 t0 HO HR
          go_wp2_with fail
          go_roundw
          case rel => exact ⟨i + 1, ys, by go_num, by omega, by omega, HO5.out, HSY, HF2, hbel5⟩
          case measure => simp [intOf]; omega
        · have HF2 : Hid (greedyF d (ys ++ [x]) (W.drop (i + 1)) = F) := by show _ = _; rw [← HF.out, hst, if_pos hv]
          clear hst HF
          go_wp2_with fail
          refine (l05Near_any A2 ys.length c2 ys x d _ hx48 HR.out rfl (by omega) HSX.out).mono ?_
          rintro e w5 ⟨rfl, hb5⟩
          rw [hv]
          have t5 := bel_cell hb5 t0
          have hbel5 := bel_next hbel hb5
          have HO5 := Lib.hid (own_belS HO.out hb5)
          have hsw := hbel5.size
          clear hb5 t0 HO HR
          go_wp2_with (at_builtin; refine wpList_append_lies _ rfl _ _ 25 rfl w1.heap.size 9 i0 (.string ByteArray.empty) 1 16 Try.underlying25 HI.out.1 HI.out.2.1 HI.out.2.2.1 HI.out.2.2.2 rfl (by decide) _ _ _ rfl (HO5.out.alloc _) ⟨w5.heap.size, 0, none⟩ 1 1 [.string x] rfl rfl ?c1 ?c2 ?c3 ?c4 ?c5 ?c6 (w5.heap.size + 1) (by simp) ?_)
          try
            case c1 =>
              intro j u hu
              cases j with
              | zero => simp at hu; subst hu; simp [Addr.add]
              | succ j => simp at hu
          try case c2 => first | exact strs_oneCell [x] | rfl
          try case c3 => omega
          try case c4 => unfold maxLen; omega
          try case c5 => omega
          try case c6 => first | (simp; omega) | omega
          intro g4 cap4 w4 hown1 hgrow hat4 hlt4
          have hown2 : w4.ownsRow w1.heap.size 9 1 (.slice (some ⟨g4, 0, none⟩) (ys.length + 1) cap4) (ys ++ [x]).length ((ys ++ [x]).map Value.string) := by simpa using hown1
          have HO4 := Lib.hid hown2
          have hb4 : Below w1.heap.size w1 w4 := Below.grown (show Below w1.heap.size w1 _ from hbel5.alloc hbel5.size _) hgrow (by simp; omega) (fun k hk => by have := (HO5.out.lt k hk).1; omega)
          have HSY4 := Lib.hid (HSY.out.snoc HSZ.out)
          have hyl : (ys ++ [x]).length ≤ i + 1 := by simp; omega
          clear hown1 hown2 hgrow hat4 hlt4
          go_wp2_with fail
          go_roundw
          case rel => exact ⟨i + 1, ys ++ [x], by go_num, by omega, hyl, HO4.out, HSY4, HF2, hb4⟩
          case measure => simp [intOf]; omega
      · have HE : Hid (F = ys) := by show _ = _; rw [← HF.out, List.drop_of_length_le (by rw [HN.out]; omega), greedyF]
        obtain ⟨A2, c2, rfl⟩ := own_form hown
        have HO := Lib.hid hown
        clear hown
        go_wp2_with fail
        refine bodyPost_ret (v := .tuple #[.slice A2 ys.length c2, .int .i64 0]) (by simp [results, Try.results30, go_sem]) rfl ?_
        rw [E.out, HE.out]
        exact ⟨A2, c2, rfl, own_baseS HO.out D1.size, bel_next D1 hbel⟩
  · have E : Hid (greedyR g r d = ([], wcode g r d 300)) := by show _ = _; simp [greedyR, hc]
    obtain ⟨z, hz⟩ : ∃ z, wcode g r d 300 = z := ⟨_, rfl⟩
    have HZ := Lib.hid hz
    rw [hz] at E hc
    clear hz
    have hb1 : (z != 0) = true := by simpa using hc
    have hb2 : (z == 0) = false := by simpa using hc
    go_enter Try.func30, Try.ntmps30
    go_wp2_with (go_at_call 56; refine (l05Code_any _ _ _ _).mono ?_; rintro e w2 ⟨rfl, rfl⟩; rw [HZ.out])
    refine bodyPost_ret (v := .tuple #[.slice none 0 0, .int .i64 z]) (by simp [results, Try.results30, go_sem]) rfl ?_
    rw [E.out]
    exact ⟨none, 0, rfl, own_noneS _ _ _, Below.refl _ _⟩

set_option maxHeartbeats 2000000 in
set_option maxRecDepth 100000 in
theorem implGreedy_any (g r d : Int) (w : World) : Calls Try.prog 31 #[.int .i64 g, .int .i64 r, .int .i64 d] w (MadeSC w 9 (greedyR g r d).1 (greedyR g r d).2) := by
  by_cases hc : wcode g r d 300 = 0
  · obtain ⟨h1, h2, h3, h4, -, -⟩ := wcode_zero hc
    obtain ⟨g, rfl⟩ : ∃ q : Nat, g = q := ⟨g.toNat, by omega⟩
    obtain ⟨r, rfl⟩ : ∃ q : Nat, r = q := ⟨r.toNat, by omega⟩
    have E : Hid (greedyR g r d = (greedyF d [] (allW g r), 0)) := by show _ = _; simp [greedyR, hc]
    have HC := Lib.hid hc
    have hg : g ≤ 4 := by omega
    have hr : r ≤ 8 := by omega
    obtain ⟨i0, hi, hz0, hz1, hz2⟩ := info_parts info_string
    have HI := Lib.hid (And.intro hi (And.intro hz0 (And.intro hz1 hz2)))
    clear hc hi hz0 hz1 hz2
    go_enter Try.func31, Try.ntmps31
    go_wp2_with (go_at_call 50; refine (wordsCode_300 _ _ _ _).mono ?_; rintro e w2 ⟨rfl, rfl⟩; rw [HC.out])
    refine (allWords_any g r _ hg hr).mono ?_
    rintro e w1 ⟨A, c, rfl, hO, hb⟩
    have HO := Lib.hid hO
    have HWL := Lib.hid (StrsAt.ofOwn hO).1
    obtain ⟨W, hW⟩ : ∃ W, allW g r = W := ⟨_, rfl⟩
    have hwl : (allW g r).length ≤ 65536 := allW_le hg hr
    have HWS := Lib.hid (Sized.allW g r)
    rw [hW] at E HWL hwl HWS HO ⊢
    obtain ⟨n, hn⟩ : ∃ n, W.length = n := ⟨_, rfl⟩
    have HN := Lib.hid hn
    obtain ⟨F, hF⟩ : ∃ F, greedyF d [] W = F := ⟨_, rfl⟩
    rw [hF] at E
    have HF : Hid (greedyF d [] (W.drop 0) = F) := hF
    have hap0 : ∀ p, A = some p → p.block ≠ w.heap.size := fun p hp => by
      rcases Nat.eq_zero_or_pos W.length with h0 | h0
      · intro he
        have h6 := HO.out.lt
        rw [hp] at h6
        have h7 := (h6 _ rfl).1
        simp at h7
        omega
      · have h6 := HO.out.lt
        rw [hp] at h6
        have h7 := (h6 _ rfl).1
        simp at h7
        omega
    have D1 : Below w.heap.size w w1 := Below.trans (by go_grown) (hb.mono (by simp))
    have HO1 : Hid (w1.ownsRow w.heap.size 9 1 (.slice (some ⟨w.heap.size, 0, none⟩) 0 0) 0 (([] : List ByteArray).map Value.string)) := own_belS (own_nil' w 9 w.heap.size rfl (Nat.le_refl _)) hb
    rw [hn] at hwl ⊢
    clear hO hW hn hF hb HO
    go_wp2_with fail
    go_loopw [9, 24] (fun v u w' => ∃ (i : Nat) (ys : List ByteArray), u = .int .i64 i ∧ i ≤ n ∧ ys.length ≤ i ∧ w'.ownsRow w.heap.size 9 1 v ys.length (ys.map Value.string) ∧ Hid (∀ k p, v.ownBlock = some k → A = some p → p.block ≠ k) ∧ Hid (StrsAt w' A W) ∧ Hid (Sized ys r) ∧ Hid (greedyF d ys (W.drop i) = F) ∧ Below w.heap.size w w') (fun _ u _ => n - (intOf u).toNat)
    case atStart => exact ⟨0, [], rfl, by omega, by simp, HO1.out, fun k p hk hp => by simp [Value.ownBlock] at hk; subst hk; exact hap0 p hp, HWL, fun k hk => absurd hk (by simp), HF, D1⟩
    case round =>
      clear HF HWL HO1 hap0
      obtain ⟨i, ys, rfl, hin, hyi, hown, HAP, HWL, HSY, HF, hbel⟩ := hrel
      by_cases hlt : i < n
      · obtain ⟨b, o, rfl, hblt, hc⟩ := HWL.out (by rw [HN.out]; omega)
        have hil : i < W.length := by rw [HN.out]; exact hlt
        have t0 := hc i hil
        have hst := greedyF_step (d := d) (out := ys) hil
        have hsz := HWS.out i hil
        obtain ⟨x, hx⟩ : ∃ x, W[i] = x := ⟨_, rfl⟩
        rw [hx] at t0 hst hsz
        have hx48 : x.size ≤ 1048576 := by omega
        have HSX : Hid (Sized ys x.size) := by rw [hsz]; exact HSY.out
        obtain ⟨A2, c2, rfl⟩ := own_form hown
        have HR := Lib.hid (StrsAt.ofOwn hown).1
        have HO := Lib.hid hown
        have HSZ := Lib.hid hsz
        clear hc hx hown hsz
        cases hv : farAll ys x d
        · have HF2 : Hid (greedyF d ys (W.drop (i + 1)) = F) := by show _ = _; rw [← HF.out, hst, if_neg (by rw [hv]; exact Bool.false_ne_true)]
          clear hst HF
          go_wp2_with fail
          refine (isFar_any A2 ys.length c2 ys x d _ hx48 HR.out rfl (by omega) HSX.out).mono ?_
          rintro e w5 ⟨rfl, hb5⟩
          rw [hv]
          have t5 := bel_cell hb5 t0
          have hbel5 := bel_next hbel hb5
          have HO5 := Lib.hid (own_belS HO.out hb5)
          have hsw := hbel5.size
          have HWL5 := Lib.hid (HWL.out.bel hb5)
          clear HWL
          clear hb5 t0 HO HR
          go_wp2_with fail
          go_roundw
          case rel => exact ⟨i + 1, ys, by go_num, by omega, by omega, HO5.out, HAP, HWL5, HSY, HF2, hbel5⟩
          case measure => simp [intOf]; omega
        · have HF2 : Hid (greedyF d (ys ++ [x]) (W.drop (i + 1)) = F) := by show _ = _; rw [← HF.out, hst, if_pos hv]
          clear hst HF
          go_wp2_with fail
          refine (isFar_any A2 ys.length c2 ys x d _ hx48 HR.out rfl (by omega) HSX.out).mono ?_
          rintro e w5 ⟨rfl, hb5⟩
          rw [hv]
          have t5 := bel_cell hb5 t0
          have hbel5 := bel_next hbel hb5
          have HO5 := Lib.hid (own_belS HO.out hb5)
          have hsw := hbel5.size
          have HWL5 := Lib.hid (HWL.out.bel hb5)
          clear HWL
          clear hb5 t0 HO HR
          go_wp2_with (at_builtin; refine wpList_append_lies _ rfl _ _ 25 rfl w.heap.size 9 i0 (.string ByteArray.empty) 1 16 Try.underlying25 HI.out.1 HI.out.2.1 HI.out.2.2.1 HI.out.2.2.2 rfl (by decide) _ _ _ rfl (HO5.out.alloc _) ⟨w5.heap.size, 0, none⟩ 1 1 [.string x] rfl rfl ?c1 ?c2 ?c3 ?c4 ?c5 ?c6 (w5.heap.size + 1) (by simp) ?_)
          try
            case c1 =>
              intro j u hu
              cases j with
              | zero => simp at hu; subst hu; simp [Addr.add]
              | succ j => simp at hu
          try case c2 => first | exact strs_oneCell [x] | rfl
          try case c3 => omega
          try case c4 => unfold maxLen; omega
          try case c5 => omega
          try case c6 => first | (simp; omega) | omega
          intro g4 cap4 w4 hown1 hgrow hat4 hlt4
          have hown2 : w4.ownsRow w.heap.size 9 1 (.slice (some ⟨g4, 0, none⟩) (ys.length + 1) cap4) (ys ++ [x]).length ((ys ++ [x]).map Value.string) := by simpa using hown1
          have HO4 := Lib.hid hown2
          have hb4 : Below w.heap.size w w4 := Below.grown (show Below w.heap.size w _ from hbel5.alloc hbel5.size _) hgrow (by simp; omega) (fun k hk => by have := (HO5.out.lt k hk).1; omega)
          have HWL4 : Hid (StrsAt w4 (some ⟨b, o, none⟩) W) := (HWL5.out.alloc _).grown hgrow (fun _ p hp he => (HAP.out _ p he.symm hp) rfl)
          have HAP4 : Hid (∀ k p, (Value.slice (some ⟨g4, 0, none⟩) (ys.length + 1) cap4).ownBlock = some k → (some (⟨b, o, none⟩ : Addr)) = some p → p.block ≠ k) := by
            show ∀ k p, _
            intro k p hk hp
            simp [Value.ownBlock] at hk
            subst hk
            cases hp
            rcases hat4 with h | h
            · exact HAP.out _ _ h rfl
            · have := cell_lt t5
              show b ≠ g4
              omega
          have HSY4 := Lib.hid (HSY.out.snoc HSZ.out)
          have hyl : (ys ++ [x]).length ≤ i + 1 := by simp; omega
          clear hown1 hown2 hgrow hat4 hlt4
          go_wp2_with fail
          go_roundw
          case rel => exact ⟨i + 1, ys ++ [x], by go_num, by omega, hyl, HO4.out, HAP4, HWL4, HSY4, HF2, hb4⟩
          case measure => simp [intOf]; omega
      · have HE : Hid (F = ys) := by show _ = _; rw [← HF.out, List.drop_of_length_le (by rw [HN.out]; omega), greedyF]
        obtain ⟨A2, c2, rfl⟩ := own_form hown
        have HO := Lib.hid hown
        clear hown
        go_wp2_with fail
        refine bodyPost_ret (v := .tuple #[.slice A2 ys.length c2, .int .i64 0]) (by simp [results, Try.results31, go_sem]) rfl ?_
        rw [E.out, HE.out]
        exact ⟨A2, c2, rfl, HO.out, hbel⟩
  · have E : Hid (greedyR g r d = ([], wcode g r d 300)) := by show _ = _; simp [greedyR, hc]
    obtain ⟨z, hz⟩ : ∃ z, wcode g r d 300 = z := ⟨_, rfl⟩
    have HZ := Lib.hid hz
    rw [hz] at E hc
    clear hz
    have hb1 : (z != 0) = true := by simpa using hc
    have hb2 : (z == 0) = false := by simpa using hc
    go_enter Try.func31, Try.ntmps31
    go_wp2_with (go_at_call 50; refine (wordsCode_300 _ _ _ _).mono ?_; rintro e w2 ⟨rfl, rfl⟩; rw [HZ.out])
    refine bodyPost_ret (v := .tuple #[.slice none 0 0, .int .i64 z]) (by simp [results, Try.results31, go_sem]) rfl ?_
    rw [E.out]
    exact ⟨none, 0, rfl, own_noneS _ _ _, Below.refl _ _⟩

end Go.Proofs.Ytfhmmebciikgeaa
