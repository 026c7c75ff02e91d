/-
  CONTRACT: the search over all simple ways.
-/
import Derived.Test.YtlebkjkiikehhaaFew2
namespace Go.Proofs.Ytlebkjkiikehhaa.Cst
open Go.RowKit

/-! ### plain -/
theorem contains_hasD (ps : List Int) (d : Int) : ps.contains d = hasD ps d := by
  unfold hasD
  induction ps with
  | nil => rfl
  | cons p ps ih =>
    rw [List.contains_cons, List.any_cons, ih]
    congr 1
    by_cases h : d = p
    · subst h; simp
    · have h2 : ¬ p = d := fun e => h e.symm
      simp [h, h2]
theorem badW_yes {ps : List Int} {a : Nat} {d : Int} (h : hasD ps d = true ∨ d = (a : Int)) : badW ps a d = true := by
  unfold badW
  rw [contains_hasD]
  rcases h with h | h
  · rw [h, Bool.true_or]
  · simp [h]
theorem badW_no {ps : List Int} {a : Nat} {d : Int} (h : hasD ps d = false) (h' : ¬ d = (a : Int)) : badW ps a d = false := by
  unfold badW
  rw [contains_hasD, h]
  simpa using h'
theorem hasD_false {ps : List Int} {d : Int} (h : hasD ps d = false) : d ∉ ps := fun hm => by
  have : hasD ps d = true := List.any_eq_true.2 ⟨d, hm, by simp⟩
  rw [h] at this
  cases this
/-- One tube of a station: what the search does with it. -/
def tryI (l : List Tb) (st : List Int) (gl k : Nat) (way ps : List Int) (a : Nat) (s : St) (i : Int) : St :=
  if badW ps a (nxtI l i) then s else dfsF l st gl k (way ++ [i]) (ps ++ [(a : Int)]) (nxtI l i).toNat s
theorem dfs_at {l : List Tb} {st : List Int} {gl k : Nat} {way ps : List Int} {s : St} : dfsF l st gl (k + 1) way ps gl s = stepS l st s way := if_pos rfl
theorem dfs_fold {l : List Tb} {st : List Int} {gl k : Nat} {way ps : List Int} {a : Nat} {s : St} (h : ¬ a = gl) : dfsF l st gl (k + 1) way ps a s = (fromI a l 0).foldl (tryI l st gl k way ps a) s := if_neg h
theorem fold_drop {α β : Type} (f : β → α → β) (l : List α) (i : Nat) (s : β) (h : i < l.length) : (l.drop i).foldl f s = (l.drop (i + 1)).foldl f (f s l[i]) := by
  rw [drop_at' h, List.foldl_cons]

theorem fromI_le (st : Int) : ∀ (l : List Tb) (k : Int), (fromI st l k).length ≤ l.length
  | [], _ => Nat.le_refl _
  | t :: ts, k => by
    rw [fromI]
    have := fromI_le st ts (k + 1)
    split <;> simp only [List.length_cons] <;> omega

/-! ### memory -/
theorem _root_.Go.Proofs.Ytlebkjkiikehhaa.TubesAt.butR {A : Option Addr} {lo hi : Nat} {w w' : World} {l : List Tb} (h : TubesAt w A l) (hb : ButR lo hi w w') (hne : 0 < l.length → ∀ p, A = some p → p.block < lo ∨ hi ≤ p.block) : TubesAt w' A l := fun h0 => by
  obtain ⟨b, o, e, hlt, hc⟩ := h h0
  have hn := hne h0 _ e
  exact ⟨b, o, e, Nat.lt_of_lt_of_le hlt hb.size, fun k hk => ⟨hb.cell hn (hc k hk).c0, hb.cell hn (hc k hk).c1, hb.cell hn (hc k hk).c2⟩⟩
structure EnvW (w : World) (nb sb e : Nat) (S : Int) (A : Option Addr) (n c : Nat) (l : List Tb) (A' : Option Addr) (n' c' : Nat) (st : List Int) : Prop where
  net : Blk w nb 30 #[.int .i64 S, .slice A n c]
  set : Blk w sb 39 #[.slice A' n' c']
  ts : TubesAt w A l
  is : IntsAt w A' st
  nbe : nb < e
  sbe : sb < e
  tse : 0 < l.length → ∀ p, A = some p → p.block < e
  ise : 0 < st.length → ∀ p, A' = some p → p.block < e
theorem EnvW.butR {w w' : World} {nb sb e : Nat} {S : Int} {A : Option Addr} {n c : Nat} {l : List Tb} {A' : Option Addr} {n' c' : Nat} {st : List Int} (h : EnvW w nb sb e S A n c l A' n' c' st) (hb : ButR e (e + 3) w w') : EnvW w' nb sb e S A n c l A' n' c' st :=
  ⟨hb.blk h.net (.inl h.nbe), hb.blk h.set (.inl h.sbe), h.ts.butR hb (fun h0 p hp => .inl (h.tse h0 p hp)), h.is.butR hb (fun h0 p hp => .inl (h.ise h0 p hp)), h.nbe, h.sbe, h.tse, h.ise⟩
structure WayW (w : World) (e : Nat) (A : Option Addr) (n c : Nat) (way : List Int) : Prop where
  form : (A = none ∧ n = 0 ∧ c = 0) ∨ ∃ b o, A = some ⟨b, o, none⟩
  at_ : IntsAt w A way
  len : n = way.length
  le : n ≤ 10
  far : 0 < way.length → ∀ p, A = some p → e + 3 ≤ p.block
theorem WayW.butR {w w' : World} {e : Nat} {A : Option Addr} {n c : Nat} {way : List Int} (h : WayW w e A n c way) (hb : ButR e (e + 3) w w') : WayW w' e A n c way :=
  ⟨h.form, h.at_.butR hb (fun h0 p hp => .inr (h.far h0 p hp)), h.len, h.le, h.far⟩

theorem own_grown {w w' : World} {base n size : Nat} {t : TypeId} {v : Value} {xs : List Value} {row : Option Nat} (h : w.ownsRow base t size v n xs) (hb : w.grownBy w' row) (hne : ∀ k, v.ownBlock = some k → some k ≠ row) : w'.ownsRow base t size v n xs := by
  refine ⟨h.1, ?_⟩
  rcases h.2 with h0 | ⟨g, cap, cur, hv, h1, hg, h2⟩
  · exact .inl h0
  · exact .inr ⟨g, cap, cur, hv, h1, Blk.grown hg hb (hne g (by rw [hv]; rfl)), h2⟩

set_option maxHeartbeats 40000000 in
set_option maxRecDepth 100000 in
theorem ways_any (h0 nb sb e S0 : Nat) (A : Option Addr) (n c : Nat) (l : List Tb) (A' : Option Addr) (n' c' : Nat) (st : List Int) (gl : Nat) (hl : n = l.length) (hn0 : n ≤ 1048576) (hl' : n' = st.length) (hv : setOK (S0 : Int) l st = true) (hgl : gl < S0) (he : h0 ≤ e) :
    ∀ (k : Nat) (A2 : Option Addr) (n2 c2 : Nat) (way : List Int) (A3 : Option Addr) (n3 c3 : Nat) (ps : List Int) (a : Nat) (s : St) (w : World), EnvW w nb sb e S0 A n c l A' n' c' st → WayW w e A2 n2 c2 way → WayW w e A3 n3 c3 ps → StW w h0 e s → Idx l way →
      ps.Nodup → (∀ p ∈ ps, ∃ q : Nat, p = q ∧ q < S0) → (a : Int) ∉ ps → a < S0 → ps.length + k = S0 → way.length = ps.length →
    Calls Try.prog 80 #[.agg #[.int .i64 (S0 : Int), .slice A n c], .slice A2 n2 c2, .slice A3 n3 c3, .int .i64 (a : Int), .int .i64 (gl : Int), .func (.func 81) #[] #[.pointer (some ⟨nb, 0, none⟩), .pointer (some ⟨sb, 0, none⟩), .pointer (some ⟨e + 1, 0, none⟩), .pointer (some ⟨e + 2, 0, none⟩), .pointer (some ⟨e, 0, none⟩)]] w
      (Searched w h0 e (dfsF l st gl k way ps a s)) := by
  have HL := Lib.hid hl
  have HL' := Lib.hid hl'
  have HV := Lib.hid hv
  have HVN := Lib.hid (setOK_true hv).1
  clear hl hl' hv
  intro k
  induction k with
  | zero =>
    intro A2 n2 c2 way A3 n3 c3 ps a s w _ _ _ _ _ hnd hlt hna has hk
    have := pigeon hnd hlt hna has
    omega
  | succ k ih =>
    intro A2 n2 c2 way A3 n3 c3 ps a s w hE hW hP hS hI hnd hlt hna has hk hwl
    have IH := Lib.hid ih
    have E0 := Lib.hid hE
    have W0 := Lib.hid hW
    have P0 := Lib.hid hP
    have Z0 := Lib.hid hS
    have HI := Lib.hid hI
    have HND := Lib.hid hnd
    have HLT := Lib.hid hlt
    have HNA := Lib.hid hna
    have HK := Lib.hid hk
    have HWL := Lib.hid hwl
    have HK0 : Hid (e + 2 < w.heap.size) := hS.2.1.lt
    clear ih hE hW hP hS hI hnd hlt hna hk hwl
    by_cases hag : a = gl
    · subst hag
      rw [dfs_at]
      have hb0 : Below w.heap.size w (w.alloc (.cells #[.int .i64 (S0 : Int), .slice A n c] 30)) := by go_grown
      have E1 := Lib.hid (E0.out.butR (butR_bel hb0))
      have W1 := Lib.hid (W0.out.butR (butR_bel hb0))
      have Z1 := Lib.hid (Z0.out.bel hb0)
      have R1 : Hid (ButR e (e + 3) w (w.alloc (.cells #[.int .i64 (S0 : Int), .slice A n c] 30))) := butR_bel hb0
      clear hb0
      go_enter Try.func80, Try.ntmps80
      go_wp2_with fail
      refine (yield_any h0 nb sb e S0 A n c l A' n' c' st A2 n2 c2 way s _ E1.out.net E1.out.set E1.out.ts HL.out E1.out.is HL'.out W1.out.form W1.out.at_ W1.out.len (Nat.le_trans W1.out.le (by omega)) HV.out HI.out Z1.out he).mono ?_
      rintro x w2 ⟨v, rfl, hz, hr⟩
      have Z2 := Lib.hid hz
      have R2 := Lib.hid (R1.out.trans hr)
      clear hz hr
      go_wp2_with fail
      refine bodyPost_ret (v := .tuple #[]) (by simp [results, Try.results80, go_sem]) rfl ?_
      exact ⟨_, rfl, Z2.out, R2.out⟩
    · rw [dfs_fold hag]
      have hb1 : ((a : Int) == (gl : Int)) = false := by rw [beq_eq_false_iff_ne]; omega
      have hb0 : Below w.heap.size w (w.alloc (.cells #[.int .i64 (S0 : Int), .slice A n c] 30)) := by go_grown
      have B1 : Hid (Blk (w.alloc (.cells #[.int .i64 (S0 : Int), .slice A n c] 30)) w.heap.size 30 #[.int .i64 (S0 : Int), .slice A n c]) := Blk.new _ _ _
      have E1 := Lib.hid (E0.out.butR (butR_bel hb0))
      have Z1 := Lib.hid (Z0.out.bel hb0)
      have R1 : Hid (ButR e (e + 3) w (w.alloc (.cells #[.int .i64 (S0 : Int), .slice A n c] 30))) := butR_bel hb0
      have q1 : Hid (w.heap.size ≤ (w.alloc (.cells #[.int .i64 (S0 : Int), .slice A n c] 30)).heap.size) := hb0.size
      obtain ⟨k0, k1, -⟩ := B1.out.c2
      clear hb0
      obtain ⟨fr, hfr⟩ : ∃ fr, fromI (a : Int) l 0 = fr := ⟨_, rfl⟩
      have HFR := Lib.hid hfr
      obtain ⟨fl, hfl⟩ : ∃ fl, fr.length = fl := ⟨_, rfl⟩
      have HFL := Lib.hid hfl
      have hfl0 : fl ≤ 1048576 := by rw [← hfl, ← hfr]; have := fromI_le (a : Int) l 0; have := HL.out; omega
      obtain ⟨f, hf⟩ : ∃ f, f = tryI l st gl k way ps a := ⟨_, rfl⟩
      have HF := Lib.hid hf
      rw [hfr, ← hf]
      obtain ⟨TOT, hT⟩ : ∃ TOT, fr.foldl f s = TOT := ⟨_, rfl⟩
      rw [hT]
      have T0 : Hid ((fr.drop 0).foldl f s = TOT) := hT
      clear hfr hfl hf hT
      go_enter Try.func80, Try.ntmps80
      go_wp2_with fail
      refine (tubesFrom_any S0 A n c l a _ E1.out.ts HL.out hn0).mono ?_
      rw [HFR.out]
      rintro x w2 ⟨A5, c5, rfl, O5, hb⟩
      obtain ⟨I5, -, -, U5⟩ := own_gives O5
      have B2 := hid_blk B1 hb
      have Z2 := Lib.hid (Z1.out.bel hb)
      have R2 := Lib.hid (R1.out.trans (butR_bel hb))
      have I2 := Lib.hid I5
      have F2 : Hid (∀ p, A5 = some p → e + 3 ≤ p.block) := fun p hp => by have h1 := (U5 p hp).1; have h2 := q1.out; have h3 := HK0.out; omega
      rw [HFL.out]
      clear hb O5 I5 U5 B1 Z1 R1 k0 k1
      go_wp2_with fail
      go_loopw [25] (fun u w' => ∃ (i : Nat) (si : St), u = .int .i64 i ∧ i ≤ fl ∧ Hid ((fr.drop i).foldl f si = TOT) ∧ Hid (Blk w' w.heap.size 30 #[.int .i64 (S0 : Int), .slice A n c]) ∧ Hid (IntsAt w' A5 fr) ∧ Hid (StW w' h0 e si) ∧ Hid (ButR e (e + 3) w w')) (fun u _ => fl - (intOf u).toNat)
      case atStart => exact ⟨0, s, rfl, by omega, T0, B2, I2, Z2, R2⟩
      case round =>
        clear T0 B2 I2 Z2 R2 E1
        obtain ⟨i, si, rfl, hif, HT, HB, HIN, HZ, HR⟩ := hrel
        by_cases hlt : i < fl
        · have hil : i < fr.length := by rw [HFL.out]; exact hlt
          obtain ⟨b5, o5, rfl, hblt5, hc5⟩ := HIN.out (by omega)
          have t5 := hc5 i hil
          have hmem : fr[i] ∈ fromI (a : Int) l 0 := by rw [HFR.out]; exact List.getElem_mem hil
          obtain ⟨q, hq, hx, -⟩ := from_mem a l 0 _ hmem
          rw [Nat.zero_add] at hx
          have hfd := fold_drop f fr i si hil
          rw [hx] at t5 hfd
          rw [HT.out] at hfd
          have hqn : q < n := by rw [HL.out]; exact hq
          have ER := Lib.hid (E0.out.butR HR.out)
          have PR := Lib.hid (P0.out.butR HR.out)
          have WR := Lib.hid (W0.out.butR HR.out)
          obtain ⟨b2, o2, rfl, hblt2, hc2⟩ := ER.out.ts (by omega)
          obtain ⟨y0, t1, y2⟩ := hc2 q hq
          have hgd := validN_at (validN_true HVN.out).2.2.2 hq
          simp only [validTube, Bool.and_eq_true] at hgd
          have hd1 := inB_true hgd.1.1.2
          obtain ⟨d, hd⟩ : ∃ d : Nat, l[q].2.1 = d := ⟨l[q].2.1.toNat, by omega⟩
          rw [hd] at t1 hd1
          have hdS : d < S0 := by omega
          have hnx : nxtI l (q : Int) = (d : Int) := by unfold nxtI; rw [Int.toNat_natCast, tbAt_eq hq]; exact hd
          have HNX := Lib.hid hnx
          have HFD := Lib.hid hfd
          have HQ := Lib.hid hq
          obtain ⟨x0, x1, -⟩ := HB.out.c2
          clear hc5 hmem hx hfd hc2 y0 y2 hgd hd1 hd hnx hil hq
          go_wp2_with fail
          refine (Contains_intD A3 n3 c3 ps (d : Int) _ PR.out.at_ PR.out.len (Nat.le_trans PR.out.le (by omega))).mono ?_
          rintro x w3 ⟨rfl, rfl⟩
          obtain ⟨hb, hhb⟩ : ∃ hb, hasD ps (d : Int) = hb := ⟨_, rfl⟩
          rw [hhb]
          have HH := Lib.hid hhb
          clear hhb
          cases hb with
          | true =>
            have HT2 : Hid ((fr.drop (i + 1)).foldl f si = TOT) := by
              show _ = _
              have h1 := HFD.out
              have h2 : f si (q : Int) = si := by rw [HF.out]; unfold tryI; rw [HNX.out, badW_yes (.inl HH.out), if_pos rfl]
              rw [h2] at h1
              exact h1.symm
            go_wp2_with fail
            go_roundw
            case rel => exact ⟨i + 1, si, by go_num, by omega, HT2, HB, HIN, HZ, HR⟩
            case measure => simp [intOf]; omega
          | false =>
            by_cases hda : d = a
            · subst hda
              have hbn : ((d : Int) != (d : Int)) = false := by simp
              have HT2 : Hid ((fr.drop (i + 1)).foldl f si = TOT) := by
                show _ = _
                have h1 := HFD.out
                have h2 : f si (q : Int) = si := by rw [HF.out]; unfold tryI; rw [HNX.out, badW_yes (.inr rfl), if_pos rfl]
                rw [h2] at h1
                exact h1.symm
              go_wp2_with fail
              go_roundw
              case rel => exact ⟨i + 1, si, by go_num, by omega, HT2, HB, HIN, HZ, HR⟩
              case measure => simp [intOf]; omega
            · have hbn : ((d : Int) != (a : Int)) = true := by simpa using (show ¬ (d : Int) = (a : Int) by omega)
              have HT2 : Hid ((fr.drop (i + 1)).foldl f (dfsF l st gl k (way ++ [(q : Int)]) (ps ++ [(a : Int)]) d si) = TOT) := by
                show _ = _
                have h1 := HFD.out
                have h2 : f si (q : Int) = dfsF l st gl k (way ++ [(q : Int)]) (ps ++ [(a : Int)]) d si := by
                  rw [HF.out]; unfold tryI; rw [HNX.out, badW_no HH.out (by omega), if_neg (by simp), Int.toNat_natCast]
                rw [h2] at h1
                exact h1.symm
              have hS10 : S0 ≤ 10 := by have := (validN_true HVN.out).2.1; omega
              have hp1 : ps.length + 1 ≤ S0 := by have := HK.out; omega
              have REC : Hid (∀ (W' : World) (g1 c1 g2 c2' : Nat), Below wr.heap.size wr W' → W'.ownsRow wr.heap.size 2 1 (.slice (some ⟨g1, 0, none⟩) (way.length + 1) c1) (way.length + 1) ((way ++ [(q : Int)]).map (Value.int .i64)) →
                  W'.ownsRow wr.heap.size 2 1 (.slice (some ⟨g2, 0, none⟩) (ps.length + 1) c2') (ps.length + 1) ((ps ++ [(a : Int)]).map (Value.int .i64)) →
                  Calls Try.prog 80 #[.agg #[.int .i64 (S0 : Int), .slice (some ⟨b2, o2, none⟩) n c], .slice (some ⟨g1, 0, none⟩) (way.length + 1) c1, .slice (some ⟨g2, 0, none⟩) (ps.length + 1) c2', .int .i64 (d : Int), .int .i64 (gl : Int), .func (.func 81) #[] #[.pointer (some ⟨nb, 0, none⟩), .pointer (some ⟨sb, 0, none⟩), .pointer (some ⟨e + 1, 0, none⟩), .pointer (some ⟨e + 2, 0, none⟩), .pointer (some ⟨e, 0, none⟩)]] W'
                    (fun x W'' => ∃ v, x = .returned v ∧ StW W'' h0 e (dfsF l st gl k (way ++ [(q : Int)]) (ps ++ [(a : Int)]) d si) ∧ ButR e (e + 3) wr W'')) := by
                intro W' g1 c1 g2 c2' hD h1 h2
                have hez : e + 2 < wr.heap.size := HZ.out.2.1.lt
                obtain ⟨i1, -, -, u1⟩ := own_gives h1
                obtain ⟨i2, -, -, u2⟩ := own_gives h2
                have hle : way.length + 1 ≤ 10 := by have := HWL.out; omega
                refine (IH.out (some ⟨g1, 0, none⟩) (way.length + 1) c1 (way ++ [(q : Int)]) (some ⟨g2, 0, none⟩) (ps.length + 1) c2' (ps ++ [(a : Int)]) d si W' (ER.out.butR (butR_bel hD))
                  ⟨.inr ⟨_, _, rfl⟩, i1, by simp, hle, fun _ p hp => by have := (u1 p hp).1; omega⟩ ⟨.inr ⟨_, _, rfl⟩, i2, by simp, by omega, fun _ p hp => by have := (u2 p hp).1; omega⟩ (HZ.out.bel hD) ?_ ?_ ?_ ?_ hdS ?_ ?_).mono ?_
                · intro x hx
                  rcases List.mem_append.1 hx with hx | hx
                  · exact HI.out x hx
                  · rw [List.mem_singleton] at hx
                    exact ⟨q, hx, HQ.out⟩
                · rw [List.nodup_append]
                  refine ⟨HND.out, by simp, fun x hx y hy e => ?_⟩
                  rw [List.mem_singleton] at hy
                  subst e
                  rw [hy] at hx
                  exact HNA.out hx
                · intro x hx
                  rcases List.mem_append.1 hx with hx | hx
                  · exact HLT.out x hx
                  · rw [List.mem_singleton] at hx
                    exact ⟨a, hx, has⟩
                · intro hx
                  rcases List.mem_append.1 hx with hx | hx
                  · exact hasD_false HH.out hx
                  · rw [List.mem_singleton] at hx
                    exact hda (by omega)
                · rw [List.length_append, List.length_singleton]; have := HK.out; omega
                · rw [List.length_append, List.length_append, List.length_singleton, List.length_singleton, HWL.out]
                · rintro x W'' ⟨v, rfl, hz, hr⟩
                  exact ⟨v, rfl, hz, (butR_bel hD).trans hr⟩
              have hwe : e + 3 ≤ w.heap.size := by have := HK0.out; omega
              have KC : Hid (∀ W', ButR e (e + 3) wr W' → W'.cell? ⟨w.heap.size, 0, none⟩ = some (.int .i64 (S0 : Int)) ∧ W'.cell? ⟨w.heap.size, 1, none⟩ = some (.slice (some ⟨b2, o2, none⟩) n c)) := fun W' hr => ⟨hr.cell (.inr hwe) x0, hr.cell (.inr hwe) x1⟩
              have FIN : Hid (∀ W', ButR e (e + 3) wr W' → Blk W' w.heap.size 30 #[.int .i64 (S0 : Int), .slice (some ⟨b2, o2, none⟩) n c] ∧ IntsAt W' (some ⟨b5, o5, none⟩) fr ∧ ButR e (e + 3) w W') :=
                fun W' hr => ⟨hr.blk HB.out (.inr hwe), HIN.out.butR hr (fun _ p hp => .inr (F2.out p hp)), HR.out.trans hr⟩
              have hwl10 : way.length ≤ 10 := by have := WR.out.len; have := WR.out.le; omega
              have hpl10 : ps.length ≤ 10 := by have := PR.out.len; have := PR.out.le; omega
              obtain ⟨i0, hi, hz0, hz1, hz2⟩ := info_parts info_int64M
              have HInf := Lib.hid (And.intro hi (And.intro hz0 (And.intro hz1 hz2)))
              clear hi hz0 hz1 hz2 hp1 hS10
              clear HFD HT hda
              go_wp2_with fail
              -- REGION
              refine wp_region_held_drew (S := fun w' => w'.cell? ⟨w.heap.size, 0, none⟩ = some (.int .i64 (S0 : Int)) ∧ w'.cell? ⟨w.heap.size, 1, none⟩ = some (.slice (some ⟨b2, o2, none⟩) n c)) (by kernel_rfl) ⟨x0, x1⟩ (fun hHeld => ?_)
              have D0 : Below wr.heap.size wr wr.drew := (Below.refl _ _).drew
              obtain ⟨W0', hW0⟩ : ∃ W', wr.drew = W' := ⟨_, rfl⟩
              rw [hW0] at D0 hHeld ⊢
              clear hW0
              refine wpAnyH_take (i := 0) (v := ?v0) rfl (by kernel_rfl) (by kernel_rfl) (by kernel_rfl) (fun _ _ _ h => h) (Or.inl ⟨by rfl, ?y0⟩) (by assumption) ?r0
              case y0 => (intro w' hSw; obtain ⟨z1, z2⟩ := hSw; go_simp <;> with_reducible rfl)
              try simp only [Act.put]
              refine wpAnyH_take (i := 1) (v := ?v1) rfl (by kernel_rfl) (by kernel_rfl) (by kernel_rfl) (fun _ _ _ h => h) (Or.inl ⟨by rfl, ?y1⟩) (by assumption) ?r1
              case y1 => (intro w' hSw; obtain ⟨z1, z2⟩ := hSw; go_simp <;> with_reducible rfl)
              try simp only [Act.put]
              refine wpAnyH_take (i := 3) (v := ?v3) rfl (by kernel_rfl) (by kernel_rfl) (by kernel_rfl) (fun _ _ _ h => h) (Or.inl ⟨by rfl, ?y3⟩) (by assumption) ?r3
              case y3 => (intro w' hSw; obtain ⟨z1, z2⟩ := hSw; go_simp <;> with_reducible rfl)
              try simp only [Act.put]
              refine wpAnyH_take (i := 6) (v := ?v6) rfl (by kernel_rfl) (by kernel_rfl) (by kernel_rfl) (fun _ _ _ h => h) (Or.inl ⟨by rfl, ?y6⟩) (by assumption) ?r6
              case y6 => (intro w' hSw; obtain ⟨z1, z2⟩ := hSw; go_simp <;> with_reducible rfl)
              try simp only [Act.put]
              refine wpAnyH_take (i := 8) (v := ?v8) rfl (by kernel_rfl) (by kernel_rfl) (by kernel_rfl) (fun _ _ _ h => h) (Or.inl ⟨by rfl, ?y8⟩) (by assumption) ?r8
              case y8 => (intro w' hSw; obtain ⟨z1, z2⟩ := hSw; go_simp <;> with_reducible rfl)
              try simp only [Act.put]
              refine wpAnyH_take (i := 11) (v := ?v11) rfl (by kernel_rfl) (by kernel_rfl) (by kernel_rfl) (fun _ _ _ h => h) (Or.inl ⟨by rfl, ?y11⟩) (by assumption) ?r11
              case y11 => (intro w' hSw; obtain ⟨z1, z2⟩ := hSw; go_simp <;> with_reducible rfl)
              try simp only [Act.put]
              refine wpAnyH_take (i := 12) (v := ?v12) rfl (by kernel_rfl) (by kernel_rfl) (by kernel_rfl) (fun _ _ _ h => h) (Or.inl ⟨by rfl, ?y12⟩) (by assumption) ?r12
              case y12 => (intro w' hSw; obtain ⟨z1, z2⟩ := hSw; go_simp <;> with_reducible rfl)
              try simp only [Act.put]
              refine wpAnyH_take (i := 13) (v := ?v13) rfl (by kernel_rfl) (by kernel_rfl) (by kernel_rfl) (fun _ _ _ h => h) (Or.inl ⟨by rfl, ?y13⟩) (by assumption) ?r13
              case y13 => (intro w' hSw; obtain ⟨z1, z2⟩ := hSw; go_simp <;> with_reducible rfl)
              try simp only [Act.put]
              refine wpAnyH_ready (rs := [2, 4, 9]) (by kernel_rfl) (by simp) ?_
              refine AllReadyH.cons rfl (fun K hK => ?_) ?_
              · -- 2
                clear hHeld
                go_simp
                go_at_call 84
                refine (clone_any A2 n2 c2 way _ WR.out.form (WR.out.butR (butR_bel D0)).at_ WR.out.len (Nat.le_trans WR.out.le (by omega))).mono ?_
                rintro x W1 ⟨X1, cx1, rfl, hO1, hb1⟩
                have D1 : Below wr.heap.size wr W1 := bel_next D0 hb1
                have C1_1 := own_base hO1 D0.size
                refine hK.out _ _ ⟨bel_cell D1 x0, bel_cell D1 x1⟩ (fun hHeld => ?_)
                clear hK K
                try simp only [Act.put]
                refine wpAnyH_ready (rs := [4, 9]) (by kernel_rfl) (by simp) ?_
                refine AllReadyH.cons rfl (fun K hK => ?_) ?_
                · -- 4
                  clear hHeld
                  go_simp
                  have hb2 : Below W1.heap.size W1 (W1.alloc (.cells #[.int .i64 (q : Int)] 2)) := (Below.refl _ _).alloc (Nat.le_refl _) _
                  have B1_2 : Blk (W1.alloc (.cells #[.int .i64 (q : Int)] 2)) W1.heap.size 2 #[.int .i64 (q : Int)] := Blk.new _ _ _
                  obtain ⟨W2, hW2⟩ : ∃ W', W1.alloc (.cells #[.int .i64 (q : Int)] 2) = W' := ⟨_, rfl⟩
                  obtain ⟨k2, hk2⟩ : ∃ k, W1.heap.size = k := ⟨_, rfl⟩
                  rw [hW2] at hb2 B1_2 ⊢
                  rw [hk2] at B1_2 ⊢
                  have D2 : Below wr.heap.size wr W2 := bel_next D1 hb2
                  have C1_2 := own_belw C1_1 hb2
                  clear hW2 hk2
                  refine hK.out _ _ ⟨bel_cell D2 x0, bel_cell D2 x1⟩ (fun hHeld => ?_)
                  clear hK K
                  try simp only [Act.put]
                  refine wpAnyH_ready (rs := [5, 9]) (by kernel_rfl) (by simp) ?_
                  refine AllReadyH.cons rfl (fun K hK => ?_) ?_
                  · -- 5
                    clear hHeld
                    have hs3 := D2.size
                    have hl3 := B1_2.lt
                    refine step_append_lies _ (by rfl) (.tmp 46) (.tmp 48) 39 (by rfl) wr.heap.size 2 i0 (.int .i64 0) 1 8 Try.underlying39 HInf.out.1 HInf.out.2.1 HInf.out.2.2.1 HInf.out.2.2.2 rfl (by decide) _ _ _ (by rfl) C1_2 ⟨k2, 0, none⟩ 1 1 [.int .i64 (q : Int)] (by rfl) rfl (World.news_of_block B1_2) (ints_oneCell .i64 [(q : Int)]) (by decide) (by unfold maxLen; omega) (by omega) (by first | omega | (simp; omega)) _ rfl ?_
                    intro g3 cg3 W3 hown3 hgrow3 hat3 hlt3
                    have D3 : Below wr.heap.size wr W3 := Below.grown D2 hgrow3 D2.size (fun k hk => (C1_2.lt k hk).1)
                    have P1_3 : W3.ownsRow wr.heap.size 2 1 (.slice (some ⟨g3, 0, none⟩) (way.length + 1) cg3) (way.length + 1) ((way ++ [(q : Int)]).map (Value.int .i64)) := by rw [List.map_append]; exact hown3
                    clear hgrow3 hat3 hown3
                    refine hK.out _ _ ⟨bel_cell D3 x0, bel_cell D3 x1⟩ (fun hHeld => ?_)
                    clear hK K
                    try simp only [Act.put]
                    refine wpAnyH_ready (rs := [7, 9]) (by kernel_rfl) (by simp) ?_
                    refine AllReadyH.cons rfl (fun K hK => ?_) ?_
                    · -- 7
                      clear hHeld
                      go_simp
                      go_at_call 84
                      refine (clone_any A3 n3 c3 ps _ PR.out.form (PR.out.butR (butR_bel D3)).at_ PR.out.len (Nat.le_trans PR.out.le (by omega))).mono ?_
                      rintro x W4 ⟨X4, cx4, rfl, hO4, hb4⟩
                      have D4 : Below wr.heap.size wr W4 := bel_next D3 hb4
                      have C2_4 := own_base hO4 D3.size
                      have P1_4 := own_belw P1_3 hb4
                      have NP4 : ∀ k k', (Value.slice (some ⟨g3, 0, none⟩) (way.length + 1) cg3).ownBlock = some k → (Value.slice X4 ps.length cx4).ownBlock = some k' → k ≠ k' := fun k k' hk hk' => by have h1 := (hO4.lt k' hk').1; have h2 := (P1_3.lt k hk).2; omega
                      refine hK.out _ _ ⟨bel_cell D4 x0, bel_cell D4 x1⟩ (fun hHeld => ?_)
                      clear hK K
                      try simp only [Act.put]
                      refine wpAnyH_ready (rs := [9]) (by kernel_rfl) (by simp) ?_
                      refine AllReadyH.cons rfl (fun K hK => ?_) AllReadyH.nil
                      clear hHeld
                      go_simp
                      have hb5 : Below W4.heap.size W4 (W4.alloc (.cells #[.int .i64 (a : Int)] 2)) := (Below.refl _ _).alloc (Nat.le_refl _) _
                      have B2_5 : Blk (W4.alloc (.cells #[.int .i64 (a : Int)] 2)) W4.heap.size 2 #[.int .i64 (a : Int)] := Blk.new _ _ _
                      obtain ⟨W5, hW5⟩ : ∃ W', W4.alloc (.cells #[.int .i64 (a : Int)] 2) = W' := ⟨_, rfl⟩
                      obtain ⟨k5, hk5⟩ : ∃ k, W4.heap.size = k := ⟨_, rfl⟩
                      rw [hW5] at hb5 B2_5 ⊢
                      rw [hk5] at B2_5 ⊢
                      have D5 : Below wr.heap.size wr W5 := bel_next D4 hb5
                      have C2_5 := own_belw C2_4 hb5
                      have P1_5 := own_belw P1_4 hb5
                      clear hW5 hk5
                      refine hK.out _ _ ⟨bel_cell D5 x0, bel_cell D5 x1⟩ (fun hHeld => ?_)
                      clear hK K
                      try simp only [Act.put]
                      refine wpAnyH_ready (rs := [10]) (by kernel_rfl) (by simp) ?_
                      refine AllReadyH.cons rfl (fun K hK => ?_) AllReadyH.nil
                      clear hHeld
                      have hs6 := D5.size
                      have hl6 := B2_5.lt
                      refine step_append_lies _ (by rfl) (.tmp 51) (.tmp 53) 39 (by rfl) wr.heap.size 2 i0 (.int .i64 0) 1 8 Try.underlying39 HInf.out.1 HInf.out.2.1 HInf.out.2.2.1 HInf.out.2.2.2 rfl (by decide) _ _ _ (by rfl) C2_5 ⟨k5, 0, none⟩ 1 1 [.int .i64 (a : Int)] (by rfl) rfl (World.news_of_block B2_5) (ints_oneCell .i64 [(a : Int)]) (by decide) (by unfold maxLen; omega) (by omega) (by first | omega | (simp; omega)) _ rfl ?_
                      intro g6 cg6 W6 hown6 hgrow6 hat6 hlt6
                      have D6 : Below wr.heap.size wr W6 := Below.grown D5 hgrow6 D5.size (fun k hk => (C2_5.lt k hk).1)
                      have P2_6 : W6.ownsRow wr.heap.size 2 1 (.slice (some ⟨g6, 0, none⟩) (ps.length + 1) cg6) (ps.length + 1) ((ps ++ [(a : Int)]).map (Value.int .i64)) := by rw [List.map_append]; exact hown6
                      have P1_6 := own_grown P1_5 hgrow6 (fun k hk e => NP4 _ _ hk e.symm rfl)
                      clear hgrow6 hat6 hown6
                      refine hK.out _ _ ⟨bel_cell D6 x0, bel_cell D6 x1⟩ (fun hHeld => ?_)
                      clear hK K
                      try simp only [Act.put]
                      refine wpAnyH_ready (rs := [14]) (by kernel_rfl) (by simp) ?_
                      refine AllReadyH.cons rfl (fun K hK => ?_) AllReadyH.nil
                      clear hHeld
                      go_simp
                      go_at_call 80
                      refine (REC.out _ _ _ _ _ D6 P1_6 P2_6).mono ?_
                      rintro x W7 ⟨v7, rfl, Z7, R7⟩
                      refine hK.out _ _ (KC.out _ R7) (fun hHeld => ?_)
                      clear hK K
                      try simp only [Act.put]
                      refine wpAnyH_done (by kernel_rfl) ?_ _
                      clear hHeld
                      go_wp2_with fail
                      go_roundw
                      case rel => exact ⟨i + 1, _, by go_num, by omega, HT2, Lib.hid (FIN.out _ R7).1, Lib.hid (FIN.out _ R7).2.1, Lib.hid Z7, Lib.hid (FIN.out _ R7).2.2⟩
                      case measure => simp [intOf]; omega
                    refine AllReadyH.cons rfl (fun K hK => ?_) ?_
                    · -- 9
                      clear hHeld
                      go_simp
                      have hb8 : Below W3.heap.size W3 (W3.alloc (.cells #[.int .i64 (a : Int)] 2)) := (Below.refl _ _).alloc (Nat.le_refl _) _
                      have B2_8 : Blk (W3.alloc (.cells #[.int .i64 (a : Int)] 2)) W3.heap.size 2 #[.int .i64 (a : Int)] := Blk.new _ _ _
                      obtain ⟨W8, hW8⟩ : ∃ W', W3.alloc (.cells #[.int .i64 (a : Int)] 2) = W' := ⟨_, rfl⟩
                      obtain ⟨k8, hk8⟩ : ∃ k, W3.heap.size = k := ⟨_, rfl⟩
                      rw [hW8] at hb8 B2_8 ⊢
                      rw [hk8] at B2_8 ⊢
                      have D8 : Below wr.heap.size wr W8 := bel_next D3 hb8
                      have P1_8 := own_belw P1_3 hb8
                      clear hW8 hk8
                      refine hK.out _ _ ⟨bel_cell D8 x0, bel_cell D8 x1⟩ (fun hHeld => ?_)
                      clear hK K
                      try simp only [Act.put]
                      refine wpAnyH_ready (rs := [7]) (by kernel_rfl) (by simp) ?_
                      refine AllReadyH.cons rfl (fun K hK => ?_) AllReadyH.nil
                      clear hHeld
                      go_simp
                      go_at_call 84
                      refine (clone_any A3 n3 c3 ps _ PR.out.form (PR.out.butR (butR_bel D8)).at_ PR.out.len (Nat.le_trans PR.out.le (by omega))).mono ?_
                      rintro x W9 ⟨X9, cx9, rfl, hO9, hb9⟩
                      have D9 : Below wr.heap.size wr W9 := bel_next D8 hb9
                      have C2_9 := own_base hO9 D8.size
                      have B2_9 := bel_blk B2_8 hb9
                      have P1_9 := own_belw P1_8 hb9
                      have NP9 : ∀ k k', (Value.slice (some ⟨g3, 0, none⟩) (way.length + 1) cg3).ownBlock = some k → (Value.slice X9 ps.length cx9).ownBlock = some k' → k ≠ k' := fun k k' hk hk' => by have h1 := (hO9.lt k' hk').1; have h2 := (P1_8.lt k hk).2; omega
                      refine hK.out _ _ ⟨bel_cell D9 x0, bel_cell D9 x1⟩ (fun hHeld => ?_)
                      clear hK K
                      try simp only [Act.put]
                      refine wpAnyH_ready (rs := [10]) (by kernel_rfl) (by simp) ?_
                      refine AllReadyH.cons rfl (fun K hK => ?_) AllReadyH.nil
                      clear hHeld
                      have hs10 := D9.size
                      have hl10 := B2_9.lt
                      refine step_append_lies _ (by rfl) (.tmp 51) (.tmp 53) 39 (by rfl) wr.heap.size 2 i0 (.int .i64 0) 1 8 Try.underlying39 HInf.out.1 HInf.out.2.1 HInf.out.2.2.1 HInf.out.2.2.2 rfl (by decide) _ _ _ (by rfl) C2_9 ⟨k8, 0, none⟩ 1 1 [.int .i64 (a : Int)] (by rfl) rfl (World.news_of_block B2_9) (ints_oneCell .i64 [(a : Int)]) (by decide) (by unfold maxLen; omega) (by omega) (by first | omega | (simp; omega)) _ rfl ?_
                      intro g10 cg10 W10 hown10 hgrow10 hat10 hlt10
                      have D10 : Below wr.heap.size wr W10 := Below.grown D9 hgrow10 D9.size (fun k hk => (C2_9.lt k hk).1)
                      have P2_10 : W10.ownsRow wr.heap.size 2 1 (.slice (some ⟨g10, 0, none⟩) (ps.length + 1) cg10) (ps.length + 1) ((ps ++ [(a : Int)]).map (Value.int .i64)) := by rw [List.map_append]; exact hown10
                      have P1_10 := own_grown P1_9 hgrow10 (fun k hk e => NP9 _ _ hk e.symm rfl)
                      clear hgrow10 hat10 hown10
                      refine hK.out _ _ ⟨bel_cell D10 x0, bel_cell D10 x1⟩ (fun hHeld => ?_)
                      clear hK K
                      try simp only [Act.put]
                      refine wpAnyH_ready (rs := [14]) (by kernel_rfl) (by simp) ?_
                      refine AllReadyH.cons rfl (fun K hK => ?_) AllReadyH.nil
                      clear hHeld
                      go_simp
                      go_at_call 80
                      refine (REC.out _ _ _ _ _ D10 P1_10 P2_10).mono ?_
                      rintro x W11 ⟨v11, rfl, Z11, R11⟩
                      refine hK.out _ _ (KC.out _ R11) (fun hHeld => ?_)
                      clear hK K
                      try simp only [Act.put]
                      refine wpAnyH_done (by kernel_rfl) ?_ _
                      clear hHeld
                      go_wp2_with fail
                      go_roundw
                      case rel => exact ⟨i + 1, _, by go_num, by omega, HT2, Lib.hid (FIN.out _ R11).1, Lib.hid (FIN.out _ R11).2.1, Lib.hid Z11, Lib.hid (FIN.out _ R11).2.2⟩
                      case measure => simp [intOf]; omega
                    exact AllReadyH.nil
                  refine AllReadyH.cons rfl (fun K hK => ?_) ?_
                  · -- 9
                    clear hHeld
                    go_simp
                    have hb12 : Below W2.heap.size W2 (W2.alloc (.cells #[.int .i64 (a : Int)] 2)) := (Below.refl _ _).alloc (Nat.le_refl _) _
                    have B2_12 : Blk (W2.alloc (.cells #[.int .i64 (a : Int)] 2)) W2.heap.size 2 #[.int .i64 (a : Int)] := Blk.new _ _ _
                    obtain ⟨W12, hW12⟩ : ∃ W', W2.alloc (.cells #[.int .i64 (a : Int)] 2) = W' := ⟨_, rfl⟩
                    obtain ⟨k12, hk12⟩ : ∃ k, W2.heap.size = k := ⟨_, rfl⟩
                    rw [hW12] at hb12 B2_12 ⊢
                    rw [hk12] at B2_12 ⊢
                    have D12 : Below wr.heap.size wr W12 := bel_next D2 hb12
                    have C1_12 := own_belw C1_2 hb12
                    have N12 : ∀ k, (Value.slice X1 way.length cx1).ownBlock = some k → k ≠ k12 := fun k hk => by have h2 := (C1_2.lt k hk).2; omega
                    have B1_12 := bel_blk B1_2 hb12
                    clear hW12 hk12
                    refine hK.out _ _ ⟨bel_cell D12 x0, bel_cell D12 x1⟩ (fun hHeld => ?_)
                    clear hK K
                    try simp only [Act.put]
                    refine wpAnyH_ready (rs := [5]) (by kernel_rfl) (by simp) ?_
                    refine AllReadyH.cons rfl (fun K hK => ?_) AllReadyH.nil
                    clear hHeld
                    have hs13 := D12.size
                    have hl13 := B1_12.lt
                    refine step_append_lies _ (by rfl) (.tmp 46) (.tmp 48) 39 (by rfl) wr.heap.size 2 i0 (.int .i64 0) 1 8 Try.underlying39 HInf.out.1 HInf.out.2.1 HInf.out.2.2.1 HInf.out.2.2.2 rfl (by decide) _ _ _ (by rfl) C1_12 ⟨k2, 0, none⟩ 1 1 [.int .i64 (q : Int)] (by rfl) rfl (World.news_of_block B1_12) (ints_oneCell .i64 [(q : Int)]) (by decide) (by unfold maxLen; omega) (by omega) (by first | omega | (simp; omega)) _ rfl ?_
                    intro g13 cg13 W13 hown13 hgrow13 hat13 hlt13
                    have D13 : Below wr.heap.size wr W13 := Below.grown D12 hgrow13 D12.size (fun k hk => (C1_12.lt k hk).1)
                    have P1_13 : W13.ownsRow wr.heap.size 2 1 (.slice (some ⟨g13, 0, none⟩) (way.length + 1) cg13) (way.length + 1) ((way ++ [(q : Int)]).map (Value.int .i64)) := by rw [List.map_append]; exact hown13
                    have B2_13 := Blk.grown B2_12 hgrow13 (fun e => N12 _ e.symm rfl)
                    clear hgrow13 hat13 hown13
                    refine hK.out _ _ ⟨bel_cell D13 x0, bel_cell D13 x1⟩ (fun hHeld => ?_)
                    clear hK K
                    try simp only [Act.put]
                    refine wpAnyH_ready (rs := [7]) (by kernel_rfl) (by simp) ?_
                    refine AllReadyH.cons rfl (fun K hK => ?_) AllReadyH.nil
                    clear hHeld
                    go_simp
                    go_at_call 84
                    refine (clone_any A3 n3 c3 ps _ PR.out.form (PR.out.butR (butR_bel D13)).at_ PR.out.len (Nat.le_trans PR.out.le (by omega))).mono ?_
                    rintro x W14 ⟨X14, cx14, rfl, hO14, hb14⟩
                    have D14 : Below wr.heap.size wr W14 := bel_next D13 hb14
                    have C2_14 := own_base hO14 D13.size
                    have B2_14 := bel_blk B2_13 hb14
                    have P1_14 := own_belw P1_13 hb14
                    have NP14 : ∀ k k', (Value.slice (some ⟨g13, 0, none⟩) (way.length + 1) cg13).ownBlock = some k → (Value.slice X14 ps.length cx14).ownBlock = some k' → k ≠ k' := fun k k' hk hk' => by have h1 := (hO14.lt k' hk').1; have h2 := (P1_13.lt k hk).2; omega
                    refine hK.out _ _ ⟨bel_cell D14 x0, bel_cell D14 x1⟩ (fun hHeld => ?_)
                    clear hK K
                    try simp only [Act.put]
                    refine wpAnyH_ready (rs := [10]) (by kernel_rfl) (by simp) ?_
                    refine AllReadyH.cons rfl (fun K hK => ?_) AllReadyH.nil
                    clear hHeld
                    have hs15 := D14.size
                    have hl15 := B2_14.lt
                    refine step_append_lies _ (by rfl) (.tmp 51) (.tmp 53) 39 (by rfl) wr.heap.size 2 i0 (.int .i64 0) 1 8 Try.underlying39 HInf.out.1 HInf.out.2.1 HInf.out.2.2.1 HInf.out.2.2.2 rfl (by decide) _ _ _ (by rfl) C2_14 ⟨k12, 0, none⟩ 1 1 [.int .i64 (a : Int)] (by rfl) rfl (World.news_of_block B2_14) (ints_oneCell .i64 [(a : Int)]) (by decide) (by unfold maxLen; omega) (by omega) (by first | omega | (simp; omega)) _ rfl ?_
                    intro g15 cg15 W15 hown15 hgrow15 hat15 hlt15
                    have D15 : Below wr.heap.size wr W15 := Below.grown D14 hgrow15 D14.size (fun k hk => (C2_14.lt k hk).1)
                    have P2_15 : W15.ownsRow wr.heap.size 2 1 (.slice (some ⟨g15, 0, none⟩) (ps.length + 1) cg15) (ps.length + 1) ((ps ++ [(a : Int)]).map (Value.int .i64)) := by rw [List.map_append]; exact hown15
                    have P1_15 := own_grown P1_14 hgrow15 (fun k hk e => NP14 _ _ hk e.symm rfl)
                    clear hgrow15 hat15 hown15
                    refine hK.out _ _ ⟨bel_cell D15 x0, bel_cell D15 x1⟩ (fun hHeld => ?_)
                    clear hK K
                    try simp only [Act.put]
                    refine wpAnyH_ready (rs := [14]) (by kernel_rfl) (by simp) ?_
                    refine AllReadyH.cons rfl (fun K hK => ?_) AllReadyH.nil
                    clear hHeld
                    go_simp
                    go_at_call 80
                    refine (REC.out _ _ _ _ _ D15 P1_15 P2_15).mono ?_
                    rintro x W16 ⟨v16, rfl, Z16, R16⟩
                    refine hK.out _ _ (KC.out _ R16) (fun hHeld => ?_)
                    clear hK K
                    try simp only [Act.put]
                    refine wpAnyH_done (by kernel_rfl) ?_ _
                    clear hHeld
                    go_wp2_with fail
                    go_roundw
                    case rel => exact ⟨i + 1, _, by go_num, by omega, HT2, Lib.hid (FIN.out _ R16).1, Lib.hid (FIN.out _ R16).2.1, Lib.hid Z16, Lib.hid (FIN.out _ R16).2.2⟩
                    case measure => simp [intOf]; omega
                  exact AllReadyH.nil
                refine AllReadyH.cons rfl (fun K hK => ?_) ?_
                · -- 9
                  clear hHeld
                  go_simp
                  have hb17 : Below W1.heap.size W1 (W1.alloc (.cells #[.int .i64 (a : Int)] 2)) := (Below.refl _ _).alloc (Nat.le_refl _) _
                  have B2_17 : Blk (W1.alloc (.cells #[.int .i64 (a : Int)] 2)) W1.heap.size 2 #[.int .i64 (a : Int)] := Blk.new _ _ _
                  obtain ⟨W17, hW17⟩ : ∃ W', W1.alloc (.cells #[.int .i64 (a : Int)] 2) = W' := ⟨_, rfl⟩
                  obtain ⟨k17, hk17⟩ : ∃ k, W1.heap.size = k := ⟨_, rfl⟩
                  rw [hW17] at hb17 B2_17 ⊢
                  rw [hk17] at B2_17 ⊢
                  have D17 : Below wr.heap.size wr W17 := bel_next D1 hb17
                  have C1_17 := own_belw C1_1 hb17
                  have N17 : ∀ k, (Value.slice X1 way.length cx1).ownBlock = some k → k ≠ k17 := fun k hk => by have h2 := (C1_1.lt k hk).2; omega
                  clear hW17 hk17
                  refine hK.out _ _ ⟨bel_cell D17 x0, bel_cell D17 x1⟩ (fun hHeld => ?_)
                  clear hK K
                  try simp only [Act.put]
                  refine wpAnyH_ready (rs := [4]) (by kernel_rfl) (by simp) ?_
                  refine AllReadyH.cons rfl (fun K hK => ?_) AllReadyH.nil
                  clear hHeld
                  go_simp
                  have hb18 : Below W17.heap.size W17 (W17.alloc (.cells #[.int .i64 (q : Int)] 2)) := (Below.refl _ _).alloc (Nat.le_refl _) _
                  have B1_18 : Blk (W17.alloc (.cells #[.int .i64 (q : Int)] 2)) W17.heap.size 2 #[.int .i64 (q : Int)] := Blk.new _ _ _
                  obtain ⟨W18, hW18⟩ : ∃ W', W17.alloc (.cells #[.int .i64 (q : Int)] 2) = W' := ⟨_, rfl⟩
                  obtain ⟨k18, hk18⟩ : ∃ k, W17.heap.size = k := ⟨_, rfl⟩
                  rw [hW18] at hb18 B1_18 ⊢
                  rw [hk18] at B1_18 ⊢
                  have D18 : Below wr.heap.size wr W18 := bel_next D17 hb18
                  have C1_18 := own_belw C1_17 hb18
                  have B2_18 := bel_blk B2_17 hb18
                  clear hW18 hk18
                  refine hK.out _ _ ⟨bel_cell D18 x0, bel_cell D18 x1⟩ (fun hHeld => ?_)
                  clear hK K
                  try simp only [Act.put]
                  refine wpAnyH_ready (rs := [5]) (by kernel_rfl) (by simp) ?_
                  refine AllReadyH.cons rfl (fun K hK => ?_) AllReadyH.nil
                  clear hHeld
                  have hs19 := D18.size
                  have hl19 := B1_18.lt
                  refine step_append_lies _ (by rfl) (.tmp 46) (.tmp 48) 39 (by rfl) wr.heap.size 2 i0 (.int .i64 0) 1 8 Try.underlying39 HInf.out.1 HInf.out.2.1 HInf.out.2.2.1 HInf.out.2.2.2 rfl (by decide) _ _ _ (by rfl) C1_18 ⟨k18, 0, none⟩ 1 1 [.int .i64 (q : Int)] (by rfl) rfl (World.news_of_block B1_18) (ints_oneCell .i64 [(q : Int)]) (by decide) (by unfold maxLen; omega) (by omega) (by first | omega | (simp; omega)) _ rfl ?_
                  intro g19 cg19 W19 hown19 hgrow19 hat19 hlt19
                  have D19 : Below wr.heap.size wr W19 := Below.grown D18 hgrow19 D18.size (fun k hk => (C1_18.lt k hk).1)
                  have P1_19 : W19.ownsRow wr.heap.size 2 1 (.slice (some ⟨g19, 0, none⟩) (way.length + 1) cg19) (way.length + 1) ((way ++ [(q : Int)]).map (Value.int .i64)) := by rw [List.map_append]; exact hown19
                  have B2_19 := Blk.grown B2_18 hgrow19 (fun e => N17 _ e.symm rfl)
                  clear hgrow19 hat19 hown19
                  refine hK.out _ _ ⟨bel_cell D19 x0, bel_cell D19 x1⟩ (fun hHeld => ?_)
                  clear hK K
                  try simp only [Act.put]
                  refine wpAnyH_ready (rs := [7]) (by kernel_rfl) (by simp) ?_
                  refine AllReadyH.cons rfl (fun K hK => ?_) AllReadyH.nil
                  clear hHeld
                  go_simp
                  go_at_call 84
                  refine (clone_any A3 n3 c3 ps _ PR.out.form (PR.out.butR (butR_bel D19)).at_ PR.out.len (Nat.le_trans PR.out.le (by omega))).mono ?_
                  rintro x W20 ⟨X20, cx20, rfl, hO20, hb20⟩
                  have D20 : Below wr.heap.size wr W20 := bel_next D19 hb20
                  have C2_20 := own_base hO20 D19.size
                  have B2_20 := bel_blk B2_19 hb20
                  have P1_20 := own_belw P1_19 hb20
                  have NP20 : ∀ k k', (Value.slice (some ⟨g19, 0, none⟩) (way.length + 1) cg19).ownBlock = some k → (Value.slice X20 ps.length cx20).ownBlock = some k' → k ≠ k' := fun k k' hk hk' => by have h1 := (hO20.lt k' hk').1; have h2 := (P1_19.lt k hk).2; omega
                  refine hK.out _ _ ⟨bel_cell D20 x0, bel_cell D20 x1⟩ (fun hHeld => ?_)
                  clear hK K
                  try simp only [Act.put]
                  refine wpAnyH_ready (rs := [10]) (by kernel_rfl) (by simp) ?_
                  refine AllReadyH.cons rfl (fun K hK => ?_) AllReadyH.nil
                  clear hHeld
                  have hs21 := D20.size
                  have hl21 := B2_20.lt
                  refine step_append_lies _ (by rfl) (.tmp 51) (.tmp 53) 39 (by rfl) wr.heap.size 2 i0 (.int .i64 0) 1 8 Try.underlying39 HInf.out.1 HInf.out.2.1 HInf.out.2.2.1 HInf.out.2.2.2 rfl (by decide) _ _ _ (by rfl) C2_20 ⟨k17, 0, none⟩ 1 1 [.int .i64 (a : Int)] (by rfl) rfl (World.news_of_block B2_20) (ints_oneCell .i64 [(a : Int)]) (by decide) (by unfold maxLen; omega) (by omega) (by first | omega | (simp; omega)) _ rfl ?_
                  intro g21 cg21 W21 hown21 hgrow21 hat21 hlt21
                  have D21 : Below wr.heap.size wr W21 := Below.grown D20 hgrow21 D20.size (fun k hk => (C2_20.lt k hk).1)
                  have P2_21 : W21.ownsRow wr.heap.size 2 1 (.slice (some ⟨g21, 0, none⟩) (ps.length + 1) cg21) (ps.length + 1) ((ps ++ [(a : Int)]).map (Value.int .i64)) := by rw [List.map_append]; exact hown21
                  have P1_21 := own_grown P1_20 hgrow21 (fun k hk e => NP20 _ _ hk e.symm rfl)
                  clear hgrow21 hat21 hown21
                  refine hK.out _ _ ⟨bel_cell D21 x0, bel_cell D21 x1⟩ (fun hHeld => ?_)
                  clear hK K
                  try simp only [Act.put]
                  refine wpAnyH_ready (rs := [14]) (by kernel_rfl) (by simp) ?_
                  refine AllReadyH.cons rfl (fun K hK => ?_) AllReadyH.nil
                  clear hHeld
                  go_simp
                  go_at_call 80
                  refine (REC.out _ _ _ _ _ D21 P1_21 P2_21).mono ?_
                  rintro x W22 ⟨v22, rfl, Z22, R22⟩
                  refine hK.out _ _ (KC.out _ R22) (fun hHeld => ?_)
                  clear hK K
                  try simp only [Act.put]
                  refine wpAnyH_done (by kernel_rfl) ?_ _
                  clear hHeld
                  go_wp2_with fail
                  go_roundw
                  case rel => exact ⟨i + 1, _, by go_num, by omega, HT2, Lib.hid (FIN.out _ R22).1, Lib.hid (FIN.out _ R22).2.1, Lib.hid Z22, Lib.hid (FIN.out _ R22).2.2⟩
                  case measure => simp [intOf]; omega
                exact AllReadyH.nil
              refine AllReadyH.cons rfl (fun K hK => ?_) ?_
              · -- 4
                clear hHeld
                go_simp
                have hb23 : Below W0'.heap.size W0' (W0'.alloc (.cells #[.int .i64 (q : Int)] 2)) := (Below.refl _ _).alloc (Nat.le_refl _) _
                have B1_23 : Blk (W0'.alloc (.cells #[.int .i64 (q : Int)] 2)) W0'.heap.size 2 #[.int .i64 (q : Int)] := Blk.new _ _ _
                obtain ⟨W23, hW23⟩ : ∃ W', W0'.alloc (.cells #[.int .i64 (q : Int)] 2) = W' := ⟨_, rfl⟩
                obtain ⟨k23, hk23⟩ : ∃ k, W0'.heap.size = k := ⟨_, rfl⟩
                rw [hW23] at hb23 B1_23 ⊢
                rw [hk23] at B1_23 ⊢
                have D23 : Below wr.heap.size wr W23 := bel_next D0 hb23
                clear hW23 hk23
                refine hK.out _ _ ⟨bel_cell D23 x0, bel_cell D23 x1⟩ (fun hHeld => ?_)
                clear hK K
                try simp only [Act.put]
                refine wpAnyH_ready (rs := [2, 9]) (by kernel_rfl) (by simp) ?_
                refine AllReadyH.cons rfl (fun K hK => ?_) ?_
                · -- 2
                  clear hHeld
                  go_simp
                  go_at_call 84
                  refine (clone_any A2 n2 c2 way _ WR.out.form (WR.out.butR (butR_bel D23)).at_ WR.out.len (Nat.le_trans WR.out.le (by omega))).mono ?_
                  rintro x W24 ⟨X24, cx24, rfl, hO24, hb24⟩
                  have D24 : Below wr.heap.size wr W24 := bel_next D23 hb24
                  have C1_24 := own_base hO24 D23.size
                  have B1_24 := bel_blk B1_23 hb24
                  refine hK.out _ _ ⟨bel_cell D24 x0, bel_cell D24 x1⟩ (fun hHeld => ?_)
                  clear hK K
                  try simp only [Act.put]
                  refine wpAnyH_ready (rs := [5, 9]) (by kernel_rfl) (by simp) ?_
                  refine AllReadyH.cons rfl (fun K hK => ?_) ?_
                  · -- 5
                    clear hHeld
                    have hs25 := D24.size
                    have hl25 := B1_24.lt
                    refine step_append_lies _ (by rfl) (.tmp 46) (.tmp 48) 39 (by rfl) wr.heap.size 2 i0 (.int .i64 0) 1 8 Try.underlying39 HInf.out.1 HInf.out.2.1 HInf.out.2.2.1 HInf.out.2.2.2 rfl (by decide) _ _ _ (by rfl) C1_24 ⟨k23, 0, none⟩ 1 1 [.int .i64 (q : Int)] (by rfl) rfl (World.news_of_block B1_24) (ints_oneCell .i64 [(q : Int)]) (by decide) (by unfold maxLen; omega) (by omega) (by first | omega | (simp; omega)) _ rfl ?_
                    intro g25 cg25 W25 hown25 hgrow25 hat25 hlt25
                    have D25 : Below wr.heap.size wr W25 := Below.grown D24 hgrow25 D24.size (fun k hk => (C1_24.lt k hk).1)
                    have P1_25 : W25.ownsRow wr.heap.size 2 1 (.slice (some ⟨g25, 0, none⟩) (way.length + 1) cg25) (way.length + 1) ((way ++ [(q : Int)]).map (Value.int .i64)) := by rw [List.map_append]; exact hown25
                    clear hgrow25 hat25 hown25
                    refine hK.out _ _ ⟨bel_cell D25 x0, bel_cell D25 x1⟩ (fun hHeld => ?_)
                    clear hK K
                    try simp only [Act.put]
                    refine wpAnyH_ready (rs := [7, 9]) (by kernel_rfl) (by simp) ?_
                    refine AllReadyH.cons rfl (fun K hK => ?_) ?_
                    · -- 7
                      clear hHeld
                      go_simp
                      go_at_call 84
                      refine (clone_any A3 n3 c3 ps _ PR.out.form (PR.out.butR (butR_bel D25)).at_ PR.out.len (Nat.le_trans PR.out.le (by omega))).mono ?_
                      rintro x W26 ⟨X26, cx26, rfl, hO26, hb26⟩
                      have D26 : Below wr.heap.size wr W26 := bel_next D25 hb26
                      have C2_26 := own_base hO26 D25.size
                      have P1_26 := own_belw P1_25 hb26
                      have NP26 : ∀ k k', (Value.slice (some ⟨g25, 0, none⟩) (way.length + 1) cg25).ownBlock = some k → (Value.slice X26 ps.length cx26).ownBlock = some k' → k ≠ k' := fun k k' hk hk' => by have h1 := (hO26.lt k' hk').1; have h2 := (P1_25.lt k hk).2; omega
                      refine hK.out _ _ ⟨bel_cell D26 x0, bel_cell D26 x1⟩ (fun hHeld => ?_)
                      clear hK K
                      try simp only [Act.put]
                      refine wpAnyH_ready (rs := [9]) (by kernel_rfl) (by simp) ?_
                      refine AllReadyH.cons rfl (fun K hK => ?_) AllReadyH.nil
                      clear hHeld
                      go_simp
                      have hb27 : Below W26.heap.size W26 (W26.alloc (.cells #[.int .i64 (a : Int)] 2)) := (Below.refl _ _).alloc (Nat.le_refl _) _
                      have B2_27 : Blk (W26.alloc (.cells #[.int .i64 (a : Int)] 2)) W26.heap.size 2 #[.int .i64 (a : Int)] := Blk.new _ _ _
                      obtain ⟨W27, hW27⟩ : ∃ W', W26.alloc (.cells #[.int .i64 (a : Int)] 2) = W' := ⟨_, rfl⟩
                      obtain ⟨k27, hk27⟩ : ∃ k, W26.heap.size = k := ⟨_, rfl⟩
                      rw [hW27] at hb27 B2_27 ⊢
                      rw [hk27] at B2_27 ⊢
                      have D27 : Below wr.heap.size wr W27 := bel_next D26 hb27
                      have C2_27 := own_belw C2_26 hb27
                      have P1_27 := own_belw P1_26 hb27
                      clear hW27 hk27
                      refine hK.out _ _ ⟨bel_cell D27 x0, bel_cell D27 x1⟩ (fun hHeld => ?_)
                      clear hK K
                      try simp only [Act.put]
                      refine wpAnyH_ready (rs := [10]) (by kernel_rfl) (by simp) ?_
                      refine AllReadyH.cons rfl (fun K hK => ?_) AllReadyH.nil
                      clear hHeld
                      have hs28 := D27.size
                      have hl28 := B2_27.lt
                      refine step_append_lies _ (by rfl) (.tmp 51) (.tmp 53) 39 (by rfl) wr.heap.size 2 i0 (.int .i64 0) 1 8 Try.underlying39 HInf.out.1 HInf.out.2.1 HInf.out.2.2.1 HInf.out.2.2.2 rfl (by decide) _ _ _ (by rfl) C2_27 ⟨k27, 0, none⟩ 1 1 [.int .i64 (a : Int)] (by rfl) rfl (World.news_of_block B2_27) (ints_oneCell .i64 [(a : Int)]) (by decide) (by unfold maxLen; omega) (by omega) (by first | omega | (simp; omega)) _ rfl ?_
                      intro g28 cg28 W28 hown28 hgrow28 hat28 hlt28
                      have D28 : Below wr.heap.size wr W28 := Below.grown D27 hgrow28 D27.size (fun k hk => (C2_27.lt k hk).1)
                      have P2_28 : W28.ownsRow wr.heap.size 2 1 (.slice (some ⟨g28, 0, none⟩) (ps.length + 1) cg28) (ps.length + 1) ((ps ++ [(a : Int)]).map (Value.int .i64)) := by rw [List.map_append]; exact hown28
                      have P1_28 := own_grown P1_27 hgrow28 (fun k hk e => NP26 _ _ hk e.symm rfl)
                      clear hgrow28 hat28 hown28
                      refine hK.out _ _ ⟨bel_cell D28 x0, bel_cell D28 x1⟩ (fun hHeld => ?_)
                      clear hK K
                      try simp only [Act.put]
                      refine wpAnyH_ready (rs := [14]) (by kernel_rfl) (by simp) ?_
                      refine AllReadyH.cons rfl (fun K hK => ?_) AllReadyH.nil
                      clear hHeld
                      go_simp
                      go_at_call 80
                      refine (REC.out _ _ _ _ _ D28 P1_28 P2_28).mono ?_
                      rintro x W29 ⟨v29, rfl, Z29, R29⟩
                      refine hK.out _ _ (KC.out _ R29) (fun hHeld => ?_)
                      clear hK K
                      try simp only [Act.put]
                      refine wpAnyH_done (by kernel_rfl) ?_ _
                      clear hHeld
                      go_wp2_with fail
                      go_roundw
                      case rel => exact ⟨i + 1, _, by go_num, by omega, HT2, Lib.hid (FIN.out _ R29).1, Lib.hid (FIN.out _ R29).2.1, Lib.hid Z29, Lib.hid (FIN.out _ R29).2.2⟩
                      case measure => simp [intOf]; omega
                    refine AllReadyH.cons rfl (fun K hK => ?_) ?_
                    · -- 9
                      clear hHeld
                      go_simp
                      have hb30 : Below W25.heap.size W25 (W25.alloc (.cells #[.int .i64 (a : Int)] 2)) := (Below.refl _ _).alloc (Nat.le_refl _) _
                      have B2_30 : Blk (W25.alloc (.cells #[.int .i64 (a : Int)] 2)) W25.heap.size 2 #[.int .i64 (a : Int)] := Blk.new _ _ _
                      obtain ⟨W30, hW30⟩ : ∃ W', W25.alloc (.cells #[.int .i64 (a : Int)] 2) = W' := ⟨_, rfl⟩
                      obtain ⟨k30, hk30⟩ : ∃ k, W25.heap.size = k := ⟨_, rfl⟩
                      rw [hW30] at hb30 B2_30 ⊢
                      rw [hk30] at B2_30 ⊢
                      have D30 : Below wr.heap.size wr W30 := bel_next D25 hb30
                      have P1_30 := own_belw P1_25 hb30
                      clear hW30 hk30
                      refine hK.out _ _ ⟨bel_cell D30 x0, bel_cell D30 x1⟩ (fun hHeld => ?_)
                      clear hK K
                      try simp only [Act.put]
                      refine wpAnyH_ready (rs := [7]) (by kernel_rfl) (by simp) ?_
                      refine AllReadyH.cons rfl (fun K hK => ?_) AllReadyH.nil
                      clear hHeld
                      go_simp
                      go_at_call 84
                      refine (clone_any A3 n3 c3 ps _ PR.out.form (PR.out.butR (butR_bel D30)).at_ PR.out.len (Nat.le_trans PR.out.le (by omega))).mono ?_
                      rintro x W31 ⟨X31, cx31, rfl, hO31, hb31⟩
                      have D31 : Below wr.heap.size wr W31 := bel_next D30 hb31
                      have C2_31 := own_base hO31 D30.size
                      have B2_31 := bel_blk B2_30 hb31
                      have P1_31 := own_belw P1_30 hb31
                      have NP31 : ∀ k k', (Value.slice (some ⟨g25, 0, none⟩) (way.length + 1) cg25).ownBlock = some k → (Value.slice X31 ps.length cx31).ownBlock = some k' → k ≠ k' := fun k k' hk hk' => by have h1 := (hO31.lt k' hk').1; have h2 := (P1_30.lt k hk).2; omega
                      refine hK.out _ _ ⟨bel_cell D31 x0, bel_cell D31 x1⟩ (fun hHeld => ?_)
                      clear hK K
                      try simp only [Act.put]
                      refine wpAnyH_ready (rs := [10]) (by kernel_rfl) (by simp) ?_
                      refine AllReadyH.cons rfl (fun K hK => ?_) AllReadyH.nil
                      clear hHeld
                      have hs32 := D31.size
                      have hl32 := B2_31.lt
                      refine step_append_lies _ (by rfl) (.tmp 51) (.tmp 53) 39 (by rfl) wr.heap.size 2 i0 (.int .i64 0) 1 8 Try.underlying39 HInf.out.1 HInf.out.2.1 HInf.out.2.2.1 HInf.out.2.2.2 rfl (by decide) _ _ _ (by rfl) C2_31 ⟨k30, 0, none⟩ 1 1 [.int .i64 (a : Int)] (by rfl) rfl (World.news_of_block B2_31) (ints_oneCell .i64 [(a : Int)]) (by decide) (by unfold maxLen; omega) (by omega) (by first | omega | (simp; omega)) _ rfl ?_
                      intro g32 cg32 W32 hown32 hgrow32 hat32 hlt32
                      have D32 : Below wr.heap.size wr W32 := Below.grown D31 hgrow32 D31.size (fun k hk => (C2_31.lt k hk).1)
                      have P2_32 : W32.ownsRow wr.heap.size 2 1 (.slice (some ⟨g32, 0, none⟩) (ps.length + 1) cg32) (ps.length + 1) ((ps ++ [(a : Int)]).map (Value.int .i64)) := by rw [List.map_append]; exact hown32
                      have P1_32 := own_grown P1_31 hgrow32 (fun k hk e => NP31 _ _ hk e.symm rfl)
                      clear hgrow32 hat32 hown32
                      refine hK.out _ _ ⟨bel_cell D32 x0, bel_cell D32 x1⟩ (fun hHeld => ?_)
                      clear hK K
                      try simp only [Act.put]
                      refine wpAnyH_ready (rs := [14]) (by kernel_rfl) (by simp) ?_
                      refine AllReadyH.cons rfl (fun K hK => ?_) AllReadyH.nil
                      clear hHeld
                      go_simp
                      go_at_call 80
                      refine (REC.out _ _ _ _ _ D32 P1_32 P2_32).mono ?_
                      rintro x W33 ⟨v33, rfl, Z33, R33⟩
                      refine hK.out _ _ (KC.out _ R33) (fun hHeld => ?_)
                      clear hK K
                      try simp only [Act.put]
                      refine wpAnyH_done (by kernel_rfl) ?_ _
                      clear hHeld
                      go_wp2_with fail
                      go_roundw
                      case rel => exact ⟨i + 1, _, by go_num, by omega, HT2, Lib.hid (FIN.out _ R33).1, Lib.hid (FIN.out _ R33).2.1, Lib.hid Z33, Lib.hid (FIN.out _ R33).2.2⟩
                      case measure => simp [intOf]; omega
                    exact AllReadyH.nil
                  refine AllReadyH.cons rfl (fun K hK => ?_) ?_
                  · -- 9
                    clear hHeld
                    go_simp
                    have hb34 : Below W24.heap.size W24 (W24.alloc (.cells #[.int .i64 (a : Int)] 2)) := (Below.refl _ _).alloc (Nat.le_refl _) _
                    have B2_34 : Blk (W24.alloc (.cells #[.int .i64 (a : Int)] 2)) W24.heap.size 2 #[.int .i64 (a : Int)] := Blk.new _ _ _
                    obtain ⟨W34, hW34⟩ : ∃ W', W24.alloc (.cells #[.int .i64 (a : Int)] 2) = W' := ⟨_, rfl⟩
                    obtain ⟨k34, hk34⟩ : ∃ k, W24.heap.size = k := ⟨_, rfl⟩
                    rw [hW34] at hb34 B2_34 ⊢
                    rw [hk34] at B2_34 ⊢
                    have D34 : Below wr.heap.size wr W34 := bel_next D24 hb34
                    have C1_34 := own_belw C1_24 hb34
                    have N34 : ∀ k, (Value.slice X24 way.length cx24).ownBlock = some k → k ≠ k34 := fun k hk => by have h2 := (C1_24.lt k hk).2; omega
                    have B1_34 := bel_blk B1_24 hb34
                    clear hW34 hk34
                    refine hK.out _ _ ⟨bel_cell D34 x0, bel_cell D34 x1⟩ (fun hHeld => ?_)
                    clear hK K
                    try simp only [Act.put]
                    refine wpAnyH_ready (rs := [5]) (by kernel_rfl) (by simp) ?_
                    refine AllReadyH.cons rfl (fun K hK => ?_) AllReadyH.nil
                    clear hHeld
                    have hs35 := D34.size
                    have hl35 := B1_34.lt
                    refine step_append_lies _ (by rfl) (.tmp 46) (.tmp 48) 39 (by rfl) wr.heap.size 2 i0 (.int .i64 0) 1 8 Try.underlying39 HInf.out.1 HInf.out.2.1 HInf.out.2.2.1 HInf.out.2.2.2 rfl (by decide) _ _ _ (by rfl) C1_34 ⟨k23, 0, none⟩ 1 1 [.int .i64 (q : Int)] (by rfl) rfl (World.news_of_block B1_34) (ints_oneCell .i64 [(q : Int)]) (by decide) (by unfold maxLen; omega) (by omega) (by first | omega | (simp; omega)) _ rfl ?_
                    intro g35 cg35 W35 hown35 hgrow35 hat35 hlt35
                    have D35 : Below wr.heap.size wr W35 := Below.grown D34 hgrow35 D34.size (fun k hk => (C1_34.lt k hk).1)
                    have P1_35 : W35.ownsRow wr.heap.size 2 1 (.slice (some ⟨g35, 0, none⟩) (way.length + 1) cg35) (way.length + 1) ((way ++ [(q : Int)]).map (Value.int .i64)) := by rw [List.map_append]; exact hown35
                    have B2_35 := Blk.grown B2_34 hgrow35 (fun e => N34 _ e.symm rfl)
                    clear hgrow35 hat35 hown35
                    refine hK.out _ _ ⟨bel_cell D35 x0, bel_cell D35 x1⟩ (fun hHeld => ?_)
                    clear hK K
                    try simp only [Act.put]
                    refine wpAnyH_ready (rs := [7]) (by kernel_rfl) (by simp) ?_
                    refine AllReadyH.cons rfl (fun K hK => ?_) AllReadyH.nil
                    clear hHeld
                    go_simp
                    go_at_call 84
                    refine (clone_any A3 n3 c3 ps _ PR.out.form (PR.out.butR (butR_bel D35)).at_ PR.out.len (Nat.le_trans PR.out.le (by omega))).mono ?_
                    rintro x W36 ⟨X36, cx36, rfl, hO36, hb36⟩
                    have D36 : Below wr.heap.size wr W36 := bel_next D35 hb36
                    have C2_36 := own_base hO36 D35.size
                    have B2_36 := bel_blk B2_35 hb36
                    have P1_36 := own_belw P1_35 hb36
                    have NP36 : ∀ k k', (Value.slice (some ⟨g35, 0, none⟩) (way.length + 1) cg35).ownBlock = some k → (Value.slice X36 ps.length cx36).ownBlock = some k' → k ≠ k' := fun k k' hk hk' => by have h1 := (hO36.lt k' hk').1; have h2 := (P1_35.lt k hk).2; omega
                    refine hK.out _ _ ⟨bel_cell D36 x0, bel_cell D36 x1⟩ (fun hHeld => ?_)
                    clear hK K
                    try simp only [Act.put]
                    refine wpAnyH_ready (rs := [10]) (by kernel_rfl) (by simp) ?_
                    refine AllReadyH.cons rfl (fun K hK => ?_) AllReadyH.nil
                    clear hHeld
                    have hs37 := D36.size
                    have hl37 := B2_36.lt
                    refine step_append_lies _ (by rfl) (.tmp 51) (.tmp 53) 39 (by rfl) wr.heap.size 2 i0 (.int .i64 0) 1 8 Try.underlying39 HInf.out.1 HInf.out.2.1 HInf.out.2.2.1 HInf.out.2.2.2 rfl (by decide) _ _ _ (by rfl) C2_36 ⟨k34, 0, none⟩ 1 1 [.int .i64 (a : Int)] (by rfl) rfl (World.news_of_block B2_36) (ints_oneCell .i64 [(a : Int)]) (by decide) (by unfold maxLen; omega) (by omega) (by first | omega | (simp; omega)) _ rfl ?_
                    intro g37 cg37 W37 hown37 hgrow37 hat37 hlt37
                    have D37 : Below wr.heap.size wr W37 := Below.grown D36 hgrow37 D36.size (fun k hk => (C2_36.lt k hk).1)
                    have P2_37 : W37.ownsRow wr.heap.size 2 1 (.slice (some ⟨g37, 0, none⟩) (ps.length + 1) cg37) (ps.length + 1) ((ps ++ [(a : Int)]).map (Value.int .i64)) := by rw [List.map_append]; exact hown37
                    have P1_37 := own_grown P1_36 hgrow37 (fun k hk e => NP36 _ _ hk e.symm rfl)
                    clear hgrow37 hat37 hown37
                    refine hK.out _ _ ⟨bel_cell D37 x0, bel_cell D37 x1⟩ (fun hHeld => ?_)
                    clear hK K
                    try simp only [Act.put]
                    refine wpAnyH_ready (rs := [14]) (by kernel_rfl) (by simp) ?_
                    refine AllReadyH.cons rfl (fun K hK => ?_) AllReadyH.nil
                    clear hHeld
                    go_simp
                    go_at_call 80
                    refine (REC.out _ _ _ _ _ D37 P1_37 P2_37).mono ?_
                    rintro x W38 ⟨v38, rfl, Z38, R38⟩
                    refine hK.out _ _ (KC.out _ R38) (fun hHeld => ?_)
                    clear hK K
                    try simp only [Act.put]
                    refine wpAnyH_done (by kernel_rfl) ?_ _
                    clear hHeld
                    go_wp2_with fail
                    go_roundw
                    case rel => exact ⟨i + 1, _, by go_num, by omega, HT2, Lib.hid (FIN.out _ R38).1, Lib.hid (FIN.out _ R38).2.1, Lib.hid Z38, Lib.hid (FIN.out _ R38).2.2⟩
                    case measure => simp [intOf]; omega
                  exact AllReadyH.nil
                refine AllReadyH.cons rfl (fun K hK => ?_) ?_
                · -- 9
                  clear hHeld
                  go_simp
                  have hb39 : Below W23.heap.size W23 (W23.alloc (.cells #[.int .i64 (a : Int)] 2)) := (Below.refl _ _).alloc (Nat.le_refl _) _
                  have B2_39 : Blk (W23.alloc (.cells #[.int .i64 (a : Int)] 2)) W23.heap.size 2 #[.int .i64 (a : Int)] := Blk.new _ _ _
                  obtain ⟨W39, hW39⟩ : ∃ W', W23.alloc (.cells #[.int .i64 (a : Int)] 2) = W' := ⟨_, rfl⟩
                  obtain ⟨k39, hk39⟩ : ∃ k, W23.heap.size = k := ⟨_, rfl⟩
                  rw [hW39] at hb39 B2_39 ⊢
                  rw [hk39] at B2_39 ⊢
                  have D39 : Below wr.heap.size wr W39 := bel_next D23 hb39
                  have B1_39 := bel_blk B1_23 hb39
                  clear hW39 hk39
                  refine hK.out _ _ ⟨bel_cell D39 x0, bel_cell D39 x1⟩ (fun hHeld => ?_)
                  clear hK K
                  try simp only [Act.put]
                  refine wpAnyH_ready (rs := [2]) (by kernel_rfl) (by simp) ?_
                  refine AllReadyH.cons rfl (fun K hK => ?_) AllReadyH.nil
                  clear hHeld
                  go_simp
                  go_at_call 84
                  refine (clone_any A2 n2 c2 way _ WR.out.form (WR.out.butR (butR_bel D39)).at_ WR.out.len (Nat.le_trans WR.out.le (by omega))).mono ?_
                  rintro x W40 ⟨X40, cx40, rfl, hO40, hb40⟩
                  have D40 : Below wr.heap.size wr W40 := bel_next D39 hb40
                  have C1_40 := own_base hO40 D39.size
                  have B1_40 := bel_blk B1_39 hb40
                  have B2_40 := bel_blk B2_39 hb40
                  have N40 : ∀ k, (Value.slice X40 way.length cx40).ownBlock = some k → k ≠ k39 := fun k hk => by have h1 := (hO40.lt k hk).1; have h2 := B2_39.lt; omega
                  refine hK.out _ _ ⟨bel_cell D40 x0, bel_cell D40 x1⟩ (fun hHeld => ?_)
                  clear hK K
                  try simp only [Act.put]
                  refine wpAnyH_ready (rs := [5]) (by kernel_rfl) (by simp) ?_
                  refine AllReadyH.cons rfl (fun K hK => ?_) AllReadyH.nil
                  clear hHeld
                  have hs41 := D40.size
                  have hl41 := B1_40.lt
                  refine step_append_lies _ (by rfl) (.tmp 46) (.tmp 48) 39 (by rfl) wr.heap.size 2 i0 (.int .i64 0) 1 8 Try.underlying39 HInf.out.1 HInf.out.2.1 HInf.out.2.2.1 HInf.out.2.2.2 rfl (by decide) _ _ _ (by rfl) C1_40 ⟨k23, 0, none⟩ 1 1 [.int .i64 (q : Int)] (by rfl) rfl (World.news_of_block B1_40) (ints_oneCell .i64 [(q : Int)]) (by decide) (by unfold maxLen; omega) (by omega) (by first | omega | (simp; omega)) _ rfl ?_
                  intro g41 cg41 W41 hown41 hgrow41 hat41 hlt41
                  have D41 : Below wr.heap.size wr W41 := Below.grown D40 hgrow41 D40.size (fun k hk => (C1_40.lt k hk).1)
                  have P1_41 : W41.ownsRow wr.heap.size 2 1 (.slice (some ⟨g41, 0, none⟩) (way.length + 1) cg41) (way.length + 1) ((way ++ [(q : Int)]).map (Value.int .i64)) := by rw [List.map_append]; exact hown41
                  have B2_41 := Blk.grown B2_40 hgrow41 (fun e => N40 _ e.symm rfl)
                  clear hgrow41 hat41 hown41
                  refine hK.out _ _ ⟨bel_cell D41 x0, bel_cell D41 x1⟩ (fun hHeld => ?_)
                  clear hK K
                  try simp only [Act.put]
                  refine wpAnyH_ready (rs := [7]) (by kernel_rfl) (by simp) ?_
                  refine AllReadyH.cons rfl (fun K hK => ?_) AllReadyH.nil
                  clear hHeld
                  go_simp
                  go_at_call 84
                  refine (clone_any A3 n3 c3 ps _ PR.out.form (PR.out.butR (butR_bel D41)).at_ PR.out.len (Nat.le_trans PR.out.le (by omega))).mono ?_
                  rintro x W42 ⟨X42, cx42, rfl, hO42, hb42⟩
                  have D42 : Below wr.heap.size wr W42 := bel_next D41 hb42
                  have C2_42 := own_base hO42 D41.size
                  have B2_42 := bel_blk B2_41 hb42
                  have P1_42 := own_belw P1_41 hb42
                  have NP42 : ∀ k k', (Value.slice (some ⟨g41, 0, none⟩) (way.length + 1) cg41).ownBlock = some k → (Value.slice X42 ps.length cx42).ownBlock = some k' → k ≠ k' := fun k k' hk hk' => by have h1 := (hO42.lt k' hk').1; have h2 := (P1_41.lt k hk).2; omega
                  refine hK.out _ _ ⟨bel_cell D42 x0, bel_cell D42 x1⟩ (fun hHeld => ?_)
                  clear hK K
                  try simp only [Act.put]
                  refine wpAnyH_ready (rs := [10]) (by kernel_rfl) (by simp) ?_
                  refine AllReadyH.cons rfl (fun K hK => ?_) AllReadyH.nil
                  clear hHeld
                  have hs43 := D42.size
                  have hl43 := B2_42.lt
                  refine step_append_lies _ (by rfl) (.tmp 51) (.tmp 53) 39 (by rfl) wr.heap.size 2 i0 (.int .i64 0) 1 8 Try.underlying39 HInf.out.1 HInf.out.2.1 HInf.out.2.2.1 HInf.out.2.2.2 rfl (by decide) _ _ _ (by rfl) C2_42 ⟨k39, 0, none⟩ 1 1 [.int .i64 (a : Int)] (by rfl) rfl (World.news_of_block B2_42) (ints_oneCell .i64 [(a : Int)]) (by decide) (by unfold maxLen; omega) (by omega) (by first | omega | (simp; omega)) _ rfl ?_
                  intro g43 cg43 W43 hown43 hgrow43 hat43 hlt43
                  have D43 : Below wr.heap.size wr W43 := Below.grown D42 hgrow43 D42.size (fun k hk => (C2_42.lt k hk).1)
                  have P2_43 : W43.ownsRow wr.heap.size 2 1 (.slice (some ⟨g43, 0, none⟩) (ps.length + 1) cg43) (ps.length + 1) ((ps ++ [(a : Int)]).map (Value.int .i64)) := by rw [List.map_append]; exact hown43
                  have P1_43 := own_grown P1_42 hgrow43 (fun k hk e => NP42 _ _ hk e.symm rfl)
                  clear hgrow43 hat43 hown43
                  refine hK.out _ _ ⟨bel_cell D43 x0, bel_cell D43 x1⟩ (fun hHeld => ?_)
                  clear hK K
                  try simp only [Act.put]
                  refine wpAnyH_ready (rs := [14]) (by kernel_rfl) (by simp) ?_
                  refine AllReadyH.cons rfl (fun K hK => ?_) AllReadyH.nil
                  clear hHeld
                  go_simp
                  go_at_call 80
                  refine (REC.out _ _ _ _ _ D43 P1_43 P2_43).mono ?_
                  rintro x W44 ⟨v44, rfl, Z44, R44⟩
                  refine hK.out _ _ (KC.out _ R44) (fun hHeld => ?_)
                  clear hK K
                  try simp only [Act.put]
                  refine wpAnyH_done (by kernel_rfl) ?_ _
                  clear hHeld
                  go_wp2_with fail
                  go_roundw
                  case rel => exact ⟨i + 1, _, by go_num, by omega, HT2, Lib.hid (FIN.out _ R44).1, Lib.hid (FIN.out _ R44).2.1, Lib.hid Z44, Lib.hid (FIN.out _ R44).2.2⟩
                  case measure => simp [intOf]; omega
                exact AllReadyH.nil
              refine AllReadyH.cons rfl (fun K hK => ?_) ?_
              · -- 9
                clear hHeld
                go_simp
                have hb45 : Below W0'.heap.size W0' (W0'.alloc (.cells #[.int .i64 (a : Int)] 2)) := (Below.refl _ _).alloc (Nat.le_refl _) _
                have B2_45 : Blk (W0'.alloc (.cells #[.int .i64 (a : Int)] 2)) W0'.heap.size 2 #[.int .i64 (a : Int)] := Blk.new _ _ _
                obtain ⟨W45, hW45⟩ : ∃ W', W0'.alloc (.cells #[.int .i64 (a : Int)] 2) = W' := ⟨_, rfl⟩
                obtain ⟨k45, hk45⟩ : ∃ k, W0'.heap.size = k := ⟨_, rfl⟩
                rw [hW45] at hb45 B2_45 ⊢
                rw [hk45] at B2_45 ⊢
                have D45 : Below wr.heap.size wr W45 := bel_next D0 hb45
                clear hW45 hk45
                refine hK.out _ _ ⟨bel_cell D45 x0, bel_cell D45 x1⟩ (fun hHeld => ?_)
                clear hK K
                try simp only [Act.put]
                refine wpAnyH_ready (rs := [2, 4]) (by kernel_rfl) (by simp) ?_
                refine AllReadyH.cons rfl (fun K hK => ?_) ?_
                · -- 2
                  clear hHeld
                  go_simp
                  go_at_call 84
                  refine (clone_any A2 n2 c2 way _ WR.out.form (WR.out.butR (butR_bel D45)).at_ WR.out.len (Nat.le_trans WR.out.le (by omega))).mono ?_
                  rintro x W46 ⟨X46, cx46, rfl, hO46, hb46⟩
                  have D46 : Below wr.heap.size wr W46 := bel_next D45 hb46
                  have C1_46 := own_base hO46 D45.size
                  have B2_46 := bel_blk B2_45 hb46
                  have N46 : ∀ k, (Value.slice X46 way.length cx46).ownBlock = some k → k ≠ k45 := fun k hk => by have h1 := (hO46.lt k hk).1; have h2 := B2_45.lt; omega
                  refine hK.out _ _ ⟨bel_cell D46 x0, bel_cell D46 x1⟩ (fun hHeld => ?_)
                  clear hK K
                  try simp only [Act.put]
                  refine wpAnyH_ready (rs := [4]) (by kernel_rfl) (by simp) ?_
                  refine AllReadyH.cons rfl (fun K hK => ?_) AllReadyH.nil
                  clear hHeld
                  go_simp
                  have hb47 : Below W46.heap.size W46 (W46.alloc (.cells #[.int .i64 (q : Int)] 2)) := (Below.refl _ _).alloc (Nat.le_refl _) _
                  have B1_47 : Blk (W46.alloc (.cells #[.int .i64 (q : Int)] 2)) W46.heap.size 2 #[.int .i64 (q : Int)] := Blk.new _ _ _
                  obtain ⟨W47, hW47⟩ : ∃ W', W46.alloc (.cells #[.int .i64 (q : Int)] 2) = W' := ⟨_, rfl⟩
                  obtain ⟨k47, hk47⟩ : ∃ k, W46.heap.size = k := ⟨_, rfl⟩
                  rw [hW47] at hb47 B1_47 ⊢
                  rw [hk47] at B1_47 ⊢
                  have D47 : Below wr.heap.size wr W47 := bel_next D46 hb47
                  have C1_47 := own_belw C1_46 hb47
                  have B2_47 := bel_blk B2_46 hb47
                  clear hW47 hk47
                  refine hK.out _ _ ⟨bel_cell D47 x0, bel_cell D47 x1⟩ (fun hHeld => ?_)
                  clear hK K
                  try simp only [Act.put]
                  refine wpAnyH_ready (rs := [5]) (by kernel_rfl) (by simp) ?_
                  refine AllReadyH.cons rfl (fun K hK => ?_) AllReadyH.nil
                  clear hHeld
                  have hs48 := D47.size
                  have hl48 := B1_47.lt
                  refine step_append_lies _ (by rfl) (.tmp 46) (.tmp 48) 39 (by rfl) wr.heap.size 2 i0 (.int .i64 0) 1 8 Try.underlying39 HInf.out.1 HInf.out.2.1 HInf.out.2.2.1 HInf.out.2.2.2 rfl (by decide) _ _ _ (by rfl) C1_47 ⟨k47, 0, none⟩ 1 1 [.int .i64 (q : Int)] (by rfl) rfl (World.news_of_block B1_47) (ints_oneCell .i64 [(q : Int)]) (by decide) (by unfold maxLen; omega) (by omega) (by first | omega | (simp; omega)) _ rfl ?_
                  intro g48 cg48 W48 hown48 hgrow48 hat48 hlt48
                  have D48 : Below wr.heap.size wr W48 := Below.grown D47 hgrow48 D47.size (fun k hk => (C1_47.lt k hk).1)
                  have P1_48 : W48.ownsRow wr.heap.size 2 1 (.slice (some ⟨g48, 0, none⟩) (way.length + 1) cg48) (way.length + 1) ((way ++ [(q : Int)]).map (Value.int .i64)) := by rw [List.map_append]; exact hown48
                  have B2_48 := Blk.grown B2_47 hgrow48 (fun e => N46 _ e.symm rfl)
                  clear hgrow48 hat48 hown48
                  refine hK.out _ _ ⟨bel_cell D48 x0, bel_cell D48 x1⟩ (fun hHeld => ?_)
                  clear hK K
                  try simp only [Act.put]
                  refine wpAnyH_ready (rs := [7]) (by kernel_rfl) (by simp) ?_
                  refine AllReadyH.cons rfl (fun K hK => ?_) AllReadyH.nil
                  clear hHeld
                  go_simp
                  go_at_call 84
                  refine (clone_any A3 n3 c3 ps _ PR.out.form (PR.out.butR (butR_bel D48)).at_ PR.out.len (Nat.le_trans PR.out.le (by omega))).mono ?_
                  rintro x W49 ⟨X49, cx49, rfl, hO49, hb49⟩
                  have D49 : Below wr.heap.size wr W49 := bel_next D48 hb49
                  have C2_49 := own_base hO49 D48.size
                  have B2_49 := bel_blk B2_48 hb49
                  have P1_49 := own_belw P1_48 hb49
                  have NP49 : ∀ k k', (Value.slice (some ⟨g48, 0, none⟩) (way.length + 1) cg48).ownBlock = some k → (Value.slice X49 ps.length cx49).ownBlock = some k' → k ≠ k' := fun k k' hk hk' => by have h1 := (hO49.lt k' hk').1; have h2 := (P1_48.lt k hk).2; omega
                  refine hK.out _ _ ⟨bel_cell D49 x0, bel_cell D49 x1⟩ (fun hHeld => ?_)
                  clear hK K
                  try simp only [Act.put]
                  refine wpAnyH_ready (rs := [10]) (by kernel_rfl) (by simp) ?_
                  refine AllReadyH.cons rfl (fun K hK => ?_) AllReadyH.nil
                  clear hHeld
                  have hs50 := D49.size
                  have hl50 := B2_49.lt
                  refine step_append_lies _ (by rfl) (.tmp 51) (.tmp 53) 39 (by rfl) wr.heap.size 2 i0 (.int .i64 0) 1 8 Try.underlying39 HInf.out.1 HInf.out.2.1 HInf.out.2.2.1 HInf.out.2.2.2 rfl (by decide) _ _ _ (by rfl) C2_49 ⟨k45, 0, none⟩ 1 1 [.int .i64 (a : Int)] (by rfl) rfl (World.news_of_block B2_49) (ints_oneCell .i64 [(a : Int)]) (by decide) (by unfold maxLen; omega) (by omega) (by first | omega | (simp; omega)) _ rfl ?_
                  intro g50 cg50 W50 hown50 hgrow50 hat50 hlt50
                  have D50 : Below wr.heap.size wr W50 := Below.grown D49 hgrow50 D49.size (fun k hk => (C2_49.lt k hk).1)
                  have P2_50 : W50.ownsRow wr.heap.size 2 1 (.slice (some ⟨g50, 0, none⟩) (ps.length + 1) cg50) (ps.length + 1) ((ps ++ [(a : Int)]).map (Value.int .i64)) := by rw [List.map_append]; exact hown50
                  have P1_50 := own_grown P1_49 hgrow50 (fun k hk e => NP49 _ _ hk e.symm rfl)
                  clear hgrow50 hat50 hown50
                  refine hK.out _ _ ⟨bel_cell D50 x0, bel_cell D50 x1⟩ (fun hHeld => ?_)
                  clear hK K
                  try simp only [Act.put]
                  refine wpAnyH_ready (rs := [14]) (by kernel_rfl) (by simp) ?_
                  refine AllReadyH.cons rfl (fun K hK => ?_) AllReadyH.nil
                  clear hHeld
                  go_simp
                  go_at_call 80
                  refine (REC.out _ _ _ _ _ D50 P1_50 P2_50).mono ?_
                  rintro x W51 ⟨v51, rfl, Z51, R51⟩
                  refine hK.out _ _ (KC.out _ R51) (fun hHeld => ?_)
                  clear hK K
                  try simp only [Act.put]
                  refine wpAnyH_done (by kernel_rfl) ?_ _
                  clear hHeld
                  go_wp2_with fail
                  go_roundw
                  case rel => exact ⟨i + 1, _, by go_num, by omega, HT2, Lib.hid (FIN.out _ R51).1, Lib.hid (FIN.out _ R51).2.1, Lib.hid Z51, Lib.hid (FIN.out _ R51).2.2⟩
                  case measure => simp [intOf]; omega
                refine AllReadyH.cons rfl (fun K hK => ?_) ?_
                · -- 4
                  clear hHeld
                  go_simp
                  have hb52 : Below W45.heap.size W45 (W45.alloc (.cells #[.int .i64 (q : Int)] 2)) := (Below.refl _ _).alloc (Nat.le_refl _) _
                  have B1_52 : Blk (W45.alloc (.cells #[.int .i64 (q : Int)] 2)) W45.heap.size 2 #[.int .i64 (q : Int)] := Blk.new _ _ _
                  obtain ⟨W52, hW52⟩ : ∃ W', W45.alloc (.cells #[.int .i64 (q : Int)] 2) = W' := ⟨_, rfl⟩
                  obtain ⟨k52, hk52⟩ : ∃ k, W45.heap.size = k := ⟨_, rfl⟩
                  rw [hW52] at hb52 B1_52 ⊢
                  rw [hk52] at B1_52 ⊢
                  have D52 : Below wr.heap.size wr W52 := bel_next D45 hb52
                  have B2_52 := bel_blk B2_45 hb52
                  clear hW52 hk52
                  refine hK.out _ _ ⟨bel_cell D52 x0, bel_cell D52 x1⟩ (fun hHeld => ?_)
                  clear hK K
                  try simp only [Act.put]
                  refine wpAnyH_ready (rs := [2]) (by kernel_rfl) (by simp) ?_
                  refine AllReadyH.cons rfl (fun K hK => ?_) AllReadyH.nil
                  clear hHeld
                  go_simp
                  go_at_call 84
                  refine (clone_any A2 n2 c2 way _ WR.out.form (WR.out.butR (butR_bel D52)).at_ WR.out.len (Nat.le_trans WR.out.le (by omega))).mono ?_
                  rintro x W53 ⟨X53, cx53, rfl, hO53, hb53⟩
                  have D53 : Below wr.heap.size wr W53 := bel_next D52 hb53
                  have C1_53 := own_base hO53 D52.size
                  have B1_53 := bel_blk B1_52 hb53
                  have B2_53 := bel_blk B2_52 hb53
                  have N53 : ∀ k, (Value.slice X53 way.length cx53).ownBlock = some k → k ≠ k45 := fun k hk => by have h1 := (hO53.lt k hk).1; have h2 := B2_52.lt; omega
                  refine hK.out _ _ ⟨bel_cell D53 x0, bel_cell D53 x1⟩ (fun hHeld => ?_)
                  clear hK K
                  try simp only [Act.put]
                  refine wpAnyH_ready (rs := [5]) (by kernel_rfl) (by simp) ?_
                  refine AllReadyH.cons rfl (fun K hK => ?_) AllReadyH.nil
                  clear hHeld
                  have hs54 := D53.size
                  have hl54 := B1_53.lt
                  refine step_append_lies _ (by rfl) (.tmp 46) (.tmp 48) 39 (by rfl) wr.heap.size 2 i0 (.int .i64 0) 1 8 Try.underlying39 HInf.out.1 HInf.out.2.1 HInf.out.2.2.1 HInf.out.2.2.2 rfl (by decide) _ _ _ (by rfl) C1_53 ⟨k52, 0, none⟩ 1 1 [.int .i64 (q : Int)] (by rfl) rfl (World.news_of_block B1_53) (ints_oneCell .i64 [(q : Int)]) (by decide) (by unfold maxLen; omega) (by omega) (by first | omega | (simp; omega)) _ rfl ?_
                  intro g54 cg54 W54 hown54 hgrow54 hat54 hlt54
                  have D54 : Below wr.heap.size wr W54 := Below.grown D53 hgrow54 D53.size (fun k hk => (C1_53.lt k hk).1)
                  have P1_54 : W54.ownsRow wr.heap.size 2 1 (.slice (some ⟨g54, 0, none⟩) (way.length + 1) cg54) (way.length + 1) ((way ++ [(q : Int)]).map (Value.int .i64)) := by rw [List.map_append]; exact hown54
                  have B2_54 := Blk.grown B2_53 hgrow54 (fun e => N53 _ e.symm rfl)
                  clear hgrow54 hat54 hown54
                  refine hK.out _ _ ⟨bel_cell D54 x0, bel_cell D54 x1⟩ (fun hHeld => ?_)
                  clear hK K
                  try simp only [Act.put]
                  refine wpAnyH_ready (rs := [7]) (by kernel_rfl) (by simp) ?_
                  refine AllReadyH.cons rfl (fun K hK => ?_) AllReadyH.nil
                  clear hHeld
                  go_simp
                  go_at_call 84
                  refine (clone_any A3 n3 c3 ps _ PR.out.form (PR.out.butR (butR_bel D54)).at_ PR.out.len (Nat.le_trans PR.out.le (by omega))).mono ?_
                  rintro x W55 ⟨X55, cx55, rfl, hO55, hb55⟩
                  have D55 : Below wr.heap.size wr W55 := bel_next D54 hb55
                  have C2_55 := own_base hO55 D54.size
                  have B2_55 := bel_blk B2_54 hb55
                  have P1_55 := own_belw P1_54 hb55
                  have NP55 : ∀ k k', (Value.slice (some ⟨g54, 0, none⟩) (way.length + 1) cg54).ownBlock = some k → (Value.slice X55 ps.length cx55).ownBlock = some k' → k ≠ k' := fun k k' hk hk' => by have h1 := (hO55.lt k' hk').1; have h2 := (P1_54.lt k hk).2; omega
                  refine hK.out _ _ ⟨bel_cell D55 x0, bel_cell D55 x1⟩ (fun hHeld => ?_)
                  clear hK K
                  try simp only [Act.put]
                  refine wpAnyH_ready (rs := [10]) (by kernel_rfl) (by simp) ?_
                  refine AllReadyH.cons rfl (fun K hK => ?_) AllReadyH.nil
                  clear hHeld
                  have hs56 := D55.size
                  have hl56 := B2_55.lt
                  refine step_append_lies _ (by rfl) (.tmp 51) (.tmp 53) 39 (by rfl) wr.heap.size 2 i0 (.int .i64 0) 1 8 Try.underlying39 HInf.out.1 HInf.out.2.1 HInf.out.2.2.1 HInf.out.2.2.2 rfl (by decide) _ _ _ (by rfl) C2_55 ⟨k45, 0, none⟩ 1 1 [.int .i64 (a : Int)] (by rfl) rfl (World.news_of_block B2_55) (ints_oneCell .i64 [(a : Int)]) (by decide) (by unfold maxLen; omega) (by omega) (by first | omega | (simp; omega)) _ rfl ?_
                  intro g56 cg56 W56 hown56 hgrow56 hat56 hlt56
                  have D56 : Below wr.heap.size wr W56 := Below.grown D55 hgrow56 D55.size (fun k hk => (C2_55.lt k hk).1)
                  have P2_56 : W56.ownsRow wr.heap.size 2 1 (.slice (some ⟨g56, 0, none⟩) (ps.length + 1) cg56) (ps.length + 1) ((ps ++ [(a : Int)]).map (Value.int .i64)) := by rw [List.map_append]; exact hown56
                  have P1_56 := own_grown P1_55 hgrow56 (fun k hk e => NP55 _ _ hk e.symm rfl)
                  clear hgrow56 hat56 hown56
                  refine hK.out _ _ ⟨bel_cell D56 x0, bel_cell D56 x1⟩ (fun hHeld => ?_)
                  clear hK K
                  try simp only [Act.put]
                  refine wpAnyH_ready (rs := [14]) (by kernel_rfl) (by simp) ?_
                  refine AllReadyH.cons rfl (fun K hK => ?_) AllReadyH.nil
                  clear hHeld
                  go_simp
                  go_at_call 80
                  refine (REC.out _ _ _ _ _ D56 P1_56 P2_56).mono ?_
                  rintro x W57 ⟨v57, rfl, Z57, R57⟩
                  refine hK.out _ _ (KC.out _ R57) (fun hHeld => ?_)
                  clear hK K
                  try simp only [Act.put]
                  refine wpAnyH_done (by kernel_rfl) ?_ _
                  clear hHeld
                  go_wp2_with fail
                  go_roundw
                  case rel => exact ⟨i + 1, _, by go_num, by omega, HT2, Lib.hid (FIN.out _ R57).1, Lib.hid (FIN.out _ R57).2.1, Lib.hid Z57, Lib.hid (FIN.out _ R57).2.2⟩
                  case measure => simp [intOf]; omega
                exact AllReadyH.nil
              exact AllReadyH.nil
              -- END
        · have hie : i = fl := by omega
          have hst : si = TOT := by
            have := HT.out
            rw [List.drop_of_length_le (by rw [HFL.out]; omega)] at this
            exact this
          subst hst
          go_wp2_with fail
          refine bodyPost_end (v := .tuple #[]) (by simp [results, Try.results80, go_sem]) rfl ?_
          exact ⟨_, rfl, HZ.out, HR.out⟩
end Go.Proofs.Ytlebkjkiikehhaa.Cst
