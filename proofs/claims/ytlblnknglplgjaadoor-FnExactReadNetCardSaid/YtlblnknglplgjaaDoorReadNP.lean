/-
  PLAIN LAW: the network that a text spells: two ways to read it are one. No program in sight.
-/
import Derived.Test.YtlblnknglplgjaaDoorReadP
import Derived.Test.YtlblnknglplgjaaDoorSplitP
import Derived.Test.YtlblnknglplgjaaDoorNetT
import Derived.Lib.CutLaws
namespace Go.Proofs.YtlblnknglplgjaaDoor
open Go.RowKit

/-! ### numbers -/
theorem decFrom_snoc : ∀ (l : List UInt8) (a m : Nat) (b : UInt8) (d : Nat), Lib.decFrom a l = some m → Lib.digitVal b = some d → Lib.decFrom a (l ++ [b]) = some (m * 10 + d)
  | [], a, m, b, d, h, hb => by
    simp only [Lib.decFrom, Option.some.injEq] at h
    subst h
    simp [Lib.decFrom, hb]
  | c :: l, a, m, b, d, h, hb => by
    rw [Lib.decFrom] at h
    rw [List.cons_append, Lib.decFrom]
    cases hc : Lib.digitVal c with
    | none => rw [hc] at h; cases h
    | some e =>
      rw [hc] at h
      exact decFrom_snoc l _ m b d h hb
theorem digit_of {d : Nat} (h : d < 10) : Lib.digitVal (UInt8.ofNat (48 + d)) = some d := by
  have e : (UInt8.ofNat (48 + d)).toNat = 48 + d := by simp; omega
  unfold Lib.digitVal
  rw [e, if_pos (by omega)]
  congr 1
  omega
theorem decFrom_digits : ∀ u : Nat, Lib.decFrom 0 (Lib.decDigits u) = some u := by
  intro u
  induction u using Nat.strongRecOn with
  | _ u ih =>
    rw [Lib.decDigits]
    split
    · rename_i h
      rw [Lib.decFrom, digit_of h]
      simp [Lib.decFrom]
    · rename_i h
      rw [decFrom_snoc _ _ _ _ _ (ih (u / 10) (by omega)) (digit_of (d := u % 10) (by omega))]
      congr 1
      omega
theorem nDigits_le : ∀ (k u : Nat), u < 10 ^ (k + 1) → Lib.nDigits u ≤ k + 1
  | 0, u, h => by
    rw [Lib.nDigits, dif_pos (by simpa using h)]
    omega
  | k + 1, u, h => by
    rw [Lib.nDigits]
    split
    · omega
    · have := nDigits_le k (u / 10) (by
        rw [Nat.pow_succ] at h
        omega)
      omega
theorem digits_ne (u : Nat) : Lib.decDigits u ≠ [] := by
  rw [Lib.decDigits]
  split <;> simp
theorem digits_head (u : Nat) : (Lib.decDigits u).head? ≠ some 45 := by
  intro h
  have hm : (45 : UInt8) ∈ Lib.decDigits u := List.mem_of_mem_head? h
  have := decDigits_dig u 45 hm
  have e : (45 : UInt8).toNat = 45 := by decide
  omega
theorem numS_small {n : Int} (h0 : 0 ≤ n) (h1 : n < 10000) : numS (Lib.itoa n) = some n := by
  obtain ⟨u, rfl⟩ : ∃ u : Nat, n = u := ⟨n.toNat, by omega⟩
  have e : Lib.itoa (u : Int) = Lib.decDigits u := by unfold Lib.itoa; rw [if_neg (by omega)]; simp
  have hs : strip (Lib.decDigits u) = Lib.decDigits u := by unfold strip; rw [if_neg (digits_head u)]
  have hl : (Lib.decDigits u).length ≤ 4 := by rw [Lib.decDigits_length]; exact nDigits_le 3 u (by omega)
  have hp : 1 ≤ (Lib.decDigits u).length := by
    cases hd : Lib.decDigits u with
    | nil => exact absurd hd (digits_ne u)
    | cons a b => simp
  have hd : Lib.decNat (Lib.decDigits u) = some u := by
    unfold Lib.decNat
    rw [if_neg (by simpa using digits_ne u), decFrom_digits]
  have hg : sgn (Lib.decDigits u) u = (u : Int) := by unfold sgn; rw [if_neg (digits_head u)]
  unfold numS
  rw [e, hs, if_neg (by omega), hd]
  simp only
  rw [hg, e, if_pos rfl]
theorem numS_back {l : List UInt8} {n : Int} (h : numS l = some n) : Lib.itoa n = l := by
  unfold numS at h
  split at h
  · cases h
  · split at h
    · split at h
      · rename_i h1
        injection h with h
        rw [← h]
        exact h1
      · cases h
    · cases h
theorem numS_nil : numS [] = none := by simp [numS, strip]
theorem itoa_free {n : Int} {c : UInt8} (h : c.toNat < 45 ∨ 57 < c.toNat) : ∀ b ∈ Lib.itoa n, b ≠ c := by
  intro b hb
  unfold Lib.itoa at hb
  have e : (45 : UInt8).toNat = 45 := by decide
  split at hb
  · rcases List.mem_cons.1 hb with rfl | hb
    · rintro rfl; omega
    · have := decDigits_dig _ b hb
      rintro rfl
      omega
  · have := decDigits_dig _ b hb
    rintro rfl
    omega

/-! ### cuts -/
theorem spl_no' {c : UInt8} : ∀ {x acc rest : List UInt8}, (∀ b ∈ x, b ≠ c) → spl c acc (x ++ c :: rest) = (acc ++ x) :: spl c [] rest
  | [], acc, rest, _ => by simp [spl]
  | b :: x, acc, rest, h => by
    have hb : b ≠ c := h b (by simp)
    rw [List.cons_append, spl, if_neg hb, spl_no' (fun y hy => h y (by simp [hy]))]
    simp
theorem spl_no1' {c : UInt8} : ∀ {x acc : List UInt8}, (∀ b ∈ x, b ≠ c) → spl c acc x = [acc ++ x]
  | [], acc, _ => by simp [spl]
  | b :: x, acc, h => by
    have hb : b ≠ c := h b (by simp)
    rw [spl, if_neg hb, spl_no1' (fun y hy => h y (by simp [hy]))]
    simp
theorem spl_ne' (c : UInt8) : ∀ (l acc : List UInt8), spl c acc l ≠ []
  | [], acc => by simp [spl]
  | b :: r, acc => by
    rw [spl]
    split
    · simp
    · exact spl_ne' c r _
def catN (c : UInt8) : List (List UInt8) → List UInt8
  | [] => []
  | [x] => x
  | x :: y :: r => x ++ c :: catN c (y :: r)
theorem spl_catN (c : UInt8) : ∀ (l acc : List UInt8), catN c (spl c acc l) = acc ++ l
  | [], acc => by simp [spl, catN]
  | b :: r, acc => by
    rw [spl]
    split
    · rename_i h
      subst h
      have h1 := spl_catN b r []
      cases hs : spl b [] r with
      | nil => exact absurd hs (spl_ne' b r [])
      | cons y q =>
        rw [hs] at h1
        rw [catN, h1]
        simp
    · rw [spl_catN c r]
      simp
theorem splitK_spl (c : UInt8) : ∀ (k : Nat) (l : List UInt8), (spl c [] l).length ≤ k + 1 → Lib.splitK [c] 0 k l = spl c [] l
  | 0, l, h => by
    rcases spl_index c l [] with ⟨e1, e2⟩ | ⟨i, e1, e2, e3⟩
    · rw [e2]; rfl
    · rw [e3, List.length_cons] at h
      have := spl_ne' c (l.drop (i + 1)) []
      have : 0 < (spl c [] (l.drop (i + 1))).length := List.length_pos_iff.2 this
      omega
  | k + 1, l, h => by
    rcases spl_index c l [] with ⟨e1, e2⟩ | ⟨i, e1, e2, e3⟩
    · rw [Lib.splitK, if_pos (by rw [e1]; rfl), e2]; rfl
    · have e4 : ([c] : List UInt8).length = 1 := rfl
      rw [e3, List.length_cons] at h
      rw [Lib.splitK, if_neg (by rw [e1]; simp), e1, e4, Int.toNat_natCast, splitK_spl c k _ (by omega), e3]
      simp
theorem index_at {c : UInt8} : ∀ (x r : List UInt8), (∀ b ∈ x, b ≠ c) → Lib.index (x ++ c :: r) [c] = (x.length : Nat)
  | [], r, _ => by rw [List.nil_append, index_cons, if_pos rfl]; rfl
  | b :: x, r, h => by
    have ih := index_at x r (fun y hy => h y (by simp [hy]))
    rw [List.cons_append, index_cons, if_neg (h b (by simp)), ih, if_neg (by omega)]
    simp
theorem cut_at {c : UInt8} {x r : List UInt8} (h : ∀ b ∈ x, b ≠ c) : Lib.cut (x ++ c :: r) [c] = (x, r, true) := by
  unfold Lib.cut
  rw [index_at x r h, if_pos (by omega), Int.toNat_natCast]
  simp

/-! ### tubes -/
def numD (p : List UInt8) : Int × Bool := resO (numS p)
theorem numD_small {n : Int} (h0 : 0 ≤ n) (h1 : n < 10000) : numD (Lib.itoa n) = (n, true) := by unfold numD; rw [numS_small h0 h1]; rfl
theorem numD_back {p : List UInt8} {n : Int} (h : numD p = (n, true)) : Lib.itoa n = p := by
  unfold numD at h
  cases hn : numS p with
  | none => rw [hn] at h; simp [resO] at h
  | some m =>
    rw [hn] at h
    simp only [resO, Prod.mk.injEq, and_true] at h
    subst h
    exact numS_back hn
theorem tubeT_list (t : Tb) : (tubeT t).data.toList = Lib.itoa t.1 ++ 62 :: (Lib.itoa t.2.1 ++ 42 :: Lib.itoa t.2.2) := by
  unfold tubeT decT
  simp [ByteArray.data_append]
def numT (a b c : List UInt8) : Tb × Bool := (((numD a).1, (numD b).1, (numD c).1), (numD a).2 && (numD b).2 && (numD c).2)
def tubeS (p : List UInt8) : Option (Tb × Bool) := match spl 62 [] p with
  | [a, r] => match spl 42 [] r with
    | [b, c] => some (numT a b c)
    | _ => none
  | _ => none
def tubeI (p : List UInt8) : Tb × Bool := numT (Lib.cut p [62]).1 (Lib.cut (Lib.cut p [62]).2.1 [42]).1 (Lib.cut (Lib.cut p [62]).2.1 [42]).2.1
def smallT (t : Tb) : Prop := (0 ≤ t.1 ∧ t.1 < 10000) ∧ (0 ≤ t.2.1 ∧ t.2.1 < 10000) ∧ (0 ≤ t.2.2 ∧ t.2.2 < 10000)
theorem numT_small {t : Tb} (h : smallT t) : numT (Lib.itoa t.1) (Lib.itoa t.2.1) (Lib.itoa t.2.2) = (t, true) := by
  unfold numT
  rw [numD_small h.1.1 h.1.2, numD_small h.2.1.1 h.2.1.2, numD_small h.2.2.1 h.2.2.2]
  rfl
theorem c62 : (62 : UInt8).toNat = 62 := by decide
theorem c42 : (42 : UInt8).toNat = 42 := by decide
theorem c32 : (32 : UInt8).toNat = 32 := by decide
theorem c58 : (58 : UInt8).toNat = 58 := by decide
theorem tail_free (t : Tb) : ∀ b ∈ (Lib.itoa t.2.1 ++ 42 :: Lib.itoa t.2.2), b ≠ (62 : UInt8) := by
  intro b hb
  rw [List.mem_append, List.mem_cons] at hb
  rcases hb with hb | rfl | hb
  · exact itoa_free (by rw [c62]; omega) b hb
  · decide
  · exact itoa_free (by rw [c62]; omega) b hb
theorem tubeS_text {t : Tb} (h : smallT t) : tubeS (tubeT t).data.toList = some (t, true) := by
  unfold tubeS
  rw [tubeT_list, spl_no' (itoa_free (by rw [c62]; omega)), spl_no1' (tail_free t)]
  simp only [List.nil_append]
  rw [spl_no' (itoa_free (by rw [c42]; omega)), spl_no1' (itoa_free (by rw [c42]; omega))]
  simp only [List.nil_append]
  rw [numT_small h]
theorem tubeI_text {t : Tb} (h : smallT t) : tubeI (tubeT t).data.toList = (t, true) := by
  unfold tubeI
  rw [tubeT_list, cut_at (itoa_free (by rw [c62]; omega))]
  simp only
  rw [cut_at (itoa_free (by rw [c42]; omega))]
  exact numT_small h
theorem numT_true {a b c : List UInt8} {t : Tb} (h : numT a b c = (t, true)) : Lib.itoa t.1 = a ∧ Lib.itoa t.2.1 = b ∧ Lib.itoa t.2.2 = c := by
  unfold numT at h
  obtain ⟨x, y, z⟩ := t
  simp only [Prod.mk.injEq, Bool.and_eq_true] at h
  obtain ⟨⟨h1, h2, h3⟩, ⟨h4, h5⟩, h6⟩ := h
  exact ⟨numD_back (Prod.ext h1 h4), numD_back (Prod.ext h2 h5), numD_back (Prod.ext h3 h6)⟩
theorem tubeS_back {p : List UInt8} {t : Tb} (h : tubeS p = some (t, true)) : p = (tubeT t).data.toList := by
  unfold tubeS at h
  have h1 := spl_catN 62 p []
  split at h
  · rename_i a r hp
    have h2 := spl_catN 42 r []
    split at h
    · rename_i b c hr
      rw [hp] at h1
      rw [hr] at h2
      simp only [catN, List.nil_append] at h1 h2
      injection h with h
      obtain ⟨e1, e2, e3⟩ := numT_true h
      rw [tubeT_list, e1, e2, e3, ← h1, ← h2]
    · cases h
  · cases h

/-! ### networks -/
abbrev ONet := Option (Int × List Tb)
def finS (S : Int) : Bool → List Tb → List (List UInt8) → ONet
  | ok, ys, [] => if ok && validN S ys then some (S, ys) else none
  | ok, ys, p :: ps => match tubeS p with
    | some (t, b) => finS S (ok && b) (ys ++ [t]) ps
    | none => none
def finI (s : ByteArray) (S : Int) : Bool → List Tb → List (List UInt8) → ONet
  | ok, ys, [] => if ok = true ∧ netTx S ys = s then some (S, ys) else none
  | ok, ys, p :: ps => finI s S (ok && (tubeI p).2) (ys ++ [(tubeI p).1]) ps
/-- The network that a text spells. -/
def readNet (s : ByteArray) : ONet := match spl 32 [] s.data.toList with
  | h :: ws => match spl 58 [] h with
    | [a, []] => finS (numD a).1 (numD a).2 [] ws
    | _ => none
  | [] => none
def trimC (t : List UInt8) : List UInt8 := Lib.trimSuffix t [58]
/-- The other way to read it. -/
def readNet2 (s : ByteArray) : ONet := match Lib.splitK [32] 0 (min 26 (s.size + 1) - 1) s.data.toList with
  | h :: ws => finI s (numD (trimC h)).1 (numD (trimC h)).2 [] ws
  | [] => none
theorem trimC_head (x : List UInt8) : trimC (x ++ [58]) = x := by
  unfold trimC Lib.trimSuffix Lib.hasSuffix
  have : ([58] : List UInt8).isSuffixOf (x ++ [58]) = true := by
    rw [List.isSuffixOf, List.reverse_append]
    simp [List.isPrefixOf]
  rw [this]
  simp
theorem small_of_valid {S : Int} {l : List Tb} (h : validN S l = true) : ∀ t ∈ l, smallT t := by
  obtain ⟨s0, s1, h24, ha⟩ := validN_true h
  intro t ht
  have hv : validTube t S = true := List.all_eq_true.1 ha _ ht
  simp only [validTube, Bool.and_eq_true] at hv
  obtain ⟨⟨⟨h1, h2⟩, h3⟩, h4⟩ := hv
  have := inB_true h1
  have := inB_true h2
  have := inB_true h4
  exact ⟨by omega, by omega, by omega⟩
theorem finS_text {S : Int} : ∀ (ts ys : List Tb), (∀ t ∈ ts, smallT t) → finS S true ys (ts.map fun t => (tubeT t).data.toList) = if validN S (ys ++ ts) then some (S, ys ++ ts) else none
  | [], ys, _ => by simp [finS]
  | t :: ts, ys, h => by
    rw [List.map_cons, finS, tubeS_text (h t List.mem_cons_self)]
    simp only [Bool.and_true]
    rw [finS_text ts _ fun u hu => h u (List.mem_cons_of_mem _ hu)]
    simp
theorem finI_text {s : ByteArray} {S : Int} : ∀ (ts ys : List Tb), (∀ t ∈ ts, smallT t) → finI s S true ys (ts.map fun t => (tubeT t).data.toList) = if netTx S (ys ++ ts) = s then some (S, ys ++ ts) else none
  | [], ys, _ => by simp [finI]
  | t :: ts, ys, h => by
    rw [List.map_cons, finI, tubeI_text (h t List.mem_cons_self)]
    simp only [Bool.and_true]
    rw [finI_text ts _ fun u hu => h u (List.mem_cons_of_mem _ hu)]
    simp
theorem finS_back {S : Int} : ∀ (ps : List (List UInt8)) (ok : Bool) (ys : List Tb) (r : Int × List Tb), finS S ok ys ps = some r →
    r.1 = S ∧ ok = true ∧ validN S r.2 = true ∧ ∃ ts, r.2 = ys ++ ts ∧ ps = ts.map fun t => (tubeT t).data.toList
  | [], ok, ys, r, h => by
    rw [finS] at h
    split at h
    · rename_i hc
      rw [Bool.and_eq_true] at hc
      injection h with h
      subst h
      exact ⟨rfl, hc.1, hc.2, [], by simp, rfl⟩
    · cases h
  | p :: ps, ok, ys, r, h => by
    rw [finS] at h
    split at h
    · rename_i t b ht
      obtain ⟨h1, h2, h3, ts, h4, h5⟩ := finS_back ps _ _ r h
      rw [Bool.and_eq_true] at h2
      obtain ⟨h2, rfl⟩ := h2
      exact ⟨h1, h2, h3, t :: ts, by rw [h4]; simp, by rw [List.map_cons, ← tubeS_back ht, h5]⟩
    · cases h
theorem finI_back {s : ByteArray} {S : Int} : ∀ (ps : List (List UInt8)) (ok : Bool) (ys : List Tb) (r : Int × List Tb), finI s S ok ys ps = some r → r.1 = S ∧ ok = true ∧ netTx S r.2 = s
  | [], ok, ys, r, h => by
    rw [finI] at h
    split at h
    · rename_i hc
      injection h with h
      subst h
      exact ⟨rfl, hc.1, hc.2⟩
    · cases h
  | p :: ps, ok, ys, r, h => by
    rw [finI] at h
    obtain ⟨h1, h2, h3⟩ := finI_back ps _ _ r h
    rw [Bool.and_eq_true] at h2
    exact ⟨h1, h2.1, h3⟩
theorem tube_free (t : Tb) : ∀ b ∈ (tubeT t).data.toList, b ≠ (32 : UInt8) := by
  intro b hb
  rw [tubeT_list, List.mem_append, List.mem_cons, List.mem_append, List.mem_cons] at hb
  rcases hb with hb | rfl | hb | rfl | hb
  · exact itoa_free (by rw [c32]; omega) b hb
  · decide
  · exact itoa_free (by rw [c32]; omega) b hb
  · decide
  · exact itoa_free (by rw [c32]; omega) b hb
theorem tail_spl : ∀ (l : List Tb) (x acc : List UInt8), (∀ b ∈ x, b ≠ (32 : UInt8)) → spl 32 acc (x ++ Lib.joinTail [32] ((l.map tubeT).map (·.data.toList))) = (acc ++ x) :: l.map fun t => (tubeT t).data.toList
  | [], x, acc, h => by
    show spl 32 acc (x ++ []) = [acc ++ x]
    rw [List.append_nil]
    exact spl_no1' h
  | t :: l, x, acc, h => by
    have e : Lib.joinTail [32] (((t :: l).map tubeT).map (·.data.toList)) = 32 :: ((tubeT t).data.toList ++ Lib.joinTail [32] ((l.map tubeT).map (·.data.toList))) := by
      simp [Lib.joinTail]
    rw [e, spl_no' h, tail_spl l _ [] (tube_free t)]
    simp
theorem headT_list (S : Int) : (headT S).data.toList = Lib.itoa S ++ [58] := by
  unfold headT decT
  simp [ByteArray.data_append]
theorem head_free (S : Int) : ∀ b ∈ Lib.itoa S ++ [58], b ≠ (32 : UInt8) := by
  intro b hb
  rw [List.mem_append, List.mem_singleton] at hb
  rcases hb with hb | rfl
  · exact itoa_free (by rw [c32]; omega) b hb
  · decide
theorem netT_spl (S : Int) (l : List Tb) : spl 32 [] (netT S l).data.toList = (Lib.itoa S ++ [58]) :: l.map fun t => (tubeT t).data.toList := by
  unfold netT
  rw [foldT_list, headT_list, tail_spl l _ [] (head_free S)]
  simp
theorem head_spl (S : Int) : spl 58 [] (Lib.itoa S ++ [58]) = [Lib.itoa S, []] := by
  rw [spl_no' (itoa_free (by rw [c58]; omega))]
  simp [spl]
theorem netT_cat (S : Int) : ∀ (l : List Tb) (x : List UInt8), catN 32 (x :: l.map fun t => (tubeT t).data.toList) = x ++ Lib.joinTail [32] ((l.map tubeT).map (·.data.toList))
  | [], x => by simp [catN, Lib.joinTail]
  | t :: l, x => by
    rw [List.map_cons, catN, netT_cat S l]
    simp [Lib.joinTail]
theorem readNet_text {S : Int} {l : List Tb} (h : validN S l = true) : readNet (netT S l) = some (S, l) := by
  obtain ⟨s0, s1, h24, ha⟩ := validN_true h
  unfold readNet
  rw [netT_spl]
  simp only
  rw [head_spl]
  simp only
  rw [numD_small (by omega) (by omega)]
  simp only
  rw [finS_text l [] (small_of_valid h), List.nil_append, if_pos h]
theorem readNet2_text {S : Int} {l : List Tb} (h : validN S l = true) : readNet2 (netT S l) = some (S, l) := by
  obtain ⟨s0, s1, h24, ha⟩ := validN_true h
  have hlen := spl_length_le 32 (netT S l).data.toList []
  have hsz : (netT S l).data.toList.length = (netT S l).size := by simp
  have hl2 : (spl 32 [] (netT S l).data.toList).length = l.length + 1 := by rw [netT_spl]; simp
  unfold readNet2
  rw [splitK_spl 32 _ _ (by omega), netT_spl]
  simp only
  rw [trimC_head, numD_small (by omega) (by omega)]
  simp only
  have hx : netTx S ([] ++ l) = netT S l := by simp [netTx, h]
  rw [finI_text l [] (small_of_valid h), hx, if_pos rfl]
  rfl
theorem readNet_back {s : ByteArray} {S : Int} {l : List Tb} (h : readNet s = some (S, l)) : validN S l = true ∧ s = netT S l := by
  unfold readNet at h
  have hc := spl_catN 32 s.data.toList []
  split at h
  · rename_i p ws hp
    have hc2 := spl_catN 58 p []
    split at h
    · rename_i a ha
      obtain ⟨h1, h2, h3, ts, h4, h5⟩ := finS_back ws _ _ _ h
      simp only [List.nil_append] at h1 h3 h4
      subst h4
      have hn : numD a = (S, true) := Prod.ext h1.symm h2
      have hb := numD_back hn
      rw [ha] at hc2
      simp only [catN, List.nil_append] at hc2
      rw [← h1] at h3
      refine ⟨h3, ?_⟩
      rw [hp, h5, netT_cat S] at hc
      simp only [List.nil_append] at hc
      apply ByteArray.ext
      apply Array.toList_inj.1
      unfold netT
      rw [foldT_list, headT_list, hb, hc2, hc]
    · cases h
  · cases h
theorem readNet2_back {s : ByteArray} {S : Int} {l : List Tb} (h : readNet2 s = some (S, l)) : validN S l = true ∧ s = netT S l := by
  unfold readNet2 at h
  split at h
  · rename_i p ws hp
    obtain ⟨h1, h2, h3⟩ := finI_back ws _ _ _ h
    simp only at h1 h3
    rw [← h1] at h3
    cases hv : validN S l with
    | true => exact ⟨rfl, by rw [← h3]; simp [netTx, hv]⟩
    | false =>
      exfalso
      have he : s = ⟨#[]⟩ := by rw [← h3]; simp [netTx, hv]
      subst he
      have e : Lib.splitK [32] 0 (min 26 ((⟨#[]⟩ : ByteArray).size + 1) - 1) (⟨#[]⟩ : ByteArray).data.toList = [[]] := rfl
      rw [e] at hp
      injection hp with hp _
      subst hp
      have : trimC [] = [] := by decide
      rw [this] at h2
      unfold numD at h2
      rw [numS_nil] at h2
      simp [resO] at h2
  · cases h
theorem readNet_eq (s : ByteArray) : readNet2 s = readNet s := by
  apply Option.ext
  rintro ⟨S, l⟩
  constructor
  · intro h
    obtain ⟨hv, rfl⟩ := readNet2_back h
    exact readNet_text hv
  · intro h
    obtain ⟨hv, rfl⟩ := readNet_back h
    exact readNet2_text hv
end Go.Proofs.YtlblnknglplgjaaDoor
