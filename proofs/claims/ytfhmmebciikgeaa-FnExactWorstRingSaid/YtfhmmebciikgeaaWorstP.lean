/-
  PLAIN LAW: a word without one place; the least distance without one place; the scan for the worst place.
-/
import Derived.Test.YtfhmmebciikgeaaLeastR
namespace Go.Proofs.Ytfhmmebciikgeaa
open Go.RowKit

def chN (s : ByteArray) (p : Nat) : Nat := ((s[p]?).getD 0).toNat
theorem chN_eq {s : ByteArray} {p : Nat} (h : p < s.size) : chN s p = s[p].toNat := by simp [chN, h]
/-- The word without the byte at p. -/
def cutS (p : Nat) (s : ByteArray) : ByteArray := s.extract 0 p ++ s.extract (p + 1) s.size
def farW (p : Nat) (s t : ByteArray) : Int := (farB s t : Int) - (if chN s p = chN t p then 0 else 1)
theorem cutS_size {p : Nat} {s : ByteArray} (h : p < s.size) : (cutS p s).size = s.size - 1 := by
  simp [cutS, ByteArray.size_append, ByteArray.size_extract]
  omega
theorem cutS_chN {p : Nat} {s : ByteArray} (h : p < s.size) (k : Nat) : chN (cutS p s) k = if k < p then chN s k else chN s (k + 1) := by
  have hs := cutS_size h
  by_cases hk : k < s.size - 1
  · rw [chN_eq (by omega)]
    have h1 : (s.extract 0 p).size = p := by simp [ByteArray.size_extract]; omega
    split
    · rename_i hkp
      rw [chN_eq (by omega)]
      simp only [cutS]
      rw [ByteArray.getElem_append_left (by omega)]
      simp [ByteArray.getElem_extract]
    · rename_i hkp
      rw [chN_eq (by omega)]
      simp only [cutS]
      rw [ByteArray.getElem_append_right (by omega)]
      simp only [ByteArray.getElem_extract, h1]
      congr 2
      omega
  · have e0 : chN (cutS p s) k = 0 := by simp [chN, show ¬ k < (cutS p s).size by omega]
    rw [e0]
    split
    · omega
    · simp [chN, show ¬ k + 1 < s.size by omega]
theorem farF_ch (s t : ByteArray) (n k : Nat) : farF s t (n + 1) k = (if chN s k = chN t k then 0 else 1) + farF s t n (k + 1) := rfl
theorem farF_cut_hi {p : Nat} {s t : ByteArray} (hs : p < s.size) (ht : p < t.size) : ∀ (n k : Nat), p ≤ k → farF (cutS p s) (cutS p t) n k = farF s t n (k + 1)
  | 0, _, _ => rfl
  | n + 1, k, h => by
    have hk : ¬ k < p := by omega
    rw [farF_ch, farF_ch, cutS_chN hs, cutS_chN ht, if_neg hk, if_neg hk, farF_cut_hi hs ht n (k + 1) (by omega)]
theorem farF_cut {p : Nat} {s t : ByteArray} (hs : p < s.size) (ht : p < t.size) : ∀ (n k : Nat), k ≤ p → p ≤ k + n → farF (cutS p s) (cutS p t) n k + (if chN s p = chN t p then 0 else 1) = farF s t (n + 1) k
  | 0, k, h, h2 => by
    obtain rfl : k = p := by omega
    rw [farF_ch]
    simp [farF]
  | n + 1, k, h, h2 => by
    rcases Nat.lt_or_ge k p with hk | hk
    · rw [farF_ch s t, ← farF_cut hs ht n (k + 1) (by omega) (by omega), farF_ch, cutS_chN hs, cutS_chN ht, if_pos hk, if_pos hk]
      omega
    · obtain rfl : k = p := by omega
      rw [farF_cut_hi hs ht _ _ (Nat.le_refl _), farF_ch s t (n + 1)]
      omega
theorem farI_cut {p : Nat} {s t : ByteArray} (hs : p < s.size) (hst : s.size = t.size) : farI (cutS p s) (cutS p t) = farW p s t := by
  have h := farF_cut hs (by omega : p < t.size) (s.size - 1) 0 (by omega) (by omega)
  rw [show s.size - 1 + 1 = s.size by omega] at h
  unfold farI farW farB
  rw [cutS_size hs, ← h]
  split <;> omega

theorem rowF_congr {d d' : ByteArray → ByteArray → Int} {l l' : List ByteArray} (i : Nat) : ∀ (m k : Nat) (x : Int), (∀ j, j < k + m → d (strAt l i) (strAt l j) = d' (strAt l' i) (strAt l' j)) → rowF d l i m k x = rowF d' l' i m k x
  | 0, _, _, _ => rfl
  | m + 1, k, x, h => by
    rw [rowF, rowF, h k (by omega)]
    exact rowF_congr i m (k + 1) _ (fun j hj => h j (by omega))
theorem allF_congr {d d' : ByteArray → ByteArray → Int} {l l' : List ByteArray} : ∀ (m i : Nat) (x : Int), (∀ a b, a < i + m → b < i + m → d (strAt l a) (strAt l b) = d' (strAt l' a) (strAt l' b)) → allF d l m i x = allF d' l' m i x
  | 0, _, _, _ => rfl
  | m + 1, i, x, h => by
    rw [allF, allF, rowF_congr i i 0 x (fun j hj => h i j (by omega) (by omega))]
    exact allF_congr m (i + 1) _ (fun a b ha hb => h a b (by omega) (by omega))
/-- The least distance of two words without the place p. -/
def leastW (p : Nat) (l : List ByteArray) : Int := allF (farW p) l l.length 0 (-1)
theorem leastA_cut {p : Nat} {l : List ByteArray} (hv : Even l) (hp : p < (strAt l 0).size) : leastA (l.map (cutS p)) = leastW p l := by
  unfold leastA leastW
  rw [List.length_map]
  refine allF_congr _ _ _ (fun a b ha hb => ?_)
  have ha' : a < l.length := by omega
  have hb' : b < l.length := by omega
  rw [strAt_eq (by simpa using ha'), strAt_eq (by simpa using hb'), strAt_eq ha', strAt_eq hb', List.getElem_map, List.getElem_map]
  have h1 := (hv a ha').2
  have h2 := (hv b hb').2
  exact farI_cut (by omega) (by omega)
theorem even_cut {p : Nat} {l : List ByteArray} (hv : Even l) (hp : p < (strAt l 0).size) (h0 : 0 < l.length) : Even (l.map (cutS p)) := fun k hk => by
  have hk' : k < l.length := by simpa using hk
  have h1 := hv k hk'
  have h2 := hv 0 h0
  rw [strAt_eq (by simpa using h0), List.getElem_map, List.getElem_map, cutS_size (by omega), cutS_size (by omega)]
  rw [strAt_eq h0] at h1 h2
  omega
/-- The scan for the least of some values, the first one of several. -/
def wrF (W : Nat → Int) : Nat → Nat → Nat → Nat
  | 0, _, b => b
  | m + 1, r, b => wrF W m (r + 1) (if W r < W b then r else b)
theorem wrF_step {W : Nat → Int} {n r b : Nat} (h : r < n) : wrF W (n - r) r b = wrF W (n - (r + 1)) (r + 1) (if W r < W b then r else b) := by
  rw [show n - r = (n - (r + 1)) + 1 by omega, wrF]
def worst (l : List ByteArray) : Nat := wrF (fun p => leastW p l) (strAt l 0).size 0 0
def worstR (g : Int) (l : List ByteArray) : Int × Int := if validA g l then (if l.length < 2 then (0, 3) else ((worst l : Int), 0)) else (0, 1)

end Go.Proofs.Ytfhmmebciikgeaa
