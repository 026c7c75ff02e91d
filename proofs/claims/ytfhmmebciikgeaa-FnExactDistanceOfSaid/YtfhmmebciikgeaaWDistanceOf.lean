/-
  THE WALK of the law on DistanceOf.
-/
import Derived.Test.YtfhmmebciikgeaaWord
namespace Go.Proofs.Ytfhmmebciikgeaa
open Go.RowKit

/-- The distance of two words, and the code. -/
def distR (s t : ByteArray) : Int × Int := if wordB 4 s && wordB 4 t then (if s.size = t.size then (farB s t, 0) else (0, 8)) else (0, 1)

set_option maxHeartbeats 1000000 in
theorem specDist_any (s t : ByteArray) (w : World) (hs : s.size ≤ 1048576) (ht : t.size ≤ 1048576) :
    Calls Try.prog 13 #[.string s, .string t] w (RetN w (.tuple #[.int .i64 (distR s t).1, .int .i64 (distR s t).2])) := by
  cases h1 : wordB 4 s
  · have E : Hid (distR s t = (0, 1)) := by show _ = _; simp [distR, h1]
    go_enter Try.func13, Try.ntmps13
    go_wp2_with (go_at_call 41; refine (l05Word_any 4 _ _ (by omega) (by omega) (by omega)).mono ?_; rintro e w2 ⟨rfl, rfl⟩)
    refine bodyPost_ret (v := .tuple #[.int .i64 0, .int .i64 1]) (by simp [results, Try.results13, go_sem]) rfl ?_
    rw [E.out]
    exact ⟨rfl, 0, rfl⟩
  · cases h2 : wordB 4 t
    · have E : Hid (distR s t = (0, 1)) := by show _ = _; simp [distR, h2]
      go_enter Try.func13, Try.ntmps13
      go_wp2_with (go_at_call 41; refine (l05Word_any 4 _ _ (by omega) (by omega) (by omega)).mono ?_; rintro e w2 ⟨rfl, rfl⟩)
      refine bodyPost_ret (v := .tuple #[.int .i64 0, .int .i64 1]) (by simp [results, Try.results13, go_sem]) rfl ?_
      rw [E.out]
      exact ⟨rfl, 0, rfl⟩
    · by_cases h3 : s.size = t.size
      · have E : Hid (distR s t = ((farB s t : Int), 0)) := by show _ = _; simp [distR, h1, h2, h3]
        go_enter Try.func13, Try.ntmps13
        go_wp2_with (first
          | (go_at_call 41; refine (l05Word_any 4 _ _ (by omega) (by omega) (by omega)).mono ?_; rintro e w2 ⟨rfl, rfl⟩)
          | (go_at_call 42; refine (l05Far_any s t _ hs h3).mono ?_; rintro e w2 ⟨rfl, m, rfl⟩))
        refine bodyPost_ret (v := .tuple #[.int .i64 (farB s t), .int .i64 0]) (by simp [results, Try.results13, go_sem]) rfl ?_
        rw [E.out]
        exact ⟨rfl, m, rfl⟩
      · have E : Hid (distR s t = (0, 8)) := by show _ = _; simp [distR, h1, h2, h3]
        go_enter Try.func13, Try.ntmps13
        go_wp2_with (go_at_call 41; refine (l05Word_any 4 _ _ (by omega) (by omega) (by omega)).mono ?_; rintro e w2 ⟨rfl, rfl⟩)
        refine bodyPost_ret (v := .tuple #[.int .i64 0, .int .i64 8]) (by simp [results, Try.results13, go_sem]) rfl ?_
        rw [E.out]
        exact ⟨rfl, 0, rfl⟩

set_option maxHeartbeats 1000000 in
theorem implDist_any (s t : ByteArray) (w : World) (hs : s.size ≤ 1048576) (ht : t.size ≤ 1048576) :
    Calls Try.prog 14 #[.string s, .string t] w (RetN w (.tuple #[.int .i64 (distR s t).1, .int .i64 (distR s t).2])) := by
  cases h1 : wordB 4 s
  · have E : Hid (distR s t = (0, 1)) := by show _ = _; simp [distR, h1]
    go_enter Try.func14, Try.ntmps14
    go_wp2_with (go_at_call 43; refine (isWord_any 4 _ _ (by omega) (by omega) (by omega)).mono ?_; rintro e w2 ⟨rfl, rfl⟩)
    refine bodyPost_ret (v := .tuple #[.int .i64 0, .int .i64 1]) (by simp [results, Try.results14, go_sem]) rfl ?_
    rw [E.out]
    exact ⟨rfl, 0, rfl⟩
  · cases h2 : wordB 4 t
    · have E : Hid (distR s t = (0, 1)) := by show _ = _; simp [distR, h2]
      go_enter Try.func14, Try.ntmps14
      go_wp2_with (go_at_call 43; refine (isWord_any 4 _ _ (by omega) (by omega) (by omega)).mono ?_; rintro e w2 ⟨rfl, rfl⟩)
      refine bodyPost_ret (v := .tuple #[.int .i64 0, .int .i64 1]) (by simp [results, Try.results14, go_sem]) rfl ?_
      rw [E.out]
      exact ⟨rfl, 0, rfl⟩
    · by_cases h3 : s.size = t.size
      · have E : Hid (distR s t = ((farB s t : Int), 0)) := by show _ = _; simp [distR, h1, h2, h3]
        go_enter Try.func14, Try.ntmps14
        go_wp2_with (first
          | (go_at_call 43; refine (isWord_any 4 _ _ (by omega) (by omega) (by omega)).mono ?_; rintro e w2 ⟨rfl, rfl⟩)
          | (go_at_call 44; refine (distance_any s t _ hs h3).mono ?_; rintro e w2 ⟨rfl, m, rfl⟩))
        refine bodyPost_ret (v := .tuple #[.int .i64 (farB s t), .int .i64 0]) (by simp [results, Try.results14, go_sem]) rfl ?_
        rw [E.out]
        exact ⟨rfl, m, rfl⟩
      · have E : Hid (distR s t = (0, 8)) := by show _ = _; simp [distR, h1, h2, h3]
        go_enter Try.func14, Try.ntmps14
        go_wp2_with (go_at_call 43; refine (isWord_any 4 _ _ (by omega) (by omega) (by omega)).mono ?_; rintro e w2 ⟨rfl, rfl⟩)
        refine bodyPost_ret (v := .tuple #[.int .i64 0, .int .i64 8]) (by simp [results, Try.results14, go_sem]) rfl ?_
        rw [E.out]
        exact ⟨rfl, 0, rfl⟩

set_option maxHeartbeats 1000000 in
theorem walk_FnExactDistanceOf {w : World} (s0 : ByteArray) (_z0 : s0.size ≤ 9223372036854775807) (s1 : ByteArray) (_z1 : s1.size ≤ 9223372036854775807) : Calls Try.prog 3 #[.string s0, .string s1] w (Ret w (.bool true)) := by
  by_cases h0 : 1048576 < s0.size
  · go_enter Try.func3, Try.ntmps3
    go_wp2_with fail
    go_ret
    exact ⟨rfl, Below.refl _ _⟩
  · by_cases h1 : 1048576 < s1.size
    · go_enter Try.func3, Try.ntmps3
      go_wp2_with fail
      go_ret
      exact ⟨rfl, Below.refl _ _⟩
    · go_enter Try.func3, Try.ntmps3
      go_wp2_with fail
      refine (specDist_any s0 s1 _ (by omega) (by omega)).mono ?_
      rintro e w1 ⟨rfl, m1, rfl⟩
      go_wp2_with fail
      refine (implDist_any s0 s1 _ (by omega) (by omega)).mono ?_
      rintro e w2 ⟨rfl, m2, rfl⟩
      go_wp2_with fail
      go_ret
      exact ⟨rfl, below_drewN (Below.refl _ _) _⟩

end Go.Proofs.Ytfhmmebciikgeaa
