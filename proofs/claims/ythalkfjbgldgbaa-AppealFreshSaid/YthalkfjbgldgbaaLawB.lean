/- The laws of package guerdonlaw41 (appeals). -/
import Derived.Test.YthalkfjbgldgbaaWalkB
set_option linter.unusedSimpArgs false
set_option linter.unusedVariables false
namespace Go.Proofs.Ythalkfjbgldgbaa
open Go.RowKit
attribute [local irreducible] Calls

theorem Ints_nil (w : World) : Ints w (.slice none 0 0) [] := ⟨none, 0, rfl, Nat.le_refl _, by decide, by simp⟩
set_option maxHeartbeats 2000000 in
theorem c_law41_awake (w : World) : Calls Try.prog 23 #[] w (Ret (.bool true) w) := by
  have e1 : fileR 7 3 5 102 100 5 0 [] = (⟨7, 3, 5, 102, 162, 1, 0⟩, 0) := by decide +kernel
  have e2 : transR ⟨7, 3, 5, 102, 162, 1, 0⟩ 2 0 110 = (⟨7, 3, 5, 102, 162, 2, 0⟩, 0) := by decide +kernel
  have e3 : transR ⟨7, 3, 5, 102, 162, 2, 0⟩ 3 5000 120 = (⟨7, 3, 5, 102, 162, 3, 5000⟩, 0) := by decide +kernel
  have e4 : transR ⟨7, 3, 5, 102, 162, 1, 0⟩ 3 5000 120 = (⟨0, 0, 0, 0, 0, 0, 0⟩, 13) := by decide +kernel
  have e5 : fileR 7 3 5 106 100 5 0 [] = (⟨7, 3, 5, 106, 106, 6, 0⟩, 0) := by decide +kernel
  have e6 : finB ⟨7, 3, 5, 102, 162, 3, 5000⟩ = true := by decide +kernel
  have e7 : apOk ⟨7, 3, 5, 102, 162, 3, 5000⟩ = true := by decide +kernel
  have e8 : finB ⟨7, 3, 5, 102, 162, 2, 0⟩ = false := by decide +kernel
  go_enter Try.func23, Try.ntmps23
  go_wp2_with (first | ((with_reducible refine wp_region_ext2 ?_ ?_ ?_); (kernel_rfl); (kernel_rfl)) | ((with_reducible refine wp_region_ext ?_ ?_ ?_); (kernel_rfl); (kernel_rfl)) | go_big_quiet_step (first | (go_at_call 24; exact quiet_of_ret (c_appeal_File _ _ _ _ _ _ _ _ _ _ _ _ _ _ [] _ (Ints_nil _))) | (go_at_call 26; exact quiet_of_ret (c_appeal_Transition ⟨_, _, _, _, _, _, _⟩ _ _ _ _)) | (go_at_call 30; exact quiet_of_ret (c_appeal_IsFinal ⟨_, _, _, _, _, _, _⟩ _)) | (go_at_call 28; exact quiet_of_ret (c_appeal_Valid ⟨_, _, _, _, _, _, _⟩ _))) | ((with_reducible refine wpQuiet_nil ?_); intro x1) | (go_at_call 24; refine (c_appeal_File _ _ _ _ _ _ _ _ _ _ _ _ _ _ [] _ (Ints_nil _)).mono ?_; intro e w' hh; first | obtain ⟨rfl, y, rfl⟩ := Ret.ext2 hh | obtain ⟨rfl, y, rfl⟩ := Ret.ext hh) | (go_at_call 26; refine (c_appeal_Transition ⟨_, _, _, _, _, _, _⟩ _ _ _ _).mono ?_; intro e w' hh; first | obtain ⟨rfl, y, rfl⟩ := Ret.ext2 hh | obtain ⟨rfl, y, rfl⟩ := Ret.ext hh) | (go_at_call 30; refine (c_appeal_IsFinal ⟨_, _, _, _, _, _, _⟩ _).mono ?_; intro e w' hh; first | obtain ⟨rfl, y, rfl⟩ := Ret.ext2 hh | obtain ⟨rfl, y, rfl⟩ := Ret.ext hh) | (go_at_call 28; refine (c_appeal_Valid ⟨_, _, _, _, _, _, _⟩ _).mono ?_; intro e w' hh; first | obtain ⟨rfl, y, rfl⟩ := Ret.ext2 hh | obtain ⟨rfl, y, rfl⟩ := Ret.ext hh))
  go_ret
  exact ⟨by simp, (by repeat (first | with_reducible exact Below.refl _ _ | with_reducible refine B_ext ?_ _ | with_reducible refine B_alloc ?_ _ | with_reducible refine Below.drew ?_ | with_reducible refine B_set ?_ _ _ _))⟩


set_option maxHeartbeats 1000000 in
theorem c_law41_AppealFiles (id f t d nt p0 p1 p2 p3 p4 p5 ad we : Int) (v : Value) (hs : List Int) (w : World) (h : Ints w v hs) :
    Calls Try.prog 8 #[.agg #[.int .i64 id, .int .i64 f, .int .i64 t, .int .i64 d, .int .i64 nt], .agg #[.int .i64 p0, .int .i64 p1, .int .i64 p2, .int .i64 p3, .int .i64 p4, .int .i64 p5, .int .i64 ad, .int .i64 we, v]] w (Ret (.bool true) w) := by
  have hl : ∃ a c, v = .slice a hs.length c := by obtain ⟨a, c, h, -⟩ := h.opn; exact ⟨a, c, h⟩
  obtain ⟨a, c, rfl⟩ := hl
  by_cases hlen : 100 < hs.length
  · go_enter Try.func8, Try.ntmps8
    go_wp2_with (first | ((with_reducible refine wp_region_ext2 ?_ ?_ ?_); (kernel_rfl); (kernel_rfl)) | ((with_reducible refine wp_region_ext ?_ ?_ ?_); (kernel_rfl); (kernel_rfl)) | go_big_quiet_step (first | (go_at_call 23; exact quiet_of_ret (c_law41_awake _))) | ((with_reducible refine wpQuiet_nil ?_); intro x1) | (go_at_call 23; refine (c_law41_awake _).mono ?_; intro e w' hh; first | obtain ⟨rfl, y, rfl⟩ := Ret.ext2 hh | obtain ⟨rfl, y, rfl⟩ := Ret.ext hh))
    go_ret
    exact ⟨by simp, (by repeat (first | with_reducible exact Below.refl _ _ | with_reducible refine B_ext ?_ _ | with_reducible refine B_alloc ?_ _ | with_reducible refine Below.drew ?_ | with_reducible refine B_set ?_ _ _ _))⟩
  · go_enter Try.func8, Try.ntmps8
    go_wp2_with (first | ((with_reducible refine wp_region_ext2 ?_ ?_ ?_); (kernel_rfl); (kernel_rfl)) | ((with_reducible refine wp_region_ext ?_ ?_ ?_); (kernel_rfl); (kernel_rfl)) | go_big_quiet_step (first | (go_at_call 23; exact quiet_of_ret (c_law41_awake _)) | (go_at_call 24; exact quiet_of_ret (c_appeal_File _ _ _ _ _ _ _ _ _ _ _ _ _ _ hs _ (by first | with_reducible assumption | exact Ints.below (by assumption) (by repeat (first | with_reducible exact Below.refl _ _ | with_reducible refine B_ext ?_ _ | with_reducible refine B_alloc ?_ _ | with_reducible refine Below.drew ?_ | with_reducible refine B_set ?_ _ _ _))))) | (go_at_call 25; exact quiet_of_ret (c_ref41_File _ _ _ _ _ _ _ _ _ _ _ _ _ _ hs _ (by first | with_reducible assumption | exact Ints.below (by assumption) (by repeat (first | with_reducible exact Below.refl _ _ | with_reducible refine B_ext ?_ _ | with_reducible refine B_alloc ?_ _ | with_reducible refine Below.drew ?_ | with_reducible refine B_set ?_ _ _ _)))))) | ((with_reducible refine wpQuiet_nil ?_); intro x1) | (go_at_call 23; refine (c_law41_awake _).mono ?_; intro e w' hh; first | obtain ⟨rfl, y, rfl⟩ := Ret.ext2 hh | obtain ⟨rfl, y, rfl⟩ := Ret.ext hh) | (go_at_call 24; refine (c_appeal_File _ _ _ _ _ _ _ _ _ _ _ _ _ _ hs _ (by first | with_reducible assumption | exact Ints.below (by assumption) (by repeat (first | with_reducible exact Below.refl _ _ | with_reducible refine B_ext ?_ _ | with_reducible refine B_alloc ?_ _ | with_reducible refine Below.drew ?_ | with_reducible refine B_set ?_ _ _ _)))).mono ?_; intro e w' hh; first | obtain ⟨rfl, y, rfl⟩ := Ret.ext2 hh | obtain ⟨rfl, y, rfl⟩ := Ret.ext hh) | (go_at_call 25; refine (c_ref41_File _ _ _ _ _ _ _ _ _ _ _ _ _ _ hs _ (by first | with_reducible assumption | exact Ints.below (by assumption) (by repeat (first | with_reducible exact Below.refl _ _ | with_reducible refine B_ext ?_ _ | with_reducible refine B_alloc ?_ _ | with_reducible refine Below.drew ?_ | with_reducible refine B_set ?_ _ _ _)))).mono ?_; intro e w' hh; first | obtain ⟨rfl, y, rfl⟩ := Ret.ext2 hh | obtain ⟨rfl, y, rfl⟩ := Ret.ext hh))
    go_ret
    exact ⟨by simp, (by repeat (first | with_reducible exact Below.refl _ _ | with_reducible refine B_ext ?_ _ | with_reducible refine B_alloc ?_ _ | with_reducible refine Below.drew ?_ | with_reducible refine B_set ?_ _ _ _))⟩
set_option maxHeartbeats 1000000 in
theorem c_law41_AppealTransitions (a : Ap) (s c d : Int) (w : World) :
    Calls Try.prog 9 #[apV a, .int .i64 s, .int .i64 c, .int .i64 d] w (Ret (.bool true) w) := by
  go_enter Try.func9, Try.ntmps9
  go_wp2_with (first | ((with_reducible refine wp_region_ext2 ?_ ?_ ?_); (kernel_rfl); (kernel_rfl)) | ((with_reducible refine wp_region_ext ?_ ?_ ?_); (kernel_rfl); (kernel_rfl)) | go_big_quiet_step (first | (go_at_call 23; exact quiet_of_ret (c_law41_awake _)) | (go_at_call 26; exact quiet_of_ret (c_appeal_Transition a _ _ _ _)) | (go_at_call 27; exact quiet_of_ret (c_ref41_Transition a _ _ _ _)) | (go_at_call 30; exact quiet_of_ret (c_appeal_IsFinal a _)) | (go_at_call 31; exact quiet_of_ret (c_ref41_IsFinal a _)) | (go_at_call 28; exact quiet_of_ret (c_appeal_Valid a _)) | (go_at_call 29; exact quiet_of_ret (c_ref41_Valid a _))) | ((with_reducible refine wpQuiet_nil ?_); intro x1) | (go_at_call 23; refine (c_law41_awake _).mono ?_; intro e w' hh; first | obtain ⟨rfl, y, rfl⟩ := Ret.ext2 hh | obtain ⟨rfl, y, rfl⟩ := Ret.ext hh) | (go_at_call 26; refine (c_appeal_Transition a _ _ _ _).mono ?_; intro e w' hh; first | obtain ⟨rfl, y, rfl⟩ := Ret.ext2 hh | obtain ⟨rfl, y, rfl⟩ := Ret.ext hh) | (go_at_call 27; refine (c_ref41_Transition a _ _ _ _).mono ?_; intro e w' hh; first | obtain ⟨rfl, y, rfl⟩ := Ret.ext2 hh | obtain ⟨rfl, y, rfl⟩ := Ret.ext hh) | (go_at_call 30; refine (c_appeal_IsFinal a _).mono ?_; intro e w' hh; first | obtain ⟨rfl, y, rfl⟩ := Ret.ext2 hh | obtain ⟨rfl, y, rfl⟩ := Ret.ext hh) | (go_at_call 31; refine (c_ref41_IsFinal a _).mono ?_; intro e w' hh; first | obtain ⟨rfl, y, rfl⟩ := Ret.ext2 hh | obtain ⟨rfl, y, rfl⟩ := Ret.ext hh) | (go_at_call 28; refine (c_appeal_Valid a _).mono ?_; intro e w' hh; first | obtain ⟨rfl, y, rfl⟩ := Ret.ext2 hh | obtain ⟨rfl, y, rfl⟩ := Ret.ext hh) | (go_at_call 29; refine (c_ref41_Valid a _).mono ?_; intro e w' hh; first | obtain ⟨rfl, y, rfl⟩ := Ret.ext2 hh | obtain ⟨rfl, y, rfl⟩ := Ret.ext hh))
  go_ret
  exact ⟨by simp, (by repeat (first | with_reducible exact Below.refl _ _ | with_reducible refine B_ext ?_ _ | with_reducible refine B_alloc ?_ _ | with_reducible refine Below.drew ?_ | with_reducible refine B_set ?_ _ _ _))⟩
set_option maxHeartbeats 1000000 in
theorem c_law41_AppealFresh (id f t d nt p0 p1 p2 p3 p4 p5 ad we : Int) (v : Value) (hs : List Int) (w : World) (h : Ints w v hs) :
    Calls Try.prog 11 #[.agg #[.int .i64 id, .int .i64 f, .int .i64 t, .int .i64 d, .int .i64 nt], .agg #[.int .i64 p0, .int .i64 p1, .int .i64 p2, .int .i64 p3, .int .i64 p4, .int .i64 p5, .int .i64 ad, .int .i64 we, v]] w (Ret (.bool true) w) := by
  have hl : ∃ a c, v = .slice a hs.length c := by obtain ⟨a, c, h, -⟩ := h.opn; exact ⟨a, c, h⟩
  obtain ⟨a, c, rfl⟩ := hl
  by_cases hlen : 100 < hs.length
  · go_enter Try.func11, Try.ntmps11
    go_wp2_with (first | ((with_reducible refine wp_region_ext2 ?_ ?_ ?_); (kernel_rfl); (kernel_rfl)) | ((with_reducible refine wp_region_ext ?_ ?_ ?_); (kernel_rfl); (kernel_rfl)) | go_big_quiet_step (first | (go_at_call 23; exact quiet_of_ret (c_law41_awake _))) | ((with_reducible refine wpQuiet_nil ?_); intro x1) | (go_at_call 23; refine (c_law41_awake _).mono ?_; intro e w' hh; first | obtain ⟨rfl, y, rfl⟩ := Ret.ext2 hh | obtain ⟨rfl, y, rfl⟩ := Ret.ext hh))
    go_ret
    exact ⟨by simp, (by repeat (first | with_reducible exact Below.refl _ _ | with_reducible refine B_ext ?_ _ | with_reducible refine B_alloc ?_ _ | with_reducible refine Below.drew ?_ | with_reducible refine B_set ?_ _ _ _))⟩
  by_cases he : (fileR id f t d nt ad we hs).2 = 0
  · obtain ⟨g1, g2, g3, g4⟩ := file_ok he
    obtain ⟨A, hA⟩ : ∃ A, A = (fileR id f t d nt ad we hs).1 := ⟨_, rfl⟩
    rw [← hA] at g1 g2 g3 g4
    have hfile : fileR id f t d nt ad we hs = (A, 0) := by rw [hA, ← he]
    clear he hA
    rcases g4 with g4 | ⟨g4, g5⟩
    · have f1 : finB A = true := by simp [finB, g4]
      have f2 : transR A 5 0 d = (.zero, 13) := by simp [transR, permB, g4]
      have f3 : finB .zero = false := by decide
      have f4 : (A.st == 6) = true := by simp [g4]
      have f6 : (A.cents == 0) = true := by simp [g2]
      replace g2 := hid g2
      replace g3 := hid g3
      replace g4 := hid g4
      go_enter Try.func11, Try.ntmps11
      go_wp2_with (first | ((with_reducible refine wp_region_ext2 ?_ ?_ ?_); (kernel_rfl); (kernel_rfl)) | ((with_reducible refine wp_region_ext ?_ ?_ ?_); (kernel_rfl); (kernel_rfl)) | go_big_quiet_step (first | (go_at_call 23; exact quiet_of_ret (c_law41_awake _)) | (go_at_call 24; exact quiet_of_ret (c_appeal_File _ _ _ _ _ _ _ _ _ _ _ _ _ _ hs _ (by first | with_reducible assumption | exact Ints.below (by assumption) (by repeat (first | with_reducible exact Below.refl _ _ | with_reducible refine B_ext ?_ _ | with_reducible refine B_alloc ?_ _ | with_reducible refine Below.drew ?_ | with_reducible refine B_set ?_ _ _ _))))) | (go_at_call 26; exact quiet_of_ret (c_appeal_Transition A _ _ _ _)) | (go_at_call 30; exact quiet_of_ret (c_appeal_IsFinal A _)) | (go_at_call 30; exact quiet_of_ret (c_appeal_IsFinal { A with st := 5, cents := 0 } _)) | (go_at_call 30; exact quiet_of_ret (c_appeal_IsFinal .zero _)) | (go_at_call 28; exact quiet_of_ret (c_appeal_Valid A _))) | ((with_reducible refine wpQuiet_nil ?_); intro x1) | (go_at_call 23; refine (c_law41_awake _).mono ?_; intro e w' hh; first | obtain ⟨rfl, y, rfl⟩ := Ret.ext2 hh | obtain ⟨rfl, y, rfl⟩ := Ret.ext hh) | (go_at_call 24; refine (c_appeal_File _ _ _ _ _ _ _ _ _ _ _ _ _ _ hs _ (by first | with_reducible assumption | exact Ints.below (by assumption) (by repeat (first | with_reducible exact Below.refl _ _ | with_reducible refine B_ext ?_ _ | with_reducible refine B_alloc ?_ _ | with_reducible refine Below.drew ?_ | with_reducible refine B_set ?_ _ _ _)))).mono ?_; intro e w' hh; first | obtain ⟨rfl, y, rfl⟩ := Ret.ext2 hh | obtain ⟨rfl, y, rfl⟩ := Ret.ext hh) | (go_at_call 26; refine (c_appeal_Transition A _ _ _ _).mono ?_; intro e w' hh; first | obtain ⟨rfl, y, rfl⟩ := Ret.ext2 hh | obtain ⟨rfl, y, rfl⟩ := Ret.ext hh) | (go_at_call 30; refine (c_appeal_IsFinal A _).mono ?_; intro e w' hh; first | obtain ⟨rfl, y, rfl⟩ := Ret.ext2 hh | obtain ⟨rfl, y, rfl⟩ := Ret.ext hh) | (go_at_call 30; refine (c_appeal_IsFinal { A with st := 5, cents := 0 } _).mono ?_; intro e w' hh; first | obtain ⟨rfl, y, rfl⟩ := Ret.ext2 hh | obtain ⟨rfl, y, rfl⟩ := Ret.ext hh) | (go_at_call 30; refine (c_appeal_IsFinal .zero _).mono ?_; intro e w' hh; first | obtain ⟨rfl, y, rfl⟩ := Ret.ext2 hh | obtain ⟨rfl, y, rfl⟩ := Ret.ext hh) | (go_at_call 28; refine (c_appeal_Valid A _).mono ?_; intro e w' hh; first | obtain ⟨rfl, y, rfl⟩ := Ret.ext2 hh | obtain ⟨rfl, y, rfl⟩ := Ret.ext hh))
      go_ret
      exact ⟨by simp, (by repeat (first | with_reducible exact Below.refl _ _ | with_reducible refine B_ext ?_ _ | with_reducible refine B_alloc ?_ _ | with_reducible refine Below.drew ?_ | with_reducible refine B_set ?_ _ _ _))⟩
    · have f1 : finB A = false := by simp [finB, g4]
      have f2 : transR A 5 0 d = ({ A with st := 5, cents := 0 }, 0) := by simp [transR, permB, g4, g3]
      have f3 : finB { A with st := 5, cents := 0 } = true := by simp [finB]
      have f4 : (A.st == 6) = false := by simp [g4]
      have f5 : (A.st == 1) = true := by simp [g4]
      have f6 : (A.cents == 0) = true := by simp [g2]
      replace g2 := hid g2
      replace g3 := hid g3
      replace g4 := hid g4
      go_enter Try.func11, Try.ntmps11
      go_wp2_with (first | ((with_reducible refine wp_region_ext2 ?_ ?_ ?_); (kernel_rfl); (kernel_rfl)) | ((with_reducible refine wp_region_ext ?_ ?_ ?_); (kernel_rfl); (kernel_rfl)) | go_big_quiet_step (first | (go_at_call 23; exact quiet_of_ret (c_law41_awake _)) | (go_at_call 24; exact quiet_of_ret (c_appeal_File _ _ _ _ _ _ _ _ _ _ _ _ _ _ hs _ (by first | with_reducible assumption | exact Ints.below (by assumption) (by repeat (first | with_reducible exact Below.refl _ _ | with_reducible refine B_ext ?_ _ | with_reducible refine B_alloc ?_ _ | with_reducible refine Below.drew ?_ | with_reducible refine B_set ?_ _ _ _))))) | (go_at_call 26; exact quiet_of_ret (c_appeal_Transition A _ _ _ _)) | (go_at_call 30; exact quiet_of_ret (c_appeal_IsFinal A _)) | (go_at_call 30; exact quiet_of_ret (c_appeal_IsFinal { A with st := 5, cents := 0 } _)) | (go_at_call 30; exact quiet_of_ret (c_appeal_IsFinal .zero _)) | (go_at_call 28; exact quiet_of_ret (c_appeal_Valid A _))) | ((with_reducible refine wpQuiet_nil ?_); intro x1) | (go_at_call 23; refine (c_law41_awake _).mono ?_; intro e w' hh; first | obtain ⟨rfl, y, rfl⟩ := Ret.ext2 hh | obtain ⟨rfl, y, rfl⟩ := Ret.ext hh) | (go_at_call 24; refine (c_appeal_File _ _ _ _ _ _ _ _ _ _ _ _ _ _ hs _ (by first | with_reducible assumption | exact Ints.below (by assumption) (by repeat (first | with_reducible exact Below.refl _ _ | with_reducible refine B_ext ?_ _ | with_reducible refine B_alloc ?_ _ | with_reducible refine Below.drew ?_ | with_reducible refine B_set ?_ _ _ _)))).mono ?_; intro e w' hh; first | obtain ⟨rfl, y, rfl⟩ := Ret.ext2 hh | obtain ⟨rfl, y, rfl⟩ := Ret.ext hh) | (go_at_call 26; refine (c_appeal_Transition A _ _ _ _).mono ?_; intro e w' hh; first | obtain ⟨rfl, y, rfl⟩ := Ret.ext2 hh | obtain ⟨rfl, y, rfl⟩ := Ret.ext hh) | (go_at_call 30; refine (c_appeal_IsFinal A _).mono ?_; intro e w' hh; first | obtain ⟨rfl, y, rfl⟩ := Ret.ext2 hh | obtain ⟨rfl, y, rfl⟩ := Ret.ext hh) | (go_at_call 30; refine (c_appeal_IsFinal { A with st := 5, cents := 0 } _).mono ?_; intro e w' hh; first | obtain ⟨rfl, y, rfl⟩ := Ret.ext2 hh | obtain ⟨rfl, y, rfl⟩ := Ret.ext hh) | (go_at_call 30; refine (c_appeal_IsFinal .zero _).mono ?_; intro e w' hh; first | obtain ⟨rfl, y, rfl⟩ := Ret.ext2 hh | obtain ⟨rfl, y, rfl⟩ := Ret.ext hh) | (go_at_call 28; refine (c_appeal_Valid A _).mono ?_; intro e w' hh; first | obtain ⟨rfl, y, rfl⟩ := Ret.ext2 hh | obtain ⟨rfl, y, rfl⟩ := Ret.ext hh))
      go_ret
      exact ⟨by simp, (by repeat (first | with_reducible exact Below.refl _ _ | with_reducible refine B_ext ?_ _ | with_reducible refine B_alloc ?_ _ | with_reducible refine Below.drew ?_ | with_reducible refine B_set ?_ _ _ _))⟩
  · have hz := file_err he
    have he2 : ((fileR id f t d nt ad we hs).2 != 0) = true := by simpa using he
    have he3 : ((fileR id f t d nt ad we hs).2 == 0) = false := by simpa using he
    replace he := hid he
    go_enter Try.func11, Try.ntmps11
    go_wp2_with (first | ((with_reducible refine wp_region_ext2 ?_ ?_ ?_); (kernel_rfl); (kernel_rfl)) | ((with_reducible refine wp_region_ext ?_ ?_ ?_); (kernel_rfl); (kernel_rfl)) | go_big_quiet_step (first | (go_at_call 23; exact quiet_of_ret (c_law41_awake _)) | (go_at_call 24; exact quiet_of_ret (c_appeal_File _ _ _ _ _ _ _ _ _ _ _ _ _ _ hs _ (by first | with_reducible assumption | exact Ints.below (by assumption) (by repeat (first | with_reducible exact Below.refl _ _ | with_reducible refine B_ext ?_ _ | with_reducible refine B_alloc ?_ _ | with_reducible refine Below.drew ?_ | with_reducible refine B_set ?_ _ _ _)))))) | ((with_reducible refine wpQuiet_nil ?_); intro x1) | (go_at_call 23; refine (c_law41_awake _).mono ?_; intro e w' hh; first | obtain ⟨rfl, y, rfl⟩ := Ret.ext2 hh | obtain ⟨rfl, y, rfl⟩ := Ret.ext hh) | (go_at_call 24; refine (c_appeal_File _ _ _ _ _ _ _ _ _ _ _ _ _ _ hs _ (by first | with_reducible assumption | exact Ints.below (by assumption) (by repeat (first | with_reducible exact Below.refl _ _ | with_reducible refine B_ext ?_ _ | with_reducible refine B_alloc ?_ _ | with_reducible refine Below.drew ?_ | with_reducible refine B_set ?_ _ _ _)))).mono ?_; intro e w' hh; first | obtain ⟨rfl, y, rfl⟩ := Ret.ext2 hh | obtain ⟨rfl, y, rfl⟩ := Ret.ext hh))
    go_ret
    exact ⟨by simp, (by repeat (first | with_reducible exact Below.refl _ _ | with_reducible refine B_ext ?_ _ | with_reducible refine B_alloc ?_ _ | with_reducible refine Below.drew ?_ | with_reducible refine B_set ?_ _ _ _))⟩

end Go.Proofs.Ythalkfjbgldgbaa
