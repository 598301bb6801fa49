/- The laws of package guerdonlaw06 (calendars of working days). -/
import Derived.Test.YthalkfjbgldgbaaWalkA
set_option linter.unusedSimpArgs false
set_option linter.unusedVariables false
namespace Go.Proofs.Ythalkfjbgldgbaa
open Go.RowKit
attribute [local irreducible] Calls

set_option maxHeartbeats 1000000 in
theorem c_law06_awake (w : World) : Calls Try.prog 12 #[] w (Ret (.bool true) w) := by
  have hI : Ints (w.alloc (.cells #[.int .i64 7] 3)) (.slice (some ⟨w.heap.size, 0, none⟩) 1 1) [7] := Sl_new w [.int .i64 7] _ (by decide)
  have e1 : nextR 96 [7] 5 = (8, 0) := by decide +kernel
  have e2 : addR 96 [7] 4 1 = (8, 0) := by decide +kernel
  have e3 : calOk 96 [7] = true := by decide +kernel
  have e4 : isWkB 96 [7] 4 = true := by decide +kernel
  have e5 : isWkB 96 [7] 5 = false := by decide +kernel
  have e6 : cntR 96 [7] 0 14 = 9 := by decide +kernel
  go_enter Try.func12, Try.ntmps12
  go_wp2_with (first | ((with_reducible refine wp_region_ext2 ?_ ?_ ?_); (kernel_rfl); (kernel_rfl)) | ((with_reducible refine wp_region_ext ?_ ?_ ?_); (kernel_rfl); (kernel_rfl)) | go_big_quiet_step (first | (go_at_call 13; exact quiet_of_ret (c_workday_Next _ _ [7] _ _ (by repeat (first | with_reducible assumption | with_reducible refine Ints.ext ?_ _ | with_reducible refine Ints.alloc ?_ _)))) | (go_at_call 19; exact quiet_of_ret (c_workday_Add _ _ [7] _ _ _ (by repeat (first | with_reducible assumption | with_reducible refine Ints.ext ?_ _ | with_reducible refine Ints.alloc ?_ _)))) | (go_at_call 15; exact quiet_of_ret (c_workday_Valid _ _ [7] _ (by repeat (first | with_reducible assumption | with_reducible refine Ints.ext ?_ _ | with_reducible refine Ints.alloc ?_ _)))) | (go_at_call 17; exact quiet_of_ret (c_workday_IsWorkday _ _ [7] _ _ (by repeat (first | with_reducible assumption | with_reducible refine Ints.ext ?_ _ | with_reducible refine Ints.alloc ?_ _)))) | (go_at_call 21; exact quiet_of_ret (c_workday_Count _ _ [7] _ _ _ (by repeat (first | with_reducible assumption | with_reducible refine Ints.ext ?_ _ | with_reducible refine Ints.alloc ?_ _))))) | ((with_reducible refine wpQuiet_nil ?_); intro x1) | (go_at_call 13; refine (c_workday_Next _ _ [7] _ _ (by repeat (first | with_reducible assumption | with_reducible refine Ints.ext ?_ _ | with_reducible refine Ints.alloc ?_ _))).mono ?_; intro e w' hh; first | obtain ⟨rfl, y, rfl⟩ := Ret.ext2 hh | obtain ⟨rfl, y, rfl⟩ := Ret.ext hh) | (go_at_call 19; refine (c_workday_Add _ _ [7] _ _ _ (by repeat (first | with_reducible assumption | with_reducible refine Ints.ext ?_ _ | with_reducible refine Ints.alloc ?_ _))).mono ?_; intro e w' hh; first | obtain ⟨rfl, y, rfl⟩ := Ret.ext2 hh | obtain ⟨rfl, y, rfl⟩ := Ret.ext hh) | (go_at_call 15; refine (c_workday_Valid _ _ [7] _ (by repeat (first | with_reducible assumption | with_reducible refine Ints.ext ?_ _ | with_reducible refine Ints.alloc ?_ _))).mono ?_; intro e w' hh; first | obtain ⟨rfl, y, rfl⟩ := Ret.ext2 hh | obtain ⟨rfl, y, rfl⟩ := Ret.ext hh) | (go_at_call 17; refine (c_workday_IsWorkday _ _ [7] _ _ (by repeat (first | with_reducible assumption | with_reducible refine Ints.ext ?_ _ | with_reducible refine Ints.alloc ?_ _))).mono ?_; intro e w' hh; first | obtain ⟨rfl, y, rfl⟩ := Ret.ext2 hh | obtain ⟨rfl, y, rfl⟩ := Ret.ext hh) | (go_at_call 21; refine (c_workday_Count _ _ [7] _ _ _ (by repeat (first | with_reducible assumption | with_reducible refine Ints.ext ?_ _ | with_reducible refine Ints.alloc ?_ _))).mono ?_; intro e w' hh; first | obtain ⟨rfl, y, rfl⟩ := Ret.ext2 hh | obtain ⟨rfl, y, rfl⟩ := Ret.ext hh))
  go_ret
  exact ⟨by simp, (by repeat (first | with_reducible exact Below.refl _ _ | with_reducible refine B_ext ?_ _ | with_reducible refine B_alloc ?_ _ | with_reducible refine Below.drew ?_ | with_reducible refine B_setCell ?_ (by simp) _))⟩


set_option maxHeartbeats 1000000 in
theorem c_law06_WorkdayNext (we : Int) (v : Value) (hs : List Int) (d : Int) (w : World) (h : Ints w v hs) :
    Calls Try.prog 3 #[.agg #[.int .i64 we, v], .int .i64 d] w (Ret (.bool true) w) := by
  have hl : ∃ a c, v = .slice a hs.length c := by obtain ⟨a, c, h, -⟩ := h.opn; exact ⟨a, c, h⟩
  obtain ⟨a, c, rfl⟩ := hl
  by_cases hlen : 100 < hs.length
  · go_enter Try.func3, Try.ntmps3
    go_wp2_with (first | ((with_reducible refine wp_region_ext2 ?_ ?_ ?_); (kernel_rfl); (kernel_rfl)) | ((with_reducible refine wp_region_ext ?_ ?_ ?_); (kernel_rfl); (kernel_rfl)) | go_big_quiet_step (first | (go_at_call 12; exact quiet_of_ret (c_law06_awake _))) | ((with_reducible refine wpQuiet_nil ?_); intro x1) | (go_at_call 12; refine (c_law06_awake _).mono ?_; intro e w' hh; first | obtain ⟨rfl, y, rfl⟩ := Ret.ext2 hh | obtain ⟨rfl, y, rfl⟩ := Ret.ext hh))
    go_ret
    exact ⟨by simp, (by repeat (first | with_reducible exact Below.refl _ _ | with_reducible refine B_ext ?_ _ | with_reducible refine B_alloc ?_ _ | with_reducible refine Below.drew ?_ | with_reducible refine B_setCell ?_ (by simp) _))⟩
  · go_enter Try.func3, Try.ntmps3
    go_wp2_with (first | ((with_reducible refine wp_region_ext2 ?_ ?_ ?_); (kernel_rfl); (kernel_rfl)) | ((with_reducible refine wp_region_ext ?_ ?_ ?_); (kernel_rfl); (kernel_rfl)) | go_big_quiet_step (first | (go_at_call 12; exact quiet_of_ret (c_law06_awake _)) | (go_at_call 13; exact quiet_of_ret (c_workday_Next _ _ hs _ _ (by repeat (first | with_reducible assumption | with_reducible refine Ints.ext ?_ _ | with_reducible refine Ints.alloc ?_ _)))) | (go_at_call 14; exact quiet_of_ret (c_ref06_Next _ _ hs _ _ (by repeat (first | with_reducible assumption | with_reducible refine Ints.ext ?_ _ | with_reducible refine Ints.alloc ?_ _)))) | (go_at_call 15; exact quiet_of_ret (c_workday_Valid _ _ hs _ (by repeat (first | with_reducible assumption | with_reducible refine Ints.ext ?_ _ | with_reducible refine Ints.alloc ?_ _)))) | (go_at_call 16; exact quiet_of_ret (c_ref06_Valid _ _ hs _ (by repeat (first | with_reducible assumption | with_reducible refine Ints.ext ?_ _ | with_reducible refine Ints.alloc ?_ _)))) | (go_at_call 17; exact quiet_of_ret (c_workday_IsWorkday _ _ hs _ _ (by repeat (first | with_reducible assumption | with_reducible refine Ints.ext ?_ _ | with_reducible refine Ints.alloc ?_ _)))) | (go_at_call 18; exact quiet_of_ret (c_ref06_IsWorkday _ _ hs _ _ (by repeat (first | with_reducible assumption | with_reducible refine Ints.ext ?_ _ | with_reducible refine Ints.alloc ?_ _))))) | ((with_reducible refine wpQuiet_nil ?_); intro x1) | (go_at_call 12; refine (c_law06_awake _).mono ?_; intro e w' hh; first | obtain ⟨rfl, y, rfl⟩ := Ret.ext2 hh | obtain ⟨rfl, y, rfl⟩ := Ret.ext hh) | (go_at_call 13; refine (c_workday_Next _ _ hs _ _ (by repeat (first | with_reducible assumption | with_reducible refine Ints.ext ?_ _ | with_reducible refine Ints.alloc ?_ _))).mono ?_; intro e w' hh; first | obtain ⟨rfl, y, rfl⟩ := Ret.ext2 hh | obtain ⟨rfl, y, rfl⟩ := Ret.ext hh) | (go_at_call 14; refine (c_ref06_Next _ _ hs _ _ (by repeat (first | with_reducible assumption | with_reducible refine Ints.ext ?_ _ | with_reducible refine Ints.alloc ?_ _))).mono ?_; intro e w' hh; first | obtain ⟨rfl, y, rfl⟩ := Ret.ext2 hh | obtain ⟨rfl, y, rfl⟩ := Ret.ext hh) | (go_at_call 15; refine (c_workday_Valid _ _ hs _ (by repeat (first | with_reducible assumption | with_reducible refine Ints.ext ?_ _ | with_reducible refine Ints.alloc ?_ _))).mono ?_; intro e w' hh; first | obtain ⟨rfl, y, rfl⟩ := Ret.ext2 hh | obtain ⟨rfl, y, rfl⟩ := Ret.ext hh) | (go_at_call 16; refine (c_ref06_Valid _ _ hs _ (by repeat (first | with_reducible assumption | with_reducible refine Ints.ext ?_ _ | with_reducible refine Ints.alloc ?_ _))).mono ?_; intro e w' hh; first | obtain ⟨rfl, y, rfl⟩ := Ret.ext2 hh | obtain ⟨rfl, y, rfl⟩ := Ret.ext hh) | (go_at_call 17; refine (c_workday_IsWorkday _ _ hs _ _ (by repeat (first | with_reducible assumption | with_reducible refine Ints.ext ?_ _ | with_reducible refine Ints.alloc ?_ _))).mono ?_; intro e w' hh; first | obtain ⟨rfl, y, rfl⟩ := Ret.ext2 hh | obtain ⟨rfl, y, rfl⟩ := Ret.ext hh) | (go_at_call 18; refine (c_ref06_IsWorkday _ _ hs _ _ (by repeat (first | with_reducible assumption | with_reducible refine Ints.ext ?_ _ | with_reducible refine Ints.alloc ?_ _))).mono ?_; intro e w' hh; first | obtain ⟨rfl, y, rfl⟩ := Ret.ext2 hh | obtain ⟨rfl, y, rfl⟩ := Ret.ext hh))
    go_ret
    exact ⟨by simp, (by repeat (first | with_reducible exact Below.refl _ _ | with_reducible refine B_ext ?_ _ | with_reducible refine B_alloc ?_ _ | with_reducible refine Below.drew ?_ | with_reducible refine B_setCell ?_ (by simp) _))⟩
set_option maxHeartbeats 1000000 in
theorem c_law06_WorkdayAdd (we : Int) (v : Value) (hs : List Int) (d n : Int) (w : World) (h : Ints w v hs) :
    Calls Try.prog 4 #[.agg #[.int .i64 we, v], .int .i64 d, .int .i64 n] w (Ret (.bool true) w) := by
  have hl : ∃ a c, v = .slice a hs.length c := by obtain ⟨a, c, h, -⟩ := h.opn; exact ⟨a, c, h⟩
  obtain ⟨a, c, rfl⟩ := hl
  by_cases hlen : 100 < hs.length
  · go_enter Try.func4, Try.ntmps4
    go_wp2_with (first | ((with_reducible refine wp_region_ext2 ?_ ?_ ?_); (kernel_rfl); (kernel_rfl)) | ((with_reducible refine wp_region_ext ?_ ?_ ?_); (kernel_rfl); (kernel_rfl)) | go_big_quiet_step (first | (go_at_call 12; exact quiet_of_ret (c_law06_awake _))) | ((with_reducible refine wpQuiet_nil ?_); intro x1) | (go_at_call 12; refine (c_law06_awake _).mono ?_; intro e w' hh; first | obtain ⟨rfl, y, rfl⟩ := Ret.ext2 hh | obtain ⟨rfl, y, rfl⟩ := Ret.ext hh))
    go_ret
    exact ⟨by simp, (by repeat (first | with_reducible exact Below.refl _ _ | with_reducible refine B_ext ?_ _ | with_reducible refine B_alloc ?_ _ | with_reducible refine Below.drew ?_ | with_reducible refine B_setCell ?_ (by simp) _))⟩
  · go_enter Try.func4, Try.ntmps4
    go_wp2_with (first | ((with_reducible refine wp_region_ext2 ?_ ?_ ?_); (kernel_rfl); (kernel_rfl)) | ((with_reducible refine wp_region_ext ?_ ?_ ?_); (kernel_rfl); (kernel_rfl)) | go_big_quiet_step (first | (go_at_call 12; exact quiet_of_ret (c_law06_awake _)) | (go_at_call 19; exact quiet_of_ret (c_workday_Add _ _ hs _ _ _ (by repeat (first | with_reducible assumption | with_reducible refine Ints.ext ?_ _ | with_reducible refine Ints.alloc ?_ _)))) | (go_at_call 20; exact quiet_of_ret (c_ref06_Add _ _ hs _ _ _ (by repeat (first | with_reducible assumption | with_reducible refine Ints.ext ?_ _ | with_reducible refine Ints.alloc ?_ _))))) | ((with_reducible refine wpQuiet_nil ?_); intro x1) | (go_at_call 12; refine (c_law06_awake _).mono ?_; intro e w' hh; first | obtain ⟨rfl, y, rfl⟩ := Ret.ext2 hh | obtain ⟨rfl, y, rfl⟩ := Ret.ext hh) | (go_at_call 19; refine (c_workday_Add _ _ hs _ _ _ (by repeat (first | with_reducible assumption | with_reducible refine Ints.ext ?_ _ | with_reducible refine Ints.alloc ?_ _))).mono ?_; intro e w' hh; first | obtain ⟨rfl, y, rfl⟩ := Ret.ext2 hh | obtain ⟨rfl, y, rfl⟩ := Ret.ext hh) | (go_at_call 20; refine (c_ref06_Add _ _ hs _ _ _ (by repeat (first | with_reducible assumption | with_reducible refine Ints.ext ?_ _ | with_reducible refine Ints.alloc ?_ _))).mono ?_; intro e w' hh; first | obtain ⟨rfl, y, rfl⟩ := Ret.ext2 hh | obtain ⟨rfl, y, rfl⟩ := Ret.ext hh))
    go_ret
    exact ⟨by simp, (by repeat (first | with_reducible exact Below.refl _ _ | with_reducible refine B_ext ?_ _ | with_reducible refine B_alloc ?_ _ | with_reducible refine Below.drew ?_ | with_reducible refine B_setCell ?_ (by simp) _))⟩
set_option maxHeartbeats 1000000 in
theorem c_law06_WorkdayRange (we : Int) (v : Value) (hs : List Int) (x y : Int) (w : World) (h : Ints w v hs) :
    Calls Try.prog 5 #[.agg #[.int .i64 we, v], .agg #[.int .i64 x, .int .i64 y]] w (Ret (.bool true) w) := by
  have hl : ∃ a c, v = .slice a hs.length c := by obtain ⟨a, c, h, -⟩ := h.opn; exact ⟨a, c, h⟩
  obtain ⟨a, c, rfl⟩ := hl
  by_cases hlen : 100 < hs.length
  · go_enter Try.func5, Try.ntmps5
    go_wp2_with (first | ((with_reducible refine wp_region_ext2 ?_ ?_ ?_); (kernel_rfl); (kernel_rfl)) | ((with_reducible refine wp_region_ext ?_ ?_ ?_); (kernel_rfl); (kernel_rfl)) | go_big_quiet_step (first | (go_at_call 12; exact quiet_of_ret (c_law06_awake _))) | ((with_reducible refine wpQuiet_nil ?_); intro x1) | (go_at_call 12; refine (c_law06_awake _).mono ?_; intro e w' hh; first | obtain ⟨rfl, y, rfl⟩ := Ret.ext2 hh | obtain ⟨rfl, y, rfl⟩ := Ret.ext hh))
    go_ret
    exact ⟨by simp, (by repeat (first | with_reducible exact Below.refl _ _ | with_reducible refine B_ext ?_ _ | with_reducible refine B_alloc ?_ _ | with_reducible refine Below.drew ?_ | with_reducible refine B_setCell ?_ (by simp) _))⟩
  have hlen' : decide (100 < hs.length) = false := by simpa using hlen
  by_cases g1 : 0 ≤ x ∧ x ≤ 109572 ∧ x + 2000 < y ∧ y ≤ 109573
  · obtain ⟨g1, g2, g3, g4⟩ := g1
    go_enter Try.func5, Try.ntmps5
    go_wp2_with (first | ((with_reducible refine wp_region_ext2 ?_ ?_ ?_); (kernel_rfl); (kernel_rfl)) | ((with_reducible refine wp_region_ext ?_ ?_ ?_); (kernel_rfl); (kernel_rfl)) | go_big_quiet_step (first | (go_at_call 12; exact quiet_of_ret (c_law06_awake _))) | ((with_reducible refine wpQuiet_nil ?_); intro x1) | (go_at_call 12; refine (c_law06_awake _).mono ?_; intro e w' hh; first | obtain ⟨rfl, y, rfl⟩ := Ret.ext2 hh | obtain ⟨rfl, y, rfl⟩ := Ret.ext hh))
    go_ret
    exact ⟨by simp, (by repeat (first | with_reducible exact Below.refl _ _ | with_reducible refine B_ext ?_ _ | with_reducible refine B_alloc ?_ _ | with_reducible refine Below.drew ?_ | with_reducible refine B_setCell ?_ (by simp) _))⟩
  cases g2 : decide (0 ≤ x)
  · clear g1
    go_enter Try.func5, Try.ntmps5
    go_wp2_with (first | ((with_reducible refine wp_region_ext2 ?_ ?_ ?_); (kernel_rfl); (kernel_rfl)) | ((with_reducible refine wp_region_ext ?_ ?_ ?_); (kernel_rfl); (kernel_rfl)) | go_big_quiet_step (first | (go_at_call 12; exact quiet_of_ret (c_law06_awake _)) | (go_at_call 21; exact quiet_of_ret (c_workday_Count _ _ hs _ _ _ (by repeat (first | with_reducible assumption | with_reducible refine Ints.ext ?_ _ | with_reducible refine Ints.alloc ?_ _)))) | (go_at_call 22; exact quiet_of_ret (c_ref06_Count _ _ hs _ _ _ (by repeat (first | with_reducible assumption | with_reducible refine Ints.ext ?_ _ | with_reducible refine Ints.alloc ?_ _))))) | ((with_reducible refine wpQuiet_nil ?_); intro x1) | (go_at_call 12; refine (c_law06_awake _).mono ?_; intro e w' hh; first | obtain ⟨rfl, y, rfl⟩ := Ret.ext2 hh | obtain ⟨rfl, y, rfl⟩ := Ret.ext hh) | (go_at_call 21; refine (c_workday_Count _ _ hs _ _ _ (by repeat (first | with_reducible assumption | with_reducible refine Ints.ext ?_ _ | with_reducible refine Ints.alloc ?_ _))).mono ?_; intro e w' hh; first | obtain ⟨rfl, y, rfl⟩ := Ret.ext2 hh | obtain ⟨rfl, y, rfl⟩ := Ret.ext hh) | (go_at_call 22; refine (c_ref06_Count _ _ hs _ _ _ (by repeat (first | with_reducible assumption | with_reducible refine Ints.ext ?_ _ | with_reducible refine Ints.alloc ?_ _))).mono ?_; intro e w' hh; first | obtain ⟨rfl, y, rfl⟩ := Ret.ext2 hh | obtain ⟨rfl, y, rfl⟩ := Ret.ext hh))
    go_ret
    exact ⟨by simp, (by repeat (first | with_reducible exact Below.refl _ _ | with_reducible refine B_ext ?_ _ | with_reducible refine B_alloc ?_ _ | with_reducible refine Below.drew ?_ | with_reducible refine B_setCell ?_ (by simp) _))⟩
  cases g3 : decide (x ≤ 109572)
  · clear g1
    go_enter Try.func5, Try.ntmps5
    go_wp2_with (first | ((with_reducible refine wp_region_ext2 ?_ ?_ ?_); (kernel_rfl); (kernel_rfl)) | ((with_reducible refine wp_region_ext ?_ ?_ ?_); (kernel_rfl); (kernel_rfl)) | go_big_quiet_step (first | (go_at_call 12; exact quiet_of_ret (c_law06_awake _)) | (go_at_call 21; exact quiet_of_ret (c_workday_Count _ _ hs _ _ _ (by repeat (first | with_reducible assumption | with_reducible refine Ints.ext ?_ _ | with_reducible refine Ints.alloc ?_ _)))) | (go_at_call 22; exact quiet_of_ret (c_ref06_Count _ _ hs _ _ _ (by repeat (first | with_reducible assumption | with_reducible refine Ints.ext ?_ _ | with_reducible refine Ints.alloc ?_ _))))) | ((with_reducible refine wpQuiet_nil ?_); intro x1) | (go_at_call 12; refine (c_law06_awake _).mono ?_; intro e w' hh; first | obtain ⟨rfl, y, rfl⟩ := Ret.ext2 hh | obtain ⟨rfl, y, rfl⟩ := Ret.ext hh) | (go_at_call 21; refine (c_workday_Count _ _ hs _ _ _ (by repeat (first | with_reducible assumption | with_reducible refine Ints.ext ?_ _ | with_reducible refine Ints.alloc ?_ _))).mono ?_; intro e w' hh; first | obtain ⟨rfl, y, rfl⟩ := Ret.ext2 hh | obtain ⟨rfl, y, rfl⟩ := Ret.ext hh) | (go_at_call 22; refine (c_ref06_Count _ _ hs _ _ _ (by repeat (first | with_reducible assumption | with_reducible refine Ints.ext ?_ _ | with_reducible refine Ints.alloc ?_ _))).mono ?_; intro e w' hh; first | obtain ⟨rfl, y, rfl⟩ := Ret.ext2 hh | obtain ⟨rfl, y, rfl⟩ := Ret.ext hh))
    go_ret
    exact ⟨by simp, (by repeat (first | with_reducible exact Below.refl _ _ | with_reducible refine B_ext ?_ _ | with_reducible refine B_alloc ?_ _ | with_reducible refine Below.drew ?_ | with_reducible refine B_setCell ?_ (by simp) _))⟩
  have x1 : 0 ≤ x := by simpa using g2
  have x2 : x ≤ 109572 := by simpa using g3
  cases g4 : decide (x + 2000 < y)
  · clear g1
    go_enter Try.func5, Try.ntmps5
    go_wp2_with (first | ((with_reducible refine wp_region_ext2 ?_ ?_ ?_); (kernel_rfl); (kernel_rfl)) | ((with_reducible refine wp_region_ext ?_ ?_ ?_); (kernel_rfl); (kernel_rfl)) | go_big_quiet_step (first | (go_at_call 12; exact quiet_of_ret (c_law06_awake _)) | (go_at_call 21; exact quiet_of_ret (c_workday_Count _ _ hs _ _ _ (by repeat (first | with_reducible assumption | with_reducible refine Ints.ext ?_ _ | with_reducible refine Ints.alloc ?_ _)))) | (go_at_call 22; exact quiet_of_ret (c_ref06_Count _ _ hs _ _ _ (by repeat (first | with_reducible assumption | with_reducible refine Ints.ext ?_ _ | with_reducible refine Ints.alloc ?_ _))))) | ((with_reducible refine wpQuiet_nil ?_); intro x1) | (go_at_call 12; refine (c_law06_awake _).mono ?_; intro e w' hh; first | obtain ⟨rfl, y, rfl⟩ := Ret.ext2 hh | obtain ⟨rfl, y, rfl⟩ := Ret.ext hh) | (go_at_call 21; refine (c_workday_Count _ _ hs _ _ _ (by repeat (first | with_reducible assumption | with_reducible refine Ints.ext ?_ _ | with_reducible refine Ints.alloc ?_ _))).mono ?_; intro e w' hh; first | obtain ⟨rfl, y, rfl⟩ := Ret.ext2 hh | obtain ⟨rfl, y, rfl⟩ := Ret.ext hh) | (go_at_call 22; refine (c_ref06_Count _ _ hs _ _ _ (by repeat (first | with_reducible assumption | with_reducible refine Ints.ext ?_ _ | with_reducible refine Ints.alloc ?_ _))).mono ?_; intro e w' hh; first | obtain ⟨rfl, y, rfl⟩ := Ret.ext2 hh | obtain ⟨rfl, y, rfl⟩ := Ret.ext hh))
    go_ret
    exact ⟨by simp, (by repeat (first | with_reducible exact Below.refl _ _ | with_reducible refine B_ext ?_ _ | with_reducible refine B_alloc ?_ _ | with_reducible refine Below.drew ?_ | with_reducible refine B_setCell ?_ (by simp) _))⟩
  have x3 : x + 2000 < y := by simpa using g4
  have g5 : decide (y ≤ 109573) = false := by simp; omega
  clear g1
  go_enter Try.func5, Try.ntmps5
  go_wp2_with (first | ((with_reducible refine wp_region_ext2 ?_ ?_ ?_); (kernel_rfl); (kernel_rfl)) | ((with_reducible refine wp_region_ext ?_ ?_ ?_); (kernel_rfl); (kernel_rfl)) | go_big_quiet_step (first | (go_at_call 12; exact quiet_of_ret (c_law06_awake _)) | (go_at_call 21; exact quiet_of_ret (c_workday_Count _ _ hs _ _ _ (by repeat (first | with_reducible assumption | with_reducible refine Ints.ext ?_ _ | with_reducible refine Ints.alloc ?_ _)))) | (go_at_call 22; exact quiet_of_ret (c_ref06_Count _ _ hs _ _ _ (by repeat (first | with_reducible assumption | with_reducible refine Ints.ext ?_ _ | with_reducible refine Ints.alloc ?_ _))))) | ((with_reducible refine wpQuiet_nil ?_); intro x1) | (go_at_call 12; refine (c_law06_awake _).mono ?_; intro e w' hh; first | obtain ⟨rfl, y, rfl⟩ := Ret.ext2 hh | obtain ⟨rfl, y, rfl⟩ := Ret.ext hh) | (go_at_call 21; refine (c_workday_Count _ _ hs _ _ _ (by repeat (first | with_reducible assumption | with_reducible refine Ints.ext ?_ _ | with_reducible refine Ints.alloc ?_ _))).mono ?_; intro e w' hh; first | obtain ⟨rfl, y, rfl⟩ := Ret.ext2 hh | obtain ⟨rfl, y, rfl⟩ := Ret.ext hh) | (go_at_call 22; refine (c_ref06_Count _ _ hs _ _ _ (by repeat (first | with_reducible assumption | with_reducible refine Ints.ext ?_ _ | with_reducible refine Ints.alloc ?_ _))).mono ?_; intro e w' hh; first | obtain ⟨rfl, y, rfl⟩ := Ret.ext2 hh | obtain ⟨rfl, y, rfl⟩ := Ret.ext hh))
  go_ret
  exact ⟨by simp, (by repeat (first | with_reducible exact Below.refl _ _ | with_reducible refine B_ext ?_ _ | with_reducible refine B_alloc ?_ _ | with_reducible refine Below.drew ?_ | with_reducible refine B_setCell ?_ (by simp) _))⟩


set_option maxHeartbeats 1000000 in
theorem c_law06_WorkdayCount (we : Int) (v : Value) (hs : List Int) (d n : Int) (w : World) (h : Ints w v hs) :
    Calls Try.prog 6 #[.agg #[.int .i64 we, v], .int .i64 d, .int .i64 n] w (Ret (.bool true) w) := by
  have hl : ∃ a c, v = .slice a hs.length c := by obtain ⟨a, c, h, -⟩ := h.opn; exact ⟨a, c, h⟩
  obtain ⟨a, c, rfl⟩ := hl
  by_cases hlen : 100 < hs.length
  · go_enter Try.func6, Try.ntmps6
    go_wp2_with (first | ((with_reducible refine wp_region_ext2 ?_ ?_ ?_); (kernel_rfl); (kernel_rfl)) | ((with_reducible refine wp_region_ext ?_ ?_ ?_); (kernel_rfl); (kernel_rfl)) | go_big_quiet_step (first | (go_at_call 12; exact quiet_of_ret (c_law06_awake _))) | ((with_reducible refine wpQuiet_nil ?_); intro x1) | (go_at_call 12; refine (c_law06_awake _).mono ?_; intro e w' hh; first | obtain ⟨rfl, y, rfl⟩ := Ret.ext2 hh | obtain ⟨rfl, y, rfl⟩ := Ret.ext hh))
    go_ret
    exact ⟨by simp, (by repeat (first | with_reducible exact Below.refl _ _ | with_reducible refine B_ext ?_ _ | with_reducible refine B_alloc ?_ _ | with_reducible refine Below.drew ?_ | with_reducible refine B_setCell ?_ (by simp) _))⟩
  by_cases he : (addR we hs d n).2 = 0
  · by_cases hn : n < 1
    · have he2 : ((addR we hs d n).2 != 0) = false := by simpa using he
      replace he := hid he
      go_enter Try.func6, Try.ntmps6
      go_wp2_with (first | ((with_reducible refine wp_region_ext2 ?_ ?_ ?_); (kernel_rfl); (kernel_rfl)) | ((with_reducible refine wp_region_ext ?_ ?_ ?_); (kernel_rfl); (kernel_rfl)) | go_big_quiet_step (first | (go_at_call 12; exact quiet_of_ret (c_law06_awake _)) | (go_at_call 19; exact quiet_of_ret (c_workday_Add _ _ hs _ _ _ (by repeat (first | with_reducible assumption | with_reducible refine Ints.ext ?_ _ | with_reducible refine Ints.alloc ?_ _))))) | ((with_reducible refine wpQuiet_nil ?_); intro x1) | (go_at_call 12; refine (c_law06_awake _).mono ?_; intro e w' hh; first | obtain ⟨rfl, y, rfl⟩ := Ret.ext2 hh | obtain ⟨rfl, y, rfl⟩ := Ret.ext hh) | (go_at_call 19; refine (c_workday_Add _ _ hs _ _ _ (by repeat (first | with_reducible assumption | with_reducible refine Ints.ext ?_ _ | with_reducible refine Ints.alloc ?_ _))).mono ?_; intro e w' hh; first | obtain ⟨rfl, y, rfl⟩ := Ret.ext2 hh | obtain ⟨rfl, y, rfl⟩ := Ret.ext hh))
      go_ret
      exact ⟨by simp, (by repeat (first | with_reducible exact Below.refl _ _ | with_reducible refine B_ext ?_ _ | with_reducible refine B_alloc ?_ _ | with_reducible refine Below.drew ?_ | with_reducible refine B_setCell ?_ (by simp) _))⟩
    · have hn2 : decide (n < 1) = false := by simpa using hn
      obtain ⟨f1, f2, f3, f4, f5⟩ := addR_count (by omega) he
      have he2 : ((addR we hs d n).2 != 0) = false := by simpa using he
      replace he := hid he
      go_enter Try.func6, Try.ntmps6
      go_wp2_with (first | ((with_reducible refine wp_region_ext2 ?_ ?_ ?_); (kernel_rfl); (kernel_rfl)) | ((with_reducible refine wp_region_ext ?_ ?_ ?_); (kernel_rfl); (kernel_rfl)) | go_big_quiet_step (first | (go_at_call 12; exact quiet_of_ret (c_law06_awake _)) | (go_at_call 19; exact quiet_of_ret (c_workday_Add _ _ hs _ _ _ (by repeat (first | with_reducible assumption | with_reducible refine Ints.ext ?_ _ | with_reducible refine Ints.alloc ?_ _)))) | (go_at_call 17; exact quiet_of_ret (c_workday_IsWorkday _ _ hs _ _ (by repeat (first | with_reducible assumption | with_reducible refine Ints.ext ?_ _ | with_reducible refine Ints.alloc ?_ _)))) | (go_at_call 21; exact quiet_of_ret (c_workday_Count _ _ hs _ _ _ (by repeat (first | with_reducible assumption | with_reducible refine Ints.ext ?_ _ | with_reducible refine Ints.alloc ?_ _))))) | ((with_reducible refine wpQuiet_nil ?_); intro x1) | (go_at_call 12; refine (c_law06_awake _).mono ?_; intro e w' hh; first | obtain ⟨rfl, y, rfl⟩ := Ret.ext2 hh | obtain ⟨rfl, y, rfl⟩ := Ret.ext hh) | (go_at_call 19; refine (c_workday_Add _ _ hs _ _ _ (by repeat (first | with_reducible assumption | with_reducible refine Ints.ext ?_ _ | with_reducible refine Ints.alloc ?_ _))).mono ?_; intro e w' hh; first | obtain ⟨rfl, y, rfl⟩ := Ret.ext2 hh | obtain ⟨rfl, y, rfl⟩ := Ret.ext hh) | (go_at_call 17; refine (c_workday_IsWorkday _ _ hs _ _ (by repeat (first | with_reducible assumption | with_reducible refine Ints.ext ?_ _ | with_reducible refine Ints.alloc ?_ _))).mono ?_; intro e w' hh; first | obtain ⟨rfl, y, rfl⟩ := Ret.ext2 hh | obtain ⟨rfl, y, rfl⟩ := Ret.ext hh) | (go_at_call 21; refine (c_workday_Count _ _ hs _ _ _ (by repeat (first | with_reducible assumption | with_reducible refine Ints.ext ?_ _ | with_reducible refine Ints.alloc ?_ _))).mono ?_; intro e w' hh; first | obtain ⟨rfl, y, rfl⟩ := Ret.ext2 hh | obtain ⟨rfl, y, rfl⟩ := Ret.ext hh))
      go_ret
      exact ⟨by simp, (by repeat (first | with_reducible exact Below.refl _ _ | with_reducible refine B_ext ?_ _ | with_reducible refine B_alloc ?_ _ | with_reducible refine Below.drew ?_ | with_reducible refine B_setCell ?_ (by simp) _))⟩
  · have he2 : ((addR we hs d n).2 != 0) = true := by simpa using he
    replace he := hid he
    go_enter Try.func6, Try.ntmps6
    go_wp2_with (first | ((with_reducible refine wp_region_ext2 ?_ ?_ ?_); (kernel_rfl); (kernel_rfl)) | ((with_reducible refine wp_region_ext ?_ ?_ ?_); (kernel_rfl); (kernel_rfl)) | go_big_quiet_step (first | (go_at_call 12; exact quiet_of_ret (c_law06_awake _)) | (go_at_call 19; exact quiet_of_ret (c_workday_Add _ _ hs _ _ _ (by repeat (first | with_reducible assumption | with_reducible refine Ints.ext ?_ _ | with_reducible refine Ints.alloc ?_ _))))) | ((with_reducible refine wpQuiet_nil ?_); intro x1) | (go_at_call 12; refine (c_law06_awake _).mono ?_; intro e w' hh; first | obtain ⟨rfl, y, rfl⟩ := Ret.ext2 hh | obtain ⟨rfl, y, rfl⟩ := Ret.ext hh) | (go_at_call 19; refine (c_workday_Add _ _ hs _ _ _ (by repeat (first | with_reducible assumption | with_reducible refine Ints.ext ?_ _ | with_reducible refine Ints.alloc ?_ _))).mono ?_; intro e w' hh; first | obtain ⟨rfl, y, rfl⟩ := Ret.ext2 hh | obtain ⟨rfl, y, rfl⟩ := Ret.ext hh))
    go_ret
    exact ⟨by simp, (by repeat (first | with_reducible exact Below.refl _ _ | with_reducible refine B_ext ?_ _ | with_reducible refine B_alloc ?_ _ | with_reducible refine Below.drew ?_ | with_reducible refine B_setCell ?_ (by simp) _))⟩

set_option maxHeartbeats 1000000 in
theorem c_law06_WorkdayAdditive (we : Int) (v : Value) (hs : List Int) (x y z : Int) (w : World) (h : Ints w v hs) :
    Calls Try.prog 7 #[.agg #[.int .i64 we, v], .int .i64 x, .int .i64 y, .int .i64 z] w (Ret (.bool true) w) := by
  have hl : ∃ a c, v = .slice a hs.length c := by obtain ⟨a, c, h, -⟩ := h.opn; exact ⟨a, c, h⟩
  obtain ⟨a, c, rfl⟩ := hl
  by_cases hlen : 100 < hs.length
  · go_enter Try.func7, Try.ntmps7
    go_wp2_with (first | ((with_reducible refine wp_region_ext2 ?_ ?_ ?_); (kernel_rfl); (kernel_rfl)) | ((with_reducible refine wp_region_ext ?_ ?_ ?_); (kernel_rfl); (kernel_rfl)) | go_big_quiet_step (first | (go_at_call 12; exact quiet_of_ret (c_law06_awake _))) | ((with_reducible refine wpQuiet_nil ?_); intro x1) | (go_at_call 12; refine (c_law06_awake _).mono ?_; intro e w' hh; first | obtain ⟨rfl, y, rfl⟩ := Ret.ext2 hh | obtain ⟨rfl, y, rfl⟩ := Ret.ext hh))
    go_ret
    exact ⟨by simp, (by repeat (first | with_reducible exact Below.refl _ _ | with_reducible refine B_ext ?_ _ | with_reducible refine B_alloc ?_ _ | with_reducible refine Below.drew ?_ | with_reducible refine B_setCell ?_ (by simp) _))⟩
  have hlen' : decide (100 < hs.length) = false := by simpa using hlen
  by_cases h1 : x < 0
  · go_enter Try.func7, Try.ntmps7
    go_wp2_with (first | ((with_reducible refine wp_region_ext2 ?_ ?_ ?_); (kernel_rfl); (kernel_rfl)) | ((with_reducible refine wp_region_ext ?_ ?_ ?_); (kernel_rfl); (kernel_rfl)) | go_big_quiet_step (first | (go_at_call 12; exact quiet_of_ret (c_law06_awake _))) | ((with_reducible refine wpQuiet_nil ?_); intro x1) | (go_at_call 12; refine (c_law06_awake _).mono ?_; intro e w' hh; first | obtain ⟨rfl, y, rfl⟩ := Ret.ext2 hh | obtain ⟨rfl, y, rfl⟩ := Ret.ext hh))
    go_ret
    exact ⟨by simp, (by repeat (first | with_reducible exact Below.refl _ _ | with_reducible refine B_ext ?_ _ | with_reducible refine B_alloc ?_ _ | with_reducible refine Below.drew ?_ | with_reducible refine B_setCell ?_ (by simp) _))⟩
  have h1' : decide (x < 0) = false := by simpa using h1
  by_cases h2 : y < x
  · go_enter Try.func7, Try.ntmps7
    go_wp2_with (first | ((with_reducible refine wp_region_ext2 ?_ ?_ ?_); (kernel_rfl); (kernel_rfl)) | ((with_reducible refine wp_region_ext ?_ ?_ ?_); (kernel_rfl); (kernel_rfl)) | go_big_quiet_step (first | (go_at_call 12; exact quiet_of_ret (c_law06_awake _))) | ((with_reducible refine wpQuiet_nil ?_); intro x1) | (go_at_call 12; refine (c_law06_awake _).mono ?_; intro e w' hh; first | obtain ⟨rfl, y, rfl⟩ := Ret.ext2 hh | obtain ⟨rfl, y, rfl⟩ := Ret.ext hh))
    go_ret
    exact ⟨by simp, (by repeat (first | with_reducible exact Below.refl _ _ | with_reducible refine B_ext ?_ _ | with_reducible refine B_alloc ?_ _ | with_reducible refine Below.drew ?_ | with_reducible refine B_setCell ?_ (by simp) _))⟩
  have h2' : decide (y < x) = false := by simpa using h2
  by_cases h3 : z < y
  · go_enter Try.func7, Try.ntmps7
    go_wp2_with (first | ((with_reducible refine wp_region_ext2 ?_ ?_ ?_); (kernel_rfl); (kernel_rfl)) | ((with_reducible refine wp_region_ext ?_ ?_ ?_); (kernel_rfl); (kernel_rfl)) | go_big_quiet_step (first | (go_at_call 12; exact quiet_of_ret (c_law06_awake _))) | ((with_reducible refine wpQuiet_nil ?_); intro x1) | (go_at_call 12; refine (c_law06_awake _).mono ?_; intro e w' hh; first | obtain ⟨rfl, y, rfl⟩ := Ret.ext2 hh | obtain ⟨rfl, y, rfl⟩ := Ret.ext hh))
    go_ret
    exact ⟨by simp, (by repeat (first | with_reducible exact Below.refl _ _ | with_reducible refine B_ext ?_ _ | with_reducible refine B_alloc ?_ _ | with_reducible refine Below.drew ?_ | with_reducible refine B_setCell ?_ (by simp) _))⟩
  have h3' : decide (z < y) = false := by simpa using h3
  by_cases h4 : 109573 < z
  · go_enter Try.func7, Try.ntmps7
    go_wp2_with (first | ((with_reducible refine wp_region_ext2 ?_ ?_ ?_); (kernel_rfl); (kernel_rfl)) | ((with_reducible refine wp_region_ext ?_ ?_ ?_); (kernel_rfl); (kernel_rfl)) | go_big_quiet_step (first | (go_at_call 12; exact quiet_of_ret (c_law06_awake _))) | ((with_reducible refine wpQuiet_nil ?_); intro x1) | (go_at_call 12; refine (c_law06_awake _).mono ?_; intro e w' hh; first | obtain ⟨rfl, y, rfl⟩ := Ret.ext2 hh | obtain ⟨rfl, y, rfl⟩ := Ret.ext hh))
    go_ret
    exact ⟨by simp, (by repeat (first | with_reducible exact Below.refl _ _ | with_reducible refine B_ext ?_ _ | with_reducible refine B_alloc ?_ _ | with_reducible refine Below.drew ?_ | with_reducible refine B_setCell ?_ (by simp) _))⟩
  have h4' : decide (109573 < z) = false := by simpa using h4
  have h1 : 0 ≤ x := by omega
  have h2 : x ≤ y := by omega
  have h3 : y ≤ z := by omega
  have h4 : z ≤ 109573 := by omega
  by_cases h5 : x + 2000 < z
  · go_enter Try.func7, Try.ntmps7
    go_wp2_with (first | ((with_reducible refine wp_region_ext2 ?_ ?_ ?_); (kernel_rfl); (kernel_rfl)) | ((with_reducible refine wp_region_ext ?_ ?_ ?_); (kernel_rfl); (kernel_rfl)) | go_big_quiet_step (first | (go_at_call 12; exact quiet_of_ret (c_law06_awake _))) | ((with_reducible refine wpQuiet_nil ?_); intro x1) | (go_at_call 12; refine (c_law06_awake _).mono ?_; intro e w' hh; first | obtain ⟨rfl, y, rfl⟩ := Ret.ext2 hh | obtain ⟨rfl, y, rfl⟩ := Ret.ext hh))
    go_ret
    exact ⟨by simp, (by repeat (first | with_reducible exact Below.refl _ _ | with_reducible refine B_ext ?_ _ | with_reducible refine B_alloc ?_ _ | with_reducible refine Below.drew ?_ | with_reducible refine B_setCell ?_ (by simp) _))⟩
  have h5' : decide (x + 2000 < z) = false := by simpa using h5
  have hc := cntR_add (we := we) (hs := hs) h1 h2 h3 h4
  have b1 := cntR_bd we hs x y
  have b2 := cntR_bd we hs y z
  by_cases he : (nextR we hs x).2 = 0
  · obtain ⟨f1, f2⟩ := nextR_same he
    have he2 : ((nextR we hs x).2 != 0) = false := by simpa using he
    replace he := hid he
    go_enter Try.func7, Try.ntmps7
    go_wp2_with (first | ((with_reducible refine wp_region_ext2 ?_ ?_ ?_); (kernel_rfl); (kernel_rfl)) | ((with_reducible refine wp_region_ext ?_ ?_ ?_); (kernel_rfl); (kernel_rfl)) | go_big_quiet_step (first | (go_at_call 12; exact quiet_of_ret (c_law06_awake _)) | (go_at_call 21; exact quiet_of_ret (c_workday_Count _ _ hs _ _ _ (by repeat (first | with_reducible assumption | with_reducible refine Ints.ext ?_ _ | with_reducible refine Ints.alloc ?_ _)))) | (go_at_call 13; exact quiet_of_ret (c_workday_Next _ _ hs _ _ (by repeat (first | with_reducible assumption | with_reducible refine Ints.ext ?_ _ | with_reducible refine Ints.alloc ?_ _)))) | (go_at_call 17; exact quiet_of_ret (c_workday_IsWorkday _ _ hs _ _ (by repeat (first | with_reducible assumption | with_reducible refine Ints.ext ?_ _ | with_reducible refine Ints.alloc ?_ _))))) | ((with_reducible refine wpQuiet_nil ?_); intro x1) | (go_at_call 12; refine (c_law06_awake _).mono ?_; intro e w' hh; first | obtain ⟨rfl, y, rfl⟩ := Ret.ext2 hh | obtain ⟨rfl, y, rfl⟩ := Ret.ext hh) | (go_at_call 21; refine (c_workday_Count _ _ hs _ _ _ (by repeat (first | with_reducible assumption | with_reducible refine Ints.ext ?_ _ | with_reducible refine Ints.alloc ?_ _))).mono ?_; intro e w' hh; first | obtain ⟨rfl, y, rfl⟩ := Ret.ext2 hh | obtain ⟨rfl, y, rfl⟩ := Ret.ext hh) | (go_at_call 13; refine (c_workday_Next _ _ hs _ _ (by repeat (first | with_reducible assumption | with_reducible refine Ints.ext ?_ _ | with_reducible refine Ints.alloc ?_ _))).mono ?_; intro e w' hh; first | obtain ⟨rfl, y, rfl⟩ := Ret.ext2 hh | obtain ⟨rfl, y, rfl⟩ := Ret.ext hh) | (go_at_call 17; refine (c_workday_IsWorkday _ _ hs _ _ (by repeat (first | with_reducible assumption | with_reducible refine Ints.ext ?_ _ | with_reducible refine Ints.alloc ?_ _))).mono ?_; intro e w' hh; first | obtain ⟨rfl, y, rfl⟩ := Ret.ext2 hh | obtain ⟨rfl, y, rfl⟩ := Ret.ext hh))
    go_ret
    exact ⟨by simp, (by repeat (first | with_reducible exact Below.refl _ _ | with_reducible refine B_ext ?_ _ | with_reducible refine B_alloc ?_ _ | with_reducible refine Below.drew ?_ | with_reducible refine B_setCell ?_ (by simp) _))⟩
  · have he2 : ((nextR we hs x).2 != 0) = true := by simpa using he
    replace he := hid he
    go_enter Try.func7, Try.ntmps7
    go_wp2_with (first | ((with_reducible refine wp_region_ext2 ?_ ?_ ?_); (kernel_rfl); (kernel_rfl)) | ((with_reducible refine wp_region_ext ?_ ?_ ?_); (kernel_rfl); (kernel_rfl)) | go_big_quiet_step (first | (go_at_call 12; exact quiet_of_ret (c_law06_awake _)) | (go_at_call 21; exact quiet_of_ret (c_workday_Count _ _ hs _ _ _ (by repeat (first | with_reducible assumption | with_reducible refine Ints.ext ?_ _ | with_reducible refine Ints.alloc ?_ _)))) | (go_at_call 13; exact quiet_of_ret (c_workday_Next _ _ hs _ _ (by repeat (first | with_reducible assumption | with_reducible refine Ints.ext ?_ _ | with_reducible refine Ints.alloc ?_ _))))) | ((with_reducible refine wpQuiet_nil ?_); intro x1) | (go_at_call 12; refine (c_law06_awake _).mono ?_; intro e w' hh; first | obtain ⟨rfl, y, rfl⟩ := Ret.ext2 hh | obtain ⟨rfl, y, rfl⟩ := Ret.ext hh) | (go_at_call 21; refine (c_workday_Count _ _ hs _ _ _ (by repeat (first | with_reducible assumption | with_reducible refine Ints.ext ?_ _ | with_reducible refine Ints.alloc ?_ _))).mono ?_; intro e w' hh; first | obtain ⟨rfl, y, rfl⟩ := Ret.ext2 hh | obtain ⟨rfl, y, rfl⟩ := Ret.ext hh) | (go_at_call 13; refine (c_workday_Next _ _ hs _ _ (by repeat (first | with_reducible assumption | with_reducible refine Ints.ext ?_ _ | with_reducible refine Ints.alloc ?_ _))).mono ?_; intro e w' hh; first | obtain ⟨rfl, y, rfl⟩ := Ret.ext2 hh | obtain ⟨rfl, y, rfl⟩ := Ret.ext hh))
    go_ret
    exact ⟨by simp, (by repeat (first | with_reducible exact Below.refl _ _ | with_reducible refine B_ext ?_ _ | with_reducible refine B_alloc ?_ _ | with_reducible refine Below.drew ?_ | with_reducible refine B_setCell ?_ (by simp) _))⟩

end Go.Proofs.Ythalkfjbgldgbaa
