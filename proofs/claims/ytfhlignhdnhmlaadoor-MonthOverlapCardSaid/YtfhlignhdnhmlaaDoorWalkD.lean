/- Walks: the functions of packages date and guerdonref04 on numbers. -/
import Derived.Test.YtfhlignhdnhmlaaDoorWalkA
import Derived.Test.YtfhlignhdnhmlaaDoorDates
set_option linter.unusedSimpArgs false
set_option linter.unusedVariables false
namespace Go.Proofs.YtfhlignhdnhmlaaDoor
open Go.RowKit
attribute [local irreducible] Calls


theorem c_date_IsLeap (y : Int) (w : World) : Calls Tryd.prog 32 #[.int .i64 y] w (Ret (.bool (leapB y)) w) := by
  have e4 := tmod_beq y 4 (by omega)
  have e100 := tmod_beq y 100 (by omega)
  have e400 := tmod_beq y 400 (by omega)
  cases a : decide (y % 4 = 0)
  · have ap : ¬ (y % 4 = 0) := by simpa using a
    have hr := hid (show leapB y = false by simp [leapB, ap])
    rw [a] at e4
    have f4 : (y.tmod 4 != 0) = !(y.tmod 4 == 0) := rfl
    rw [e4] at f4
    clear a ap
    clear e100
    clear e400
    go_enter Tryd.func32, Tryd.ntmps32
    go_wp2_with (first | ((with_reducible refine wp_region_ext2 ?_ ?_ ?_); (kernel_rfl); (kernel_rfl)) | ((with_reducible refine wp_region_ext ?_ ?_ ?_); (kernel_rfl); (kernel_rfl)) | go_big_quiet_step (fail) | ((with_reducible refine wpQuiet_nil ?_); intro x1))
    go_ret
    exact ⟨by rw [hr.out] <;> simp, (by repeat (first | with_reducible exact Below.refl _ _ | with_reducible refine B_ext ?_ _ | with_reducible refine B_alloc ?_ _ | with_reducible refine Below.drew ?_ | with_reducible refine B_set ?_ _ _ _))⟩
  · have ap : y % 4 = 0 := by simpa using a
    cases b : decide (y % 100 = 0)
    · have bp : ¬ (y % 100 = 0) := by simpa using b
      have hr := hid (show leapB y = true by simp [leapB, ap, bp])
      rw [a] at e4
      have f4 : (y.tmod 4 != 0) = !(y.tmod 4 == 0) := rfl
      rw [e4] at f4
      rw [b] at e100
      have f100 : (y.tmod 100 != 0) = !(y.tmod 100 == 0) := rfl
      rw [e100] at f100
      clear a b ap bp
      clear e400
      go_enter Tryd.func32, Tryd.ntmps32
      go_wp2_with (first | ((with_reducible refine wp_region_ext2 ?_ ?_ ?_); (kernel_rfl); (kernel_rfl)) | ((with_reducible refine wp_region_ext ?_ ?_ ?_); (kernel_rfl); (kernel_rfl)) | go_big_quiet_step (fail) | ((with_reducible refine wpQuiet_nil ?_); intro x1))
      go_ret
      exact ⟨by rw [hr.out] <;> simp, (by repeat (first | with_reducible exact Below.refl _ _ | with_reducible refine B_ext ?_ _ | with_reducible refine B_alloc ?_ _ | with_reducible refine Below.drew ?_ | with_reducible refine B_set ?_ _ _ _))⟩
    · have bp : y % 100 = 0 := by simpa using b
      cases c : decide (y % 400 = 0)
      · have cp : ¬ (y % 400 = 0) := by simpa using c
        have hr := hid (show leapB y = false by simp [leapB, ap, bp, cp])
        rw [a] at e4
        have f4 : (y.tmod 4 != 0) = !(y.tmod 4 == 0) := rfl
        rw [e4] at f4
        rw [b] at e100
        have f100 : (y.tmod 100 != 0) = !(y.tmod 100 == 0) := rfl
        rw [e100] at f100
        rw [c] at e400
        have f400 : (y.tmod 400 != 0) = !(y.tmod 400 == 0) := rfl
        rw [e400] at f400
        clear a b c ap bp cp
        go_enter Tryd.func32, Tryd.ntmps32
        go_wp2_with (first | ((with_reducible refine wp_region_ext2 ?_ ?_ ?_); (kernel_rfl); (kernel_rfl)) | ((with_reducible refine wp_region_ext ?_ ?_ ?_); (kernel_rfl); (kernel_rfl)) | go_big_quiet_step (fail) | ((with_reducible refine wpQuiet_nil ?_); intro x1))
        go_ret
        exact ⟨by rw [hr.out] <;> simp, (by repeat (first | with_reducible exact Below.refl _ _ | with_reducible refine B_ext ?_ _ | with_reducible refine B_alloc ?_ _ | with_reducible refine Below.drew ?_ | with_reducible refine B_set ?_ _ _ _))⟩
      · have cp : y % 400 = 0 := by simpa using c
        have hr := hid (show leapB y = true by simp [leapB, ap, bp, cp])
        rw [a] at e4
        have f4 : (y.tmod 4 != 0) = !(y.tmod 4 == 0) := rfl
        rw [e4] at f4
        rw [b] at e100
        have f100 : (y.tmod 100 != 0) = !(y.tmod 100 == 0) := rfl
        rw [e100] at f100
        rw [c] at e400
        have f400 : (y.tmod 400 != 0) = !(y.tmod 400 == 0) := rfl
        rw [e400] at f400
        clear a b c ap bp cp
        go_enter Tryd.func32, Tryd.ntmps32
        go_wp2_with (first | ((with_reducible refine wp_region_ext2 ?_ ?_ ?_); (kernel_rfl); (kernel_rfl)) | ((with_reducible refine wp_region_ext ?_ ?_ ?_); (kernel_rfl); (kernel_rfl)) | go_big_quiet_step (fail) | ((with_reducible refine wpQuiet_nil ?_); intro x1))
        go_ret
        exact ⟨by rw [hr.out] <;> simp, (by repeat (first | with_reducible exact Below.refl _ _ | with_reducible refine B_ext ?_ _ | with_reducible refine B_alloc ?_ _ | with_reducible refine Below.drew ?_ | with_reducible refine B_set ?_ _ _ _))⟩

theorem c_date_daysInYear (y : Int) (w : World) : Calls Tryd.prog 58 #[.int .i64 y] w (Ret (.int .i64 (diy y)) w) := by
  cases a : leapB y
  · have hr := hid (show diy y = 365 by simp [diy, a])
    go_enter Tryd.func58, Tryd.ntmps58
    go_wp2_with (first | ((with_reducible refine wp_region_ext2 ?_ ?_ ?_); (kernel_rfl); (kernel_rfl)) | ((with_reducible refine wp_region_ext ?_ ?_ ?_); (kernel_rfl); (kernel_rfl)) | go_big_quiet_step (first | (go_at_call 32; exact quiet_of_ret (c_date_IsLeap _ _))) | ((with_reducible refine wpQuiet_nil ?_); intro x1) | (go_at_call 32; refine (c_date_IsLeap _ _).mono ?_; intro e w' hh; first | obtain ⟨rfl, yw, rfl⟩ := Ret.ext2 hh | obtain ⟨rfl, yw, rfl⟩ := Ret.ext hh))
    go_ret
    exact ⟨by rw [hr.out] <;> simp, (by repeat (first | with_reducible exact Below.refl _ _ | with_reducible refine B_ext ?_ _ | with_reducible refine B_alloc ?_ _ | with_reducible refine Below.drew ?_ | with_reducible refine B_set ?_ _ _ _))⟩
  · have hr := hid (show diy y = 366 by simp [diy, a])
    go_enter Tryd.func58, Tryd.ntmps58
    go_wp2_with (first | ((with_reducible refine wp_region_ext2 ?_ ?_ ?_); (kernel_rfl); (kernel_rfl)) | ((with_reducible refine wp_region_ext ?_ ?_ ?_); (kernel_rfl); (kernel_rfl)) | go_big_quiet_step (first | (go_at_call 32; exact quiet_of_ret (c_date_IsLeap _ _))) | ((with_reducible refine wpQuiet_nil ?_); intro x1) | (go_at_call 32; refine (c_date_IsLeap _ _).mono ?_; intro e w' hh; first | obtain ⟨rfl, yw, rfl⟩ := Ret.ext2 hh | obtain ⟨rfl, yw, rfl⟩ := Ret.ext hh))
    go_ret
    exact ⟨by rw [hr.out] <;> simp, (by repeat (first | with_reducible exact Below.refl _ _ | with_reducible refine B_ext ?_ _ | with_reducible refine B_alloc ?_ _ | with_reducible refine Below.drew ?_ | with_reducible refine B_set ?_ _ _ _))⟩

theorem c_ref04_IsLeap (y : Int) (w : World) : Calls Tryd.prog 33 #[.int .i64 y] w (Ret (.bool (leapB y)) w) := by
  have e4 := tmod_beq y 4 (by omega)
  have e100 := tmod_beq y 100 (by omega)
  have e400 := tmod_beq y 400 (by omega)
  cases a : decide (y % 4 = 0)
  · have ap : ¬ (y % 4 = 0) := by simpa using a
    have hr := hid (show leapB y = false by simp [leapB, ap])
    rw [a] at e4
    have f4 : (y.tmod 4 != 0) = !(y.tmod 4 == 0) := rfl
    rw [e4] at f4
    clear a ap
    clear e100
    clear e400
    go_enter Tryd.func33, Tryd.ntmps33
    go_wp2_with (first | ((with_reducible refine wp_region_ext2 ?_ ?_ ?_); (kernel_rfl); (kernel_rfl)) | ((with_reducible refine wp_region_ext ?_ ?_ ?_); (kernel_rfl); (kernel_rfl)) | go_big_quiet_step (fail) | ((with_reducible refine wpQuiet_nil ?_); intro x1))
    go_ret
    exact ⟨by rw [hr.out] <;> simp, (by repeat (first | with_reducible exact Below.refl _ _ | with_reducible refine B_ext ?_ _ | with_reducible refine B_alloc ?_ _ | with_reducible refine Below.drew ?_ | with_reducible refine B_set ?_ _ _ _))⟩
  · have ap : y % 4 = 0 := by simpa using a
    cases b : decide (y % 100 = 0)
    · have bp : ¬ (y % 100 = 0) := by simpa using b
      have hr := hid (show leapB y = true by simp [leapB, ap, bp])
      rw [a] at e4
      have f4 : (y.tmod 4 != 0) = !(y.tmod 4 == 0) := rfl
      rw [e4] at f4
      rw [b] at e100
      have f100 : (y.tmod 100 != 0) = !(y.tmod 100 == 0) := rfl
      rw [e100] at f100
      clear a b ap bp
      clear e400
      go_enter Tryd.func33, Tryd.ntmps33
      go_wp2_with (first | ((with_reducible refine wp_region_ext2 ?_ ?_ ?_); (kernel_rfl); (kernel_rfl)) | ((with_reducible refine wp_region_ext ?_ ?_ ?_); (kernel_rfl); (kernel_rfl)) | go_big_quiet_step (fail) | ((with_reducible refine wpQuiet_nil ?_); intro x1))
      go_ret
      exact ⟨by rw [hr.out] <;> simp, (by repeat (first | with_reducible exact Below.refl _ _ | with_reducible refine B_ext ?_ _ | with_reducible refine B_alloc ?_ _ | with_reducible refine Below.drew ?_ | with_reducible refine B_set ?_ _ _ _))⟩
    · have bp : y % 100 = 0 := by simpa using b
      cases c : decide (y % 400 = 0)
      · have cp : ¬ (y % 400 = 0) := by simpa using c
        have hr := hid (show leapB y = false by simp [leapB, ap, bp, cp])
        rw [a] at e4
        have f4 : (y.tmod 4 != 0) = !(y.tmod 4 == 0) := rfl
        rw [e4] at f4
        rw [b] at e100
        have f100 : (y.tmod 100 != 0) = !(y.tmod 100 == 0) := rfl
        rw [e100] at f100
        rw [c] at e400
        have f400 : (y.tmod 400 != 0) = !(y.tmod 400 == 0) := rfl
        rw [e400] at f400
        clear a b c ap bp cp
        go_enter Tryd.func33, Tryd.ntmps33
        go_wp2_with (first | ((with_reducible refine wp_region_ext2 ?_ ?_ ?_); (kernel_rfl); (kernel_rfl)) | ((with_reducible refine wp_region_ext ?_ ?_ ?_); (kernel_rfl); (kernel_rfl)) | go_big_quiet_step (fail) | ((with_reducible refine wpQuiet_nil ?_); intro x1))
        go_ret
        exact ⟨by rw [hr.out] <;> simp, (by repeat (first | with_reducible exact Below.refl _ _ | with_reducible refine B_ext ?_ _ | with_reducible refine B_alloc ?_ _ | with_reducible refine Below.drew ?_ | with_reducible refine B_set ?_ _ _ _))⟩
      · have cp : y % 400 = 0 := by simpa using c
        have hr := hid (show leapB y = true by simp [leapB, ap, bp, cp])
        rw [a] at e4
        have f4 : (y.tmod 4 != 0) = !(y.tmod 4 == 0) := rfl
        rw [e4] at f4
        rw [b] at e100
        have f100 : (y.tmod 100 != 0) = !(y.tmod 100 == 0) := rfl
        rw [e100] at f100
        rw [c] at e400
        have f400 : (y.tmod 400 != 0) = !(y.tmod 400 == 0) := rfl
        rw [e400] at f400
        clear a b c ap bp cp
        go_enter Tryd.func33, Tryd.ntmps33
        go_wp2_with (first | ((with_reducible refine wp_region_ext2 ?_ ?_ ?_); (kernel_rfl); (kernel_rfl)) | ((with_reducible refine wp_region_ext ?_ ?_ ?_); (kernel_rfl); (kernel_rfl)) | go_big_quiet_step (fail) | ((with_reducible refine wpQuiet_nil ?_); intro x1))
        go_ret
        exact ⟨by rw [hr.out] <;> simp, (by repeat (first | with_reducible exact Below.refl _ _ | with_reducible refine B_ext ?_ _ | with_reducible refine B_alloc ?_ _ | with_reducible refine Below.drew ?_ | with_reducible refine B_set ?_ _ _ _))⟩

theorem c_ref04_daysInYear (y : Int) (w : World) : Calls Tryd.prog 59 #[.int .i64 y] w (Ret (.int .i64 (diy y)) w) := by
  cases a : leapB y
  · have hr := hid (show diy y = 365 by simp [diy, a])
    go_enter Tryd.func59, Tryd.ntmps59
    go_wp2_with (first | ((with_reducible refine wp_region_ext2 ?_ ?_ ?_); (kernel_rfl); (kernel_rfl)) | ((with_reducible refine wp_region_ext ?_ ?_ ?_); (kernel_rfl); (kernel_rfl)) | go_big_quiet_step (first | (go_at_call 33; exact quiet_of_ret (c_ref04_IsLeap _ _))) | ((with_reducible refine wpQuiet_nil ?_); intro x1) | (go_at_call 33; refine (c_ref04_IsLeap _ _).mono ?_; intro e w' hh; first | obtain ⟨rfl, yw, rfl⟩ := Ret.ext2 hh | obtain ⟨rfl, yw, rfl⟩ := Ret.ext hh))
    go_ret
    exact ⟨by rw [hr.out] <;> simp, (by repeat (first | with_reducible exact Below.refl _ _ | with_reducible refine B_ext ?_ _ | with_reducible refine B_alloc ?_ _ | with_reducible refine Below.drew ?_ | with_reducible refine B_set ?_ _ _ _))⟩
  · have hr := hid (show diy y = 366 by simp [diy, a])
    go_enter Tryd.func59, Tryd.ntmps59
    go_wp2_with (first | ((with_reducible refine wp_region_ext2 ?_ ?_ ?_); (kernel_rfl); (kernel_rfl)) | ((with_reducible refine wp_region_ext ?_ ?_ ?_); (kernel_rfl); (kernel_rfl)) | go_big_quiet_step (first | (go_at_call 33; exact quiet_of_ret (c_ref04_IsLeap _ _))) | ((with_reducible refine wpQuiet_nil ?_); intro x1) | (go_at_call 33; refine (c_ref04_IsLeap _ _).mono ?_; intro e w' hh; first | obtain ⟨rfl, yw, rfl⟩ := Ret.ext2 hh | obtain ⟨rfl, yw, rfl⟩ := Ret.ext hh))
    go_ret
    exact ⟨by rw [hr.out] <;> simp, (by repeat (first | with_reducible exact Below.refl _ _ | with_reducible refine B_ext ?_ _ | with_reducible refine B_alloc ?_ _ | with_reducible refine Below.drew ?_ | with_reducible refine B_set ?_ _ _ _))⟩

theorem c_ref04_Valid (d : Int) (w : World) : Calls Tryd.prog 61 #[.int .i64 d] w (Ret (.bool (vdB d)) w) := by
  unfold vdB
  go_enter Tryd.func61, Tryd.ntmps61
  go_wp2
  all_goals go_ret
  all_goals (refine ⟨?_, Below.refl _ _⟩; simp_all <;> omega)
set_option maxHeartbeats 1000000 in
theorem c_date_DaysInMonth (y m : Int) (w : World) : Calls Tryd.prog 34 #[.int .i64 y, .int .i64 m] w (Ret (.int .i64 (dim y m)) w) := by
  by_cases h1 : m < 1
  · have hr := hid (show dim y m = 0 from dim_out (.inl h1))
    go_enter Tryd.func34, Tryd.ntmps34
    go_wp2_with (first | ((with_reducible refine wp_region_ext2 ?_ ?_ ?_); (kernel_rfl); (kernel_rfl)) | ((with_reducible refine wp_region_ext ?_ ?_ ?_); (kernel_rfl); (kernel_rfl)) | go_big_quiet_step (first | (go_at_call 32; exact quiet_of_ret (c_date_IsLeap _ _))) | ((with_reducible refine wpQuiet_nil ?_); intro x1) | (go_at_call 32; refine (c_date_IsLeap _ _).mono ?_; intro e w' hh; first | obtain ⟨rfl, yw, rfl⟩ := Ret.ext2 hh | obtain ⟨rfl, yw, rfl⟩ := Ret.ext hh))
    go_ret
    exact ⟨by rw [hr.out] <;> simp, (by repeat (first | with_reducible exact Below.refl _ _ | with_reducible refine B_ext ?_ _ | with_reducible refine B_alloc ?_ _ | with_reducible refine Below.drew ?_ | with_reducible refine B_set ?_ _ _ _))⟩
  by_cases h2 : 12 < m
  · have hr := hid (show dim y m = 0 from dim_out (.inr h2))
    go_enter Tryd.func34, Tryd.ntmps34
    go_wp2_with (first | ((with_reducible refine wp_region_ext2 ?_ ?_ ?_); (kernel_rfl); (kernel_rfl)) | ((with_reducible refine wp_region_ext ?_ ?_ ?_); (kernel_rfl); (kernel_rfl)) | go_big_quiet_step (first | (go_at_call 32; exact quiet_of_ret (c_date_IsLeap _ _))) | ((with_reducible refine wpQuiet_nil ?_); intro x1) | (go_at_call 32; refine (c_date_IsLeap _ _).mono ?_; intro e w' hh; first | obtain ⟨rfl, yw, rfl⟩ := Ret.ext2 hh | obtain ⟨rfl, yw, rfl⟩ := Ret.ext hh))
    go_ret
    exact ⟨by rw [hr.out] <;> simp, (by repeat (first | with_reducible exact Below.refl _ _ | with_reducible refine B_ext ?_ _ | with_reducible refine B_alloc ?_ _ | with_reducible refine Below.drew ?_ | with_reducible refine B_set ?_ _ _ _))⟩
  have : m = 1 ∨ m = 2 ∨ m = 3 ∨ m = 4 ∨ m = 5 ∨ m = 6 ∨ m = 7 ∨ m = 8 ∨ m = 9 ∨ m = 10 ∨ m = 11 ∨ m = 12 := by omega
  clear h1 h2
  rcases this with rfl | rfl | rfl | rfl | rfl | rfl | rfl | rfl | rfl | rfl | rfl | rfl
  all_goals
    cases hl : leapB y
    all_goals
      go_enter Tryd.func34, Tryd.ntmps34
      go_wp2_with (first | ((with_reducible refine wp_region_ext2 ?_ ?_ ?_); (kernel_rfl); (kernel_rfl)) | ((with_reducible refine wp_region_ext ?_ ?_ ?_); (kernel_rfl); (kernel_rfl)) | go_big_quiet_step (first | (go_at_call 32; exact quiet_of_ret (c_date_IsLeap _ _))) | ((with_reducible refine wpQuiet_nil ?_); intro x1) | (go_at_call 32; refine (c_date_IsLeap _ _).mono ?_; intro e w' hh; first | obtain ⟨rfl, yw, rfl⟩ := Ret.ext2 hh | obtain ⟨rfl, yw, rfl⟩ := Ret.ext hh))
      go_ret
      exact ⟨by simp [dim, hl], (by repeat (first | with_reducible exact Below.refl _ _ | with_reducible refine B_ext ?_ _ | with_reducible refine B_alloc ?_ _ | with_reducible refine Below.drew ?_ | with_reducible refine B_set ?_ _ _ _))⟩
set_option maxHeartbeats 1000000 in
theorem c_ref04_DaysInMonth (y m : Int) (w : World) : Calls Tryd.prog 35 #[.int .i64 y, .int .i64 m] w (Ret (.int .i64 (dim y m)) w) := by
  by_cases h : 1 ≤ m ∧ m ≤ 12
  · have : m = 1 ∨ m = 2 ∨ m = 3 ∨ m = 4 ∨ m = 5 ∨ m = 6 ∨ m = 7 ∨ m = 8 ∨ m = 9 ∨ m = 10 ∨ m = 11 ∨ m = 12 := by omega
    clear h
    rcases this with rfl | rfl | rfl | rfl | rfl | rfl | rfl | rfl | rfl | rfl | rfl | rfl
    all_goals
      cases hl : leapB y
      all_goals
        go_enter Tryd.func35, Tryd.ntmps35
        go_wp2_with (first | ((with_reducible refine wp_region_ext2 ?_ ?_ ?_); (kernel_rfl); (kernel_rfl)) | ((with_reducible refine wp_region_ext ?_ ?_ ?_); (kernel_rfl); (kernel_rfl)) | go_big_quiet_step (first | (go_at_call 33; exact quiet_of_ret (c_ref04_IsLeap _ _))) | ((with_reducible refine wpQuiet_nil ?_); intro x1) | (go_at_call 33; refine (c_ref04_IsLeap _ _).mono ?_; intro e w' hh; first | obtain ⟨rfl, yw, rfl⟩ := Ret.ext2 hh | obtain ⟨rfl, yw, rfl⟩ := Ret.ext hh))
        go_ret
        exact ⟨by simp [dim, hl], (by repeat (first | with_reducible exact Below.refl _ _ | with_reducible refine B_ext ?_ _ | with_reducible refine B_alloc ?_ _ | with_reducible refine Below.drew ?_ | with_reducible refine B_set ?_ _ _ _))⟩
  · have hr := hid (show dim y m = 0 from dim_out (by omega))
    have n : ∀ k : Int, 1 ≤ k → k ≤ 12 → (m == k) = false := fun k h1 h2 => by simp; omega
    have n1 := n 1 (by omega) (by omega)
    have n2 := n 2 (by omega) (by omega)
    have n3 := n 3 (by omega) (by omega)
    have n4 := n 4 (by omega) (by omega)
    have n5 := n 5 (by omega) (by omega)
    have n6 := n 6 (by omega) (by omega)
    have n7 := n 7 (by omega) (by omega)
    have n8 := n 8 (by omega) (by omega)
    have n9 := n 9 (by omega) (by omega)
    have n10 := n 10 (by omega) (by omega)
    have n11 := n 11 (by omega) (by omega)
    have n12 := n 12 (by omega) (by omega)
    clear n h
    go_enter Tryd.func35, Tryd.ntmps35
    go_wp2_with (first | ((with_reducible refine wp_region_ext2 ?_ ?_ ?_); (kernel_rfl); (kernel_rfl)) | ((with_reducible refine wp_region_ext ?_ ?_ ?_); (kernel_rfl); (kernel_rfl)) | go_big_quiet_step (first | (go_at_call 33; exact quiet_of_ret (c_ref04_IsLeap _ _))) | ((with_reducible refine wpQuiet_nil ?_); intro x1) | (go_at_call 33; refine (c_ref04_IsLeap _ _).mono ?_; intro e w' hh; first | obtain ⟨rfl, yw, rfl⟩ := Ret.ext2 hh | obtain ⟨rfl, yw, rfl⟩ := Ret.ext hh))
    go_ret
    exact ⟨by rw [hr.out] <;> simp, (by repeat (first | with_reducible exact Below.refl _ _ | with_reducible refine B_ext ?_ _ | with_reducible refine B_alloc ?_ _ | with_reducible refine Below.drew ?_ | with_reducible refine B_set ?_ _ _ _))⟩

set_option maxHeartbeats 1000000 in
theorem c_date_FromYMD (y m d : Int) (w : World) : Calls Tryd.prog 28 #[.int .i64 y, .int .i64 m, .int .i64 d] w (Ret (.tuple #[.int .i64 (fromR y m d).1, .int .i64 (fromR y m d).2]) w) := by
  cases a : decide (y < 1900)
  · have ap : ¬ (y < 1900) := by simpa using a
    cases b : decide (2199 < y)
    · have bp : ¬ (2199 < y) := by simpa using b
      cases c : decide (d < 1)
      · have cp : ¬ (d < 1) := by simpa using c
        cases e : decide (dim y m < d)
        · have ep : ¬ (dim y m < d) := by simpa using e
          have hr := hid (show fromR y m d = (num y m d, 0) by
            have hb : ymdB y m d = true := by simp [ymdB]; omega
            simp [fromR, hb])
          have hm1 : 1 ≤ m ∧ m ≤ 12 := by
            have : ¬ (m < 1 ∨ 12 < m) := fun hm => by have := dim_out (y := y) hm; omega
            omega
          obtain ⟨hm1, hm2⟩ := hm1
          have bdim := dim_nn y m
          go_enter Tryd.func28, Tryd.ntmps28
          go_wp2_with (first | ((with_reducible refine wp_region_ext2 ?_ ?_ ?_); (kernel_rfl); (kernel_rfl)) | ((with_reducible refine wp_region_ext ?_ ?_ ?_); (kernel_rfl); (kernel_rfl)) | go_big_quiet_step (first | (go_at_call 34; exact quiet_of_ret (c_date_DaysInMonth _ _ _)) | (go_at_call 58; exact quiet_of_ret (c_date_daysInYear _ _))) | ((with_reducible refine wpQuiet_nil ?_); intro x1) | (go_at_call 34; refine (c_date_DaysInMonth _ _ _).mono ?_; intro e w' hh; first | obtain ⟨rfl, yw, rfl⟩ := Ret.ext2 hh | obtain ⟨rfl, yw, rfl⟩ := Ret.ext hh) | (go_at_call 58; refine (c_date_daysInYear _ _).mono ?_; intro e w' hh; first | obtain ⟨rfl, yw, rfl⟩ := Ret.ext2 hh | obtain ⟨rfl, yw, rfl⟩ := Ret.ext hh))
          go_loopw [8, 32] (fun n i wr => ∃ x, wr = ext w x ∧ ∃ k : Nat, (k : Int) ≤ y - 1900 ∧ i = .int .i64 k ∧ n = .int .i64 (d - 1 + dby (1900 + (k : Int)))) (fun _ i _ => (y - 1900 - intOf i).toNat)
          case atStart => exact ⟨_, by first | exact ext_self _ | rfl, 0, by omega, rfl, by simp [dby_1900]⟩
          case round =>
            obtain ⟨x, rfl, k, hk, rfl, rfl⟩ := hrel
            have b0 := dby_mono (a := 1900) (b := 1900 + (k : Int)) (by omega)
            have b1 := dby_mono (a := 1900 + (k : Int)) (b := 2200) (by omega)
            rw [dby_1900] at b0; rw [dby_2200] at b1
            have b2 := diy_bd (1900 + (k : Int))
            by_cases hlt : (k : Int) < y - 1900
            · have hs := hid (dby_succ (1900 + (k : Int)))
              go_wp2_with (first | ((with_reducible refine wp_region_ext2 ?_ ?_ ?_); (kernel_rfl); (kernel_rfl)) | ((with_reducible refine wp_region_ext ?_ ?_ ?_); (kernel_rfl); (kernel_rfl)) | go_big_quiet_step (first | (go_at_call 34; exact quiet_of_ret (c_date_DaysInMonth _ _ _)) | (go_at_call 58; exact quiet_of_ret (c_date_daysInYear _ _))) | ((with_reducible refine wpQuiet_nil ?_); intro x1) | (go_at_call 34; refine (c_date_DaysInMonth _ _ _).mono ?_; intro e w' hh; first | obtain ⟨rfl, yw, rfl⟩ := Ret.ext2 hh | obtain ⟨rfl, yw, rfl⟩ := Ret.ext hh) | (go_at_call 58; refine (c_date_daysInYear _ _).mono ?_; intro e w' hh; first | obtain ⟨rfl, yw, rfl⟩ := Ret.ext2 hh | obtain ⟨rfl, yw, rfl⟩ := Ret.ext hh))
              go_roundw
              case rel => exact ⟨_, rfl, k + 1, by omega, by go_num, by rw [show (1900 : Int) + ((k + 1 : Nat) : Int) = 1900 + (k : Int) + 1 by omega, hs.out]; go_num⟩
              case measure => simp [intOf]; omega
            · have hky := hid (show (1900 : Int) + (k : Int) = y by omega)
              go_wp2_with (first | ((with_reducible refine wp_region_ext2 ?_ ?_ ?_); (kernel_rfl); (kernel_rfl)) | ((with_reducible refine wp_region_ext ?_ ?_ ?_); (kernel_rfl); (kernel_rfl)) | go_big_quiet_step (first | (go_at_call 34; exact quiet_of_ret (c_date_DaysInMonth _ _ _)) | (go_at_call 58; exact quiet_of_ret (c_date_daysInYear _ _))) | ((with_reducible refine wpQuiet_nil ?_); intro x1) | (go_at_call 34; refine (c_date_DaysInMonth _ _ _).mono ?_; intro e w' hh; first | obtain ⟨rfl, yw, rfl⟩ := Ret.ext2 hh | obtain ⟨rfl, yw, rfl⟩ := Ret.ext hh) | (go_at_call 58; refine (c_date_daysInYear _ _).mono ?_; intro e w' hh; first | obtain ⟨rfl, yw, rfl⟩ := Ret.ext2 hh | obtain ⟨rfl, yw, rfl⟩ := Ret.ext hh))
              go_loopw [8, 43] (fun n i wr => ∃ x, wr = ext w x ∧ ∃ k : Nat, (k : Int) ≤ m - 1 ∧ i = .int .i64 k ∧ n = .int .i64 (d - 1 + dby y + cum y ((k : Int) + 1))) (fun _ i _ => (m - 1 - intOf i).toNat)
              case atStart => exact ⟨_, rfl, 0, by omega, rfl, by rw [hky.out]; simp [cum_1]⟩
              case round =>
                obtain ⟨x, rfl, j, hj, rfl, rfl⟩ := hrel
                clear b0 b1 b2 hlt hk
                have b0 := dby_mono (a := 1900) (b := y) (by omega)
                have b1 := dby_mono (a := y) (b := 2200) (by omega)
                rw [dby_1900] at b0; rw [dby_2200] at b1
                have b2 := cum_mono (y := y) (a := 1) (b := (j : Int) + 1) (by omega) (by omega) (by omega)
                have b3 := cum_mono (y := y) (a := (j : Int) + 1) (b := 13) (by omega) (by omega) (by omega)
                rw [cum_1] at b2; rw [cum_13] at b3
                have b4 := diy_bd y
                have b5 := dim_nn y ((j : Int) + 1)
                by_cases hlt : (j : Int) < m - 1
                · have hs := hid (cum_succ (y := y) (m := (j : Int) + 1) (by omega) (by omega))
                  go_wp2_with (first | ((with_reducible refine wp_region_ext2 ?_ ?_ ?_); (kernel_rfl); (kernel_rfl)) | ((with_reducible refine wp_region_ext ?_ ?_ ?_); (kernel_rfl); (kernel_rfl)) | go_big_quiet_step (first | (go_at_call 34; exact quiet_of_ret (c_date_DaysInMonth _ _ _)) | (go_at_call 58; exact quiet_of_ret (c_date_daysInYear _ _))) | ((with_reducible refine wpQuiet_nil ?_); intro x1) | (go_at_call 34; refine (c_date_DaysInMonth _ _ _).mono ?_; intro e w' hh; first | obtain ⟨rfl, yw, rfl⟩ := Ret.ext2 hh | obtain ⟨rfl, yw, rfl⟩ := Ret.ext hh) | (go_at_call 58; refine (c_date_daysInYear _ _).mono ?_; intro e w' hh; first | obtain ⟨rfl, yw, rfl⟩ := Ret.ext2 hh | obtain ⟨rfl, yw, rfl⟩ := Ret.ext hh))
                  go_roundw
                  case rel => exact ⟨_, rfl, j + 1, by omega, by go_num, by rw [show ((j + 1 : Nat) : Int) + 1 = (j : Int) + 1 + 1 by omega, hs.out]; go_num⟩
                  case measure => simp [intOf]; omega
                · have hjm := hid (show (j : Int) + 1 = m by omega)
                  go_wp2_with (first | ((with_reducible refine wp_region_ext2 ?_ ?_ ?_); (kernel_rfl); (kernel_rfl)) | ((with_reducible refine wp_region_ext ?_ ?_ ?_); (kernel_rfl); (kernel_rfl)) | go_big_quiet_step (first | (go_at_call 34; exact quiet_of_ret (c_date_DaysInMonth _ _ _)) | (go_at_call 58; exact quiet_of_ret (c_date_daysInYear _ _))) | ((with_reducible refine wpQuiet_nil ?_); intro x1) | (go_at_call 34; refine (c_date_DaysInMonth _ _ _).mono ?_; intro e w' hh; first | obtain ⟨rfl, yw, rfl⟩ := Ret.ext2 hh | obtain ⟨rfl, yw, rfl⟩ := Ret.ext hh) | (go_at_call 58; refine (c_date_daysInYear _ _).mono ?_; intro e w' hh; first | obtain ⟨rfl, yw, rfl⟩ := Ret.ext2 hh | obtain ⟨rfl, yw, rfl⟩ := Ret.ext hh))
                  go_ret2
                  exact ⟨by rw [hr.out]; simp [num]; rw [hjm.out]; omega, (by repeat (first | with_reducible exact Below.refl _ _ | with_reducible refine B_ext ?_ _ | with_reducible refine B_alloc ?_ _ | with_reducible refine Below.drew ?_ | with_reducible refine B_set ?_ _ _ _))⟩
        · have ep : dim y m < d := by simpa using e
          have hr := hid (show fromR y m d = (0, 3) by
            have hb : ymdB y m d = false := by simp [ymdB]; omega
            simp [fromR, hb])
          go_enter Tryd.func28, Tryd.ntmps28
          go_wp2_with (first | ((with_reducible refine wp_region_ext2 ?_ ?_ ?_); (kernel_rfl); (kernel_rfl)) | ((with_reducible refine wp_region_ext ?_ ?_ ?_); (kernel_rfl); (kernel_rfl)) | go_big_quiet_step (first | (go_at_call 34; exact quiet_of_ret (c_date_DaysInMonth _ _ _)) | (go_at_call 58; exact quiet_of_ret (c_date_daysInYear _ _))) | ((with_reducible refine wpQuiet_nil ?_); intro x1) | (go_at_call 34; refine (c_date_DaysInMonth _ _ _).mono ?_; intro e w' hh; first | obtain ⟨rfl, yw, rfl⟩ := Ret.ext2 hh | obtain ⟨rfl, yw, rfl⟩ := Ret.ext hh) | (go_at_call 58; refine (c_date_daysInYear _ _).mono ?_; intro e w' hh; first | obtain ⟨rfl, yw, rfl⟩ := Ret.ext2 hh | obtain ⟨rfl, yw, rfl⟩ := Ret.ext hh))
          go_ret2
          exact ⟨by rw [hr.out] <;> simp, (by repeat (first | with_reducible exact Below.refl _ _ | with_reducible refine B_ext ?_ _ | with_reducible refine B_alloc ?_ _ | with_reducible refine Below.drew ?_ | with_reducible refine B_set ?_ _ _ _))⟩
      · have cp : d < 1 := by simpa using c
        have hr := hid (show fromR y m d = (0, 3) by
          have hb : ymdB y m d = false := by simp [ymdB]; omega
          simp [fromR, hb])
        go_enter Tryd.func28, Tryd.ntmps28
        go_wp2_with (first | ((with_reducible refine wp_region_ext2 ?_ ?_ ?_); (kernel_rfl); (kernel_rfl)) | ((with_reducible refine wp_region_ext ?_ ?_ ?_); (kernel_rfl); (kernel_rfl)) | go_big_quiet_step (first | (go_at_call 34; exact quiet_of_ret (c_date_DaysInMonth _ _ _)) | (go_at_call 58; exact quiet_of_ret (c_date_daysInYear _ _))) | ((with_reducible refine wpQuiet_nil ?_); intro x1) | (go_at_call 34; refine (c_date_DaysInMonth _ _ _).mono ?_; intro e w' hh; first | obtain ⟨rfl, yw, rfl⟩ := Ret.ext2 hh | obtain ⟨rfl, yw, rfl⟩ := Ret.ext hh) | (go_at_call 58; refine (c_date_daysInYear _ _).mono ?_; intro e w' hh; first | obtain ⟨rfl, yw, rfl⟩ := Ret.ext2 hh | obtain ⟨rfl, yw, rfl⟩ := Ret.ext hh))
        go_ret2
        exact ⟨by rw [hr.out] <;> simp, (by repeat (first | with_reducible exact Below.refl _ _ | with_reducible refine B_ext ?_ _ | with_reducible refine B_alloc ?_ _ | with_reducible refine Below.drew ?_ | with_reducible refine B_set ?_ _ _ _))⟩
    · have bp : 2199 < y := by simpa using b
      have hr := hid (show fromR y m d = (0, 3) by
        have hb : ymdB y m d = false := by simp [ymdB]; omega
        simp [fromR, hb])
      go_enter Tryd.func28, Tryd.ntmps28
      go_wp2_with (first | ((with_reducible refine wp_region_ext2 ?_ ?_ ?_); (kernel_rfl); (kernel_rfl)) | ((with_reducible refine wp_region_ext ?_ ?_ ?_); (kernel_rfl); (kernel_rfl)) | go_big_quiet_step (first | (go_at_call 34; exact quiet_of_ret (c_date_DaysInMonth _ _ _)) | (go_at_call 58; exact quiet_of_ret (c_date_daysInYear _ _))) | ((with_reducible refine wpQuiet_nil ?_); intro x1) | (go_at_call 34; refine (c_date_DaysInMonth _ _ _).mono ?_; intro e w' hh; first | obtain ⟨rfl, yw, rfl⟩ := Ret.ext2 hh | obtain ⟨rfl, yw, rfl⟩ := Ret.ext hh) | (go_at_call 58; refine (c_date_daysInYear _ _).mono ?_; intro e w' hh; first | obtain ⟨rfl, yw, rfl⟩ := Ret.ext2 hh | obtain ⟨rfl, yw, rfl⟩ := Ret.ext hh))
      go_ret2
      exact ⟨by rw [hr.out] <;> simp, (by repeat (first | with_reducible exact Below.refl _ _ | with_reducible refine B_ext ?_ _ | with_reducible refine B_alloc ?_ _ | with_reducible refine Below.drew ?_ | with_reducible refine B_set ?_ _ _ _))⟩
  · have ap : y < 1900 := by simpa using a
    have hr := hid (show fromR y m d = (0, 3) by
      have hb : ymdB y m d = false := by simp [ymdB]; omega
      simp [fromR, hb])
    go_enter Tryd.func28, Tryd.ntmps28
    go_wp2_with (first | ((with_reducible refine wp_region_ext2 ?_ ?_ ?_); (kernel_rfl); (kernel_rfl)) | ((with_reducible refine wp_region_ext ?_ ?_ ?_); (kernel_rfl); (kernel_rfl)) | go_big_quiet_step (first | (go_at_call 34; exact quiet_of_ret (c_date_DaysInMonth _ _ _)) | (go_at_call 58; exact quiet_of_ret (c_date_daysInYear _ _))) | ((with_reducible refine wpQuiet_nil ?_); intro x1) | (go_at_call 34; refine (c_date_DaysInMonth _ _ _).mono ?_; intro e w' hh; first | obtain ⟨rfl, yw, rfl⟩ := Ret.ext2 hh | obtain ⟨rfl, yw, rfl⟩ := Ret.ext hh) | (go_at_call 58; refine (c_date_daysInYear _ _).mono ?_; intro e w' hh; first | obtain ⟨rfl, yw, rfl⟩ := Ret.ext2 hh | obtain ⟨rfl, yw, rfl⟩ := Ret.ext hh))
    go_ret2
    exact ⟨by rw [hr.out] <;> simp, (by repeat (first | with_reducible exact Below.refl _ _ | with_reducible refine B_ext ?_ _ | with_reducible refine B_alloc ?_ _ | with_reducible refine Below.drew ?_ | with_reducible refine B_set ?_ _ _ _))⟩

set_option maxHeartbeats 1000000 in
theorem c_ref04_FromYMD (y m d : Int) (w : World) : Calls Tryd.prog 29 #[.int .i64 y, .int .i64 m, .int .i64 d] w (Ret (.tuple #[.int .i64 (fromR y m d).1, .int .i64 (fromR y m d).2]) w) := by
  cases a : decide (y < 1900)
  · have ap : ¬ (y < 1900) := by simpa using a
    cases b : decide (2199 < y)
    · have bp : ¬ (2199 < y) := by simpa using b
      cases c : decide (d < 1)
      · have cp : ¬ (d < 1) := by simpa using c
        cases e : decide (dim y m < d)
        · have ep : ¬ (dim y m < d) := by simpa using e
          have hr := hid (show fromR y m d = (num y m d, 0) by
            have hb : ymdB y m d = true := by simp [ymdB]; omega
            simp [fromR, hb])
          have hm1 : 1 ≤ m ∧ m ≤ 12 := by
            have : ¬ (m < 1 ∨ 12 < m) := fun hm => by have := dim_out (y := y) hm; omega
            omega
          obtain ⟨hm1, hm2⟩ := hm1
          have bdim := dim_nn y m
          go_enter Tryd.func29, Tryd.ntmps29
          go_wp2_with (first | ((with_reducible refine wp_region_ext2 ?_ ?_ ?_); (kernel_rfl); (kernel_rfl)) | ((with_reducible refine wp_region_ext ?_ ?_ ?_); (kernel_rfl); (kernel_rfl)) | go_big_quiet_step (first | (go_at_call 35; exact quiet_of_ret (c_ref04_DaysInMonth _ _ _)) | (go_at_call 59; exact quiet_of_ret (c_ref04_daysInYear _ _))) | ((with_reducible refine wpQuiet_nil ?_); intro x1) | (go_at_call 35; refine (c_ref04_DaysInMonth _ _ _).mono ?_; intro e w' hh; first | obtain ⟨rfl, yw, rfl⟩ := Ret.ext2 hh | obtain ⟨rfl, yw, rfl⟩ := Ret.ext hh) | (go_at_call 59; refine (c_ref04_daysInYear _ _).mono ?_; intro e w' hh; first | obtain ⟨rfl, yw, rfl⟩ := Ret.ext2 hh | obtain ⟨rfl, yw, rfl⟩ := Ret.ext hh))
          go_loopw [8, 9] (fun n i wr => ∃ x, wr = ext w x ∧ ∃ k : Int, 1900 ≤ k ∧ k ≤ y ∧ i = .int .i64 k ∧ n = .int .i64 (d - 1 + dby k)) (fun _ i _ => (y - intOf i).toNat)
          case atStart => exact ⟨_, by first | exact ext_self _ | rfl, 1900, by omega, by omega, rfl, by simp [dby_1900]⟩
          case round =>
            obtain ⟨x, rfl, k, hk1, hk, rfl, rfl⟩ := hrel
            have b0 := dby_mono (a := 1900) (b := k) (by omega)
            have b1 := dby_mono (a := k) (b := 2200) (by omega)
            rw [dby_1900] at b0; rw [dby_2200] at b1
            have b2 := diy_bd k
            by_cases hlt : k < y
            · have hs := hid (dby_succ k)
              go_wp2_with (first | ((with_reducible refine wp_region_ext2 ?_ ?_ ?_); (kernel_rfl); (kernel_rfl)) | ((with_reducible refine wp_region_ext ?_ ?_ ?_); (kernel_rfl); (kernel_rfl)) | go_big_quiet_step (first | (go_at_call 35; exact quiet_of_ret (c_ref04_DaysInMonth _ _ _)) | (go_at_call 59; exact quiet_of_ret (c_ref04_daysInYear _ _))) | ((with_reducible refine wpQuiet_nil ?_); intro x1) | (go_at_call 35; refine (c_ref04_DaysInMonth _ _ _).mono ?_; intro e w' hh; first | obtain ⟨rfl, yw, rfl⟩ := Ret.ext2 hh | obtain ⟨rfl, yw, rfl⟩ := Ret.ext hh) | (go_at_call 59; refine (c_ref04_daysInYear _ _).mono ?_; intro e w' hh; first | obtain ⟨rfl, yw, rfl⟩ := Ret.ext2 hh | obtain ⟨rfl, yw, rfl⟩ := Ret.ext hh))
              go_roundw
              case rel => exact ⟨_, rfl, k + 1, by omega, by omega, rfl, by rw [hs.out]; go_num⟩
              case measure => simp [intOf]; omega
            · have hky := hid (show k = y by omega)
              go_wp2_with (first | ((with_reducible refine wp_region_ext2 ?_ ?_ ?_); (kernel_rfl); (kernel_rfl)) | ((with_reducible refine wp_region_ext ?_ ?_ ?_); (kernel_rfl); (kernel_rfl)) | go_big_quiet_step (first | (go_at_call 35; exact quiet_of_ret (c_ref04_DaysInMonth _ _ _)) | (go_at_call 59; exact quiet_of_ret (c_ref04_daysInYear _ _))) | ((with_reducible refine wpQuiet_nil ?_); intro x1) | (go_at_call 35; refine (c_ref04_DaysInMonth _ _ _).mono ?_; intro e w' hh; first | obtain ⟨rfl, yw, rfl⟩ := Ret.ext2 hh | obtain ⟨rfl, yw, rfl⟩ := Ret.ext hh) | (go_at_call 59; refine (c_ref04_daysInYear _ _).mono ?_; intro e w' hh; first | obtain ⟨rfl, yw, rfl⟩ := Ret.ext2 hh | obtain ⟨rfl, yw, rfl⟩ := Ret.ext hh))
              go_loopw [8, 10] (fun n i wr => ∃ x, wr = ext w x ∧ ∃ k : Int, 1 ≤ k ∧ k ≤ m ∧ i = .int .i64 k ∧ n = .int .i64 (d - 1 + dby y + cum y k)) (fun _ i _ => (m - intOf i).toNat)
              case atStart => exact ⟨_, rfl, 1, by omega, by omega, rfl, by rw [hky.out]; simp [cum_1]⟩
              case round =>
                obtain ⟨x, rfl, j, hj1, hj, rfl, rfl⟩ := hrel
                clear b0 b1 b2 hlt hk
                have b0 := dby_mono (a := 1900) (b := y) (by omega)
                have b1 := dby_mono (a := y) (b := 2200) (by omega)
                rw [dby_1900] at b0; rw [dby_2200] at b1
                have b2 := cum_mono (y := y) (a := 1) (b := j) (by omega) (by omega) (by omega)
                have b3 := cum_mono (y := y) (a := j) (b := 13) (by omega) (by omega) (by omega)
                rw [cum_1] at b2; rw [cum_13] at b3
                have b4 := diy_bd y
                have b5 := dim_nn y j
                by_cases hlt : j < m
                · have hs := hid (cum_succ (y := y) (m := j) (by omega) (by omega))
                  go_wp2_with (first | ((with_reducible refine wp_region_ext2 ?_ ?_ ?_); (kernel_rfl); (kernel_rfl)) | ((with_reducible refine wp_region_ext ?_ ?_ ?_); (kernel_rfl); (kernel_rfl)) | go_big_quiet_step (first | (go_at_call 35; exact quiet_of_ret (c_ref04_DaysInMonth _ _ _)) | (go_at_call 59; exact quiet_of_ret (c_ref04_daysInYear _ _))) | ((with_reducible refine wpQuiet_nil ?_); intro x1) | (go_at_call 35; refine (c_ref04_DaysInMonth _ _ _).mono ?_; intro e w' hh; first | obtain ⟨rfl, yw, rfl⟩ := Ret.ext2 hh | obtain ⟨rfl, yw, rfl⟩ := Ret.ext hh) | (go_at_call 59; refine (c_ref04_daysInYear _ _).mono ?_; intro e w' hh; first | obtain ⟨rfl, yw, rfl⟩ := Ret.ext2 hh | obtain ⟨rfl, yw, rfl⟩ := Ret.ext hh))
                  go_roundw
                  case rel => exact ⟨_, rfl, j + 1, by omega, by omega, rfl, by rw [hs.out]; go_num⟩
                  case measure => simp [intOf]; omega
                · have hjm := hid (show j = m by omega)
                  go_wp2_with (first | ((with_reducible refine wp_region_ext2 ?_ ?_ ?_); (kernel_rfl); (kernel_rfl)) | ((with_reducible refine wp_region_ext ?_ ?_ ?_); (kernel_rfl); (kernel_rfl)) | go_big_quiet_step (first | (go_at_call 35; exact quiet_of_ret (c_ref04_DaysInMonth _ _ _)) | (go_at_call 59; exact quiet_of_ret (c_ref04_daysInYear _ _))) | ((with_reducible refine wpQuiet_nil ?_); intro x1) | (go_at_call 35; refine (c_ref04_DaysInMonth _ _ _).mono ?_; intro e w' hh; first | obtain ⟨rfl, yw, rfl⟩ := Ret.ext2 hh | obtain ⟨rfl, yw, rfl⟩ := Ret.ext hh) | (go_at_call 59; refine (c_ref04_daysInYear _ _).mono ?_; intro e w' hh; first | obtain ⟨rfl, yw, rfl⟩ := Ret.ext2 hh | obtain ⟨rfl, yw, rfl⟩ := Ret.ext hh))
                  go_ret2
                  exact ⟨by rw [hr.out]; simp [num]; rw [hjm.out]; omega, (by repeat (first | with_reducible exact Below.refl _ _ | with_reducible refine B_ext ?_ _ | with_reducible refine B_alloc ?_ _ | with_reducible refine Below.drew ?_ | with_reducible refine B_set ?_ _ _ _))⟩
        · have ep : dim y m < d := by simpa using e
          have hr := hid (show fromR y m d = (0, 3) by
            have hb : ymdB y m d = false := by simp [ymdB]; omega
            simp [fromR, hb])
          go_enter Tryd.func29, Tryd.ntmps29
          go_wp2_with (first | ((with_reducible refine wp_region_ext2 ?_ ?_ ?_); (kernel_rfl); (kernel_rfl)) | ((with_reducible refine wp_region_ext ?_ ?_ ?_); (kernel_rfl); (kernel_rfl)) | go_big_quiet_step (first | (go_at_call 35; exact quiet_of_ret (c_ref04_DaysInMonth _ _ _)) | (go_at_call 59; exact quiet_of_ret (c_ref04_daysInYear _ _))) | ((with_reducible refine wpQuiet_nil ?_); intro x1) | (go_at_call 35; refine (c_ref04_DaysInMonth _ _ _).mono ?_; intro e w' hh; first | obtain ⟨rfl, yw, rfl⟩ := Ret.ext2 hh | obtain ⟨rfl, yw, rfl⟩ := Ret.ext hh) | (go_at_call 59; refine (c_ref04_daysInYear _ _).mono ?_; intro e w' hh; first | obtain ⟨rfl, yw, rfl⟩ := Ret.ext2 hh | obtain ⟨rfl, yw, rfl⟩ := Ret.ext hh))
          go_ret2
          exact ⟨by rw [hr.out] <;> simp, (by repeat (first | with_reducible exact Below.refl _ _ | with_reducible refine B_ext ?_ _ | with_reducible refine B_alloc ?_ _ | with_reducible refine Below.drew ?_ | with_reducible refine B_set ?_ _ _ _))⟩
      · have cp : d < 1 := by simpa using c
        have hr := hid (show fromR y m d = (0, 3) by
          have hb : ymdB y m d = false := by simp [ymdB]; omega
          simp [fromR, hb])
        go_enter Tryd.func29, Tryd.ntmps29
        go_wp2_with (first | ((with_reducible refine wp_region_ext2 ?_ ?_ ?_); (kernel_rfl); (kernel_rfl)) | ((with_reducible refine wp_region_ext ?_ ?_ ?_); (kernel_rfl); (kernel_rfl)) | go_big_quiet_step (first | (go_at_call 35; exact quiet_of_ret (c_ref04_DaysInMonth _ _ _)) | (go_at_call 59; exact quiet_of_ret (c_ref04_daysInYear _ _))) | ((with_reducible refine wpQuiet_nil ?_); intro x1) | (go_at_call 35; refine (c_ref04_DaysInMonth _ _ _).mono ?_; intro e w' hh; first | obtain ⟨rfl, yw, rfl⟩ := Ret.ext2 hh | obtain ⟨rfl, yw, rfl⟩ := Ret.ext hh) | (go_at_call 59; refine (c_ref04_daysInYear _ _).mono ?_; intro e w' hh; first | obtain ⟨rfl, yw, rfl⟩ := Ret.ext2 hh | obtain ⟨rfl, yw, rfl⟩ := Ret.ext hh))
        go_ret2
        exact ⟨by rw [hr.out] <;> simp, (by repeat (first | with_reducible exact Below.refl _ _ | with_reducible refine B_ext ?_ _ | with_reducible refine B_alloc ?_ _ | with_reducible refine Below.drew ?_ | with_reducible refine B_set ?_ _ _ _))⟩
    · have bp : 2199 < y := by simpa using b
      have hr := hid (show fromR y m d = (0, 3) by
        have hb : ymdB y m d = false := by simp [ymdB]; omega
        simp [fromR, hb])
      go_enter Tryd.func29, Tryd.ntmps29
      go_wp2_with (first | ((with_reducible refine wp_region_ext2 ?_ ?_ ?_); (kernel_rfl); (kernel_rfl)) | ((with_reducible refine wp_region_ext ?_ ?_ ?_); (kernel_rfl); (kernel_rfl)) | go_big_quiet_step (first | (go_at_call 35; exact quiet_of_ret (c_ref04_DaysInMonth _ _ _)) | (go_at_call 59; exact quiet_of_ret (c_ref04_daysInYear _ _))) | ((with_reducible refine wpQuiet_nil ?_); intro x1) | (go_at_call 35; refine (c_ref04_DaysInMonth _ _ _).mono ?_; intro e w' hh; first | obtain ⟨rfl, yw, rfl⟩ := Ret.ext2 hh | obtain ⟨rfl, yw, rfl⟩ := Ret.ext hh) | (go_at_call 59; refine (c_ref04_daysInYear _ _).mono ?_; intro e w' hh; first | obtain ⟨rfl, yw, rfl⟩ := Ret.ext2 hh | obtain ⟨rfl, yw, rfl⟩ := Ret.ext hh))
      go_ret2
      exact ⟨by rw [hr.out] <;> simp, (by repeat (first | with_reducible exact Below.refl _ _ | with_reducible refine B_ext ?_ _ | with_reducible refine B_alloc ?_ _ | with_reducible refine Below.drew ?_ | with_reducible refine B_set ?_ _ _ _))⟩
  · have ap : y < 1900 := by simpa using a
    have hr := hid (show fromR y m d = (0, 3) by
      have hb : ymdB y m d = false := by simp [ymdB]; omega
      simp [fromR, hb])
    go_enter Tryd.func29, Tryd.ntmps29
    go_wp2_with (first | ((with_reducible refine wp_region_ext2 ?_ ?_ ?_); (kernel_rfl); (kernel_rfl)) | ((with_reducible refine wp_region_ext ?_ ?_ ?_); (kernel_rfl); (kernel_rfl)) | go_big_quiet_step (first | (go_at_call 35; exact quiet_of_ret (c_ref04_DaysInMonth _ _ _)) | (go_at_call 59; exact quiet_of_ret (c_ref04_daysInYear _ _))) | ((with_reducible refine wpQuiet_nil ?_); intro x1) | (go_at_call 35; refine (c_ref04_DaysInMonth _ _ _).mono ?_; intro e w' hh; first | obtain ⟨rfl, yw, rfl⟩ := Ret.ext2 hh | obtain ⟨rfl, yw, rfl⟩ := Ret.ext hh) | (go_at_call 59; refine (c_ref04_daysInYear _ _).mono ?_; intro e w' hh; first | obtain ⟨rfl, yw, rfl⟩ := Ret.ext2 hh | obtain ⟨rfl, yw, rfl⟩ := Ret.ext hh))
    go_ret2
    exact ⟨by rw [hr.out] <;> simp, (by repeat (first | with_reducible exact Below.refl _ _ | with_reducible refine B_ext ?_ _ | with_reducible refine B_alloc ?_ _ | with_reducible refine Below.drew ?_ | with_reducible refine B_set ?_ _ _ _))⟩

set_option maxHeartbeats 1000000 in
theorem c_date_ToYMD (n : Int) (w : World) : Calls Tryd.prog 30 #[.int .i64 n] w (Ret (.tuple #[.int .i64 (toR n).1, .int .i64 (toR n).2.1, .int .i64 (toR n).2.2]) w) := by
  cases hv : vdB n
  · have hr := hid (show toR n = (0, 0, 0) by simp [toR, hv])
    go_enter Tryd.func30, Tryd.ntmps30
    go_wp2_with (first | ((with_reducible refine wp_region_ext2 ?_ ?_ ?_); (kernel_rfl); (kernel_rfl)) | ((with_reducible refine wp_region_ext ?_ ?_ ?_); (kernel_rfl); (kernel_rfl)) | go_big_quiet_step (first | (go_at_call 60; exact quiet_of_ret (c_date_valid _ _))) | ((with_reducible refine wpQuiet_nil ?_); intro x1) | (go_at_call 60; refine (c_date_valid _ _).mono ?_; intro e w' hh; first | obtain ⟨rfl, yw, rfl⟩ := Ret.ext2 hh | obtain ⟨rfl, yw, rfl⟩ := Ret.ext hh))
    go_ret3
    exact ⟨by rw [hr.out] <;> simp, (by repeat (first | with_reducible exact Below.refl _ _ | with_reducible refine B_ext ?_ _ | with_reducible refine B_alloc ?_ _ | with_reducible refine Below.drew ?_ | with_reducible refine B_set ?_ _ _ _))⟩
  have hr := hid (show toR n = (toY n, toM n, toD n) by simp [toR, hv])
  obtain ⟨n1, n2⟩ := vdB_true hv
  obtain ⟨t1, t2⟩ := to_spec hv
  obtain ⟨g1, g2, g3, g4, g5, g6⟩ := ymd_true t1
  replace t2 := hid t2
  replace t1 := hid t1
  go_enter Tryd.func30, Tryd.ntmps30
  go_wp2_with (first | ((with_reducible refine wp_region_ext2 ?_ ?_ ?_); (kernel_rfl); (kernel_rfl)) | ((with_reducible refine wp_region_ext ?_ ?_ ?_); (kernel_rfl); (kernel_rfl)) | go_big_quiet_step (first | (go_at_call 60; exact quiet_of_ret (c_date_valid _ _))) | ((with_reducible refine wpQuiet_nil ?_); intro x1) | (go_at_call 60; refine (c_date_valid _ _).mono ?_; intro e w' hh; first | obtain ⟨rfl, yw, rfl⟩ := Ret.ext2 hh | obtain ⟨rfl, yw, rfl⟩ := Ret.ext hh))
  go_loopw [0, 5] (fun r yy wr => ∃ x, wr = ext w x ∧ ∃ y : Int, 1900 ≤ y ∧ y ≤ 2199 ∧ yy = .int .i64 y ∧ r = .int .i64 (n - dby y) ∧ dby y ≤ n) (fun _ i _ => (2200 - intOf i).toNat)
  case atStart => exact ⟨_, by first | exact ext_self _ | rfl, 1900, by omega, by omega, rfl, by simp [dby_1900], by rw [dby_1900]; exact n1⟩
  case round =>
    obtain ⟨x, rfl, y, y1, y2, rfl, rfl, hle⟩ := hrel
    have hs := dby_succ y
    have b0 := dby_mono (a := 1900) (b := y) (by omega)
    rw [dby_1900] at b0
    have b2 := diy_bd y
    by_cases hlt : dby (y + 1) ≤ n
    · have y3 : y + 1 ≤ 2199 := by
        by_cases e : y = 2199
        · subst e; rw [show (2199 : Int) + 1 = 2200 by rfl, dby_2200] at hlt; omega
        · omega
      have hc : diy y ≤ n - dby y := by omega
      replace hs := hid hs
      go_wp2_with (first | ((with_reducible refine wp_region_ext2 ?_ ?_ ?_); (kernel_rfl); (kernel_rfl)) | ((with_reducible refine wp_region_ext ?_ ?_ ?_); (kernel_rfl); (kernel_rfl)) | go_big_quiet_step (first | (go_at_call 34; exact quiet_of_ret (c_date_DaysInMonth _ _ _)) | (go_at_call 58; exact quiet_of_ret (c_date_daysInYear _ _))) | ((with_reducible refine wpQuiet_nil ?_); intro x1) | (go_at_call 34; refine (c_date_DaysInMonth _ _ _).mono ?_; intro e w' hh; first | obtain ⟨rfl, yw, rfl⟩ := Ret.ext2 hh | obtain ⟨rfl, yw, rfl⟩ := Ret.ext hh) | (go_at_call 58; refine (c_date_daysInYear _ _).mono ?_; intro e w' hh; first | obtain ⟨rfl, yw, rfl⟩ := Ret.ext2 hh | obtain ⟨rfl, yw, rfl⟩ := Ret.ext hh))
      go_roundw
      case rel => exact ⟨_, rfl, y + 1, by omega, by omega, rfl, by rw [hs.out]; go_num, hlt⟩
      case measure => simp [intOf]; omega
    · have hy := hid (toY_uniq hv hle (by omega))
      have hc : n - dby y < diy y := by omega
      have hcum := hid (cum_13 y)
      replace hs := hid hs
      go_wp2_with (first | ((with_reducible refine wp_region_ext2 ?_ ?_ ?_); (kernel_rfl); (kernel_rfl)) | ((with_reducible refine wp_region_ext ?_ ?_ ?_); (kernel_rfl); (kernel_rfl)) | go_big_quiet_step (first | (go_at_call 34; exact quiet_of_ret (c_date_DaysInMonth _ _ _)) | (go_at_call 58; exact quiet_of_ret (c_date_daysInYear _ _))) | ((with_reducible refine wpQuiet_nil ?_); intro x1) | (go_at_call 34; refine (c_date_DaysInMonth _ _ _).mono ?_; intro e w' hh; first | obtain ⟨rfl, yw, rfl⟩ := Ret.ext2 hh | obtain ⟨rfl, yw, rfl⟩ := Ret.ext hh) | (go_at_call 58; refine (c_date_daysInYear _ _).mono ?_; intro e w' hh; first | obtain ⟨rfl, yw, rfl⟩ := Ret.ext2 hh | obtain ⟨rfl, yw, rfl⟩ := Ret.ext hh))
      go_loopw [0, 6] (fun r mm wr => ∃ x, wr = ext w x ∧ ∃ m : Int, 1 ≤ m ∧ m ≤ 12 ∧ mm = .int .i64 m ∧ r = .int .i64 (n - dby y - cum y m) ∧ cum y m ≤ n - dby y) (fun _ i _ => (13 - intOf i).toNat)
      case atStart => exact ⟨_, rfl, 1, by omega, by omega, rfl, by simp [cum_1], by rw [cum_1]; omega⟩
      case round =>
        obtain ⟨x, rfl, m, m1, m2, rfl, rfl, hle2⟩ := hrel
        have hs2 := cum_succ (y := y) m1 m2
        have c0 := cum_mono (y := y) (a := 1) (b := m) (by omega) (by omega) (by omega)
        rw [cum_1] at c0
        have c2 := dim_nn y m
        by_cases hlt2 : cum y (m + 1) ≤ n - dby y
        · have m3 : m + 1 ≤ 12 := by
            by_cases e : m = 12
            · subst e; rw [show (12 : Int) + 1 = 13 by rfl, hcum.out] at hlt2; omega
            · omega
          have hc2 : dim y m ≤ n - dby y - cum y m := by omega
          replace hs2 := hid hs2
          go_wp2_with (first | ((with_reducible refine wp_region_ext2 ?_ ?_ ?_); (kernel_rfl); (kernel_rfl)) | ((with_reducible refine wp_region_ext ?_ ?_ ?_); (kernel_rfl); (kernel_rfl)) | go_big_quiet_step (first | (go_at_call 34; exact quiet_of_ret (c_date_DaysInMonth _ _ _)) | (go_at_call 58; exact quiet_of_ret (c_date_daysInYear _ _))) | ((with_reducible refine wpQuiet_nil ?_); intro x1) | (go_at_call 34; refine (c_date_DaysInMonth _ _ _).mono ?_; intro e w' hh; first | obtain ⟨rfl, yw, rfl⟩ := Ret.ext2 hh | obtain ⟨rfl, yw, rfl⟩ := Ret.ext hh) | (go_at_call 58; refine (c_date_daysInYear _ _).mono ?_; intro e w' hh; first | obtain ⟨rfl, yw, rfl⟩ := Ret.ext2 hh | obtain ⟨rfl, yw, rfl⟩ := Ret.ext hh))
          go_roundw
          case rel => exact ⟨_, rfl, m + 1, by omega, by omega, rfl, by rw [hs2.out]; go_num, hlt2⟩
          case measure => simp [intOf]; omega
        · have hc2 : n - dby y - cum y m < dim y m := by omega
          have hm := hid (show m = toM n by
            have e := hy.out
            subst e
            exact toM_uniq hv m1 m2 hle2 (by omega))
          replace hs2 := hid hs2
          go_wp2_with (first | ((with_reducible refine wp_region_ext2 ?_ ?_ ?_); (kernel_rfl); (kernel_rfl)) | ((with_reducible refine wp_region_ext ?_ ?_ ?_); (kernel_rfl); (kernel_rfl)) | go_big_quiet_step (first | (go_at_call 34; exact quiet_of_ret (c_date_DaysInMonth _ _ _)) | (go_at_call 58; exact quiet_of_ret (c_date_daysInYear _ _))) | ((with_reducible refine wpQuiet_nil ?_); intro x1) | (go_at_call 34; refine (c_date_DaysInMonth _ _ _).mono ?_; intro e w' hh; first | obtain ⟨rfl, yw, rfl⟩ := Ret.ext2 hh | obtain ⟨rfl, yw, rfl⟩ := Ret.ext hh) | (go_at_call 58; refine (c_date_daysInYear _ _).mono ?_; intro e w' hh; first | obtain ⟨rfl, yw, rfl⟩ := Ret.ext2 hh | obtain ⟨rfl, yw, rfl⟩ := Ret.ext hh))
          go_ret3
          exact ⟨by rw [hr.out]; simp only [toD, ← hm.out, ← hy.out]; simp, (by repeat (first | with_reducible exact Below.refl _ _ | with_reducible refine B_ext ?_ _ | with_reducible refine B_alloc ?_ _ | with_reducible refine Below.drew ?_ | with_reducible refine B_set ?_ _ _ _))⟩

theorem c_date_Weekday2 (d : Int) (w : World) : Calls Tryd.prog 39 #[.int .i64 d] w (Ret (.int .i64 (wdR d)) w) := by
  cases hv : vdB d
  · have hr := hid (show wdR d = -1 by simp [wdR, hv])
    go_enter Tryd.func39, Tryd.ntmps39
    go_wp2_with (first | ((with_reducible refine wp_region_ext2 ?_ ?_ ?_); (kernel_rfl); (kernel_rfl)) | ((with_reducible refine wp_region_ext ?_ ?_ ?_); (kernel_rfl); (kernel_rfl)) | go_big_quiet_step (first | (go_at_call 60; exact quiet_of_ret (c_date_valid _ _))) | ((with_reducible refine wpQuiet_nil ?_); intro x1) | (go_at_call 60; refine (c_date_valid _ _).mono ?_; intro e w' hh; first | obtain ⟨rfl, yw, rfl⟩ := Ret.ext2 hh | obtain ⟨rfl, yw, rfl⟩ := Ret.ext hh))
    go_ret
    exact ⟨by rw [hr.out] <;> simp, (by repeat (first | with_reducible exact Below.refl _ _ | with_reducible refine B_ext ?_ _ | with_reducible refine B_alloc ?_ _ | with_reducible refine Below.drew ?_ | with_reducible refine B_set ?_ _ _ _))⟩
  · have hr := hid (show wdR d = d % 7 by simp [wdR, hv])
    obtain ⟨h1, h2⟩ := vdB_true hv
    go_enter Tryd.func39, Tryd.ntmps39
    go_wp2_with (first | ((with_reducible refine wp_region_ext2 ?_ ?_ ?_); (kernel_rfl); (kernel_rfl)) | ((with_reducible refine wp_region_ext ?_ ?_ ?_); (kernel_rfl); (kernel_rfl)) | go_big_quiet_step (first | (go_at_call 60; exact quiet_of_ret (c_date_valid _ _))) | ((with_reducible refine wpQuiet_nil ?_); intro x1) | (go_at_call 60; refine (c_date_valid _ _).mono ?_; intro e w' hh; first | obtain ⟨rfl, yw, rfl⟩ := Ret.ext2 hh | obtain ⟨rfl, yw, rfl⟩ := Ret.ext hh))
    go_ret
    exact ⟨by rw [hr.out] <;> simp, (by repeat (first | with_reducible exact Below.refl _ _ | with_reducible refine B_ext ?_ _ | with_reducible refine B_alloc ?_ _ | with_reducible refine Below.drew ?_ | with_reducible refine B_set ?_ _ _ _))⟩

set_option maxHeartbeats 1000000 in
theorem c_date_AddMonths (a k : Int) (w : World) : Calls Tryd.prog 37 #[.int .i64 a, .int .i64 k] w (Ret (.tuple #[.int .i64 (addMR a k).1, .int .i64 (addMR a k).2]) w) := by
  cases hv : vdB a
  · have hr := hid (show addMR a k = (0, 3) by simp [addMR, hv])
    go_enter Tryd.func37, Tryd.ntmps37
    go_wp2_with (first | ((with_reducible refine wp_region_ext2 ?_ ?_ ?_); (kernel_rfl); (kernel_rfl)) | ((with_reducible refine wp_region_ext ?_ ?_ ?_); (kernel_rfl); (kernel_rfl)) | go_big_quiet_step (first | (go_at_call 60; exact quiet_of_ret (c_date_valid _ _))) | ((with_reducible refine wpQuiet_nil ?_); intro x1) | (go_at_call 60; refine (c_date_valid _ _).mono ?_; intro e w' hh; first | obtain ⟨rfl, yw, rfl⟩ := Ret.ext2 hh | obtain ⟨rfl, yw, rfl⟩ := Ret.ext hh))
    go_ret2
    exact ⟨by rw [hr.out] <;> simp, (by repeat (first | with_reducible exact Below.refl _ _ | with_reducible refine B_ext ?_ _ | with_reducible refine B_alloc ?_ _ | with_reducible refine Below.drew ?_ | with_reducible refine B_set ?_ _ _ _))⟩
  by_cases h1 : k < -3600
  · have hr := hid (show addMR a k = (0, 3) by simp [addMR, hv, h1])
    go_enter Tryd.func37, Tryd.ntmps37
    go_wp2_with (first | ((with_reducible refine wp_region_ext2 ?_ ?_ ?_); (kernel_rfl); (kernel_rfl)) | ((with_reducible refine wp_region_ext ?_ ?_ ?_); (kernel_rfl); (kernel_rfl)) | go_big_quiet_step (first | (go_at_call 60; exact quiet_of_ret (c_date_valid _ _))) | ((with_reducible refine wpQuiet_nil ?_); intro x1) | (go_at_call 60; refine (c_date_valid _ _).mono ?_; intro e w' hh; first | obtain ⟨rfl, yw, rfl⟩ := Ret.ext2 hh | obtain ⟨rfl, yw, rfl⟩ := Ret.ext hh))
    go_ret2
    exact ⟨by rw [hr.out] <;> simp, (by repeat (first | with_reducible exact Below.refl _ _ | with_reducible refine B_ext ?_ _ | with_reducible refine B_alloc ?_ _ | with_reducible refine Below.drew ?_ | with_reducible refine B_set ?_ _ _ _))⟩
  have h1' : decide (k < -3600) = false := by simpa using h1
  by_cases h2 : 3600 < k
  · have hr := hid (show addMR a k = (0, 3) by simp [addMR, hv, h2])
    go_enter Tryd.func37, Tryd.ntmps37
    go_wp2_with (first | ((with_reducible refine wp_region_ext2 ?_ ?_ ?_); (kernel_rfl); (kernel_rfl)) | ((with_reducible refine wp_region_ext ?_ ?_ ?_); (kernel_rfl); (kernel_rfl)) | go_big_quiet_step (first | (go_at_call 60; exact quiet_of_ret (c_date_valid _ _))) | ((with_reducible refine wpQuiet_nil ?_); intro x1) | (go_at_call 60; refine (c_date_valid _ _).mono ?_; intro e w' hh; first | obtain ⟨rfl, yw, rfl⟩ := Ret.ext2 hh | obtain ⟨rfl, yw, rfl⟩ := Ret.ext hh))
    go_ret2
    exact ⟨by rw [hr.out] <;> simp, (by repeat (first | with_reducible exact Below.refl _ _ | with_reducible refine B_ext ?_ _ | with_reducible refine B_alloc ?_ _ | with_reducible refine Below.drew ?_ | with_reducible refine B_set ?_ _ _ _))⟩
  have h2' : decide (3600 < k) = false := by simpa using h2
  obtain ⟨t1, t2⟩ := to_spec hv
  obtain ⟨g1, g2, g3, g4, g5, g6⟩ := ymd_true t1
  clear t1 t2
  have e1 : toR a = (toY a, toM a, toD a) := by simp [toR, hv]
  have hr := hid (show addMR a k = fromR ((12 * toY a + toM a - 1 + k) / 12) ((12 * toY a + toM a - 1 + k) % 12 + 1) (min (toD a) (dim ((12 * toY a + toM a - 1 + k) / 12) ((12 * toY a + toM a - 1 + k) % 12 + 1))) by
    simp only [addMR, hv, h1, h2, if_false, Bool.true_eq_false]; rfl)
  by_cases hm : toD a ≤ dim ((12 * toY a + toM a - 1 + k) / 12) ((12 * toY a + toM a - 1 + k) % 12 + 1)
  · rw [show min (toD a) (dim ((12 * toY a + toM a - 1 + k) / 12) ((12 * toY a + toM a - 1 + k) % 12 + 1)) = toD a by omega] at hr
    go_enter Tryd.func37, Tryd.ntmps37
    go_wp2_with (first | ((with_reducible refine wp_region_ext2 ?_ ?_ ?_); (kernel_rfl); (kernel_rfl)) | ((with_reducible refine wp_region_ext ?_ ?_ ?_); (kernel_rfl); (kernel_rfl)) | go_big_quiet_step (first | (go_at_call 60; exact quiet_of_ret (c_date_valid _ _)) | (go_at_call 30; exact quiet_of_ret (c_date_ToYMD _ _)) | (go_at_call 34; exact quiet_of_ret (c_date_DaysInMonth _ _ _)) | (go_at_call 28; exact quiet_of_ret (c_date_FromYMD _ _ _ _))) | ((with_reducible refine wpQuiet_nil ?_); intro x1) | (go_at_call 60; refine (c_date_valid _ _).mono ?_; intro e w' hh; first | obtain ⟨rfl, yw, rfl⟩ := Ret.ext2 hh | obtain ⟨rfl, yw, rfl⟩ := Ret.ext hh) | (go_at_call 30; refine (c_date_ToYMD _ _).mono ?_; intro e w' hh; first | obtain ⟨rfl, yw, rfl⟩ := Ret.ext2 hh | obtain ⟨rfl, yw, rfl⟩ := Ret.ext hh) | (go_at_call 34; refine (c_date_DaysInMonth _ _ _).mono ?_; intro e w' hh; first | obtain ⟨rfl, yw, rfl⟩ := Ret.ext2 hh | obtain ⟨rfl, yw, rfl⟩ := Ret.ext hh) | (go_at_call 28; refine (c_date_FromYMD _ _ _ _).mono ?_; intro e w' hh; first | obtain ⟨rfl, yw, rfl⟩ := Ret.ext2 hh | obtain ⟨rfl, yw, rfl⟩ := Ret.ext hh))
    go_ret2
    exact ⟨by rw [hr.out] <;> simp, (by repeat (first | with_reducible exact Below.refl _ _ | with_reducible refine B_ext ?_ _ | with_reducible refine B_alloc ?_ _ | with_reducible refine Below.drew ?_ | with_reducible refine B_set ?_ _ _ _))⟩
  · rw [show min (toD a) (dim ((12 * toY a + toM a - 1 + k) / 12) ((12 * toY a + toM a - 1 + k) % 12 + 1)) = dim ((12 * toY a + toM a - 1 + k) / 12) ((12 * toY a + toM a - 1 + k) % 12 + 1) by omega] at hr
    go_enter Tryd.func37, Tryd.ntmps37
    go_wp2_with (first | ((with_reducible refine wp_region_ext2 ?_ ?_ ?_); (kernel_rfl); (kernel_rfl)) | ((with_reducible refine wp_region_ext ?_ ?_ ?_); (kernel_rfl); (kernel_rfl)) | go_big_quiet_step (first | (go_at_call 60; exact quiet_of_ret (c_date_valid _ _)) | (go_at_call 30; exact quiet_of_ret (c_date_ToYMD _ _)) | (go_at_call 34; exact quiet_of_ret (c_date_DaysInMonth _ _ _)) | (go_at_call 28; exact quiet_of_ret (c_date_FromYMD _ _ _ _))) | ((with_reducible refine wpQuiet_nil ?_); intro x1) | (go_at_call 60; refine (c_date_valid _ _).mono ?_; intro e w' hh; first | obtain ⟨rfl, yw, rfl⟩ := Ret.ext2 hh | obtain ⟨rfl, yw, rfl⟩ := Ret.ext hh) | (go_at_call 30; refine (c_date_ToYMD _ _).mono ?_; intro e w' hh; first | obtain ⟨rfl, yw, rfl⟩ := Ret.ext2 hh | obtain ⟨rfl, yw, rfl⟩ := Ret.ext hh) | (go_at_call 34; refine (c_date_DaysInMonth _ _ _).mono ?_; intro e w' hh; first | obtain ⟨rfl, yw, rfl⟩ := Ret.ext2 hh | obtain ⟨rfl, yw, rfl⟩ := Ret.ext hh) | (go_at_call 28; refine (c_date_FromYMD _ _ _ _).mono ?_; intro e w' hh; first | obtain ⟨rfl, yw, rfl⟩ := Ret.ext2 hh | obtain ⟨rfl, yw, rfl⟩ := Ret.ext hh))
    go_ret2
    exact ⟨by rw [hr.out] <;> simp, (by repeat (first | with_reducible exact Below.refl _ _ | with_reducible refine B_ext ?_ _ | with_reducible refine B_alloc ?_ _ | with_reducible refine Below.drew ?_ | with_reducible refine B_set ?_ _ _ _))⟩

set_option maxHeartbeats 1000000 in
theorem c_ref04_ToYMD (n : Int) (w : World) : Calls Tryd.prog 31 #[.int .i64 n] w (Ret (.tuple #[.int .i64 (toR n).1, .int .i64 (toR n).2.1, .int .i64 (toR n).2.2]) w) := by
  cases hv : vdB n
  · have hr := hid (show toR n = (0, 0, 0) by simp [toR, hv])
    go_enter Tryd.func31, Tryd.ntmps31
    go_wp2_with (first | ((with_reducible refine wp_region_ext2 ?_ ?_ ?_); (kernel_rfl); (kernel_rfl)) | ((with_reducible refine wp_region_ext ?_ ?_ ?_); (kernel_rfl); (kernel_rfl)) | go_big_quiet_step (first | (go_at_call 61; exact quiet_of_ret (c_ref04_Valid _ _))) | ((with_reducible refine wpQuiet_nil ?_); intro x1) | (go_at_call 61; refine (c_ref04_Valid _ _).mono ?_; intro e w' hh; first | obtain ⟨rfl, yw, rfl⟩ := Ret.ext2 hh | obtain ⟨rfl, yw, rfl⟩ := Ret.ext hh))
    go_ret3
    exact ⟨by rw [hr.out] <;> simp, (by repeat (first | with_reducible exact Below.refl _ _ | with_reducible refine B_ext ?_ _ | with_reducible refine B_alloc ?_ _ | with_reducible refine Below.drew ?_ | with_reducible refine B_set ?_ _ _ _))⟩
  have hr := hid (show toR n = (toY n, toM n, toD n) by simp [toR, hv])
  obtain ⟨n1, n2⟩ := vdB_true hv
  obtain ⟨t1, t2⟩ := to_spec hv
  obtain ⟨g1, g2, g3, g4, g5, g6⟩ := ymd_true t1
  replace t2 := hid t2
  replace t1 := hid t1
  go_enter Tryd.func31, Tryd.ntmps31
  go_wp2_with (first | ((with_reducible refine wp_region_ext2 ?_ ?_ ?_); (kernel_rfl); (kernel_rfl)) | ((with_reducible refine wp_region_ext ?_ ?_ ?_); (kernel_rfl); (kernel_rfl)) | go_big_quiet_step (first | (go_at_call 61; exact quiet_of_ret (c_ref04_Valid _ _))) | ((with_reducible refine wpQuiet_nil ?_); intro x1) | (go_at_call 61; refine (c_ref04_Valid _ _).mono ?_; intro e w' hh; first | obtain ⟨rfl, yw, rfl⟩ := Ret.ext2 hh | obtain ⟨rfl, yw, rfl⟩ := Ret.ext hh))
  go_loopw [0, 5] (fun r yy wr => ∃ x, wr = ext w x ∧ ∃ y : Int, 1900 ≤ y ∧ y ≤ 2199 ∧ yy = .int .i64 y ∧ r = .int .i64 (n - dby y) ∧ dby y ≤ n) (fun _ i _ => (2200 - intOf i).toNat)
  case atStart => exact ⟨_, by first | exact ext_self _ | rfl, 1900, by omega, by omega, rfl, by simp [dby_1900], by rw [dby_1900]; exact n1⟩
  case round =>
    obtain ⟨x, rfl, y, y1, y2, rfl, rfl, hle⟩ := hrel
    have hs := dby_succ y
    have b0 := dby_mono (a := 1900) (b := y) (by omega)
    rw [dby_1900] at b0
    have b2 := diy_bd y
    by_cases hlt : dby (y + 1) ≤ n
    · have y3 : y + 1 ≤ 2199 := by
        by_cases e : y = 2199
        · subst e; rw [show (2199 : Int) + 1 = 2200 by rfl, dby_2200] at hlt; omega
        · omega
      have hc : diy y ≤ n - dby y := by omega
      replace hs := hid hs
      go_wp2_with (first | ((with_reducible refine wp_region_ext2 ?_ ?_ ?_); (kernel_rfl); (kernel_rfl)) | ((with_reducible refine wp_region_ext ?_ ?_ ?_); (kernel_rfl); (kernel_rfl)) | go_big_quiet_step (first | (go_at_call 35; exact quiet_of_ret (c_ref04_DaysInMonth _ _ _)) | (go_at_call 59; exact quiet_of_ret (c_ref04_daysInYear _ _))) | ((with_reducible refine wpQuiet_nil ?_); intro x1) | (go_at_call 35; refine (c_ref04_DaysInMonth _ _ _).mono ?_; intro e w' hh; first | obtain ⟨rfl, yw, rfl⟩ := Ret.ext2 hh | obtain ⟨rfl, yw, rfl⟩ := Ret.ext hh) | (go_at_call 59; refine (c_ref04_daysInYear _ _).mono ?_; intro e w' hh; first | obtain ⟨rfl, yw, rfl⟩ := Ret.ext2 hh | obtain ⟨rfl, yw, rfl⟩ := Ret.ext hh))
      go_roundw
      case rel => exact ⟨_, rfl, y + 1, by omega, by omega, rfl, by rw [hs.out]; go_num, hlt⟩
      case measure => simp [intOf]; omega
    · have hy := hid (toY_uniq hv hle (by omega))
      have hc : n - dby y < diy y := by omega
      have hcum := hid (cum_13 y)
      replace hs := hid hs
      go_wp2_with (first | ((with_reducible refine wp_region_ext2 ?_ ?_ ?_); (kernel_rfl); (kernel_rfl)) | ((with_reducible refine wp_region_ext ?_ ?_ ?_); (kernel_rfl); (kernel_rfl)) | go_big_quiet_step (first | (go_at_call 35; exact quiet_of_ret (c_ref04_DaysInMonth _ _ _)) | (go_at_call 59; exact quiet_of_ret (c_ref04_daysInYear _ _))) | ((with_reducible refine wpQuiet_nil ?_); intro x1) | (go_at_call 35; refine (c_ref04_DaysInMonth _ _ _).mono ?_; intro e w' hh; first | obtain ⟨rfl, yw, rfl⟩ := Ret.ext2 hh | obtain ⟨rfl, yw, rfl⟩ := Ret.ext hh) | (go_at_call 59; refine (c_ref04_daysInYear _ _).mono ?_; intro e w' hh; first | obtain ⟨rfl, yw, rfl⟩ := Ret.ext2 hh | obtain ⟨rfl, yw, rfl⟩ := Ret.ext hh))
      go_loopw [0, 6] (fun r mm wr => ∃ x, wr = ext w x ∧ ∃ m : Int, 1 ≤ m ∧ m ≤ 12 ∧ mm = .int .i64 m ∧ r = .int .i64 (n - dby y - cum y m) ∧ cum y m ≤ n - dby y) (fun _ i _ => (13 - intOf i).toNat)
      case atStart => exact ⟨_, rfl, 1, by omega, by omega, rfl, by simp [cum_1], by rw [cum_1]; omega⟩
      case round =>
        obtain ⟨x, rfl, m, m1, m2, rfl, rfl, hle2⟩ := hrel
        have hs2 := cum_succ (y := y) m1 m2
        have c0 := cum_mono (y := y) (a := 1) (b := m) (by omega) (by omega) (by omega)
        rw [cum_1] at c0
        have c2 := dim_nn y m
        by_cases hlt2 : cum y (m + 1) ≤ n - dby y
        · have m3 : m + 1 ≤ 12 := by
            by_cases e : m = 12
            · subst e; rw [show (12 : Int) + 1 = 13 by rfl, hcum.out] at hlt2; omega
            · omega
          have hc2 : dim y m ≤ n - dby y - cum y m := by omega
          replace hs2 := hid hs2
          go_wp2_with (first | ((with_reducible refine wp_region_ext2 ?_ ?_ ?_); (kernel_rfl); (kernel_rfl)) | ((with_reducible refine wp_region_ext ?_ ?_ ?_); (kernel_rfl); (kernel_rfl)) | go_big_quiet_step (first | (go_at_call 35; exact quiet_of_ret (c_ref04_DaysInMonth _ _ _)) | (go_at_call 59; exact quiet_of_ret (c_ref04_daysInYear _ _))) | ((with_reducible refine wpQuiet_nil ?_); intro x1) | (go_at_call 35; refine (c_ref04_DaysInMonth _ _ _).mono ?_; intro e w' hh; first | obtain ⟨rfl, yw, rfl⟩ := Ret.ext2 hh | obtain ⟨rfl, yw, rfl⟩ := Ret.ext hh) | (go_at_call 59; refine (c_ref04_daysInYear _ _).mono ?_; intro e w' hh; first | obtain ⟨rfl, yw, rfl⟩ := Ret.ext2 hh | obtain ⟨rfl, yw, rfl⟩ := Ret.ext hh))
          go_roundw
          case rel => exact ⟨_, rfl, m + 1, by omega, by omega, rfl, by rw [hs2.out]; go_num, hlt2⟩
          case measure => simp [intOf]; omega
        · have hc2 : n - dby y - cum y m < dim y m := by omega
          have hm := hid (show m = toM n by
            have e := hy.out
            subst e
            exact toM_uniq hv m1 m2 hle2 (by omega))
          replace hs2 := hid hs2
          go_wp2_with (first | ((with_reducible refine wp_region_ext2 ?_ ?_ ?_); (kernel_rfl); (kernel_rfl)) | ((with_reducible refine wp_region_ext ?_ ?_ ?_); (kernel_rfl); (kernel_rfl)) | go_big_quiet_step (first | (go_at_call 35; exact quiet_of_ret (c_ref04_DaysInMonth _ _ _)) | (go_at_call 59; exact quiet_of_ret (c_ref04_daysInYear _ _))) | ((with_reducible refine wpQuiet_nil ?_); intro x1) | (go_at_call 35; refine (c_ref04_DaysInMonth _ _ _).mono ?_; intro e w' hh; first | obtain ⟨rfl, yw, rfl⟩ := Ret.ext2 hh | obtain ⟨rfl, yw, rfl⟩ := Ret.ext hh) | (go_at_call 59; refine (c_ref04_daysInYear _ _).mono ?_; intro e w' hh; first | obtain ⟨rfl, yw, rfl⟩ := Ret.ext2 hh | obtain ⟨rfl, yw, rfl⟩ := Ret.ext hh))
          go_ret3
          exact ⟨by rw [hr.out]; simp only [toD, ← hm.out, ← hy.out]; simp, (by repeat (first | with_reducible exact Below.refl _ _ | with_reducible refine B_ext ?_ _ | with_reducible refine B_alloc ?_ _ | with_reducible refine Below.drew ?_ | with_reducible refine B_set ?_ _ _ _))⟩

theorem c_ref04_Weekday2 (d : Int) (w : World) : Calls Tryd.prog 40 #[.int .i64 d] w (Ret (.int .i64 (wdR d)) w) := by
  cases hv : vdB d
  · have hr := hid (show wdR d = -1 by simp [wdR, hv])
    go_enter Tryd.func40, Tryd.ntmps40
    go_wp2_with (first | ((with_reducible refine wp_region_ext2 ?_ ?_ ?_); (kernel_rfl); (kernel_rfl)) | ((with_reducible refine wp_region_ext ?_ ?_ ?_); (kernel_rfl); (kernel_rfl)) | go_big_quiet_step (first | (go_at_call 61; exact quiet_of_ret (c_ref04_Valid _ _))) | ((with_reducible refine wpQuiet_nil ?_); intro x1) | (go_at_call 61; refine (c_ref04_Valid _ _).mono ?_; intro e w' hh; first | obtain ⟨rfl, yw, rfl⟩ := Ret.ext2 hh | obtain ⟨rfl, yw, rfl⟩ := Ret.ext hh))
    go_ret
    exact ⟨by rw [hr.out] <;> simp, (by repeat (first | with_reducible exact Below.refl _ _ | with_reducible refine B_ext ?_ _ | with_reducible refine B_alloc ?_ _ | with_reducible refine Below.drew ?_ | with_reducible refine B_set ?_ _ _ _))⟩
  · have hr := hid (show wdR d = d % 7 by simp [wdR, hv])
    obtain ⟨h1, h2⟩ := vdB_true hv
    go_enter Tryd.func40, Tryd.ntmps40
    go_wp2_with (first | ((with_reducible refine wp_region_ext2 ?_ ?_ ?_); (kernel_rfl); (kernel_rfl)) | ((with_reducible refine wp_region_ext ?_ ?_ ?_); (kernel_rfl); (kernel_rfl)) | go_big_quiet_step (first | (go_at_call 61; exact quiet_of_ret (c_ref04_Valid _ _))) | ((with_reducible refine wpQuiet_nil ?_); intro x1) | (go_at_call 61; refine (c_ref04_Valid _ _).mono ?_; intro e w' hh; first | obtain ⟨rfl, yw, rfl⟩ := Ret.ext2 hh | obtain ⟨rfl, yw, rfl⟩ := Ret.ext hh))
    go_ret
    exact ⟨by rw [hr.out] <;> simp, (by repeat (first | with_reducible exact Below.refl _ _ | with_reducible refine B_ext ?_ _ | with_reducible refine B_alloc ?_ _ | with_reducible refine Below.drew ?_ | with_reducible refine B_set ?_ _ _ _))⟩

set_option maxHeartbeats 1000000 in
theorem c_ref04_AddMonths (a k : Int) (w : World) : Calls Tryd.prog 38 #[.int .i64 a, .int .i64 k] w (Ret (.tuple #[.int .i64 (addMR a k).1, .int .i64 (addMR a k).2]) w) := by
  cases hv : vdB a
  · have hr := hid (show addMR a k = (0, 3) by simp [addMR, hv])
    go_enter Tryd.func38, Tryd.ntmps38
    go_wp2_with (first | ((with_reducible refine wp_region_ext2 ?_ ?_ ?_); (kernel_rfl); (kernel_rfl)) | ((with_reducible refine wp_region_ext ?_ ?_ ?_); (kernel_rfl); (kernel_rfl)) | go_big_quiet_step (first | (go_at_call 61; exact quiet_of_ret (c_ref04_Valid _ _))) | ((with_reducible refine wpQuiet_nil ?_); intro x1) | (go_at_call 61; refine (c_ref04_Valid _ _).mono ?_; intro e w' hh; first | obtain ⟨rfl, yw, rfl⟩ := Ret.ext2 hh | obtain ⟨rfl, yw, rfl⟩ := Ret.ext hh))
    go_ret2
    exact ⟨by rw [hr.out] <;> simp, (by repeat (first | with_reducible exact Below.refl _ _ | with_reducible refine B_ext ?_ _ | with_reducible refine B_alloc ?_ _ | with_reducible refine Below.drew ?_ | with_reducible refine B_set ?_ _ _ _))⟩
  by_cases h1 : k < -3600
  · have hr := hid (show addMR a k = (0, 3) by simp [addMR, hv, h1])
    go_enter Tryd.func38, Tryd.ntmps38
    go_wp2_with (first | ((with_reducible refine wp_region_ext2 ?_ ?_ ?_); (kernel_rfl); (kernel_rfl)) | ((with_reducible refine wp_region_ext ?_ ?_ ?_); (kernel_rfl); (kernel_rfl)) | go_big_quiet_step (first | (go_at_call 61; exact quiet_of_ret (c_ref04_Valid _ _))) | ((with_reducible refine wpQuiet_nil ?_); intro x1) | (go_at_call 61; refine (c_ref04_Valid _ _).mono ?_; intro e w' hh; first | obtain ⟨rfl, yw, rfl⟩ := Ret.ext2 hh | obtain ⟨rfl, yw, rfl⟩ := Ret.ext hh))
    go_ret2
    exact ⟨by rw [hr.out] <;> simp, (by repeat (first | with_reducible exact Below.refl _ _ | with_reducible refine B_ext ?_ _ | with_reducible refine B_alloc ?_ _ | with_reducible refine Below.drew ?_ | with_reducible refine B_set ?_ _ _ _))⟩
  have h1' : decide (k < -3600) = false := by simpa using h1
  by_cases h2 : 3600 < k
  · have hr := hid (show addMR a k = (0, 3) by simp [addMR, hv, h2])
    go_enter Tryd.func38, Tryd.ntmps38
    go_wp2_with (first | ((with_reducible refine wp_region_ext2 ?_ ?_ ?_); (kernel_rfl); (kernel_rfl)) | ((with_reducible refine wp_region_ext ?_ ?_ ?_); (kernel_rfl); (kernel_rfl)) | go_big_quiet_step (first | (go_at_call 61; exact quiet_of_ret (c_ref04_Valid _ _))) | ((with_reducible refine wpQuiet_nil ?_); intro x1) | (go_at_call 61; refine (c_ref04_Valid _ _).mono ?_; intro e w' hh; first | obtain ⟨rfl, yw, rfl⟩ := Ret.ext2 hh | obtain ⟨rfl, yw, rfl⟩ := Ret.ext hh))
    go_ret2
    exact ⟨by rw [hr.out] <;> simp, (by repeat (first | with_reducible exact Below.refl _ _ | with_reducible refine B_ext ?_ _ | with_reducible refine B_alloc ?_ _ | with_reducible refine Below.drew ?_ | with_reducible refine B_set ?_ _ _ _))⟩
  have h2' : decide (3600 < k) = false := by simpa using h2
  obtain ⟨t1, t2⟩ := to_spec hv
  obtain ⟨g1, g2, g3, g4, g5, g6⟩ := ymd_true t1
  clear t1 t2
  have e1 : toR a = (toY a, toM a, toD a) := by simp [toR, hv]
  have hr := hid (show addMR a k = fromR ((12 * toY a + toM a - 1 + k) / 12) ((12 * toY a + toM a - 1 + k) % 12 + 1) (min (toD a) (dim ((12 * toY a + toM a - 1 + k) / 12) ((12 * toY a + toM a - 1 + k) % 12 + 1))) by
    simp only [addMR, hv, h1, h2, if_false, Bool.true_eq_false]; rfl)
  by_cases hm : toD a ≤ dim ((12 * toY a + toM a - 1 + k) / 12) ((12 * toY a + toM a - 1 + k) % 12 + 1)
  · rw [show min (toD a) (dim ((12 * toY a + toM a - 1 + k) / 12) ((12 * toY a + toM a - 1 + k) % 12 + 1)) = toD a by omega] at hr
    go_enter Tryd.func38, Tryd.ntmps38
    go_wp2_with (first | ((with_reducible refine wp_region_ext2 ?_ ?_ ?_); (kernel_rfl); (kernel_rfl)) | ((with_reducible refine wp_region_ext ?_ ?_ ?_); (kernel_rfl); (kernel_rfl)) | go_big_quiet_step (first | (go_at_call 61; exact quiet_of_ret (c_ref04_Valid _ _)) | (go_at_call 31; exact quiet_of_ret (c_ref04_ToYMD _ _)) | (go_at_call 35; exact quiet_of_ret (c_ref04_DaysInMonth _ _ _)) | (go_at_call 29; exact quiet_of_ret (c_ref04_FromYMD _ _ _ _))) | ((with_reducible refine wpQuiet_nil ?_); intro x1) | (go_at_call 61; refine (c_ref04_Valid _ _).mono ?_; intro e w' hh; first | obtain ⟨rfl, yw, rfl⟩ := Ret.ext2 hh | obtain ⟨rfl, yw, rfl⟩ := Ret.ext hh) | (go_at_call 31; refine (c_ref04_ToYMD _ _).mono ?_; intro e w' hh; first | obtain ⟨rfl, yw, rfl⟩ := Ret.ext2 hh | obtain ⟨rfl, yw, rfl⟩ := Ret.ext hh) | (go_at_call 35; refine (c_ref04_DaysInMonth _ _ _).mono ?_; intro e w' hh; first | obtain ⟨rfl, yw, rfl⟩ := Ret.ext2 hh | obtain ⟨rfl, yw, rfl⟩ := Ret.ext hh) | (go_at_call 29; refine (c_ref04_FromYMD _ _ _ _).mono ?_; intro e w' hh; first | obtain ⟨rfl, yw, rfl⟩ := Ret.ext2 hh | obtain ⟨rfl, yw, rfl⟩ := Ret.ext hh))
    go_ret2
    exact ⟨by rw [hr.out] <;> simp, (by repeat (first | with_reducible exact Below.refl _ _ | with_reducible refine B_ext ?_ _ | with_reducible refine B_alloc ?_ _ | with_reducible refine Below.drew ?_ | with_reducible refine B_set ?_ _ _ _))⟩
  · rw [show min (toD a) (dim ((12 * toY a + toM a - 1 + k) / 12) ((12 * toY a + toM a - 1 + k) % 12 + 1)) = dim ((12 * toY a + toM a - 1 + k) / 12) ((12 * toY a + toM a - 1 + k) % 12 + 1) by omega] at hr
    go_enter Tryd.func38, Tryd.ntmps38
    go_wp2_with (first | ((with_reducible refine wp_region_ext2 ?_ ?_ ?_); (kernel_rfl); (kernel_rfl)) | ((with_reducible refine wp_region_ext ?_ ?_ ?_); (kernel_rfl); (kernel_rfl)) | go_big_quiet_step (first | (go_at_call 61; exact quiet_of_ret (c_ref04_Valid _ _)) | (go_at_call 31; exact quiet_of_ret (c_ref04_ToYMD _ _)) | (go_at_call 35; exact quiet_of_ret (c_ref04_DaysInMonth _ _ _)) | (go_at_call 29; exact quiet_of_ret (c_ref04_FromYMD _ _ _ _))) | ((with_reducible refine wpQuiet_nil ?_); intro x1) | (go_at_call 61; refine (c_ref04_Valid _ _).mono ?_; intro e w' hh; first | obtain ⟨rfl, yw, rfl⟩ := Ret.ext2 hh | obtain ⟨rfl, yw, rfl⟩ := Ret.ext hh) | (go_at_call 31; refine (c_ref04_ToYMD _ _).mono ?_; intro e w' hh; first | obtain ⟨rfl, yw, rfl⟩ := Ret.ext2 hh | obtain ⟨rfl, yw, rfl⟩ := Ret.ext hh) | (go_at_call 35; refine (c_ref04_DaysInMonth _ _ _).mono ?_; intro e w' hh; first | obtain ⟨rfl, yw, rfl⟩ := Ret.ext2 hh | obtain ⟨rfl, yw, rfl⟩ := Ret.ext hh) | (go_at_call 29; refine (c_ref04_FromYMD _ _ _ _).mono ?_; intro e w' hh; first | obtain ⟨rfl, yw, rfl⟩ := Ret.ext2 hh | obtain ⟨rfl, yw, rfl⟩ := Ret.ext hh))
    go_ret2
    exact ⟨by rw [hr.out] <;> simp, (by repeat (first | with_reducible exact Below.refl _ _ | with_reducible refine B_ext ?_ _ | with_reducible refine B_alloc ?_ _ | with_reducible refine Below.drew ?_ | with_reducible refine B_set ?_ _ _ _))⟩

set_option maxHeartbeats 1000000 in
theorem c_date_YearsBetween (a b : Int) (w : World) : Calls Tryd.prog 41 #[.int .i64 a, .int .i64 b] w (Ret (.int .i64 (ybR a b)) w) := by
  cases ha : vdB a
  · have hr := hid (show ybR a b = 0 by simp [ybR, ha])
    go_enter Tryd.func41, Tryd.ntmps41
    go_wp2_with (first | ((with_reducible refine wp_region_ext2 ?_ ?_ ?_); (kernel_rfl); (kernel_rfl)) | ((with_reducible refine wp_region_ext ?_ ?_ ?_); (kernel_rfl); (kernel_rfl)) | go_big_quiet_step (first | (go_at_call 60; exact quiet_of_ret (c_date_valid _ _))) | ((with_reducible refine wpQuiet_nil ?_); intro x1) | (go_at_call 60; refine (c_date_valid _ _).mono ?_; intro e w' hh; first | obtain ⟨rfl, yw, rfl⟩ := Ret.ext2 hh | obtain ⟨rfl, yw, rfl⟩ := Ret.ext hh))
    go_ret
    exact ⟨by rw [hr.out] <;> simp, (by repeat (first | with_reducible exact Below.refl _ _ | with_reducible refine B_ext ?_ _ | with_reducible refine B_alloc ?_ _ | with_reducible refine Below.drew ?_ | with_reducible refine B_set ?_ _ _ _))⟩
  cases hb : vdB b
  · have hr := hid (show ybR a b = 0 by simp [ybR, hb])
    go_enter Tryd.func41, Tryd.ntmps41
    go_wp2_with (first | ((with_reducible refine wp_region_ext2 ?_ ?_ ?_); (kernel_rfl); (kernel_rfl)) | ((with_reducible refine wp_region_ext ?_ ?_ ?_); (kernel_rfl); (kernel_rfl)) | go_big_quiet_step (first | (go_at_call 60; exact quiet_of_ret (c_date_valid _ _))) | ((with_reducible refine wpQuiet_nil ?_); intro x1) | (go_at_call 60; refine (c_date_valid _ _).mono ?_; intro e w' hh; first | obtain ⟨rfl, yw, rfl⟩ := Ret.ext2 hh | obtain ⟨rfl, yw, rfl⟩ := Ret.ext hh))
    go_ret
    exact ⟨by rw [hr.out] <;> simp, (by repeat (first | with_reducible exact Below.refl _ _ | with_reducible refine B_ext ?_ _ | with_reducible refine B_alloc ?_ _ | with_reducible refine Below.drew ?_ | with_reducible refine B_set ?_ _ _ _))⟩
  by_cases hlt : b < a
  · have hr := hid (show ybR a b = 0 by simp [ybR, hlt])
    go_enter Tryd.func41, Tryd.ntmps41
    go_wp2_with (first | ((with_reducible refine wp_region_ext2 ?_ ?_ ?_); (kernel_rfl); (kernel_rfl)) | ((with_reducible refine wp_region_ext ?_ ?_ ?_); (kernel_rfl); (kernel_rfl)) | go_big_quiet_step (first | (go_at_call 60; exact quiet_of_ret (c_date_valid _ _))) | ((with_reducible refine wpQuiet_nil ?_); intro x1) | (go_at_call 60; refine (c_date_valid _ _).mono ?_; intro e w' hh; first | obtain ⟨rfl, yw, rfl⟩ := Ret.ext2 hh | obtain ⟨rfl, yw, rfl⟩ := Ret.ext hh))
    go_ret
    exact ⟨by rw [hr.out] <;> simp, (by repeat (first | with_reducible exact Below.refl _ _ | with_reducible refine B_ext ?_ _ | with_reducible refine B_alloc ?_ _ | with_reducible refine Below.drew ?_ | with_reducible refine B_set ?_ _ _ _))⟩
  have hlt' : decide (b < a) = false := by simpa using hlt
  have b1 := toY_bd ha
  have b2 := toY_bd hb
  have hm := toY_mono ha hb (by omega)
  have e1 : toR a = (toY a, toM a, toD a) := by simp [toR, ha]
  have e2 : toR b = (toY b, toM b, toD b) := by simp [toR, hb]
  have e3 := (addMR_ok ha (n := toY b - toY a) (by omega) (by omega)).1
  by_cases hg : b < annv a (toY b - toY a)
  · have hr := hid (show ybR a b = toY b - toY a - 1 by simp [ybR, ha, hb, hlt, hg])
    clear hlt
    go_enter Tryd.func41, Tryd.ntmps41
    go_wp2_with (first | ((with_reducible refine wp_region_ext2 ?_ ?_ ?_); (kernel_rfl); (kernel_rfl)) | ((with_reducible refine wp_region_ext ?_ ?_ ?_); (kernel_rfl); (kernel_rfl)) | go_big_quiet_step (first | (go_at_call 60; exact quiet_of_ret (c_date_valid _ _)) | (go_at_call 30; exact quiet_of_ret (c_date_ToYMD _ _)) | (go_at_call 37; exact quiet_of_ret (c_date_AddMonths _ _ _))) | ((with_reducible refine wpQuiet_nil ?_); intro x1) | (go_at_call 60; refine (c_date_valid _ _).mono ?_; intro e w' hh; first | obtain ⟨rfl, yw, rfl⟩ := Ret.ext2 hh | obtain ⟨rfl, yw, rfl⟩ := Ret.ext hh) | (go_at_call 30; refine (c_date_ToYMD _ _).mono ?_; intro e w' hh; first | obtain ⟨rfl, yw, rfl⟩ := Ret.ext2 hh | obtain ⟨rfl, yw, rfl⟩ := Ret.ext hh) | (go_at_call 37; refine (c_date_AddMonths _ _ _).mono ?_; intro e w' hh; first | obtain ⟨rfl, yw, rfl⟩ := Ret.ext2 hh | obtain ⟨rfl, yw, rfl⟩ := Ret.ext hh))
    go_ret
    exact ⟨by rw [hr.out] <;> simp, (by repeat (first | with_reducible exact Below.refl _ _ | with_reducible refine B_ext ?_ _ | with_reducible refine B_alloc ?_ _ | with_reducible refine Below.drew ?_ | with_reducible refine B_set ?_ _ _ _))⟩
  · have hr := hid (show ybR a b = toY b - toY a by simp [ybR, ha, hb, hlt, hg])
    have hg' : decide (b < annv a (toY b - toY a)) = false := by simpa using hg
    clear hlt
    go_enter Tryd.func41, Tryd.ntmps41
    go_wp2_with (first | ((with_reducible refine wp_region_ext2 ?_ ?_ ?_); (kernel_rfl); (kernel_rfl)) | ((with_reducible refine wp_region_ext ?_ ?_ ?_); (kernel_rfl); (kernel_rfl)) | go_big_quiet_step (first | (go_at_call 60; exact quiet_of_ret (c_date_valid _ _)) | (go_at_call 30; exact quiet_of_ret (c_date_ToYMD _ _)) | (go_at_call 37; exact quiet_of_ret (c_date_AddMonths _ _ _))) | ((with_reducible refine wpQuiet_nil ?_); intro x1) | (go_at_call 60; refine (c_date_valid _ _).mono ?_; intro e w' hh; first | obtain ⟨rfl, yw, rfl⟩ := Ret.ext2 hh | obtain ⟨rfl, yw, rfl⟩ := Ret.ext hh) | (go_at_call 30; refine (c_date_ToYMD _ _).mono ?_; intro e w' hh; first | obtain ⟨rfl, yw, rfl⟩ := Ret.ext2 hh | obtain ⟨rfl, yw, rfl⟩ := Ret.ext hh) | (go_at_call 37; refine (c_date_AddMonths _ _ _).mono ?_; intro e w' hh; first | obtain ⟨rfl, yw, rfl⟩ := Ret.ext2 hh | obtain ⟨rfl, yw, rfl⟩ := Ret.ext hh))
    go_ret
    exact ⟨by rw [hr.out] <;> simp, (by repeat (first | with_reducible exact Below.refl _ _ | with_reducible refine B_ext ?_ _ | with_reducible refine B_alloc ?_ _ | with_reducible refine Below.drew ?_ | with_reducible refine B_set ?_ _ _ _))⟩
set_option maxHeartbeats 1000000 in
theorem c_ref04_YearsBetween (a b : Int) (w : World) : Calls Tryd.prog 42 #[.int .i64 a, .int .i64 b] w (Ret (.int .i64 (ybR a b)) w) := by
  cases ha : vdB a
  · have hr := hid (show ybR a b = 0 by simp [ybR, ha])
    go_enter Tryd.func42, Tryd.ntmps42
    go_wp2_with (first | ((with_reducible refine wp_region_ext2 ?_ ?_ ?_); (kernel_rfl); (kernel_rfl)) | ((with_reducible refine wp_region_ext ?_ ?_ ?_); (kernel_rfl); (kernel_rfl)) | go_big_quiet_step (first | (go_at_call 61; exact quiet_of_ret (c_ref04_Valid _ _))) | ((with_reducible refine wpQuiet_nil ?_); intro x1) | (go_at_call 61; refine (c_ref04_Valid _ _).mono ?_; intro e w' hh; first | obtain ⟨rfl, yw, rfl⟩ := Ret.ext2 hh | obtain ⟨rfl, yw, rfl⟩ := Ret.ext hh))
    go_ret
    exact ⟨by rw [hr.out] <;> simp, (by repeat (first | with_reducible exact Below.refl _ _ | with_reducible refine B_ext ?_ _ | with_reducible refine B_alloc ?_ _ | with_reducible refine Below.drew ?_ | with_reducible refine B_set ?_ _ _ _))⟩
  cases hb : vdB b
  · have hr := hid (show ybR a b = 0 by simp [ybR, hb])
    go_enter Tryd.func42, Tryd.ntmps42
    go_wp2_with (first | ((with_reducible refine wp_region_ext2 ?_ ?_ ?_); (kernel_rfl); (kernel_rfl)) | ((with_reducible refine wp_region_ext ?_ ?_ ?_); (kernel_rfl); (kernel_rfl)) | go_big_quiet_step (first | (go_at_call 61; exact quiet_of_ret (c_ref04_Valid _ _))) | ((with_reducible refine wpQuiet_nil ?_); intro x1) | (go_at_call 61; refine (c_ref04_Valid _ _).mono ?_; intro e w' hh; first | obtain ⟨rfl, yw, rfl⟩ := Ret.ext2 hh | obtain ⟨rfl, yw, rfl⟩ := Ret.ext hh))
    go_ret
    exact ⟨by rw [hr.out] <;> simp, (by repeat (first | with_reducible exact Below.refl _ _ | with_reducible refine B_ext ?_ _ | with_reducible refine B_alloc ?_ _ | with_reducible refine Below.drew ?_ | with_reducible refine B_set ?_ _ _ _))⟩
  have b1 := toY_bd ha
  go_enter Tryd.func42, Tryd.ntmps42
  go_wp2_with (first | ((with_reducible refine wp_region_ext2 ?_ ?_ ?_); (kernel_rfl); (kernel_rfl)) | ((with_reducible refine wp_region_ext ?_ ?_ ?_); (kernel_rfl); (kernel_rfl)) | go_big_quiet_step (first | (go_at_call 61; exact quiet_of_ret (c_ref04_Valid _ _))) | ((with_reducible refine wpQuiet_nil ?_); intro x1) | (go_at_call 61; refine (c_ref04_Valid _ _).mono ?_; intro e w' hh; first | obtain ⟨rfl, yw, rfl⟩ := Ret.ext2 hh | obtain ⟨rfl, yw, rfl⟩ := Ret.ext hh))
  go_loopw [5] (fun i wr => ∃ x, wr = ext w x ∧ ∃ n : Int, 0 ≤ n ∧ n ≤ 300 ∧ i = .int .i64 n ∧ Hid (n = 0 ∨ (toY a + n ≤ 2199 ∧ annv a n ≤ b))) (fun i _ => (300 - intOf i).toNat)
  case atStart => exact ⟨_, by first | exact ext_self _ | rfl, 0, by omega, by omega, rfl, .inl rfl⟩
  case round =>
    obtain ⟨x, rfl, n, n0, n3, rfl, hinv⟩ := hrel
    by_cases hy : 2199 < toY a + (n + 1)
    · have e3 := addMR_late ha (n := n + 1) (by omega) hy
      have hr := hid (ybR_of ha hb n0 hinv.out (.inl hy))
      clear hy
      go_wp2_with (first | ((with_reducible refine wp_region_ext2 ?_ ?_ ?_); (kernel_rfl); (kernel_rfl)) | ((with_reducible refine wp_region_ext ?_ ?_ ?_); (kernel_rfl); (kernel_rfl)) | go_big_quiet_step (first | (go_at_call 38; exact quiet_of_ret (c_ref04_AddMonths _ _ _))) | ((with_reducible refine wpQuiet_nil ?_); intro x1) | (go_at_call 38; refine (c_ref04_AddMonths _ _ _).mono ?_; intro e w' hh; first | obtain ⟨rfl, yw, rfl⟩ := Ret.ext2 hh | obtain ⟨rfl, yw, rfl⟩ := Ret.ext hh))
      go_ret
      exact ⟨by rw [hr.out] <;> simp, (by repeat (first | with_reducible exact Below.refl _ _ | with_reducible refine B_ext ?_ _ | with_reducible refine B_alloc ?_ _ | with_reducible refine Below.drew ?_ | with_reducible refine B_set ?_ _ _ _))⟩
    · have e3 := (addMR_ok ha (n := n + 1) (by omega) (by omega)).1
      by_cases hg : b < annv a (n + 1)
      · have hr := hid (ybR_of ha hb n0 hinv.out (.inr hg))
        go_wp2_with (first | ((with_reducible refine wp_region_ext2 ?_ ?_ ?_); (kernel_rfl); (kernel_rfl)) | ((with_reducible refine wp_region_ext ?_ ?_ ?_); (kernel_rfl); (kernel_rfl)) | go_big_quiet_step (first | (go_at_call 38; exact quiet_of_ret (c_ref04_AddMonths _ _ _))) | ((with_reducible refine wpQuiet_nil ?_); intro x1) | (go_at_call 38; refine (c_ref04_AddMonths _ _ _).mono ?_; intro e w' hh; first | obtain ⟨rfl, yw, rfl⟩ := Ret.ext2 hh | obtain ⟨rfl, yw, rfl⟩ := Ret.ext hh))
        go_ret
        exact ⟨by rw [hr.out] <;> simp, (by repeat (first | with_reducible exact Below.refl _ _ | with_reducible refine B_ext ?_ _ | with_reducible refine B_alloc ?_ _ | with_reducible refine Below.drew ?_ | with_reducible refine B_set ?_ _ _ _))⟩
      · have hg' : decide (b < annv a (n + 1)) = false := by simpa using hg
        go_wp2_with (first | ((with_reducible refine wp_region_ext2 ?_ ?_ ?_); (kernel_rfl); (kernel_rfl)) | ((with_reducible refine wp_region_ext ?_ ?_ ?_); (kernel_rfl); (kernel_rfl)) | go_big_quiet_step (first | (go_at_call 38; exact quiet_of_ret (c_ref04_AddMonths _ _ _))) | ((with_reducible refine wpQuiet_nil ?_); intro x1) | (go_at_call 38; refine (c_ref04_AddMonths _ _ _).mono ?_; intro e w' hh; first | obtain ⟨rfl, yw, rfl⟩ := Ret.ext2 hh | obtain ⟨rfl, yw, rfl⟩ := Ret.ext hh))
        go_roundw
        case rel => exact ⟨_, rfl, n + 1, by omega, by omega, rfl, .inr ⟨by omega, by omega⟩⟩
        case measure => simp [intOf]; omega

end Go.Proofs.YtfhlignhdnhmlaaDoor
