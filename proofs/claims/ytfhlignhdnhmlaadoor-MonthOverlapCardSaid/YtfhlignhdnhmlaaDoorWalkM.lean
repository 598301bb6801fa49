/- Walks: the functions of packages month, guerdonref07, daterange on numbers. -/
import Derived.Test.YtfhlignhdnhmlaaDoorWalkS
import Derived.Test.YtfhlignhdnhmlaaDoorMonths
set_option linter.unusedSimpArgs false
set_option linter.unusedVariables false
namespace Go.Proofs.YtfhlignhdnhmlaaDoor
open Go.RowKit
attribute [local irreducible] Calls

/-- a range of dates, as a value -/
abbrev rgV (a b : Int) : Value := .agg #[.int .i64 a, .int .i64 b]

theorem c_month_valid (m : Int) (w : World) : Calls Tryd.prog 47 #[.int .i64 m] w (Ret (.bool (mvB m)) w) := by
  unfold mvB
  go_enter Tryd.func47, Tryd.ntmps47
  go_wp2
  all_goals go_ret
  all_goals (refine ⟨?_, Below.refl _ _⟩; simp_all <;> omega)
theorem c_month_FromDate (d : Int) (w : World) : Calls Tryd.prog 15 #[.int .i64 d] w (Ret (.int .i64 (fdR d)) w) := by
  cases hv : vdB d
  · have hr := hid (show fdR d = -1 by simp [fdR, hv])
    have e1 : toR d = (0, 0, 0) := by simp [toR, hv]
    rcases vdB_false hv with h | h
    · clear hv e1
      go_enter Tryd.func15, Tryd.ntmps15
      go_wp2_with (first | ((with_reducible refine wp_region_ext2 ?_ ?_ ?_); (kernel_rfl); (kernel_rfl)) | ((with_reducible refine wp_region_ext ?_ ?_ ?_); (kernel_rfl); (kernel_rfl)) | go_big_quiet_step (fail) | ((with_reducible refine wpQuiet_nil ?_); intro x1))
      go_ret
      exact ⟨by rw [hr.out] <;> simp, (by repeat (first | with_reducible exact Below.refl _ _ | with_reducible refine B_ext ?_ _ | with_reducible refine B_alloc ?_ _ | with_reducible refine Below.drew ?_ | with_reducible refine B_set ?_ _ _ _))⟩
    · clear hv e1
      have h0 : decide (d < 0) = false := by simp; omega
      go_enter Tryd.func15, Tryd.ntmps15
      go_wp2_with (first | ((with_reducible refine wp_region_ext2 ?_ ?_ ?_); (kernel_rfl); (kernel_rfl)) | ((with_reducible refine wp_region_ext ?_ ?_ ?_); (kernel_rfl); (kernel_rfl)) | go_big_quiet_step (fail) | ((with_reducible refine wpQuiet_nil ?_); intro x1))
      go_ret
      exact ⟨by rw [hr.out] <;> simp, (by repeat (first | with_reducible exact Below.refl _ _ | with_reducible refine B_ext ?_ _ | with_reducible refine B_alloc ?_ _ | with_reducible refine Below.drew ?_ | with_reducible refine B_set ?_ _ _ _))⟩
  · have hr := hid (show fdR d = 12 * (toY d - 1900) + toM d - 1 by simp [fdR, hv])
    have e1 : toR d = (toY d, toM d, toD d) := by simp [toR, hv]
    obtain ⟨t1, t2⟩ := to_spec hv
    obtain ⟨g1, g2, g3, g4, g5, g6⟩ := ymd_true t1
    clear t1 t2 g5 g6
    have hm0 : (toM d == 0) = false := by simp; omega
    obtain ⟨n1, n2⟩ := vdB_true hv
    go_enter Tryd.func15, Tryd.ntmps15
    go_wp2_with (first | ((with_reducible refine wp_region_ext2 ?_ ?_ ?_); (kernel_rfl); (kernel_rfl)) | ((with_reducible refine wp_region_ext ?_ ?_ ?_); (kernel_rfl); (kernel_rfl)) | go_big_quiet_step (first | (go_at_call 30; exact quiet_of_ret (c_date_ToYMD _ _))) | ((with_reducible refine wpQuiet_nil ?_); intro x1) | (go_at_call 30; refine (c_date_ToYMD _ _).mono ?_; intro e w' hh; first | obtain ⟨rfl, yw, rfl⟩ := Ret.ext2 hh | obtain ⟨rfl, yw, rfl⟩ := Ret.ext hh))
    go_ret
    exact ⟨by rw [hr.out] <;> simp, (by repeat (first | with_reducible exact Below.refl _ _ | with_reducible refine B_ext ?_ _ | with_reducible refine B_alloc ?_ _ | with_reducible refine Below.drew ?_ | with_reducible refine B_set ?_ _ _ _))⟩
theorem c_month_Days (m : Int) (w : World) : Calls Tryd.prog 17 #[.int .i64 m] w (Ret (.int .i64 (dysR m)) w) := by
  cases hv : mvB m
  · have hr := hid (show dysR m = 0 by simp [dysR, hv])
    go_enter Tryd.func17, Tryd.ntmps17
    go_wp2_with (first | ((with_reducible refine wp_region_ext2 ?_ ?_ ?_); (kernel_rfl); (kernel_rfl)) | ((with_reducible refine wp_region_ext ?_ ?_ ?_); (kernel_rfl); (kernel_rfl)) | go_big_quiet_step (first | (go_at_call 47; exact quiet_of_ret (c_month_valid _ _))) | ((with_reducible refine wpQuiet_nil ?_); intro x1) | (go_at_call 47; refine (c_month_valid _ _).mono ?_; intro e w' hh; first | obtain ⟨rfl, yw, rfl⟩ := Ret.ext2 hh | obtain ⟨rfl, yw, rfl⟩ := Ret.ext hh))
    go_ret
    exact ⟨by rw [hr.out] <;> simp, (by repeat (first | with_reducible exact Below.refl _ _ | with_reducible refine B_ext ?_ _ | with_reducible refine B_alloc ?_ _ | with_reducible refine Below.drew ?_ | with_reducible refine B_set ?_ _ _ _))⟩
  · have hr := hid (show dysR m = dim (1900 + m / 12) (m % 12 + 1) by simp [dysR, hv, mLen])
    obtain ⟨n1, n2⟩ := mvB_true hv
    go_enter Tryd.func17, Tryd.ntmps17
    go_wp2_with (first | ((with_reducible refine wp_region_ext2 ?_ ?_ ?_); (kernel_rfl); (kernel_rfl)) | ((with_reducible refine wp_region_ext ?_ ?_ ?_); (kernel_rfl); (kernel_rfl)) | go_big_quiet_step (first | (go_at_call 47; exact quiet_of_ret (c_month_valid _ _)) | (go_at_call 34; exact quiet_of_ret (c_date_DaysInMonth _ _ _))) | ((with_reducible refine wpQuiet_nil ?_); intro x1) | (go_at_call 47; refine (c_month_valid _ _).mono ?_; intro e w' hh; first | obtain ⟨rfl, yw, rfl⟩ := Ret.ext2 hh | obtain ⟨rfl, yw, rfl⟩ := Ret.ext hh) | (go_at_call 34; refine (c_date_DaysInMonth _ _ _).mono ?_; intro e w' hh; first | obtain ⟨rfl, yw, rfl⟩ := Ret.ext2 hh | obtain ⟨rfl, yw, rfl⟩ := Ret.ext hh))
    go_ret
    exact ⟨by rw [hr.out] <;> simp, (by repeat (first | with_reducible exact Below.refl _ _ | with_reducible refine B_ext ?_ _ | with_reducible refine B_alloc ?_ _ | with_reducible refine Below.drew ?_ | with_reducible refine B_set ?_ _ _ _))⟩
theorem c_month_Range (m : Int) (w : World) : Calls Tryd.prog 13 #[.int .i64 m] w (Ret (.tuple #[rgV (rgR m).1 (rgR m).2.1, .int .i64 (rgR m).2.2]) w) := by
  cases hv : mvB m
  · have hr := hid (show rgR m = (0, 0, 3) by simp [rgR, hv])
    go_enter Tryd.func13, Tryd.ntmps13
    go_wp2_with (first | ((with_reducible refine wp_region_ext2 ?_ ?_ ?_); (kernel_rfl); (kernel_rfl)) | ((with_reducible refine wp_region_ext ?_ ?_ ?_); (kernel_rfl); (kernel_rfl)) | go_big_quiet_step (first | (go_at_call 47; exact quiet_of_ret (c_month_valid _ _))) | ((with_reducible refine wpQuiet_nil ?_); intro x1) | (go_at_call 47; refine (c_month_valid _ _).mono ?_; intro e w' hh; first | obtain ⟨rfl, yw, rfl⟩ := Ret.ext2 hh | obtain ⟨rfl, yw, rfl⟩ := Ret.ext hh))
    refine bodyPost_ret (v := .tuple #[rgV 0 0, .int .i64 3]) ?_ rfl ?_
    · simp [results, Tryd.results13, go_sem]
    · exact ⟨by rw [hr.out] <;> rfl, (by repeat (first | with_reducible exact Below.refl _ _ | with_reducible refine B_ext ?_ _ | with_reducible refine B_alloc ?_ _ | with_reducible refine Below.drew ?_ | with_reducible refine B_set ?_ _ _ _))⟩
  · have hr := hid (show rgR m = (mFrom m, mFrom m + mLen m, 0) by simp [rgR, hv])
    obtain ⟨n1, n2⟩ := mvB_true hv
    obtain ⟨y1, y2, y3⟩ := m_ymd hv
    obtain ⟨b1, b2⟩ := m_bd hv
    have e1 : fromR (1900 + m / 12) (m % 12 + 1) 1 = (mFrom m, 0) := by simp [fromR, y1, mFrom]
    have e2 : dysR m = mLen m := by simp [dysR, hv]
    clear y1
    go_enter Tryd.func13, Tryd.ntmps13
    go_wp2_with (first | ((with_reducible refine wp_region_ext2 ?_ ?_ ?_); (kernel_rfl); (kernel_rfl)) | ((with_reducible refine wp_region_ext ?_ ?_ ?_); (kernel_rfl); (kernel_rfl)) | go_big_quiet_step (first | (go_at_call 47; exact quiet_of_ret (c_month_valid _ _)) | (go_at_call 28; exact quiet_of_ret (c_date_FromYMD _ _ _ _)) | (go_at_call 17; exact quiet_of_ret (c_month_Days _ _))) | ((with_reducible refine wpQuiet_nil ?_); intro x1) | (go_at_call 47; refine (c_month_valid _ _).mono ?_; intro e w' hh; first | obtain ⟨rfl, yw, rfl⟩ := Ret.ext2 hh | obtain ⟨rfl, yw, rfl⟩ := Ret.ext hh) | (go_at_call 28; refine (c_date_FromYMD _ _ _ _).mono ?_; intro e w' hh; first | obtain ⟨rfl, yw, rfl⟩ := Ret.ext2 hh | obtain ⟨rfl, yw, rfl⟩ := Ret.ext hh) | (go_at_call 17; refine (c_month_Days _ _).mono ?_; intro e w' hh; first | obtain ⟨rfl, yw, rfl⟩ := Ret.ext2 hh | obtain ⟨rfl, yw, rfl⟩ := Ret.ext hh))
    refine bodyPost_ret (v := .tuple #[rgV (mFrom m) (mFrom m + mLen m), .int .i64 0]) ?_ rfl ?_
    · simp [results, Tryd.results13, go_sem]
    · exact ⟨by rw [hr.out] <;> rfl, (by repeat (first | with_reducible exact Below.refl _ _ | with_reducible refine B_ext ?_ _ | with_reducible refine B_alloc ?_ _ | with_reducible refine Below.drew ?_ | with_reducible refine B_set ?_ _ _ _))⟩

theorem c_ref07_valid (m : Int) (w : World) : Calls Tryd.prog 48 #[.int .i64 m] w (Ret (.bool (mvB m)) w) := by
  unfold mvB
  go_enter Tryd.func48, Tryd.ntmps48
  go_wp2
  all_goals go_ret
  all_goals (refine ⟨?_, Below.refl _ _⟩; simp_all <;> omega)
theorem c_ref07_FromDate (d : Int) (w : World) : Calls Tryd.prog 16 #[.int .i64 d] w (Ret (.int .i64 (fdR d)) w) := by
  cases hv : vdB d
  · have hr := hid (show fdR d = -1 by simp [fdR, hv])
    have e1 : toR d = (0, 0, 0) := by simp [toR, hv]
    go_enter Tryd.func16, Tryd.ntmps16
    go_wp2_with (first | ((with_reducible refine wp_region_ext2 ?_ ?_ ?_); (kernel_rfl); (kernel_rfl)) | ((with_reducible refine wp_region_ext ?_ ?_ ?_); (kernel_rfl); (kernel_rfl)) | go_big_quiet_step (first | (go_at_call 31; exact quiet_of_ret (c_ref04_ToYMD _ _))) | ((with_reducible refine wpQuiet_nil ?_); intro x1) | (go_at_call 31; refine (c_ref04_ToYMD _ _).mono ?_; intro e w' hh; first | obtain ⟨rfl, yw, rfl⟩ := Ret.ext2 hh | obtain ⟨rfl, yw, rfl⟩ := Ret.ext hh))
    go_ret
    exact ⟨by rw [hr.out] <;> simp, (by repeat (first | with_reducible exact Below.refl _ _ | with_reducible refine B_ext ?_ _ | with_reducible refine B_alloc ?_ _ | with_reducible refine Below.drew ?_ | with_reducible refine B_set ?_ _ _ _))⟩
  · have hr := hid (show fdR d = 12 * (toY d - 1900) + toM d - 1 by simp [fdR, hv])
    have e1 : toR d = (toY d, toM d, toD d) := by simp [toR, hv]
    obtain ⟨t1, t2⟩ := to_spec hv
    obtain ⟨g1, g2, g3, g4, g5, g6⟩ := ymd_true t1
    clear t1 t2 g5 g6
    have hm0 : (toM d == 0) = false := by simp; omega
    obtain ⟨n1, n2⟩ := vdB_true hv
    go_enter Tryd.func16, Tryd.ntmps16
    go_wp2_with (first | ((with_reducible refine wp_region_ext2 ?_ ?_ ?_); (kernel_rfl); (kernel_rfl)) | ((with_reducible refine wp_region_ext ?_ ?_ ?_); (kernel_rfl); (kernel_rfl)) | go_big_quiet_step (first | (go_at_call 31; exact quiet_of_ret (c_ref04_ToYMD _ _))) | ((with_reducible refine wpQuiet_nil ?_); intro x1) | (go_at_call 31; refine (c_ref04_ToYMD _ _).mono ?_; intro e w' hh; first | obtain ⟨rfl, yw, rfl⟩ := Ret.ext2 hh | obtain ⟨rfl, yw, rfl⟩ := Ret.ext hh))
    go_ret
    exact ⟨by rw [hr.out] <;> simp, (by repeat (first | with_reducible exact Below.refl _ _ | with_reducible refine B_ext ?_ _ | with_reducible refine B_alloc ?_ _ | with_reducible refine Below.drew ?_ | with_reducible refine B_set ?_ _ _ _))⟩
theorem c_ref07_Days (m : Int) (w : World) : Calls Tryd.prog 18 #[.int .i64 m] w (Ret (.int .i64 (dysR m)) w) := by
  cases hv : mvB m
  · have hr := hid (show dysR m = 0 by simp [dysR, hv])
    go_enter Tryd.func18, Tryd.ntmps18
    go_wp2_with (first | ((with_reducible refine wp_region_ext2 ?_ ?_ ?_); (kernel_rfl); (kernel_rfl)) | ((with_reducible refine wp_region_ext ?_ ?_ ?_); (kernel_rfl); (kernel_rfl)) | go_big_quiet_step (first | (go_at_call 48; exact quiet_of_ret (c_ref07_valid _ _))) | ((with_reducible refine wpQuiet_nil ?_); intro x1) | (go_at_call 48; refine (c_ref07_valid _ _).mono ?_; intro e w' hh; first | obtain ⟨rfl, yw, rfl⟩ := Ret.ext2 hh | obtain ⟨rfl, yw, rfl⟩ := Ret.ext hh))
    go_ret
    exact ⟨by rw [hr.out] <;> simp, (by repeat (first | with_reducible exact Below.refl _ _ | with_reducible refine B_ext ?_ _ | with_reducible refine B_alloc ?_ _ | with_reducible refine Below.drew ?_ | with_reducible refine B_set ?_ _ _ _))⟩
  · have hr := hid (show dysR m = dim (1900 + m / 12) (m % 12 + 1) by simp [dysR, hv, mLen])
    obtain ⟨n1, n2⟩ := mvB_true hv
    go_enter Tryd.func18, Tryd.ntmps18
    go_wp2_with (first | ((with_reducible refine wp_region_ext2 ?_ ?_ ?_); (kernel_rfl); (kernel_rfl)) | ((with_reducible refine wp_region_ext ?_ ?_ ?_); (kernel_rfl); (kernel_rfl)) | go_big_quiet_step (first | (go_at_call 48; exact quiet_of_ret (c_ref07_valid _ _)) | (go_at_call 35; exact quiet_of_ret (c_ref04_DaysInMonth _ _ _))) | ((with_reducible refine wpQuiet_nil ?_); intro x1) | (go_at_call 48; refine (c_ref07_valid _ _).mono ?_; intro e w' hh; first | obtain ⟨rfl, yw, rfl⟩ := Ret.ext2 hh | obtain ⟨rfl, yw, rfl⟩ := Ret.ext hh) | (go_at_call 35; refine (c_ref04_DaysInMonth _ _ _).mono ?_; intro e w' hh; first | obtain ⟨rfl, yw, rfl⟩ := Ret.ext2 hh | obtain ⟨rfl, yw, rfl⟩ := Ret.ext hh))
    go_ret
    exact ⟨by rw [hr.out] <;> simp, (by repeat (first | with_reducible exact Below.refl _ _ | with_reducible refine B_ext ?_ _ | with_reducible refine B_alloc ?_ _ | with_reducible refine Below.drew ?_ | with_reducible refine B_set ?_ _ _ _))⟩
theorem c_ref07_Range (m : Int) (w : World) : Calls Tryd.prog 14 #[.int .i64 m] w (Ret (.tuple #[rgV (rgR m).1 (rgR m).2.1, .int .i64 (rgR m).2.2]) w) := by
  cases hv : mvB m
  · have hr := hid (show rgR m = (0, 0, 3) by simp [rgR, hv])
    go_enter Tryd.func14, Tryd.ntmps14
    go_wp2_with (first | ((with_reducible refine wp_region_ext2 ?_ ?_ ?_); (kernel_rfl); (kernel_rfl)) | ((with_reducible refine wp_region_ext ?_ ?_ ?_); (kernel_rfl); (kernel_rfl)) | go_big_quiet_step (first | (go_at_call 48; exact quiet_of_ret (c_ref07_valid _ _))) | ((with_reducible refine wpQuiet_nil ?_); intro x1) | (go_at_call 48; refine (c_ref07_valid _ _).mono ?_; intro e w' hh; first | obtain ⟨rfl, yw, rfl⟩ := Ret.ext2 hh | obtain ⟨rfl, yw, rfl⟩ := Ret.ext hh))
    refine bodyPost_ret (v := .tuple #[rgV 0 0, .int .i64 3]) ?_ rfl ?_
    · simp [results, Tryd.results14, go_sem]
    · exact ⟨by rw [hr.out] <;> rfl, (by repeat (first | with_reducible exact Below.refl _ _ | with_reducible refine B_ext ?_ _ | with_reducible refine B_alloc ?_ _ | with_reducible refine Below.drew ?_ | with_reducible refine B_set ?_ _ _ _))⟩
  · have hr := hid (show rgR m = (mFrom m, mFrom m + mLen m, 0) by simp [rgR, hv])
    obtain ⟨n1, n2⟩ := mvB_true hv
    obtain ⟨y1, y2, y3⟩ := m_ymd hv
    obtain ⟨b1, b2⟩ := m_bd hv
    have e1 : fromR (1900 + m / 12) (m % 12 + 1) 1 = (mFrom m, 0) := by simp [fromR, y1, mFrom]
    have e2 : dysR m = mLen m := by simp [dysR, hv]
    clear y1
    go_enter Tryd.func14, Tryd.ntmps14
    go_wp2_with (first | ((with_reducible refine wp_region_ext2 ?_ ?_ ?_); (kernel_rfl); (kernel_rfl)) | ((with_reducible refine wp_region_ext ?_ ?_ ?_); (kernel_rfl); (kernel_rfl)) | go_big_quiet_step (first | (go_at_call 48; exact quiet_of_ret (c_ref07_valid _ _)) | (go_at_call 29; exact quiet_of_ret (c_ref04_FromYMD _ _ _ _)) | (go_at_call 18; exact quiet_of_ret (c_ref07_Days _ _))) | ((with_reducible refine wpQuiet_nil ?_); intro x1) | (go_at_call 48; refine (c_ref07_valid _ _).mono ?_; intro e w' hh; first | obtain ⟨rfl, yw, rfl⟩ := Ret.ext2 hh | obtain ⟨rfl, yw, rfl⟩ := Ret.ext hh) | (go_at_call 29; refine (c_ref04_FromYMD _ _ _ _).mono ?_; intro e w' hh; first | obtain ⟨rfl, yw, rfl⟩ := Ret.ext2 hh | obtain ⟨rfl, yw, rfl⟩ := Ret.ext hh) | (go_at_call 18; refine (c_ref07_Days _ _).mono ?_; intro e w' hh; first | obtain ⟨rfl, yw, rfl⟩ := Ret.ext2 hh | obtain ⟨rfl, yw, rfl⟩ := Ret.ext hh))
    refine bodyPost_ret (v := .tuple #[rgV (mFrom m) (mFrom m + mLen m), .int .i64 0]) ?_ rfl ?_
    · simp [results, Tryd.results14, go_sem]
    · exact ⟨by rw [hr.out] <;> rfl, (by repeat (first | with_reducible exact Below.refl _ _ | with_reducible refine B_ext ?_ _ | with_reducible refine B_alloc ?_ _ | with_reducible refine Below.drew ?_ | with_reducible refine B_set ?_ _ _ _))⟩

def prB (a b : Int) : Bool := rngB a b && decide (a < b)
theorem c_daterange_proper (a b : Int) (w : World) : Calls Tryd.prog 65 #[rgV a b] w (Ret (.bool (prB a b)) w) := by
  cases hv : rngB a b
  · have hr := hid (show prB a b = false by simp [prB, hv])
    go_enter Tryd.func65, Tryd.ntmps65
    go_wp2_with (first | ((with_reducible refine wp_region_ext2 ?_ ?_ ?_); (kernel_rfl); (kernel_rfl)) | ((with_reducible refine wp_region_ext ?_ ?_ ?_); (kernel_rfl); (kernel_rfl)) | go_big_quiet_step (first | (go_at_call 72; exact quiet_of_ret (c_daterange_Valid _ _ _))) | ((with_reducible refine wpQuiet_nil ?_); intro x1) | (go_at_call 72; refine (c_daterange_Valid _ _ _).mono ?_; intro e w' hh; first | obtain ⟨rfl, yw, rfl⟩ := Ret.ext2 hh | obtain ⟨rfl, yw, rfl⟩ := Ret.ext hh))
    go_ret
    exact ⟨by rw [hr.out] <;> simp, (by repeat (first | with_reducible exact Below.refl _ _ | with_reducible refine B_ext ?_ _ | with_reducible refine B_alloc ?_ _ | with_reducible refine Below.drew ?_ | with_reducible refine B_set ?_ _ _ _))⟩
  · have hr := hid (show prB a b = decide (a < b) by simp [prB, hv])
    go_enter Tryd.func65, Tryd.ntmps65
    go_wp2_with (first | ((with_reducible refine wp_region_ext2 ?_ ?_ ?_); (kernel_rfl); (kernel_rfl)) | ((with_reducible refine wp_region_ext ?_ ?_ ?_); (kernel_rfl); (kernel_rfl)) | go_big_quiet_step (first | (go_at_call 72; exact quiet_of_ret (c_daterange_Valid _ _ _))) | ((with_reducible refine wpQuiet_nil ?_); intro x1) | (go_at_call 72; refine (c_daterange_Valid _ _ _).mono ?_; intro e w' hh; first | obtain ⟨rfl, yw, rfl⟩ := Ret.ext2 hh | obtain ⟨rfl, yw, rfl⟩ := Ret.ext hh))
    go_ret
    exact ⟨by rw [hr.out] <;> simp, (by repeat (first | with_reducible exact Below.refl _ _ | with_reducible refine B_ext ?_ _ | with_reducible refine B_alloc ?_ _ | with_reducible refine Below.drew ?_ | with_reducible refine B_set ?_ _ _ _))⟩
def intR (a b c d : Int) : Int × Int × Bool :=
  if prB a b = false then (0, 0, false) else if prB c d = false then (0, 0, false) else if min b d ≤ max a c then (0, 0, false) else (max a c, min b d, true)
theorem c_daterange_Intersect (a b c d : Int) (w : World) : Calls Tryd.prog 49 #[rgV a b, rgV c d] w (Ret (.tuple #[rgV (intR a b c d).1 (intR a b c d).2.1, .bool (intR a b c d).2.2]) w) := by
  cases m1 : prB a b
  · have hr := hid (show intR a b c d = (0, 0, false) by simp [intR, m1])
    go_enter Tryd.func49, Tryd.ntmps49
    go_wp2_with (first | ((with_reducible refine wp_region_ext2 ?_ ?_ ?_); (kernel_rfl); (kernel_rfl)) | ((with_reducible refine wp_region_ext ?_ ?_ ?_); (kernel_rfl); (kernel_rfl)) | go_big_quiet_step (first | (go_at_call 65; exact quiet_of_ret (c_daterange_proper _ _ _))) | ((with_reducible refine wpQuiet_nil ?_); intro x1) | (go_at_call 65; refine (c_daterange_proper _ _ _).mono ?_; intro e w' hh; first | obtain ⟨rfl, yw, rfl⟩ := Ret.ext2 hh | obtain ⟨rfl, yw, rfl⟩ := Ret.ext hh))
    refine bodyPost_ret (v := .tuple #[rgV 0 0, .bool false]) ?_ rfl ?_
    · simp [results, Tryd.results49, go_sem]
    · exact ⟨by rw [hr.out] <;> rfl, (by repeat (first | with_reducible exact Below.refl _ _ | with_reducible refine B_ext ?_ _ | with_reducible refine B_alloc ?_ _ | with_reducible refine Below.drew ?_ | with_reducible refine B_set ?_ _ _ _))⟩
  · cases m2 : prB c d
    · have hr := hid (show intR a b c d = (0, 0, false) by simp [intR, m1, m2])
      go_enter Tryd.func49, Tryd.ntmps49
      go_wp2_with (first | ((with_reducible refine wp_region_ext2 ?_ ?_ ?_); (kernel_rfl); (kernel_rfl)) | ((with_reducible refine wp_region_ext ?_ ?_ ?_); (kernel_rfl); (kernel_rfl)) | go_big_quiet_step (first | (go_at_call 65; exact quiet_of_ret (c_daterange_proper _ _ _))) | ((with_reducible refine wpQuiet_nil ?_); intro x1) | (go_at_call 65; refine (c_daterange_proper _ _ _).mono ?_; intro e w' hh; first | obtain ⟨rfl, yw, rfl⟩ := Ret.ext2 hh | obtain ⟨rfl, yw, rfl⟩ := Ret.ext hh))
      refine bodyPost_ret (v := .tuple #[rgV 0 0, .bool false]) ?_ rfl ?_
      · simp [results, Tryd.results49, go_sem]
      · exact ⟨by rw [hr.out] <;> rfl, (by repeat (first | with_reducible exact Below.refl _ _ | with_reducible refine B_ext ?_ _ | with_reducible refine B_alloc ?_ _ | with_reducible refine Below.drew ?_ | with_reducible refine B_set ?_ _ _ _))⟩
    · cases m3 : decide (min b d ≤ max a c)
      · have m3p : ¬ (min b d ≤ max a c) := by simpa using m3
        have hr := hid (show intR a b c d = (max a c, min b d, true) by simp [intR, m1, m2, m3p])
        go_enter Tryd.func49, Tryd.ntmps49
        go_wp2_with (first | ((with_reducible refine wp_region_ext2 ?_ ?_ ?_); (kernel_rfl); (kernel_rfl)) | ((with_reducible refine wp_region_ext ?_ ?_ ?_); (kernel_rfl); (kernel_rfl)) | go_big_quiet_step (first | (go_at_call 65; exact quiet_of_ret (c_daterange_proper _ _ _))) | ((with_reducible refine wpQuiet_nil ?_); intro x1) | (go_at_call 65; refine (c_daterange_proper _ _ _).mono ?_; intro e w' hh; first | obtain ⟨rfl, yw, rfl⟩ := Ret.ext2 hh | obtain ⟨rfl, yw, rfl⟩ := Ret.ext hh))
        refine bodyPost_ret (v := .tuple #[rgV (max a c) (min b d), .bool true]) ?_ rfl ?_
        · simp [results, Tryd.results49, go_sem]
        · exact ⟨by rw [hr.out] <;> rfl, (by repeat (first | with_reducible exact Below.refl _ _ | with_reducible refine B_ext ?_ _ | with_reducible refine B_alloc ?_ _ | with_reducible refine Below.drew ?_ | with_reducible refine B_set ?_ _ _ _))⟩
      · have m3p : min b d ≤ max a c := by simpa using m3
        have hr := hid (show intR a b c d = (0, 0, false) by simp [intR, m1, m2, m3p])
        go_enter Tryd.func49, Tryd.ntmps49
        go_wp2_with (first | ((with_reducible refine wp_region_ext2 ?_ ?_ ?_); (kernel_rfl); (kernel_rfl)) | ((with_reducible refine wp_region_ext ?_ ?_ ?_); (kernel_rfl); (kernel_rfl)) | go_big_quiet_step (first | (go_at_call 65; exact quiet_of_ret (c_daterange_proper _ _ _))) | ((with_reducible refine wpQuiet_nil ?_); intro x1) | (go_at_call 65; refine (c_daterange_proper _ _ _).mono ?_; intro e w' hh; first | obtain ⟨rfl, yw, rfl⟩ := Ret.ext2 hh | obtain ⟨rfl, yw, rfl⟩ := Ret.ext hh))
        refine bodyPost_ret (v := .tuple #[rgV 0 0, .bool false]) ?_ rfl ?_
        · simp [results, Tryd.results49, go_sem]
        · exact ⟨by rw [hr.out] <;> rfl, (by repeat (first | with_reducible exact Below.refl _ _ | with_reducible refine B_ext ?_ _ | with_reducible refine B_alloc ?_ _ | with_reducible refine Below.drew ?_ | with_reducible refine B_set ?_ _ _ _))⟩

theorem c_month_Overlap (m a b : Int) (w : World) : Calls Tryd.prog 19 #[.int .i64 m, rgV a b] w (Ret (.int .i64 (ovR m a b)) w) := by
  cases hv : mvB m
  · have hr := hid (show ovR m a b = 0 by simp [ovR, hv])
    have e1 : rgR m = (0, 0, 3) := by simp [rgR, hv]
    go_enter Tryd.func19, Tryd.ntmps19
    go_wp2_with (first | ((with_reducible refine wp_region_ext2 ?_ ?_ ?_); (kernel_rfl); (kernel_rfl)) | ((with_reducible refine wp_region_ext ?_ ?_ ?_); (kernel_rfl); (kernel_rfl)) | go_big_quiet_step (first | (go_at_call 13; exact quiet_of_ret (c_month_Range _ _)) | (go_at_call 49; exact quiet_of_ret (c_daterange_Intersect _ _ _ _ _))) | ((with_reducible refine wpQuiet_nil ?_); intro x1) | (go_at_call 13; refine (c_month_Range _ _).mono ?_; intro e w' hh; first | obtain ⟨rfl, yw, rfl⟩ := Ret.ext2 hh | obtain ⟨rfl, yw, rfl⟩ := Ret.ext hh) | (go_at_call 49; refine (c_daterange_Intersect _ _ _ _ _).mono ?_; intro e w' hh; first | obtain ⟨rfl, yw, rfl⟩ := Ret.ext2 hh | obtain ⟨rfl, yw, rfl⟩ := Ret.ext hh))
    go_ret
    exact ⟨by rw [hr.out] <;> simp, (by repeat (first | with_reducible exact Below.refl _ _ | with_reducible refine B_ext ?_ _ | with_reducible refine B_alloc ?_ _ | with_reducible refine Below.drew ?_ | with_reducible refine B_set ?_ _ _ _))⟩
  · have e1 : rgR m = (mFrom m, mFrom m + mLen m, 0) := by simp [rgR, hv]
    obtain ⟨b1, b2⟩ := m_bd hv
    obtain ⟨-, b3, b4⟩ := m_ymd hv
    have hp : prB (mFrom m) (mFrom m + mLen m) = true := by simp [prB, rngB]; omega
    cases hq : prB a b
    · have e2 : intR (mFrom m) (mFrom m + mLen m) a b = (0, 0, false) := by simp [intR, hq]
      have hr := hid (show ovR m a b = 0 by
        simp only [prB, rngB, Bool.and_eq_false_iff, decide_eq_false_iff_not] at hq
        simp only [ovR, hv, rngB]
        simp; omega)
      go_enter Tryd.func19, Tryd.ntmps19
      go_wp2_with (first | ((with_reducible refine wp_region_ext2 ?_ ?_ ?_); (kernel_rfl); (kernel_rfl)) | ((with_reducible refine wp_region_ext ?_ ?_ ?_); (kernel_rfl); (kernel_rfl)) | go_big_quiet_step (first | (go_at_call 13; exact quiet_of_ret (c_month_Range _ _)) | (go_at_call 49; exact quiet_of_ret (c_daterange_Intersect (mFrom m) (mFrom m + mLen m) a b _))) | ((with_reducible refine wpQuiet_nil ?_); intro x1) | (go_at_call 13; refine (c_month_Range _ _).mono ?_; intro e w' hh; first | obtain ⟨rfl, yw, rfl⟩ := Ret.ext2 hh | obtain ⟨rfl, yw, rfl⟩ := Ret.ext hh) | (go_at_call 49; refine (c_daterange_Intersect (mFrom m) (mFrom m + mLen m) a b _).mono ?_; intro e w' hh; first | obtain ⟨rfl, yw, rfl⟩ := Ret.ext2 hh | obtain ⟨rfl, yw, rfl⟩ := Ret.ext hh))
      go_ret
      exact ⟨by rw [hr.out] <;> simp, (by repeat (first | with_reducible exact Below.refl _ _ | with_reducible refine B_ext ?_ _ | with_reducible refine B_alloc ?_ _ | with_reducible refine Below.drew ?_ | with_reducible refine B_set ?_ _ _ _))⟩
    · have hq' := hq
      simp only [prB, rngB, Bool.and_eq_true, decide_eq_true_eq] at hq'
      by_cases hlt : min (mFrom m + mLen m) b ≤ max (mFrom m) a
      · have e2 : intR (mFrom m) (mFrom m + mLen m) a b = (0, 0, false) := by simp only [intR, hp, hq, hlt, if_true]; simp
        have hr := hid (show ovR m a b = 0 by
          simp only [ovR, hv, rngB]
          simp; omega)
        clear hlt
        go_enter Tryd.func19, Tryd.ntmps19
        go_wp2_with (first | ((with_reducible refine wp_region_ext2 ?_ ?_ ?_); (kernel_rfl); (kernel_rfl)) | ((with_reducible refine wp_region_ext ?_ ?_ ?_); (kernel_rfl); (kernel_rfl)) | go_big_quiet_step (first | (go_at_call 13; exact quiet_of_ret (c_month_Range _ _)) | (go_at_call 49; exact quiet_of_ret (c_daterange_Intersect (mFrom m) (mFrom m + mLen m) a b _))) | ((with_reducible refine wpQuiet_nil ?_); intro x1) | (go_at_call 13; refine (c_month_Range _ _).mono ?_; intro e w' hh; first | obtain ⟨rfl, yw, rfl⟩ := Ret.ext2 hh | obtain ⟨rfl, yw, rfl⟩ := Ret.ext hh) | (go_at_call 49; refine (c_daterange_Intersect (mFrom m) (mFrom m + mLen m) a b _).mono ?_; intro e w' hh; first | obtain ⟨rfl, yw, rfl⟩ := Ret.ext2 hh | obtain ⟨rfl, yw, rfl⟩ := Ret.ext hh))
        go_ret
        exact ⟨by rw [hr.out] <;> simp, (by repeat (first | with_reducible exact Below.refl _ _ | with_reducible refine B_ext ?_ _ | with_reducible refine B_alloc ?_ _ | with_reducible refine Below.drew ?_ | with_reducible refine B_set ?_ _ _ _))⟩
      · have e2 : intR (mFrom m) (mFrom m + mLen m) a b = (max (mFrom m) a, min (mFrom m + mLen m) b, true) := by simp only [intR, hp, hq, hlt, if_false]; simp
        have hr := hid (show ovR m a b = min (mFrom m + mLen m) b - max (mFrom m) a by
          have : rngB a b = true := by simp [rngB]; omega
          simp only [ovR, hv, this]
          simp; omega)
        clear hlt
        go_enter Tryd.func19, Tryd.ntmps19
        go_wp2_with (first | ((with_reducible refine wp_region_ext2 ?_ ?_ ?_); (kernel_rfl); (kernel_rfl)) | ((with_reducible refine wp_region_ext ?_ ?_ ?_); (kernel_rfl); (kernel_rfl)) | go_big_quiet_step (first | (go_at_call 13; exact quiet_of_ret (c_month_Range _ _)) | (go_at_call 49; exact quiet_of_ret (c_daterange_Intersect (mFrom m) (mFrom m + mLen m) a b _))) | ((with_reducible refine wpQuiet_nil ?_); intro x1) | (go_at_call 13; refine (c_month_Range _ _).mono ?_; intro e w' hh; first | obtain ⟨rfl, yw, rfl⟩ := Ret.ext2 hh | obtain ⟨rfl, yw, rfl⟩ := Ret.ext hh) | (go_at_call 49; refine (c_daterange_Intersect (mFrom m) (mFrom m + mLen m) a b _).mono ?_; intro e w' hh; first | obtain ⟨rfl, yw, rfl⟩ := Ret.ext2 hh | obtain ⟨rfl, yw, rfl⟩ := Ret.ext hh))
        go_ret
        exact ⟨by rw [hr.out] <;> simp, (by repeat (first | with_reducible exact Below.refl _ _ | with_reducible refine B_ext ?_ _ | with_reducible refine B_alloc ?_ _ | with_reducible refine Below.drew ?_ | with_reducible refine B_set ?_ _ _ _))⟩
theorem c_ref07_Overlap (m a b : Int) (w : World) : Calls Tryd.prog 20 #[.int .i64 m, rgV a b] w (Ret (.int .i64 (ovR m a b)) w) := by
  cases hv : mvB m
  · have hr := hid (show ovR m a b = 0 by simp [ovR, hv])
    have e1 : rgR m = (0, 0, 3) := by simp [rgR, hv]
    go_enter Tryd.func20, Tryd.ntmps20
    go_wp2_with (first | ((with_reducible refine wp_region_ext2 ?_ ?_ ?_); (kernel_rfl); (kernel_rfl)) | ((with_reducible refine wp_region_ext ?_ ?_ ?_); (kernel_rfl); (kernel_rfl)) | go_big_quiet_step (first | (go_at_call 14; exact quiet_of_ret (c_ref07_Range _ _)) | (go_at_call 50; exact quiet_of_ret (c_ref05_Valid _ _ _))) | ((with_reducible refine wpQuiet_nil ?_); intro x1) | (go_at_call 14; refine (c_ref07_Range _ _).mono ?_; intro e w' hh; first | obtain ⟨rfl, yw, rfl⟩ := Ret.ext2 hh | obtain ⟨rfl, yw, rfl⟩ := Ret.ext hh) | (go_at_call 50; refine (c_ref05_Valid _ _ _).mono ?_; intro e w' hh; first | obtain ⟨rfl, yw, rfl⟩ := Ret.ext2 hh | obtain ⟨rfl, yw, rfl⟩ := Ret.ext hh))
    go_ret
    exact ⟨by rw [hr.out] <;> simp, (by repeat (first | with_reducible exact Below.refl _ _ | with_reducible refine B_ext ?_ _ | with_reducible refine B_alloc ?_ _ | with_reducible refine Below.drew ?_ | with_reducible refine B_set ?_ _ _ _))⟩
  · have e1 : rgR m = (mFrom m, mFrom m + mLen m, 0) := by simp [rgR, hv]
    obtain ⟨b1, b2⟩ := m_bd hv
    obtain ⟨-, b3, b4⟩ := m_ymd hv
    cases hq : rngB a b
    · have hr := hid (show ovR m a b = 0 by simp [ovR, hv, hq])
      go_enter Tryd.func20, Tryd.ntmps20
      go_wp2_with (first | ((with_reducible refine wp_region_ext2 ?_ ?_ ?_); (kernel_rfl); (kernel_rfl)) | ((with_reducible refine wp_region_ext ?_ ?_ ?_); (kernel_rfl); (kernel_rfl)) | go_big_quiet_step (first | (go_at_call 14; exact quiet_of_ret (c_ref07_Range _ _)) | (go_at_call 50; exact quiet_of_ret (c_ref05_Valid _ _ _))) | ((with_reducible refine wpQuiet_nil ?_); intro x1) | (go_at_call 14; refine (c_ref07_Range _ _).mono ?_; intro e w' hh; first | obtain ⟨rfl, yw, rfl⟩ := Ret.ext2 hh | obtain ⟨rfl, yw, rfl⟩ := Ret.ext hh) | (go_at_call 50; refine (c_ref05_Valid _ _ _).mono ?_; intro e w' hh; first | obtain ⟨rfl, yw, rfl⟩ := Ret.ext2 hh | obtain ⟨rfl, yw, rfl⟩ := Ret.ext hh))
      go_ret
      exact ⟨by rw [hr.out] <;> simp, (by repeat (first | with_reducible exact Below.refl _ _ | with_reducible refine B_ext ?_ _ | with_reducible refine B_alloc ?_ _ | with_reducible refine Below.drew ?_ | with_reducible refine B_set ?_ _ _ _))⟩
    · have hr := hid (show ovR m a b = max 0 (min (mFrom m + mLen m) b - max (mFrom m) a) by simp [ovR, hv, hq])
      obtain ⟨c1, c2, c3⟩ := rngB_true hq
      go_enter Tryd.func20, Tryd.ntmps20
      go_wp2_with (first | ((with_reducible refine wp_region_ext2 ?_ ?_ ?_); (kernel_rfl); (kernel_rfl)) | ((with_reducible refine wp_region_ext ?_ ?_ ?_); (kernel_rfl); (kernel_rfl)) | go_big_quiet_step (first | (go_at_call 14; exact quiet_of_ret (c_ref07_Range _ _)) | (go_at_call 50; exact quiet_of_ret (c_ref05_Valid _ _ _))) | ((with_reducible refine wpQuiet_nil ?_); intro x1) | (go_at_call 14; refine (c_ref07_Range _ _).mono ?_; intro e w' hh; first | obtain ⟨rfl, yw, rfl⟩ := Ret.ext2 hh | obtain ⟨rfl, yw, rfl⟩ := Ret.ext hh) | (go_at_call 50; refine (c_ref05_Valid _ _ _).mono ?_; intro e w' hh; first | obtain ⟨rfl, yw, rfl⟩ := Ret.ext2 hh | obtain ⟨rfl, yw, rfl⟩ := Ret.ext hh))
      go_ret
      exact ⟨by rw [hr.out] <;> simp, (by repeat (first | with_reducible exact Below.refl _ _ | with_reducible refine B_ext ?_ _ | with_reducible refine B_alloc ?_ _ | with_reducible refine Below.drew ?_ | with_reducible refine B_set ?_ _ _ _))⟩

set_option maxHeartbeats 1000000 in
theorem c_month_PayDate (m we : Int) (v : Value) (hs : List Int) (day : Int) (w : World) (h : Ints w v hs) :
    Calls Tryd.prog 22 #[.int .i64 m, .agg #[.int .i64 we, v], .int .i64 day] w (Ret (.tuple #[.int .i64 (payR we hs m day).1, .int .i64 (payR we hs m day).2]) w) := by
  cases m1 : calOk we hs
  · have hr := hid (show payR we hs m day = (0, 1) by simp [payR, m1])
    go_enter Tryd.func22, Tryd.ntmps22
    go_wp2_with (first | ((with_reducible refine wp_region_ext2 ?_ ?_ ?_); (kernel_rfl); (kernel_rfl)) | ((with_reducible refine wp_region_ext ?_ ?_ ?_); (kernel_rfl); (kernel_rfl)) | go_big_quiet_step (first | (go_at_call 51; exact quiet_of_ret (c_workday_Valid _ _ hs _ (by first | with_reducible assumption | exact Ints.below (by assumption) (by repeat (first | with_reducible exact Below.refl _ _ | with_reducible refine B_ext ?_ _ | with_reducible refine B_alloc ?_ _ | with_reducible refine Below.drew ?_ | with_reducible refine B_set ?_ _ _ _))))) | (go_at_call 52; exact quiet_of_ret (c_workday_IsWorkday _ _ hs _ _ (by first | with_reducible assumption | exact Ints.below (by assumption) (by repeat (first | with_reducible exact Below.refl _ _ | with_reducible refine B_ext ?_ _ | with_reducible refine B_alloc ?_ _ | with_reducible refine Below.drew ?_ | with_reducible refine B_set ?_ _ _ _))))) | (go_at_call 13; exact quiet_of_ret (c_month_Range _ _)) | (go_at_call 17; exact quiet_of_ret (c_month_Days _ _))) | ((with_reducible refine wpQuiet_nil ?_); intro x1) | (go_at_call 51; refine (c_workday_Valid _ _ hs _ (by first | with_reducible assumption | exact Ints.below (by assumption) (by repeat (first | with_reducible exact Below.refl _ _ | with_reducible refine B_ext ?_ _ | with_reducible refine B_alloc ?_ _ | with_reducible refine Below.drew ?_ | with_reducible refine B_set ?_ _ _ _)))).mono ?_; intro e w' hh; first | obtain ⟨rfl, yw, rfl⟩ := Ret.ext2 hh | obtain ⟨rfl, yw, rfl⟩ := Ret.ext hh) | (go_at_call 52; refine (c_workday_IsWorkday _ _ hs _ _ (by first | with_reducible assumption | exact Ints.below (by assumption) (by repeat (first | with_reducible exact Below.refl _ _ | with_reducible refine B_ext ?_ _ | with_reducible refine B_alloc ?_ _ | with_reducible refine Below.drew ?_ | with_reducible refine B_set ?_ _ _ _)))).mono ?_; intro e w' hh; first | obtain ⟨rfl, yw, rfl⟩ := Ret.ext2 hh | obtain ⟨rfl, yw, rfl⟩ := Ret.ext hh) | (go_at_call 13; refine (c_month_Range _ _).mono ?_; intro e w' hh; first | obtain ⟨rfl, yw, rfl⟩ := Ret.ext2 hh | obtain ⟨rfl, yw, rfl⟩ := Ret.ext hh) | (go_at_call 17; refine (c_month_Days _ _).mono ?_; intro e w' hh; first | obtain ⟨rfl, yw, rfl⟩ := Ret.ext2 hh | obtain ⟨rfl, yw, rfl⟩ := Ret.ext hh))
    go_ret2
    exact ⟨by rw [hr.out] <;> simp, (by repeat (first | with_reducible exact Below.refl _ _ | with_reducible refine B_ext ?_ _ | with_reducible refine B_alloc ?_ _ | with_reducible refine Below.drew ?_ | with_reducible refine B_set ?_ _ _ _))⟩
  · cases m2 : decide (day < 1)
    · have m2p : ¬ (day < 1) := by simpa using m2
      cases m3 : decide (31 < day)
      · have m3p : ¬ (31 < day) := by simpa using m3
        cases m4 : mvB m
        · have hr := hid (show payR we hs m day = (0, 3) by simp [payR, m1, m2p, m3p, m4])
          have e1 : rgR m = (0, 0, 3) := by simp [rgR, m4]
          go_enter Tryd.func22, Tryd.ntmps22
          go_wp2_with (first | ((with_reducible refine wp_region_ext2 ?_ ?_ ?_); (kernel_rfl); (kernel_rfl)) | ((with_reducible refine wp_region_ext ?_ ?_ ?_); (kernel_rfl); (kernel_rfl)) | go_big_quiet_step (first | (go_at_call 51; exact quiet_of_ret (c_workday_Valid _ _ hs _ (by first | with_reducible assumption | exact Ints.below (by assumption) (by repeat (first | with_reducible exact Below.refl _ _ | with_reducible refine B_ext ?_ _ | with_reducible refine B_alloc ?_ _ | with_reducible refine Below.drew ?_ | with_reducible refine B_set ?_ _ _ _))))) | (go_at_call 52; exact quiet_of_ret (c_workday_IsWorkday _ _ hs _ _ (by first | with_reducible assumption | exact Ints.below (by assumption) (by repeat (first | with_reducible exact Below.refl _ _ | with_reducible refine B_ext ?_ _ | with_reducible refine B_alloc ?_ _ | with_reducible refine Below.drew ?_ | with_reducible refine B_set ?_ _ _ _))))) | (go_at_call 13; exact quiet_of_ret (c_month_Range _ _)) | (go_at_call 17; exact quiet_of_ret (c_month_Days _ _))) | ((with_reducible refine wpQuiet_nil ?_); intro x1) | (go_at_call 51; refine (c_workday_Valid _ _ hs _ (by first | with_reducible assumption | exact Ints.below (by assumption) (by repeat (first | with_reducible exact Below.refl _ _ | with_reducible refine B_ext ?_ _ | with_reducible refine B_alloc ?_ _ | with_reducible refine Below.drew ?_ | with_reducible refine B_set ?_ _ _ _)))).mono ?_; intro e w' hh; first | obtain ⟨rfl, yw, rfl⟩ := Ret.ext2 hh | obtain ⟨rfl, yw, rfl⟩ := Ret.ext hh) | (go_at_call 52; refine (c_workday_IsWorkday _ _ hs _ _ (by first | with_reducible assumption | exact Ints.below (by assumption) (by repeat (first | with_reducible exact Below.refl _ _ | with_reducible refine B_ext ?_ _ | with_reducible refine B_alloc ?_ _ | with_reducible refine Below.drew ?_ | with_reducible refine B_set ?_ _ _ _)))).mono ?_; intro e w' hh; first | obtain ⟨rfl, yw, rfl⟩ := Ret.ext2 hh | obtain ⟨rfl, yw, rfl⟩ := Ret.ext hh) | (go_at_call 13; refine (c_month_Range _ _).mono ?_; intro e w' hh; first | obtain ⟨rfl, yw, rfl⟩ := Ret.ext2 hh | obtain ⟨rfl, yw, rfl⟩ := Ret.ext hh) | (go_at_call 17; refine (c_month_Days _ _).mono ?_; intro e w' hh; first | obtain ⟨rfl, yw, rfl⟩ := Ret.ext2 hh | obtain ⟨rfl, yw, rfl⟩ := Ret.ext hh))
          go_ret2
          exact ⟨by rw [hr.out] <;> simp, (by repeat (first | with_reducible exact Below.refl _ _ | with_reducible refine B_ext ?_ _ | with_reducible refine B_alloc ?_ _ | with_reducible refine Below.drew ?_ | with_reducible refine B_set ?_ _ _ _))⟩
        · have hr := hid (show payR we hs m day = payF we hs (mFrom m + min day (mLen m)).toNat by simp [payR, m1, m2p, m3p, m4])
          have e1 : rgR m = (mFrom m, mFrom m + mLen m, 0) := by simp [rgR, m4]
          have hD : ∀ W, Calls Tryd.prog 17 #[.int .i64 m] W (Ret (.int .i64 (mLen m)) W) := fun W => by
            have := c_month_Days m W
            rwa [show dysR m = mLen m by simp [dysR, m4]] at this
          replace hD := hid hD
          obtain ⟨b1, b2⟩ := m_bd m4
          obtain ⟨-, b3, b4⟩ := m_ymd m4
          obtain ⟨q, hq⟩ : ∃ q, min day (mLen m) = q := ⟨_, rfl⟩
          rw [hq] at hr
          have q1 : 1 ≤ q ∧ q ≤ 31 := by omega
          obtain ⟨q1, q2⟩ := q1
          go_enter Tryd.func22, Tryd.ntmps22
          go_wp2_with (first | ((with_reducible refine wp_region_ext2 ?_ ?_ ?_); (kernel_rfl); (kernel_rfl)) | ((with_reducible refine wp_region_ext ?_ ?_ ?_); (kernel_rfl); (kernel_rfl)) | go_big_quiet_step (first | (go_at_call 51; exact quiet_of_ret (c_workday_Valid _ _ hs _ (by first | with_reducible assumption | exact Ints.below (by assumption) (by repeat (first | with_reducible exact Below.refl _ _ | with_reducible refine B_ext ?_ _ | with_reducible refine B_alloc ?_ _ | with_reducible refine Below.drew ?_ | with_reducible refine B_set ?_ _ _ _))))) | (go_at_call 52; exact quiet_of_ret (c_workday_IsWorkday _ _ hs _ _ (by first | with_reducible assumption | exact Ints.below (by assumption) (by repeat (first | with_reducible exact Below.refl _ _ | with_reducible refine B_ext ?_ _ | with_reducible refine B_alloc ?_ _ | with_reducible refine Below.drew ?_ | with_reducible refine B_set ?_ _ _ _))))) | (go_at_call 13; exact quiet_of_ret (c_month_Range _ _)) | (go_at_call 17; exact quiet_of_ret (hD.out _))) | ((with_reducible refine wpQuiet_nil ?_); intro x1) | (go_at_call 51; refine (c_workday_Valid _ _ hs _ (by first | with_reducible assumption | exact Ints.below (by assumption) (by repeat (first | with_reducible exact Below.refl _ _ | with_reducible refine B_ext ?_ _ | with_reducible refine B_alloc ?_ _ | with_reducible refine Below.drew ?_ | with_reducible refine B_set ?_ _ _ _)))).mono ?_; intro e w' hh; first | obtain ⟨rfl, yw, rfl⟩ := Ret.ext2 hh | obtain ⟨rfl, yw, rfl⟩ := Ret.ext hh) | (go_at_call 52; refine (c_workday_IsWorkday _ _ hs _ _ (by first | with_reducible assumption | exact Ints.below (by assumption) (by repeat (first | with_reducible exact Below.refl _ _ | with_reducible refine B_ext ?_ _ | with_reducible refine B_alloc ?_ _ | with_reducible refine Below.drew ?_ | with_reducible refine B_set ?_ _ _ _)))).mono ?_; intro e w' hh; first | obtain ⟨rfl, yw, rfl⟩ := Ret.ext2 hh | obtain ⟨rfl, yw, rfl⟩ := Ret.ext hh) | (go_at_call 13; refine (c_month_Range _ _).mono ?_; intro e w' hh; first | obtain ⟨rfl, yw, rfl⟩ := Ret.ext2 hh | obtain ⟨rfl, yw, rfl⟩ := Ret.ext hh) | (go_at_call 17; refine (hD.out _).mono ?_; intro e w' hh; first | obtain ⟨rfl, yw, rfl⟩ := Ret.ext2 hh | obtain ⟨rfl, yw, rfl⟩ := Ret.ext hh))
          go_loopw [10] (fun d wr => ∃ x, wr = ext (w.alloc (Obj.cells #[Value.int IntKind.i64 we, v] 33)) x ∧ ∃ k : Int, -1 ≤ k ∧ k ≤ 109572 ∧ d = .int .i64 k ∧ payF we hs (mFrom m + q).toNat = payF we hs (k + 1).toNat) (fun d _ => (intOf d + 1).toNat)
          case atStart => exact ex_ext (by repeat (first | with_reducible exact Below.refl _ _ | with_reducible refine B_ext ?_ _ | with_reducible refine B_alloc ?_ _ | with_reducible refine Below.drew ?_ | with_reducible refine B_set ?_ _ _ _)) ⟨mFrom m + q - 1, by omega, by omega, rfl, by congr 1; omega⟩
          case round =>
            obtain ⟨x, rfl, k, hk0, hk1, rfl, heq⟩ := hrel
            by_cases hk : k = -1
            · subst hk
              replace hr := hid (show payR we hs m day = (0, 6) by rw [hr.out, heq]; rfl)
              replace heq := hid heq
              go_wp2_with (first | ((with_reducible refine wp_region_ext2 ?_ ?_ ?_); (kernel_rfl); (kernel_rfl)) | ((with_reducible refine wp_region_ext ?_ ?_ ?_); (kernel_rfl); (kernel_rfl)) | go_big_quiet_step (first | (go_at_call 51; exact quiet_of_ret (c_workday_Valid _ _ hs _ (by first | with_reducible assumption | exact Ints.below (by assumption) (by repeat (first | with_reducible exact Below.refl _ _ | with_reducible refine B_ext ?_ _ | with_reducible refine B_alloc ?_ _ | with_reducible refine Below.drew ?_ | with_reducible refine B_set ?_ _ _ _))))) | (go_at_call 52; exact quiet_of_ret (c_workday_IsWorkday _ _ hs _ _ (by first | with_reducible assumption | exact Ints.below (by assumption) (by repeat (first | with_reducible exact Below.refl _ _ | with_reducible refine B_ext ?_ _ | with_reducible refine B_alloc ?_ _ | with_reducible refine Below.drew ?_ | with_reducible refine B_set ?_ _ _ _))))) | (go_at_call 13; exact quiet_of_ret (c_month_Range _ _)) | (go_at_call 17; exact quiet_of_ret (c_month_Days _ _))) | ((with_reducible refine wpQuiet_nil ?_); intro x1) | (go_at_call 51; refine (c_workday_Valid _ _ hs _ (by first | with_reducible assumption | exact Ints.below (by assumption) (by repeat (first | with_reducible exact Below.refl _ _ | with_reducible refine B_ext ?_ _ | with_reducible refine B_alloc ?_ _ | with_reducible refine Below.drew ?_ | with_reducible refine B_set ?_ _ _ _)))).mono ?_; intro e w' hh; first | obtain ⟨rfl, yw, rfl⟩ := Ret.ext2 hh | obtain ⟨rfl, yw, rfl⟩ := Ret.ext hh) | (go_at_call 52; refine (c_workday_IsWorkday _ _ hs _ _ (by first | with_reducible assumption | exact Ints.below (by assumption) (by repeat (first | with_reducible exact Below.refl _ _ | with_reducible refine B_ext ?_ _ | with_reducible refine B_alloc ?_ _ | with_reducible refine Below.drew ?_ | with_reducible refine B_set ?_ _ _ _)))).mono ?_; intro e w' hh; first | obtain ⟨rfl, yw, rfl⟩ := Ret.ext2 hh | obtain ⟨rfl, yw, rfl⟩ := Ret.ext hh) | (go_at_call 13; refine (c_month_Range _ _).mono ?_; intro e w' hh; first | obtain ⟨rfl, yw, rfl⟩ := Ret.ext2 hh | obtain ⟨rfl, yw, rfl⟩ := Ret.ext hh) | (go_at_call 17; refine (c_month_Days _ _).mono ?_; intro e w' hh; first | obtain ⟨rfl, yw, rfl⟩ := Ret.ext2 hh | obtain ⟨rfl, yw, rfl⟩ := Ret.ext hh))
              go_ret2
              exact ⟨by rw [hr.out] <;> simp, (by repeat (first | with_reducible exact Below.refl _ _ | with_reducible refine B_ext ?_ _ | with_reducible refine B_alloc ?_ _ | with_reducible refine Below.drew ?_ | with_reducible refine B_set ?_ _ _ _))⟩
            · have hk2 : 0 ≤ k := by omega
              rw [payF_step hk2] at heq
              clear hk
              cases hwk : isWkB we hs k
              · replace heq := hid (show payF we hs (mFrom m + q).toNat = payF we hs (k - 1 + 1).toNat by rw [heq, hwk]; simp)
                go_wp2_with (first | ((with_reducible refine wp_region_ext2 ?_ ?_ ?_); (kernel_rfl); (kernel_rfl)) | ((with_reducible refine wp_region_ext ?_ ?_ ?_); (kernel_rfl); (kernel_rfl)) | go_big_quiet_step (first | (go_at_call 51; exact quiet_of_ret (c_workday_Valid _ _ hs _ (by first | with_reducible assumption | exact Ints.below (by assumption) (by repeat (first | with_reducible exact Below.refl _ _ | with_reducible refine B_ext ?_ _ | with_reducible refine B_alloc ?_ _ | with_reducible refine Below.drew ?_ | with_reducible refine B_set ?_ _ _ _))))) | (go_at_call 52; exact quiet_of_ret (c_workday_IsWorkday _ _ hs _ _ (by first | with_reducible assumption | exact Ints.below (by assumption) (by repeat (first | with_reducible exact Below.refl _ _ | with_reducible refine B_ext ?_ _ | with_reducible refine B_alloc ?_ _ | with_reducible refine Below.drew ?_ | with_reducible refine B_set ?_ _ _ _))))) | (go_at_call 13; exact quiet_of_ret (c_month_Range _ _)) | (go_at_call 17; exact quiet_of_ret (c_month_Days _ _))) | ((with_reducible refine wpQuiet_nil ?_); intro x1) | (go_at_call 51; refine (c_workday_Valid _ _ hs _ (by first | with_reducible assumption | exact Ints.below (by assumption) (by repeat (first | with_reducible exact Below.refl _ _ | with_reducible refine B_ext ?_ _ | with_reducible refine B_alloc ?_ _ | with_reducible refine Below.drew ?_ | with_reducible refine B_set ?_ _ _ _)))).mono ?_; intro e w' hh; first | obtain ⟨rfl, yw, rfl⟩ := Ret.ext2 hh | obtain ⟨rfl, yw, rfl⟩ := Ret.ext hh) | (go_at_call 52; refine (c_workday_IsWorkday _ _ hs _ _ (by first | with_reducible assumption | exact Ints.below (by assumption) (by repeat (first | with_reducible exact Below.refl _ _ | with_reducible refine B_ext ?_ _ | with_reducible refine B_alloc ?_ _ | with_reducible refine Below.drew ?_ | with_reducible refine B_set ?_ _ _ _)))).mono ?_; intro e w' hh; first | obtain ⟨rfl, yw, rfl⟩ := Ret.ext2 hh | obtain ⟨rfl, yw, rfl⟩ := Ret.ext hh) | (go_at_call 13; refine (c_month_Range _ _).mono ?_; intro e w' hh; first | obtain ⟨rfl, yw, rfl⟩ := Ret.ext2 hh | obtain ⟨rfl, yw, rfl⟩ := Ret.ext hh) | (go_at_call 17; refine (c_month_Days _ _).mono ?_; intro e w' hh; first | obtain ⟨rfl, yw, rfl⟩ := Ret.ext2 hh | obtain ⟨rfl, yw, rfl⟩ := Ret.ext hh))
                go_roundw
                case rel => exact ⟨_, rfl, k - 1, by omega, by omega, by go_num, heq.out⟩
                case measure => simp [intOf]; omega
              · replace hr := hid (show payR we hs m day = (k, 0) by rw [hr.out, heq, hwk]; simp)
                replace heq := hid heq
                go_wp2_with (first | ((with_reducible refine wp_region_ext2 ?_ ?_ ?_); (kernel_rfl); (kernel_rfl)) | ((with_reducible refine wp_region_ext ?_ ?_ ?_); (kernel_rfl); (kernel_rfl)) | go_big_quiet_step (first | (go_at_call 51; exact quiet_of_ret (c_workday_Valid _ _ hs _ (by first | with_reducible assumption | exact Ints.below (by assumption) (by repeat (first | with_reducible exact Below.refl _ _ | with_reducible refine B_ext ?_ _ | with_reducible refine B_alloc ?_ _ | with_reducible refine Below.drew ?_ | with_reducible refine B_set ?_ _ _ _))))) | (go_at_call 52; exact quiet_of_ret (c_workday_IsWorkday _ _ hs _ _ (by first | with_reducible assumption | exact Ints.below (by assumption) (by repeat (first | with_reducible exact Below.refl _ _ | with_reducible refine B_ext ?_ _ | with_reducible refine B_alloc ?_ _ | with_reducible refine Below.drew ?_ | with_reducible refine B_set ?_ _ _ _))))) | (go_at_call 13; exact quiet_of_ret (c_month_Range _ _)) | (go_at_call 17; exact quiet_of_ret (c_month_Days _ _))) | ((with_reducible refine wpQuiet_nil ?_); intro x1) | (go_at_call 51; refine (c_workday_Valid _ _ hs _ (by first | with_reducible assumption | exact Ints.below (by assumption) (by repeat (first | with_reducible exact Below.refl _ _ | with_reducible refine B_ext ?_ _ | with_reducible refine B_alloc ?_ _ | with_reducible refine Below.drew ?_ | with_reducible refine B_set ?_ _ _ _)))).mono ?_; intro e w' hh; first | obtain ⟨rfl, yw, rfl⟩ := Ret.ext2 hh | obtain ⟨rfl, yw, rfl⟩ := Ret.ext hh) | (go_at_call 52; refine (c_workday_IsWorkday _ _ hs _ _ (by first | with_reducible assumption | exact Ints.below (by assumption) (by repeat (first | with_reducible exact Below.refl _ _ | with_reducible refine B_ext ?_ _ | with_reducible refine B_alloc ?_ _ | with_reducible refine Below.drew ?_ | with_reducible refine B_set ?_ _ _ _)))).mono ?_; intro e w' hh; first | obtain ⟨rfl, yw, rfl⟩ := Ret.ext2 hh | obtain ⟨rfl, yw, rfl⟩ := Ret.ext hh) | (go_at_call 13; refine (c_month_Range _ _).mono ?_; intro e w' hh; first | obtain ⟨rfl, yw, rfl⟩ := Ret.ext2 hh | obtain ⟨rfl, yw, rfl⟩ := Ret.ext hh) | (go_at_call 17; refine (c_month_Days _ _).mono ?_; intro e w' hh; first | obtain ⟨rfl, yw, rfl⟩ := Ret.ext2 hh | obtain ⟨rfl, yw, rfl⟩ := Ret.ext hh))
                go_ret2
                exact ⟨by rw [hr.out] <;> simp, (by repeat (first | with_reducible exact Below.refl _ _ | with_reducible refine B_ext ?_ _ | with_reducible refine B_alloc ?_ _ | with_reducible refine Below.drew ?_ | with_reducible refine B_set ?_ _ _ _))⟩
      · have m3p : 31 < day := by simpa using m3
        have hr := hid (show payR we hs m day = (0, 1) by simp [payR, m1, m2p, m3p])
        go_enter Tryd.func22, Tryd.ntmps22
        go_wp2_with (first | ((with_reducible refine wp_region_ext2 ?_ ?_ ?_); (kernel_rfl); (kernel_rfl)) | ((with_reducible refine wp_region_ext ?_ ?_ ?_); (kernel_rfl); (kernel_rfl)) | go_big_quiet_step (first | (go_at_call 51; exact quiet_of_ret (c_workday_Valid _ _ hs _ (by first | with_reducible assumption | exact Ints.below (by assumption) (by repeat (first | with_reducible exact Below.refl _ _ | with_reducible refine B_ext ?_ _ | with_reducible refine B_alloc ?_ _ | with_reducible refine Below.drew ?_ | with_reducible refine B_set ?_ _ _ _))))) | (go_at_call 52; exact quiet_of_ret (c_workday_IsWorkday _ _ hs _ _ (by first | with_reducible assumption | exact Ints.below (by assumption) (by repeat (first | with_reducible exact Below.refl _ _ | with_reducible refine B_ext ?_ _ | with_reducible refine B_alloc ?_ _ | with_reducible refine Below.drew ?_ | with_reducible refine B_set ?_ _ _ _))))) | (go_at_call 13; exact quiet_of_ret (c_month_Range _ _)) | (go_at_call 17; exact quiet_of_ret (c_month_Days _ _))) | ((with_reducible refine wpQuiet_nil ?_); intro x1) | (go_at_call 51; refine (c_workday_Valid _ _ hs _ (by first | with_reducible assumption | exact Ints.below (by assumption) (by repeat (first | with_reducible exact Below.refl _ _ | with_reducible refine B_ext ?_ _ | with_reducible refine B_alloc ?_ _ | with_reducible refine Below.drew ?_ | with_reducible refine B_set ?_ _ _ _)))).mono ?_; intro e w' hh; first | obtain ⟨rfl, yw, rfl⟩ := Ret.ext2 hh | obtain ⟨rfl, yw, rfl⟩ := Ret.ext hh) | (go_at_call 52; refine (c_workday_IsWorkday _ _ hs _ _ (by first | with_reducible assumption | exact Ints.below (by assumption) (by repeat (first | with_reducible exact Below.refl _ _ | with_reducible refine B_ext ?_ _ | with_reducible refine B_alloc ?_ _ | with_reducible refine Below.drew ?_ | with_reducible refine B_set ?_ _ _ _)))).mono ?_; intro e w' hh; first | obtain ⟨rfl, yw, rfl⟩ := Ret.ext2 hh | obtain ⟨rfl, yw, rfl⟩ := Ret.ext hh) | (go_at_call 13; refine (c_month_Range _ _).mono ?_; intro e w' hh; first | obtain ⟨rfl, yw, rfl⟩ := Ret.ext2 hh | obtain ⟨rfl, yw, rfl⟩ := Ret.ext hh) | (go_at_call 17; refine (c_month_Days _ _).mono ?_; intro e w' hh; first | obtain ⟨rfl, yw, rfl⟩ := Ret.ext2 hh | obtain ⟨rfl, yw, rfl⟩ := Ret.ext hh))
        go_ret2
        exact ⟨by rw [hr.out] <;> simp, (by repeat (first | with_reducible exact Below.refl _ _ | with_reducible refine B_ext ?_ _ | with_reducible refine B_alloc ?_ _ | with_reducible refine Below.drew ?_ | with_reducible refine B_set ?_ _ _ _))⟩
    · have m2p : day < 1 := by simpa using m2
      have hr := hid (show payR we hs m day = (0, 1) by simp [payR, m1, m2p])
      go_enter Tryd.func22, Tryd.ntmps22
      go_wp2_with (first | ((with_reducible refine wp_region_ext2 ?_ ?_ ?_); (kernel_rfl); (kernel_rfl)) | ((with_reducible refine wp_region_ext ?_ ?_ ?_); (kernel_rfl); (kernel_rfl)) | go_big_quiet_step (first | (go_at_call 51; exact quiet_of_ret (c_workday_Valid _ _ hs _ (by first | with_reducible assumption | exact Ints.below (by assumption) (by repeat (first | with_reducible exact Below.refl _ _ | with_reducible refine B_ext ?_ _ | with_reducible refine B_alloc ?_ _ | with_reducible refine Below.drew ?_ | with_reducible refine B_set ?_ _ _ _))))) | (go_at_call 52; exact quiet_of_ret (c_workday_IsWorkday _ _ hs _ _ (by first | with_reducible assumption | exact Ints.below (by assumption) (by repeat (first | with_reducible exact Below.refl _ _ | with_reducible refine B_ext ?_ _ | with_reducible refine B_alloc ?_ _ | with_reducible refine Below.drew ?_ | with_reducible refine B_set ?_ _ _ _))))) | (go_at_call 13; exact quiet_of_ret (c_month_Range _ _)) | (go_at_call 17; exact quiet_of_ret (c_month_Days _ _))) | ((with_reducible refine wpQuiet_nil ?_); intro x1) | (go_at_call 51; refine (c_workday_Valid _ _ hs _ (by first | with_reducible assumption | exact Ints.below (by assumption) (by repeat (first | with_reducible exact Below.refl _ _ | with_reducible refine B_ext ?_ _ | with_reducible refine B_alloc ?_ _ | with_reducible refine Below.drew ?_ | with_reducible refine B_set ?_ _ _ _)))).mono ?_; intro e w' hh; first | obtain ⟨rfl, yw, rfl⟩ := Ret.ext2 hh | obtain ⟨rfl, yw, rfl⟩ := Ret.ext hh) | (go_at_call 52; refine (c_workday_IsWorkday _ _ hs _ _ (by first | with_reducible assumption | exact Ints.below (by assumption) (by repeat (first | with_reducible exact Below.refl _ _ | with_reducible refine B_ext ?_ _ | with_reducible refine B_alloc ?_ _ | with_reducible refine Below.drew ?_ | with_reducible refine B_set ?_ _ _ _)))).mono ?_; intro e w' hh; first | obtain ⟨rfl, yw, rfl⟩ := Ret.ext2 hh | obtain ⟨rfl, yw, rfl⟩ := Ret.ext hh) | (go_at_call 13; refine (c_month_Range _ _).mono ?_; intro e w' hh; first | obtain ⟨rfl, yw, rfl⟩ := Ret.ext2 hh | obtain ⟨rfl, yw, rfl⟩ := Ret.ext hh) | (go_at_call 17; refine (c_month_Days _ _).mono ?_; intro e w' hh; first | obtain ⟨rfl, yw, rfl⟩ := Ret.ext2 hh | obtain ⟨rfl, yw, rfl⟩ := Ret.ext hh))
      go_ret2
      exact ⟨by rw [hr.out] <;> simp, (by repeat (first | with_reducible exact Below.refl _ _ | with_reducible refine B_ext ?_ _ | with_reducible refine B_alloc ?_ _ | with_reducible refine Below.drew ?_ | with_reducible refine B_set ?_ _ _ _))⟩

set_option maxHeartbeats 1000000 in
theorem c_ref07_PayDate (m we : Int) (v : Value) (hs : List Int) (day : Int) (w : World) (h : Ints w v hs) :
    Calls Tryd.prog 23 #[.int .i64 m, .agg #[.int .i64 we, v], .int .i64 day] w (Ret (.tuple #[.int .i64 (payR we hs m day).1, .int .i64 (payR we hs m day).2]) w) := by
  cases m1 : calOk we hs
  · have hr := hid (show payR we hs m day = (0, 1) by simp [payR, m1])
    go_enter Tryd.func23, Tryd.ntmps23
    go_wp2_with (first | ((with_reducible refine wp_region_ext2 ?_ ?_ ?_); (kernel_rfl); (kernel_rfl)) | ((with_reducible refine wp_region_ext ?_ ?_ ?_); (kernel_rfl); (kernel_rfl)) | go_big_quiet_step (first | (go_at_call 53; exact quiet_of_ret (c_ref06_Valid _ _ hs _ (by first | with_reducible assumption | exact Ints.below (by assumption) (by repeat (first | with_reducible exact Below.refl _ _ | with_reducible refine B_ext ?_ _ | with_reducible refine B_alloc ?_ _ | with_reducible refine Below.drew ?_ | with_reducible refine B_set ?_ _ _ _))))) | (go_at_call 54; exact quiet_of_ret (c_ref06_IsWorkday _ _ hs _ _ (by first | with_reducible assumption | exact Ints.below (by assumption) (by repeat (first | with_reducible exact Below.refl _ _ | with_reducible refine B_ext ?_ _ | with_reducible refine B_alloc ?_ _ | with_reducible refine Below.drew ?_ | with_reducible refine B_set ?_ _ _ _))))) | (go_at_call 14; exact quiet_of_ret (c_ref07_Range _ _)) | (go_at_call 18; exact quiet_of_ret (c_ref07_Days _ _))) | ((with_reducible refine wpQuiet_nil ?_); intro x1) | (go_at_call 53; refine (c_ref06_Valid _ _ hs _ (by first | with_reducible assumption | exact Ints.below (by assumption) (by repeat (first | with_reducible exact Below.refl _ _ | with_reducible refine B_ext ?_ _ | with_reducible refine B_alloc ?_ _ | with_reducible refine Below.drew ?_ | with_reducible refine B_set ?_ _ _ _)))).mono ?_; intro e w' hh; first | obtain ⟨rfl, yw, rfl⟩ := Ret.ext2 hh | obtain ⟨rfl, yw, rfl⟩ := Ret.ext hh) | (go_at_call 54; refine (c_ref06_IsWorkday _ _ hs _ _ (by first | with_reducible assumption | exact Ints.below (by assumption) (by repeat (first | with_reducible exact Below.refl _ _ | with_reducible refine B_ext ?_ _ | with_reducible refine B_alloc ?_ _ | with_reducible refine Below.drew ?_ | with_reducible refine B_set ?_ _ _ _)))).mono ?_; intro e w' hh; first | obtain ⟨rfl, yw, rfl⟩ := Ret.ext2 hh | obtain ⟨rfl, yw, rfl⟩ := Ret.ext hh) | (go_at_call 14; refine (c_ref07_Range _ _).mono ?_; intro e w' hh; first | obtain ⟨rfl, yw, rfl⟩ := Ret.ext2 hh | obtain ⟨rfl, yw, rfl⟩ := Ret.ext hh) | (go_at_call 18; refine (c_ref07_Days _ _).mono ?_; intro e w' hh; first | obtain ⟨rfl, yw, rfl⟩ := Ret.ext2 hh | obtain ⟨rfl, yw, rfl⟩ := Ret.ext hh))
    go_ret2
    exact ⟨by rw [hr.out] <;> simp, (by repeat (first | with_reducible exact Below.refl _ _ | with_reducible refine B_ext ?_ _ | with_reducible refine B_alloc ?_ _ | with_reducible refine Below.drew ?_ | with_reducible refine B_set ?_ _ _ _))⟩
  · cases m2 : decide (day < 1)
    · have m2p : ¬ (day < 1) := by simpa using m2
      cases m3 : decide (31 < day)
      · have m3p : ¬ (31 < day) := by simpa using m3
        cases m4 : mvB m
        · have hr := hid (show payR we hs m day = (0, 3) by simp [payR, m1, m2p, m3p, m4])
          have e1 : rgR m = (0, 0, 3) := by simp [rgR, m4]
          go_enter Tryd.func23, Tryd.ntmps23
          go_wp2_with (first | ((with_reducible refine wp_region_ext2 ?_ ?_ ?_); (kernel_rfl); (kernel_rfl)) | ((with_reducible refine wp_region_ext ?_ ?_ ?_); (kernel_rfl); (kernel_rfl)) | go_big_quiet_step (first | (go_at_call 53; exact quiet_of_ret (c_ref06_Valid _ _ hs _ (by first | with_reducible assumption | exact Ints.below (by assumption) (by repeat (first | with_reducible exact Below.refl _ _ | with_reducible refine B_ext ?_ _ | with_reducible refine B_alloc ?_ _ | with_reducible refine Below.drew ?_ | with_reducible refine B_set ?_ _ _ _))))) | (go_at_call 54; exact quiet_of_ret (c_ref06_IsWorkday _ _ hs _ _ (by first | with_reducible assumption | exact Ints.below (by assumption) (by repeat (first | with_reducible exact Below.refl _ _ | with_reducible refine B_ext ?_ _ | with_reducible refine B_alloc ?_ _ | with_reducible refine Below.drew ?_ | with_reducible refine B_set ?_ _ _ _))))) | (go_at_call 14; exact quiet_of_ret (c_ref07_Range _ _)) | (go_at_call 18; exact quiet_of_ret (c_ref07_Days _ _))) | ((with_reducible refine wpQuiet_nil ?_); intro x1) | (go_at_call 53; refine (c_ref06_Valid _ _ hs _ (by first | with_reducible assumption | exact Ints.below (by assumption) (by repeat (first | with_reducible exact Below.refl _ _ | with_reducible refine B_ext ?_ _ | with_reducible refine B_alloc ?_ _ | with_reducible refine Below.drew ?_ | with_reducible refine B_set ?_ _ _ _)))).mono ?_; intro e w' hh; first | obtain ⟨rfl, yw, rfl⟩ := Ret.ext2 hh | obtain ⟨rfl, yw, rfl⟩ := Ret.ext hh) | (go_at_call 54; refine (c_ref06_IsWorkday _ _ hs _ _ (by first | with_reducible assumption | exact Ints.below (by assumption) (by repeat (first | with_reducible exact Below.refl _ _ | with_reducible refine B_ext ?_ _ | with_reducible refine B_alloc ?_ _ | with_reducible refine Below.drew ?_ | with_reducible refine B_set ?_ _ _ _)))).mono ?_; intro e w' hh; first | obtain ⟨rfl, yw, rfl⟩ := Ret.ext2 hh | obtain ⟨rfl, yw, rfl⟩ := Ret.ext hh) | (go_at_call 14; refine (c_ref07_Range _ _).mono ?_; intro e w' hh; first | obtain ⟨rfl, yw, rfl⟩ := Ret.ext2 hh | obtain ⟨rfl, yw, rfl⟩ := Ret.ext hh) | (go_at_call 18; refine (c_ref07_Days _ _).mono ?_; intro e w' hh; first | obtain ⟨rfl, yw, rfl⟩ := Ret.ext2 hh | obtain ⟨rfl, yw, rfl⟩ := Ret.ext hh))
          go_ret2
          exact ⟨by rw [hr.out] <;> simp, (by repeat (first | with_reducible exact Below.refl _ _ | with_reducible refine B_ext ?_ _ | with_reducible refine B_alloc ?_ _ | with_reducible refine Below.drew ?_ | with_reducible refine B_set ?_ _ _ _))⟩
        · have hr := hid (show payR we hs m day = payF we hs (mFrom m + min day (mLen m)).toNat by simp [payR, m1, m2p, m3p, m4])
          have e1 : rgR m = (mFrom m, mFrom m + mLen m, 0) := by simp [rgR, m4]
          have hD : ∀ W, Calls Tryd.prog 18 #[.int .i64 m] W (Ret (.int .i64 (mLen m)) W) := fun W => by
            have := c_ref07_Days m W
            rwa [show dysR m = mLen m by simp [dysR, m4]] at this
          replace hD := hid hD
          obtain ⟨b1, b2⟩ := m_bd m4
          obtain ⟨-, b3, b4⟩ := m_ymd m4
          obtain ⟨q, hq⟩ : ∃ q, min day (mLen m) = q := ⟨_, rfl⟩
          rw [hq] at hr
          have q1 : 1 ≤ q ∧ q ≤ 31 := by omega
          obtain ⟨q1, q2⟩ := q1
          go_enter Tryd.func23, Tryd.ntmps23
          go_wp2_with (first | ((with_reducible refine wp_region_ext2 ?_ ?_ ?_); (kernel_rfl); (kernel_rfl)) | ((with_reducible refine wp_region_ext ?_ ?_ ?_); (kernel_rfl); (kernel_rfl)) | go_big_quiet_step (first | (go_at_call 53; exact quiet_of_ret (c_ref06_Valid _ _ hs _ (by first | with_reducible assumption | exact Ints.below (by assumption) (by repeat (first | with_reducible exact Below.refl _ _ | with_reducible refine B_ext ?_ _ | with_reducible refine B_alloc ?_ _ | with_reducible refine Below.drew ?_ | with_reducible refine B_set ?_ _ _ _))))) | (go_at_call 54; exact quiet_of_ret (c_ref06_IsWorkday _ _ hs _ _ (by first | with_reducible assumption | exact Ints.below (by assumption) (by repeat (first | with_reducible exact Below.refl _ _ | with_reducible refine B_ext ?_ _ | with_reducible refine B_alloc ?_ _ | with_reducible refine Below.drew ?_ | with_reducible refine B_set ?_ _ _ _))))) | (go_at_call 14; exact quiet_of_ret (c_ref07_Range _ _)) | (go_at_call 18; exact quiet_of_ret (hD.out _))) | ((with_reducible refine wpQuiet_nil ?_); intro x1) | (go_at_call 53; refine (c_ref06_Valid _ _ hs _ (by first | with_reducible assumption | exact Ints.below (by assumption) (by repeat (first | with_reducible exact Below.refl _ _ | with_reducible refine B_ext ?_ _ | with_reducible refine B_alloc ?_ _ | with_reducible refine Below.drew ?_ | with_reducible refine B_set ?_ _ _ _)))).mono ?_; intro e w' hh; first | obtain ⟨rfl, yw, rfl⟩ := Ret.ext2 hh | obtain ⟨rfl, yw, rfl⟩ := Ret.ext hh) | (go_at_call 54; refine (c_ref06_IsWorkday _ _ hs _ _ (by first | with_reducible assumption | exact Ints.below (by assumption) (by repeat (first | with_reducible exact Below.refl _ _ | with_reducible refine B_ext ?_ _ | with_reducible refine B_alloc ?_ _ | with_reducible refine Below.drew ?_ | with_reducible refine B_set ?_ _ _ _)))).mono ?_; intro e w' hh; first | obtain ⟨rfl, yw, rfl⟩ := Ret.ext2 hh | obtain ⟨rfl, yw, rfl⟩ := Ret.ext hh) | (go_at_call 14; refine (c_ref07_Range _ _).mono ?_; intro e w' hh; first | obtain ⟨rfl, yw, rfl⟩ := Ret.ext2 hh | obtain ⟨rfl, yw, rfl⟩ := Ret.ext hh) | (go_at_call 18; refine (hD.out _).mono ?_; intro e w' hh; first | obtain ⟨rfl, yw, rfl⟩ := Ret.ext2 hh | obtain ⟨rfl, yw, rfl⟩ := Ret.ext hh))
          go_loopw [10] (fun d wr => ∃ x, wr = ext (w.alloc (Obj.cells #[Value.int IntKind.i64 we, v] 33)) x ∧ ∃ k : Int, -1 ≤ k ∧ k ≤ 109572 ∧ d = .int .i64 k ∧ payF we hs (mFrom m + q).toNat = payF we hs (k + 1).toNat) (fun d _ => (intOf d + 1).toNat)
          case atStart => exact ex_ext (by repeat (first | with_reducible exact Below.refl _ _ | with_reducible refine B_ext ?_ _ | with_reducible refine B_alloc ?_ _ | with_reducible refine Below.drew ?_ | with_reducible refine B_set ?_ _ _ _)) ⟨mFrom m + q - 1, by omega, by omega, rfl, by congr 1; omega⟩
          case round =>
            obtain ⟨x, rfl, k, hk0, hk1, rfl, heq⟩ := hrel
            by_cases hk : k = -1
            · subst hk
              replace hr := hid (show payR we hs m day = (0, 6) by rw [hr.out, heq]; rfl)
              replace heq := hid heq
              go_wp2_with (first | ((with_reducible refine wp_region_ext2 ?_ ?_ ?_); (kernel_rfl); (kernel_rfl)) | ((with_reducible refine wp_region_ext ?_ ?_ ?_); (kernel_rfl); (kernel_rfl)) | go_big_quiet_step (first | (go_at_call 53; exact quiet_of_ret (c_ref06_Valid _ _ hs _ (by first | with_reducible assumption | exact Ints.below (by assumption) (by repeat (first | with_reducible exact Below.refl _ _ | with_reducible refine B_ext ?_ _ | with_reducible refine B_alloc ?_ _ | with_reducible refine Below.drew ?_ | with_reducible refine B_set ?_ _ _ _))))) | (go_at_call 54; exact quiet_of_ret (c_ref06_IsWorkday _ _ hs _ _ (by first | with_reducible assumption | exact Ints.below (by assumption) (by repeat (first | with_reducible exact Below.refl _ _ | with_reducible refine B_ext ?_ _ | with_reducible refine B_alloc ?_ _ | with_reducible refine Below.drew ?_ | with_reducible refine B_set ?_ _ _ _))))) | (go_at_call 14; exact quiet_of_ret (c_ref07_Range _ _)) | (go_at_call 18; exact quiet_of_ret (c_ref07_Days _ _))) | ((with_reducible refine wpQuiet_nil ?_); intro x1) | (go_at_call 53; refine (c_ref06_Valid _ _ hs _ (by first | with_reducible assumption | exact Ints.below (by assumption) (by repeat (first | with_reducible exact Below.refl _ _ | with_reducible refine B_ext ?_ _ | with_reducible refine B_alloc ?_ _ | with_reducible refine Below.drew ?_ | with_reducible refine B_set ?_ _ _ _)))).mono ?_; intro e w' hh; first | obtain ⟨rfl, yw, rfl⟩ := Ret.ext2 hh | obtain ⟨rfl, yw, rfl⟩ := Ret.ext hh) | (go_at_call 54; refine (c_ref06_IsWorkday _ _ hs _ _ (by first | with_reducible assumption | exact Ints.below (by assumption) (by repeat (first | with_reducible exact Below.refl _ _ | with_reducible refine B_ext ?_ _ | with_reducible refine B_alloc ?_ _ | with_reducible refine Below.drew ?_ | with_reducible refine B_set ?_ _ _ _)))).mono ?_; intro e w' hh; first | obtain ⟨rfl, yw, rfl⟩ := Ret.ext2 hh | obtain ⟨rfl, yw, rfl⟩ := Ret.ext hh) | (go_at_call 14; refine (c_ref07_Range _ _).mono ?_; intro e w' hh; first | obtain ⟨rfl, yw, rfl⟩ := Ret.ext2 hh | obtain ⟨rfl, yw, rfl⟩ := Ret.ext hh) | (go_at_call 18; refine (c_ref07_Days _ _).mono ?_; intro e w' hh; first | obtain ⟨rfl, yw, rfl⟩ := Ret.ext2 hh | obtain ⟨rfl, yw, rfl⟩ := Ret.ext hh))
              go_ret2
              exact ⟨by rw [hr.out] <;> simp, (by repeat (first | with_reducible exact Below.refl _ _ | with_reducible refine B_ext ?_ _ | with_reducible refine B_alloc ?_ _ | with_reducible refine Below.drew ?_ | with_reducible refine B_set ?_ _ _ _))⟩
            · have hk2 : 0 ≤ k := by omega
              rw [payF_step hk2] at heq
              clear hk
              cases hwk : isWkB we hs k
              · replace heq := hid (show payF we hs (mFrom m + q).toNat = payF we hs (k - 1 + 1).toNat by rw [heq, hwk]; simp)
                go_wp2_with (first | ((with_reducible refine wp_region_ext2 ?_ ?_ ?_); (kernel_rfl); (kernel_rfl)) | ((with_reducible refine wp_region_ext ?_ ?_ ?_); (kernel_rfl); (kernel_rfl)) | go_big_quiet_step (first | (go_at_call 53; exact quiet_of_ret (c_ref06_Valid _ _ hs _ (by first | with_reducible assumption | exact Ints.below (by assumption) (by repeat (first | with_reducible exact Below.refl _ _ | with_reducible refine B_ext ?_ _ | with_reducible refine B_alloc ?_ _ | with_reducible refine Below.drew ?_ | with_reducible refine B_set ?_ _ _ _))))) | (go_at_call 54; exact quiet_of_ret (c_ref06_IsWorkday _ _ hs _ _ (by first | with_reducible assumption | exact Ints.below (by assumption) (by repeat (first | with_reducible exact Below.refl _ _ | with_reducible refine B_ext ?_ _ | with_reducible refine B_alloc ?_ _ | with_reducible refine Below.drew ?_ | with_reducible refine B_set ?_ _ _ _))))) | (go_at_call 14; exact quiet_of_ret (c_ref07_Range _ _)) | (go_at_call 18; exact quiet_of_ret (c_ref07_Days _ _))) | ((with_reducible refine wpQuiet_nil ?_); intro x1) | (go_at_call 53; refine (c_ref06_Valid _ _ hs _ (by first | with_reducible assumption | exact Ints.below (by assumption) (by repeat (first | with_reducible exact Below.refl _ _ | with_reducible refine B_ext ?_ _ | with_reducible refine B_alloc ?_ _ | with_reducible refine Below.drew ?_ | with_reducible refine B_set ?_ _ _ _)))).mono ?_; intro e w' hh; first | obtain ⟨rfl, yw, rfl⟩ := Ret.ext2 hh | obtain ⟨rfl, yw, rfl⟩ := Ret.ext hh) | (go_at_call 54; refine (c_ref06_IsWorkday _ _ hs _ _ (by first | with_reducible assumption | exact Ints.below (by assumption) (by repeat (first | with_reducible exact Below.refl _ _ | with_reducible refine B_ext ?_ _ | with_reducible refine B_alloc ?_ _ | with_reducible refine Below.drew ?_ | with_reducible refine B_set ?_ _ _ _)))).mono ?_; intro e w' hh; first | obtain ⟨rfl, yw, rfl⟩ := Ret.ext2 hh | obtain ⟨rfl, yw, rfl⟩ := Ret.ext hh) | (go_at_call 14; refine (c_ref07_Range _ _).mono ?_; intro e w' hh; first | obtain ⟨rfl, yw, rfl⟩ := Ret.ext2 hh | obtain ⟨rfl, yw, rfl⟩ := Ret.ext hh) | (go_at_call 18; refine (c_ref07_Days _ _).mono ?_; intro e w' hh; first | obtain ⟨rfl, yw, rfl⟩ := Ret.ext2 hh | obtain ⟨rfl, yw, rfl⟩ := Ret.ext hh))
                go_roundw
                case rel => exact ⟨_, rfl, k - 1, by omega, by omega, by go_num, heq.out⟩
                case measure => simp [intOf]; omega
              · replace hr := hid (show payR we hs m day = (k, 0) by rw [hr.out, heq, hwk]; simp)
                replace heq := hid heq
                go_wp2_with (first | ((with_reducible refine wp_region_ext2 ?_ ?_ ?_); (kernel_rfl); (kernel_rfl)) | ((with_reducible refine wp_region_ext ?_ ?_ ?_); (kernel_rfl); (kernel_rfl)) | go_big_quiet_step (first | (go_at_call 53; exact quiet_of_ret (c_ref06_Valid _ _ hs _ (by first | with_reducible assumption | exact Ints.below (by assumption) (by repeat (first | with_reducible exact Below.refl _ _ | with_reducible refine B_ext ?_ _ | with_reducible refine B_alloc ?_ _ | with_reducible refine Below.drew ?_ | with_reducible refine B_set ?_ _ _ _))))) | (go_at_call 54; exact quiet_of_ret (c_ref06_IsWorkday _ _ hs _ _ (by first | with_reducible assumption | exact Ints.below (by assumption) (by repeat (first | with_reducible exact Below.refl _ _ | with_reducible refine B_ext ?_ _ | with_reducible refine B_alloc ?_ _ | with_reducible refine Below.drew ?_ | with_reducible refine B_set ?_ _ _ _))))) | (go_at_call 14; exact quiet_of_ret (c_ref07_Range _ _)) | (go_at_call 18; exact quiet_of_ret (c_ref07_Days _ _))) | ((with_reducible refine wpQuiet_nil ?_); intro x1) | (go_at_call 53; refine (c_ref06_Valid _ _ hs _ (by first | with_reducible assumption | exact Ints.below (by assumption) (by repeat (first | with_reducible exact Below.refl _ _ | with_reducible refine B_ext ?_ _ | with_reducible refine B_alloc ?_ _ | with_reducible refine Below.drew ?_ | with_reducible refine B_set ?_ _ _ _)))).mono ?_; intro e w' hh; first | obtain ⟨rfl, yw, rfl⟩ := Ret.ext2 hh | obtain ⟨rfl, yw, rfl⟩ := Ret.ext hh) | (go_at_call 54; refine (c_ref06_IsWorkday _ _ hs _ _ (by first | with_reducible assumption | exact Ints.below (by assumption) (by repeat (first | with_reducible exact Below.refl _ _ | with_reducible refine B_ext ?_ _ | with_reducible refine B_alloc ?_ _ | with_reducible refine Below.drew ?_ | with_reducible refine B_set ?_ _ _ _)))).mono ?_; intro e w' hh; first | obtain ⟨rfl, yw, rfl⟩ := Ret.ext2 hh | obtain ⟨rfl, yw, rfl⟩ := Ret.ext hh) | (go_at_call 14; refine (c_ref07_Range _ _).mono ?_; intro e w' hh; first | obtain ⟨rfl, yw, rfl⟩ := Ret.ext2 hh | obtain ⟨rfl, yw, rfl⟩ := Ret.ext hh) | (go_at_call 18; refine (c_ref07_Days _ _).mono ?_; intro e w' hh; first | obtain ⟨rfl, yw, rfl⟩ := Ret.ext2 hh | obtain ⟨rfl, yw, rfl⟩ := Ret.ext hh))
                go_ret2
                exact ⟨by rw [hr.out] <;> simp, (by repeat (first | with_reducible exact Below.refl _ _ | with_reducible refine B_ext ?_ _ | with_reducible refine B_alloc ?_ _ | with_reducible refine Below.drew ?_ | with_reducible refine B_set ?_ _ _ _))⟩
      · have m3p : 31 < day := by simpa using m3
        have hr := hid (show payR we hs m day = (0, 1) by simp [payR, m1, m2p, m3p])
        go_enter Tryd.func23, Tryd.ntmps23
        go_wp2_with (first | ((with_reducible refine wp_region_ext2 ?_ ?_ ?_); (kernel_rfl); (kernel_rfl)) | ((with_reducible refine wp_region_ext ?_ ?_ ?_); (kernel_rfl); (kernel_rfl)) | go_big_quiet_step (first | (go_at_call 53; exact quiet_of_ret (c_ref06_Valid _ _ hs _ (by first | with_reducible assumption | exact Ints.below (by assumption) (by repeat (first | with_reducible exact Below.refl _ _ | with_reducible refine B_ext ?_ _ | with_reducible refine B_alloc ?_ _ | with_reducible refine Below.drew ?_ | with_reducible refine B_set ?_ _ _ _))))) | (go_at_call 54; exact quiet_of_ret (c_ref06_IsWorkday _ _ hs _ _ (by first | with_reducible assumption | exact Ints.below (by assumption) (by repeat (first | with_reducible exact Below.refl _ _ | with_reducible refine B_ext ?_ _ | with_reducible refine B_alloc ?_ _ | with_reducible refine Below.drew ?_ | with_reducible refine B_set ?_ _ _ _))))) | (go_at_call 14; exact quiet_of_ret (c_ref07_Range _ _)) | (go_at_call 18; exact quiet_of_ret (c_ref07_Days _ _))) | ((with_reducible refine wpQuiet_nil ?_); intro x1) | (go_at_call 53; refine (c_ref06_Valid _ _ hs _ (by first | with_reducible assumption | exact Ints.below (by assumption) (by repeat (first | with_reducible exact Below.refl _ _ | with_reducible refine B_ext ?_ _ | with_reducible refine B_alloc ?_ _ | with_reducible refine Below.drew ?_ | with_reducible refine B_set ?_ _ _ _)))).mono ?_; intro e w' hh; first | obtain ⟨rfl, yw, rfl⟩ := Ret.ext2 hh | obtain ⟨rfl, yw, rfl⟩ := Ret.ext hh) | (go_at_call 54; refine (c_ref06_IsWorkday _ _ hs _ _ (by first | with_reducible assumption | exact Ints.below (by assumption) (by repeat (first | with_reducible exact Below.refl _ _ | with_reducible refine B_ext ?_ _ | with_reducible refine B_alloc ?_ _ | with_reducible refine Below.drew ?_ | with_reducible refine B_set ?_ _ _ _)))).mono ?_; intro e w' hh; first | obtain ⟨rfl, yw, rfl⟩ := Ret.ext2 hh | obtain ⟨rfl, yw, rfl⟩ := Ret.ext hh) | (go_at_call 14; refine (c_ref07_Range _ _).mono ?_; intro e w' hh; first | obtain ⟨rfl, yw, rfl⟩ := Ret.ext2 hh | obtain ⟨rfl, yw, rfl⟩ := Ret.ext hh) | (go_at_call 18; refine (c_ref07_Days _ _).mono ?_; intro e w' hh; first | obtain ⟨rfl, yw, rfl⟩ := Ret.ext2 hh | obtain ⟨rfl, yw, rfl⟩ := Ret.ext hh))
        go_ret2
        exact ⟨by rw [hr.out] <;> simp, (by repeat (first | with_reducible exact Below.refl _ _ | with_reducible refine B_ext ?_ _ | with_reducible refine B_alloc ?_ _ | with_reducible refine Below.drew ?_ | with_reducible refine B_set ?_ _ _ _))⟩
    · have m2p : day < 1 := by simpa using m2
      have hr := hid (show payR we hs m day = (0, 1) by simp [payR, m1, m2p])
      go_enter Tryd.func23, Tryd.ntmps23
      go_wp2_with (first | ((with_reducible refine wp_region_ext2 ?_ ?_ ?_); (kernel_rfl); (kernel_rfl)) | ((with_reducible refine wp_region_ext ?_ ?_ ?_); (kernel_rfl); (kernel_rfl)) | go_big_quiet_step (first | (go_at_call 53; exact quiet_of_ret (c_ref06_Valid _ _ hs _ (by first | with_reducible assumption | exact Ints.below (by assumption) (by repeat (first | with_reducible exact Below.refl _ _ | with_reducible refine B_ext ?_ _ | with_reducible refine B_alloc ?_ _ | with_reducible refine Below.drew ?_ | with_reducible refine B_set ?_ _ _ _))))) | (go_at_call 54; exact quiet_of_ret (c_ref06_IsWorkday _ _ hs _ _ (by first | with_reducible assumption | exact Ints.below (by assumption) (by repeat (first | with_reducible exact Below.refl _ _ | with_reducible refine B_ext ?_ _ | with_reducible refine B_alloc ?_ _ | with_reducible refine Below.drew ?_ | with_reducible refine B_set ?_ _ _ _))))) | (go_at_call 14; exact quiet_of_ret (c_ref07_Range _ _)) | (go_at_call 18; exact quiet_of_ret (c_ref07_Days _ _))) | ((with_reducible refine wpQuiet_nil ?_); intro x1) | (go_at_call 53; refine (c_ref06_Valid _ _ hs _ (by first | with_reducible assumption | exact Ints.below (by assumption) (by repeat (first | with_reducible exact Below.refl _ _ | with_reducible refine B_ext ?_ _ | with_reducible refine B_alloc ?_ _ | with_reducible refine Below.drew ?_ | with_reducible refine B_set ?_ _ _ _)))).mono ?_; intro e w' hh; first | obtain ⟨rfl, yw, rfl⟩ := Ret.ext2 hh | obtain ⟨rfl, yw, rfl⟩ := Ret.ext hh) | (go_at_call 54; refine (c_ref06_IsWorkday _ _ hs _ _ (by first | with_reducible assumption | exact Ints.below (by assumption) (by repeat (first | with_reducible exact Below.refl _ _ | with_reducible refine B_ext ?_ _ | with_reducible refine B_alloc ?_ _ | with_reducible refine Below.drew ?_ | with_reducible refine B_set ?_ _ _ _)))).mono ?_; intro e w' hh; first | obtain ⟨rfl, yw, rfl⟩ := Ret.ext2 hh | obtain ⟨rfl, yw, rfl⟩ := Ret.ext hh) | (go_at_call 14; refine (c_ref07_Range _ _).mono ?_; intro e w' hh; first | obtain ⟨rfl, yw, rfl⟩ := Ret.ext2 hh | obtain ⟨rfl, yw, rfl⟩ := Ret.ext hh) | (go_at_call 18; refine (c_ref07_Days _ _).mono ?_; intro e w' hh; first | obtain ⟨rfl, yw, rfl⟩ := Ret.ext2 hh | obtain ⟨rfl, yw, rfl⟩ := Ret.ext hh))
      go_ret2
      exact ⟨by rw [hr.out] <;> simp, (by repeat (first | with_reducible exact Below.refl _ _ | with_reducible refine B_ext ?_ _ | with_reducible refine B_alloc ?_ _ | with_reducible refine Below.drew ?_ | with_reducible refine B_set ?_ _ _ _))⟩

end Go.Proofs.YtfhlignhdnhmlaaDoor
