/- Walks: the laws MonthOverlap, MonthPartition (guerdonlaw07). -/
import Derived.Test.YtfhlignhdnhmlaaDoorLawD
set_option linter.unusedSimpArgs false
set_option linter.unusedVariables false
namespace Go.Proofs.YtfhlignhdnhmlaaDoor
open Go.RowKit
attribute [local irreducible] Calls

theorem ov_bd (m a b : Int) : 0 ≤ ovR m a b ∧ ovR m a b ≤ 31 := by
  unfold ovR
  split
  · omega
  · split
    · omega
    · rename_i h _
      have := (m_ymd (m := m) (by simpa using h)).2
      omega
set_option maxHeartbeats 4000000 in
theorem c_law07_MonthOverlap (m a b c : Int) (w : World) (ht : Tab w) : Calls Tryd.prog 7 #[.int .i64 m, rgV a b, .int .i64 c] w (Ret (.bool true) w) := by
  by_cases h : 0 ≤ a ∧ a ≤ b ∧ b ≤ 109573 ∧ a ≤ c ∧ c ≤ b
  · obtain ⟨h1, h2, h3, h4, h5⟩ := h
    obtain ⟨s1, s2, s3⟩ := ov_sum (m := m) h1 h4 h5 h3
    obtain ⟨-, o1⟩ := ov_bd m a c
    obtain ⟨-, o2⟩ := ov_bd m c b
    go_enter Tryd.func7, Tryd.ntmps7
    go_wp2_with (first | ((with_reducible refine wp_region_ext2 ?_ ?_ ?_); (kernel_rfl); (kernel_rfl)) | ((with_reducible refine wp_region_ext ?_ ?_ ?_); (kernel_rfl); (kernel_rfl)) | go_big_quiet_step (first | (go_at_call 21; exact quiet_of_ret (c_law07_awake _ (ht.below (by repeat (first | with_reducible exact Below.refl _ _ | with_reducible refine B_ext ?_ _ | with_reducible refine B_alloc ?_ _ | with_reducible refine Below.drew ?_ | with_reducible refine B_set ?_ _ _ _))))) | (go_at_call 19; exact quiet_of_ret (c_month_Overlap _ _ _ _))) | ((with_reducible refine wpQuiet_nil ?_); intro x1) | (go_at_call 21; refine (c_law07_awake _ (ht.below (by repeat (first | with_reducible exact Below.refl _ _ | with_reducible refine B_ext ?_ _ | with_reducible refine B_alloc ?_ _ | with_reducible refine Below.drew ?_ | with_reducible refine B_set ?_ _ _ _)))).mono ?_; intro e w' hh; first | obtain ⟨rfl, yw, rfl⟩ := Ret.ext2 hh | obtain ⟨rfl, yw, rfl⟩ := Ret.ext hh) | (go_at_call 19; refine (c_month_Overlap _ _ _ _).mono ?_; intro e w' hh; first | obtain ⟨rfl, yw, rfl⟩ := Ret.ext2 hh | obtain ⟨rfl, yw, rfl⟩ := Ret.ext hh))
    go_ret
    exact ⟨by simp, (by repeat (first | with_reducible exact Below.refl _ _ | with_reducible refine B_ext ?_ _ | with_reducible refine B_alloc ?_ _ | with_reducible refine Below.drew ?_ | with_reducible refine B_set ?_ _ _ _))⟩
  · have t1 : a < 0 ∨ (0 ≤ a ∧ b < a) ∨ (0 ≤ a ∧ a ≤ b ∧ 109573 < b) ∨ (0 ≤ a ∧ a ≤ b ∧ b ≤ 109573 ∧ c < a) ∨ (0 ≤ a ∧ a ≤ b ∧ b ≤ 109573 ∧ a ≤ c ∧ b < c) := by omega
    clear h
    rcases t1 with h | ⟨h1, h⟩ | ⟨h1, h2, h⟩ | ⟨h1, h2, h3, h⟩ | ⟨h1, h2, h3, h4, h⟩
    all_goals
      go_enter Tryd.func7, Tryd.ntmps7
      go_wp2_with (first | ((with_reducible refine wp_region_ext2 ?_ ?_ ?_); (kernel_rfl); (kernel_rfl)) | ((with_reducible refine wp_region_ext ?_ ?_ ?_); (kernel_rfl); (kernel_rfl)) | go_big_quiet_step (first | (go_at_call 21; exact quiet_of_ret (c_law07_awake _ (ht.below (by repeat (first | with_reducible exact Below.refl _ _ | with_reducible refine B_ext ?_ _ | with_reducible refine B_alloc ?_ _ | with_reducible refine Below.drew ?_ | with_reducible refine B_set ?_ _ _ _)))))) | ((with_reducible refine wpQuiet_nil ?_); intro x1) | (go_at_call 21; refine (c_law07_awake _ (ht.below (by repeat (first | with_reducible exact Below.refl _ _ | with_reducible refine B_ext ?_ _ | with_reducible refine B_alloc ?_ _ | with_reducible refine Below.drew ?_ | with_reducible refine B_set ?_ _ _ _)))).mono ?_; intro e w' hh; first | obtain ⟨rfl, yw, rfl⟩ := Ret.ext2 hh | obtain ⟨rfl, yw, rfl⟩ := Ret.ext hh))
      go_ret
      exact ⟨by simp, (by repeat (first | with_reducible exact Below.refl _ _ | with_reducible refine B_ext ?_ _ | with_reducible refine B_alloc ?_ _ | with_reducible refine Below.drew ?_ | with_reducible refine B_set ?_ _ _ _))⟩

set_option maxRecDepth 1000000 in
theorem mrt_all : ((List.range 3600).all fun m => decide (mparR ⟨(mfmtR (m : Int)).toArray⟩ = ((m : Int), 0))) = true := by decide +kernel
theorem mrt {m : Int} (h : mvB m = true) : mparR ⟨(mfmtR m).toArray⟩ = (m, 0) := by
  obtain ⟨h0, h1⟩ := mvB_true h
  obtain ⟨n, rfl⟩ := Int.eq_ofNat_of_zero_le h0
  have := List.all_eq_true.1 mrt_all n (List.mem_range.2 (by omega))
  simpa using this

end Go.Proofs.YtfhlignhdnhmlaaDoor
