/- Walks: the functions of packages appeal and guerdonref41. -/
import Derived.Test.YthalkfjbgldgbaaWalkA
import Derived.Test.YthalkfjbgldgbaaAppeal
set_option linter.unusedSimpArgs false
set_option linter.unusedVariables false
namespace Go.Proofs.Ythalkfjbgldgbaa
open Go.RowKit
attribute [local irreducible] Calls

theorem c_appeal_validDate (d : Int) (w : World) : Calls Try.prog 37 #[.int .i64 d] w (Ret (.bool (vdB d)) w) := by
  unfold vdB
  go_enter Try.func37, Try.ntmps37
  go_wp2
  all_goals go_ret
  all_goals (refine ⟨?_, Below.refl _ _⟩; simp_all <;> omega)
theorem c_ref41_date (d : Int) (w : World) : Calls Try.prog 40 #[.int .i64 d] w (Ret (.bool (vdB d)) w) := by
  unfold vdB
  go_enter Try.func40, Try.ntmps40
  go_wp2
  all_goals go_ret
  all_goals (refine ⟨?_, Below.refl _ _⟩; simp_all <;> omega)
theorem c_appeal_validMonths (f t : Int) (w : World) : Calls Try.prog 38 #[.int .i64 f, .int .i64 t] w (Ret (.bool (monB f t)) w) := by
  unfold monB
  go_enter Try.func38, Try.ntmps38
  go_wp2
  all_goals go_ret
  all_goals (refine ⟨?_, Below.refl _ _⟩; simp_all <;> omega)
theorem c_ref41_months (f t : Int) (w : World) : Calls Try.prog 41 #[.int .i64 f, .int .i64 t] w (Ret (.bool (monB f t)) w) := by
  unfold monB
  go_enter Try.func41, Try.ntmps41
  go_wp2
  all_goals go_ret
  all_goals (refine ⟨?_, Below.refl _ _⟩; simp_all <;> omega)
theorem c_appeal_permitted (f t : Int) (w : World) : Calls Try.prog 43 #[.int .i64 f, .int .i64 t] w (Ret (.bool (permB f t)) w) := by
  unfold permB
  go_enter Try.func43, Try.ntmps43
  go_wp2
  all_goals go_ret
  all_goals (refine ⟨?_, Below.refl _ _⟩; simp_all <;> (rw [Bool.eq_iff_iff]; simp; try omega))
theorem c_ref41_permitted (f t : Int) (w : World) : Calls Try.prog 44 #[.int .i64 f, .int .i64 t] w (Ret (.bool (permB f t)) w) := by
  unfold permB
  go_enter Try.func44, Try.ntmps44
  go_wp2
  all_goals go_ret
  all_goals (refine ⟨?_, Below.refl _ _⟩; simp_all <;> (rw [Bool.eq_iff_iff]; simp; try omega))
theorem c_appeal_IsFinal (a : Ap) (w : World) : Calls Try.prog 30 #[apV a] w (Ret (.bool (finB a)) w) := by
  unfold finB apV
  cases h1 : decide (3 ≤ a.st) <;> cases h2 : decide (a.st ≤ 6) <;> simp only [Bool.and_true, Bool.and_false]
  all_goals
    go_enter Try.func30, Try.ntmps30
    go_wp2_with (first | ((with_reducible refine wp_region_ext2 ?_ ?_ ?_); (kernel_rfl); (kernel_rfl)) | ((with_reducible refine wp_region_ext ?_ ?_ ?_); (kernel_rfl); (kernel_rfl)) | go_big_quiet_step (fail) | ((with_reducible refine wpQuiet_nil ?_); intro x1))
    all_goals go_ret
    all_goals exact ⟨by simp, (by repeat (first | with_reducible exact Below.refl _ _ | with_reducible refine B_ext ?_ _ | with_reducible refine B_alloc ?_ _ | with_reducible refine Below.drew ?_ | with_reducible refine B_set ?_ _ _ _))⟩
theorem c_ref41_IsFinal (a : Ap) (w : World) : Calls Try.prog 31 #[apV a] w (Ret (.bool (finB a)) w) := by
  unfold finB apV
  cases h3 : (a.st == 3) <;> cases h4 : (a.st == 4) <;> cases h5 : (a.st == 5) <;> cases h6 : (a.st == 6)
  all_goals
    go_enter Try.func31, Try.ntmps31
    go_wp2_with (first | ((with_reducible refine wp_region_ext2 ?_ ?_ ?_); (kernel_rfl); (kernel_rfl)) | ((with_reducible refine wp_region_ext ?_ ?_ ?_); (kernel_rfl); (kernel_rfl)) | go_big_quiet_step (fail) | ((with_reducible refine wpQuiet_nil ?_); intro x1))
    go_ret
    exact ⟨by simp at *; omega, (by repeat (first | with_reducible exact Below.refl _ _ | with_reducible refine B_ext ?_ _ | with_reducible refine B_alloc ?_ _ | with_reducible refine Below.drew ?_ | with_reducible refine B_set ?_ _ _ _))⟩

/-! generated -/

set_option maxHeartbeats 4000000 in
theorem c_appeal_Valid (a : Ap) (w : World) : Calls Try.prog 28 #[apV a] w (Ret (.bool (apOk a)) w) := by
  cases h1 : decide (a.id < 0)
  · have h1p : ¬ (a.id < 0) := by simpa using h1
    cases h2 : monB a.fr a.to
    · have hr := hid (show apOk a = false by
        simp only [apOk, h2]; simp <;> omega)
      unfold apV
      go_enter Try.func28, Try.ntmps28
      go_wp2_with (first | ((with_reducible refine wp_region_ext2 ?_ ?_ ?_); (kernel_rfl); (kernel_rfl)) | ((with_reducible refine wp_region_ext ?_ ?_ ?_); (kernel_rfl); (kernel_rfl)) | go_big_quiet_step (first | (go_at_call 38; exact quiet_of_ret (c_appeal_validMonths _ _ _))) | ((with_reducible refine wpQuiet_nil ?_); intro x1) | (go_at_call 38; refine (c_appeal_validMonths _ _ _).mono ?_; intro e w' hh; first | obtain ⟨rfl, y, rfl⟩ := Ret.ext2 hh | obtain ⟨rfl, y, rfl⟩ := Ret.ext hh))
      go_ret
      exact ⟨by rw [hr.out]; simp, (by repeat (first | with_reducible exact Below.refl _ _ | with_reducible refine B_ext ?_ _ | with_reducible refine B_alloc ?_ _ | with_reducible refine Below.drew ?_ | with_reducible refine B_set ?_ _ _ _))⟩
    · cases h3 : decide (a.filed < 0)
      · have h3p : ¬ (a.filed < 0) := by simpa using h3
        cases h4 : decide (a.dead < a.filed)
        · have h4p : ¬ (a.dead < a.filed) := by simpa using h4
          cases h5 : decide (109572 < a.dead)
          · have h5p : ¬ (109572 < a.dead) := by simpa using h5
            cases h6 : decide (a.st < 1)
            · have h6p : ¬ (a.st < 1) := by simpa using h6
              cases h7 : decide (6 < a.st)
              · have h7p : ¬ (6 < a.st) := by simpa using h7
                cases g1 : (a.cents == 0)
                · have g1p := hid (show ¬ (a.cents = 0) by simpa using g1)
                  have g1q : (a.cents != 0) = true := by simpa using g1p.out
                  cases g2 : (a.st == 3)
                  · have g2p := hid (show ¬ (a.st = 3) by simpa using g2)
                    have g2q : (a.st != 3) = true := by simpa using g2p.out
                    have hr := hid (show apOk a = false by
                      have o0 := g1p.out; have o1 := g2p.out; simp only [apOk, h2]; simp <;> omega)
                    unfold apV
                    go_enter Try.func28, Try.ntmps28
                    go_wp2_with (first | ((with_reducible refine wp_region_ext2 ?_ ?_ ?_); (kernel_rfl); (kernel_rfl)) | ((with_reducible refine wp_region_ext ?_ ?_ ?_); (kernel_rfl); (kernel_rfl)) | go_big_quiet_step (first | (go_at_call 38; exact quiet_of_ret (c_appeal_validMonths _ _ _))) | ((with_reducible refine wpQuiet_nil ?_); intro x1) | (go_at_call 38; refine (c_appeal_validMonths _ _ _).mono ?_; intro e w' hh; first | obtain ⟨rfl, y, rfl⟩ := Ret.ext2 hh | obtain ⟨rfl, y, rfl⟩ := Ret.ext hh))
                    go_ret
                    exact ⟨by rw [hr.out]; simp, (by repeat (first | with_reducible exact Below.refl _ _ | with_reducible refine B_ext ?_ _ | with_reducible refine B_alloc ?_ _ | with_reducible refine Below.drew ?_ | with_reducible refine B_set ?_ _ _ _))⟩
                  · have g2p := hid (show a.st = 3 by simpa using g2)
                    have g2q : (a.st != 3) = false := by simpa using g2p.out
                    cases g3 : decide (0 < a.cents)
                    · have g3p : ¬ (0 < a.cents) := by simpa using g3
                      have hr := hid (show apOk a = false by
                        have o0 := g1p.out; have o1 := g2p.out; simp only [apOk, h2]; simp <;> omega)
                      unfold apV
                      go_enter Try.func28, Try.ntmps28
                      go_wp2_with (first | ((with_reducible refine wp_region_ext2 ?_ ?_ ?_); (kernel_rfl); (kernel_rfl)) | ((with_reducible refine wp_region_ext ?_ ?_ ?_); (kernel_rfl); (kernel_rfl)) | go_big_quiet_step (first | (go_at_call 38; exact quiet_of_ret (c_appeal_validMonths _ _ _))) | ((with_reducible refine wpQuiet_nil ?_); intro x1) | (go_at_call 38; refine (c_appeal_validMonths _ _ _).mono ?_; intro e w' hh; first | obtain ⟨rfl, y, rfl⟩ := Ret.ext2 hh | obtain ⟨rfl, y, rfl⟩ := Ret.ext hh))
                      go_ret
                      exact ⟨by rw [hr.out]; simp, (by repeat (first | with_reducible exact Below.refl _ _ | with_reducible refine B_ext ?_ _ | with_reducible refine B_alloc ?_ _ | with_reducible refine Below.drew ?_ | with_reducible refine B_set ?_ _ _ _))⟩
                    · have g3p : 0 < a.cents := by simpa using g3
                      cases g4 : decide (a.cents ≤ 1000000000000000)
                      · have g4p : ¬ (a.cents ≤ 1000000000000000) := by simpa using g4
                        have hr := hid (show apOk a = false by
                          have o0 := g1p.out; have o1 := g2p.out; simp only [apOk, h2]; simp <;> omega)
                        unfold apV
                        go_enter Try.func28, Try.ntmps28
                        go_wp2_with (first | ((with_reducible refine wp_region_ext2 ?_ ?_ ?_); (kernel_rfl); (kernel_rfl)) | ((with_reducible refine wp_region_ext ?_ ?_ ?_); (kernel_rfl); (kernel_rfl)) | go_big_quiet_step (first | (go_at_call 38; exact quiet_of_ret (c_appeal_validMonths _ _ _))) | ((with_reducible refine wpQuiet_nil ?_); intro x1) | (go_at_call 38; refine (c_appeal_validMonths _ _ _).mono ?_; intro e w' hh; first | obtain ⟨rfl, y, rfl⟩ := Ret.ext2 hh | obtain ⟨rfl, y, rfl⟩ := Ret.ext hh))
                        go_ret
                        exact ⟨by rw [hr.out]; simp, (by repeat (first | with_reducible exact Below.refl _ _ | with_reducible refine B_ext ?_ _ | with_reducible refine B_alloc ?_ _ | with_reducible refine Below.drew ?_ | with_reducible refine B_set ?_ _ _ _))⟩
                      · have g4p : a.cents ≤ 1000000000000000 := by simpa using g4
                        have hr := hid (show apOk a = true by
                          have o0 := g1p.out; have o1 := g2p.out; simp only [apOk, h2]; simp <;> omega)
                        unfold apV
                        go_enter Try.func28, Try.ntmps28
                        go_wp2_with (first | ((with_reducible refine wp_region_ext2 ?_ ?_ ?_); (kernel_rfl); (kernel_rfl)) | ((with_reducible refine wp_region_ext ?_ ?_ ?_); (kernel_rfl); (kernel_rfl)) | go_big_quiet_step (first | (go_at_call 38; exact quiet_of_ret (c_appeal_validMonths _ _ _))) | ((with_reducible refine wpQuiet_nil ?_); intro x1) | (go_at_call 38; refine (c_appeal_validMonths _ _ _).mono ?_; intro e w' hh; first | obtain ⟨rfl, y, rfl⟩ := Ret.ext2 hh | obtain ⟨rfl, y, rfl⟩ := Ret.ext hh))
                        go_ret
                        exact ⟨by rw [hr.out]; simp, (by repeat (first | with_reducible exact Below.refl _ _ | with_reducible refine B_ext ?_ _ | with_reducible refine B_alloc ?_ _ | with_reducible refine Below.drew ?_ | with_reducible refine B_set ?_ _ _ _))⟩
                · have g1p := hid (show a.cents = 0 by simpa using g1)
                  have g1q : (a.cents != 0) = false := by simpa using g1p.out
                  have hr := hid (show apOk a = true by
                    have o0 := g1p.out; simp only [apOk, h2]; simp <;> omega)
                  unfold apV
                  go_enter Try.func28, Try.ntmps28
                  go_wp2_with (first | ((with_reducible refine wp_region_ext2 ?_ ?_ ?_); (kernel_rfl); (kernel_rfl)) | ((with_reducible refine wp_region_ext ?_ ?_ ?_); (kernel_rfl); (kernel_rfl)) | go_big_quiet_step (first | (go_at_call 38; exact quiet_of_ret (c_appeal_validMonths _ _ _))) | ((with_reducible refine wpQuiet_nil ?_); intro x1) | (go_at_call 38; refine (c_appeal_validMonths _ _ _).mono ?_; intro e w' hh; first | obtain ⟨rfl, y, rfl⟩ := Ret.ext2 hh | obtain ⟨rfl, y, rfl⟩ := Ret.ext hh))
                  go_ret
                  exact ⟨by rw [hr.out]; simp, (by repeat (first | with_reducible exact Below.refl _ _ | with_reducible refine B_ext ?_ _ | with_reducible refine B_alloc ?_ _ | with_reducible refine Below.drew ?_ | with_reducible refine B_set ?_ _ _ _))⟩
              · have h7p : 6 < a.st := by simpa using h7
                have hr := hid (show apOk a = false by
                  simp only [apOk, h2]; simp <;> omega)
                unfold apV
                go_enter Try.func28, Try.ntmps28
                go_wp2_with (first | ((with_reducible refine wp_region_ext2 ?_ ?_ ?_); (kernel_rfl); (kernel_rfl)) | ((with_reducible refine wp_region_ext ?_ ?_ ?_); (kernel_rfl); (kernel_rfl)) | go_big_quiet_step (first | (go_at_call 38; exact quiet_of_ret (c_appeal_validMonths _ _ _))) | ((with_reducible refine wpQuiet_nil ?_); intro x1) | (go_at_call 38; refine (c_appeal_validMonths _ _ _).mono ?_; intro e w' hh; first | obtain ⟨rfl, y, rfl⟩ := Ret.ext2 hh | obtain ⟨rfl, y, rfl⟩ := Ret.ext hh))
                go_ret
                exact ⟨by rw [hr.out]; simp, (by repeat (first | with_reducible exact Below.refl _ _ | with_reducible refine B_ext ?_ _ | with_reducible refine B_alloc ?_ _ | with_reducible refine Below.drew ?_ | with_reducible refine B_set ?_ _ _ _))⟩
            · have h6p : a.st < 1 := by simpa using h6
              have hr := hid (show apOk a = false by
                simp only [apOk, h2]; simp <;> omega)
              unfold apV
              go_enter Try.func28, Try.ntmps28
              go_wp2_with (first | ((with_reducible refine wp_region_ext2 ?_ ?_ ?_); (kernel_rfl); (kernel_rfl)) | ((with_reducible refine wp_region_ext ?_ ?_ ?_); (kernel_rfl); (kernel_rfl)) | go_big_quiet_step (first | (go_at_call 38; exact quiet_of_ret (c_appeal_validMonths _ _ _))) | ((with_reducible refine wpQuiet_nil ?_); intro x1) | (go_at_call 38; refine (c_appeal_validMonths _ _ _).mono ?_; intro e w' hh; first | obtain ⟨rfl, y, rfl⟩ := Ret.ext2 hh | obtain ⟨rfl, y, rfl⟩ := Ret.ext hh))
              go_ret
              exact ⟨by rw [hr.out]; simp, (by repeat (first | with_reducible exact Below.refl _ _ | with_reducible refine B_ext ?_ _ | with_reducible refine B_alloc ?_ _ | with_reducible refine Below.drew ?_ | with_reducible refine B_set ?_ _ _ _))⟩
          · have h5p : 109572 < a.dead := by simpa using h5
            have hr := hid (show apOk a = false by
              simp only [apOk, h2]; simp <;> omega)
            unfold apV
            go_enter Try.func28, Try.ntmps28
            go_wp2_with (first | ((with_reducible refine wp_region_ext2 ?_ ?_ ?_); (kernel_rfl); (kernel_rfl)) | ((with_reducible refine wp_region_ext ?_ ?_ ?_); (kernel_rfl); (kernel_rfl)) | go_big_quiet_step (first | (go_at_call 38; exact quiet_of_ret (c_appeal_validMonths _ _ _))) | ((with_reducible refine wpQuiet_nil ?_); intro x1) | (go_at_call 38; refine (c_appeal_validMonths _ _ _).mono ?_; intro e w' hh; first | obtain ⟨rfl, y, rfl⟩ := Ret.ext2 hh | obtain ⟨rfl, y, rfl⟩ := Ret.ext hh))
            go_ret
            exact ⟨by rw [hr.out]; simp, (by repeat (first | with_reducible exact Below.refl _ _ | with_reducible refine B_ext ?_ _ | with_reducible refine B_alloc ?_ _ | with_reducible refine Below.drew ?_ | with_reducible refine B_set ?_ _ _ _))⟩
        · have h4p : a.dead < a.filed := by simpa using h4
          have hr := hid (show apOk a = false by
            simp only [apOk, h2]; simp <;> omega)
          unfold apV
          go_enter Try.func28, Try.ntmps28
          go_wp2_with (first | ((with_reducible refine wp_region_ext2 ?_ ?_ ?_); (kernel_rfl); (kernel_rfl)) | ((with_reducible refine wp_region_ext ?_ ?_ ?_); (kernel_rfl); (kernel_rfl)) | go_big_quiet_step (first | (go_at_call 38; exact quiet_of_ret (c_appeal_validMonths _ _ _))) | ((with_reducible refine wpQuiet_nil ?_); intro x1) | (go_at_call 38; refine (c_appeal_validMonths _ _ _).mono ?_; intro e w' hh; first | obtain ⟨rfl, y, rfl⟩ := Ret.ext2 hh | obtain ⟨rfl, y, rfl⟩ := Ret.ext hh))
          go_ret
          exact ⟨by rw [hr.out]; simp, (by repeat (first | with_reducible exact Below.refl _ _ | with_reducible refine B_ext ?_ _ | with_reducible refine B_alloc ?_ _ | with_reducible refine Below.drew ?_ | with_reducible refine B_set ?_ _ _ _))⟩
      · have h3p : a.filed < 0 := by simpa using h3
        have hr := hid (show apOk a = false by
          simp only [apOk, h2]; simp <;> omega)
        unfold apV
        go_enter Try.func28, Try.ntmps28
        go_wp2_with (first | ((with_reducible refine wp_region_ext2 ?_ ?_ ?_); (kernel_rfl); (kernel_rfl)) | ((with_reducible refine wp_region_ext ?_ ?_ ?_); (kernel_rfl); (kernel_rfl)) | go_big_quiet_step (first | (go_at_call 38; exact quiet_of_ret (c_appeal_validMonths _ _ _))) | ((with_reducible refine wpQuiet_nil ?_); intro x1) | (go_at_call 38; refine (c_appeal_validMonths _ _ _).mono ?_; intro e w' hh; first | obtain ⟨rfl, y, rfl⟩ := Ret.ext2 hh | obtain ⟨rfl, y, rfl⟩ := Ret.ext hh))
        go_ret
        exact ⟨by rw [hr.out]; simp, (by repeat (first | with_reducible exact Below.refl _ _ | with_reducible refine B_ext ?_ _ | with_reducible refine B_alloc ?_ _ | with_reducible refine Below.drew ?_ | with_reducible refine B_set ?_ _ _ _))⟩
  · have h1p : a.id < 0 := by simpa using h1
    have hr := hid (show apOk a = false by
      simp only [apOk]; simp <;> omega)
    unfold apV
    go_enter Try.func28, Try.ntmps28
    go_wp2_with (first | ((with_reducible refine wp_region_ext2 ?_ ?_ ?_); (kernel_rfl); (kernel_rfl)) | ((with_reducible refine wp_region_ext ?_ ?_ ?_); (kernel_rfl); (kernel_rfl)) | go_big_quiet_step (first | (go_at_call 38; exact quiet_of_ret (c_appeal_validMonths _ _ _))) | ((with_reducible refine wpQuiet_nil ?_); intro x1) | (go_at_call 38; refine (c_appeal_validMonths _ _ _).mono ?_; intro e w' hh; first | obtain ⟨rfl, y, rfl⟩ := Ret.ext2 hh | obtain ⟨rfl, y, rfl⟩ := Ret.ext hh))
    go_ret
    exact ⟨by rw [hr.out]; simp, (by repeat (first | with_reducible exact Below.refl _ _ | with_reducible refine B_ext ?_ _ | with_reducible refine B_alloc ?_ _ | with_reducible refine Below.drew ?_ | with_reducible refine B_set ?_ _ _ _))⟩

set_option maxHeartbeats 4000000 in
theorem c_appeal_Transition (a : Ap) (s c d : Int) (w : World) : Calls Try.prog 26 #[apV a, .int .i64 s, .int .i64 c, .int .i64 d] w
    (Ret (.tuple #[apV (transR a s c d).1, .int .i64 (transR a s c d).2]) w) := by
  cases n1 : permB a.st s
  · have hr := hid (show transR a s c d = (.zero, 13) by simp [transR, n1])
    unfold apV
    go_enter Try.func26, Try.ntmps26
    go_wp2_with (first | ((with_reducible refine wp_region_ext2 ?_ ?_ ?_); (kernel_rfl); (kernel_rfl)) | ((with_reducible refine wp_region_ext ?_ ?_ ?_); (kernel_rfl); (kernel_rfl)) | go_big_quiet_step (first | (go_at_call 43; exact quiet_of_ret (c_appeal_permitted _ _ _))) | ((with_reducible refine wpQuiet_nil ?_); intro x1) | (go_at_call 43; refine (c_appeal_permitted _ _ _).mono ?_; intro e w' hh; first | obtain ⟨rfl, y, rfl⟩ := Ret.ext2 hh | obtain ⟨rfl, y, rfl⟩ := Ret.ext hh))
    refine bodyPost_ret (v := .tuple #[apV (.zero), .int .i64 13]) ?_ rfl ?_
    · simp [results, Try.results26, go_sem, apV, Ap.zero]
    · exact ⟨by rw [hr.out] <;> rfl, (by repeat (first | with_reducible exact Below.refl _ _ | with_reducible refine B_ext ?_ _ | with_reducible refine B_alloc ?_ _ | with_reducible refine Below.drew ?_ | with_reducible refine B_set ?_ _ _ _))⟩
  · cases n2 : decide (d < a.filed)
    · have n2p : ¬ (d < a.filed) := by simpa using n2
      cases n3 : decide (a.dead < d)
      · have n3p : ¬ (a.dead < d) := by simpa using n3
        cases n5 : decide (c < 0)
        · have n5p : ¬ (c < 0) := by simpa using n5
          cases n6 : decide (1000000000000000 < c)
          · have n6p : ¬ (1000000000000000 < c) := by simpa using n6
            cases z : (c == 0)
            · have zp := hid (show ¬ (c = 0) by simpa using z)
              have zq : (c != 0) = true := by simpa using zp.out
              cases e3 : (s == 3)
              · have e3p := hid (show ¬ (s = 3) by simpa using e3)
                have e3q : (s != 3) = true := by simpa using e3p.out
                have hr := hid (show transR a s c d = (.zero, 3) by simp [transR, n1, n2p, n3p, n5p, n6p, zp.out, e3p.out])
                unfold apV
                go_enter Try.func26, Try.ntmps26
                go_wp2_with (first | ((with_reducible refine wp_region_ext2 ?_ ?_ ?_); (kernel_rfl); (kernel_rfl)) | ((with_reducible refine wp_region_ext ?_ ?_ ?_); (kernel_rfl); (kernel_rfl)) | go_big_quiet_step (first | (go_at_call 43; exact quiet_of_ret (c_appeal_permitted _ _ _))) | ((with_reducible refine wpQuiet_nil ?_); intro x1) | (go_at_call 43; refine (c_appeal_permitted _ _ _).mono ?_; intro e w' hh; first | obtain ⟨rfl, y, rfl⟩ := Ret.ext2 hh | obtain ⟨rfl, y, rfl⟩ := Ret.ext hh))
                refine bodyPost_ret (v := .tuple #[apV (.zero), .int .i64 3]) ?_ rfl ?_
                · simp [results, Try.results26, go_sem, apV, Ap.zero]
                · exact ⟨by rw [hr.out] <;> rfl, (by repeat (first | with_reducible exact Below.refl _ _ | with_reducible refine B_ext ?_ _ | with_reducible refine B_alloc ?_ _ | with_reducible refine Below.drew ?_ | with_reducible refine B_set ?_ _ _ _))⟩
              · have e3p := hid (show s = 3 by simpa using e3)
                have e3q : (s != 3) = false := by simpa using e3p.out
                have hr := hid (show transR a s c d = ({ a with st := s, cents := c }, 0) by simp [transR, n1, n2p, n3p, n5p, n6p, zp.out, eq_true e3p.out])
                unfold apV
                go_enter Try.func26, Try.ntmps26
                go_wp2_with (first | ((with_reducible refine wp_region_ext2 ?_ ?_ ?_); (kernel_rfl); (kernel_rfl)) | ((with_reducible refine wp_region_ext ?_ ?_ ?_); (kernel_rfl); (kernel_rfl)) | go_big_quiet_step (first | (go_at_call 43; exact quiet_of_ret (c_appeal_permitted _ _ _))) | ((with_reducible refine wpQuiet_nil ?_); intro x1) | (go_at_call 43; refine (c_appeal_permitted _ _ _).mono ?_; intro e w' hh; first | obtain ⟨rfl, y, rfl⟩ := Ret.ext2 hh | obtain ⟨rfl, y, rfl⟩ := Ret.ext hh))
                refine bodyPost_ret (v := .tuple #[apV ({ a with st := s, cents := c }), .int .i64 0]) ?_ rfl ?_
                · simp [results, Try.results26, go_sem, apV, Ap.zero]
                · exact ⟨by rw [hr.out] <;> rfl, (by repeat (first | with_reducible exact Below.refl _ _ | with_reducible refine B_ext ?_ _ | with_reducible refine B_alloc ?_ _ | with_reducible refine Below.drew ?_ | with_reducible refine B_set ?_ _ _ _))⟩
            · have zp := hid (show c = 0 by simpa using z)
              have zq : (c != 0) = false := by simpa using zp.out
              have hr := hid (show transR a s c d = ({ a with st := s, cents := c }, 0) by simp [transR, n1, n2p, n3p, n5p, n6p, eq_true zp.out])
              unfold apV
              go_enter Try.func26, Try.ntmps26
              go_wp2_with (first | ((with_reducible refine wp_region_ext2 ?_ ?_ ?_); (kernel_rfl); (kernel_rfl)) | ((with_reducible refine wp_region_ext ?_ ?_ ?_); (kernel_rfl); (kernel_rfl)) | go_big_quiet_step (first | (go_at_call 43; exact quiet_of_ret (c_appeal_permitted _ _ _))) | ((with_reducible refine wpQuiet_nil ?_); intro x1) | (go_at_call 43; refine (c_appeal_permitted _ _ _).mono ?_; intro e w' hh; first | obtain ⟨rfl, y, rfl⟩ := Ret.ext2 hh | obtain ⟨rfl, y, rfl⟩ := Ret.ext hh))
              refine bodyPost_ret (v := .tuple #[apV ({ a with st := s, cents := c }), .int .i64 0]) ?_ rfl ?_
              · simp [results, Try.results26, go_sem, apV, Ap.zero]
              · exact ⟨by rw [hr.out] <;> rfl, (by repeat (first | with_reducible exact Below.refl _ _ | with_reducible refine B_ext ?_ _ | with_reducible refine B_alloc ?_ _ | with_reducible refine Below.drew ?_ | with_reducible refine B_set ?_ _ _ _))⟩
          · have n6p : 1000000000000000 < c := by simpa using n6
            have hr := hid (show transR a s c d = (.zero, 3) by simp [transR, n1, n2p, n3p, n5p, n6p])
            unfold apV
            go_enter Try.func26, Try.ntmps26
            go_wp2_with (first | ((with_reducible refine wp_region_ext2 ?_ ?_ ?_); (kernel_rfl); (kernel_rfl)) | ((with_reducible refine wp_region_ext ?_ ?_ ?_); (kernel_rfl); (kernel_rfl)) | go_big_quiet_step (first | (go_at_call 43; exact quiet_of_ret (c_appeal_permitted _ _ _))) | ((with_reducible refine wpQuiet_nil ?_); intro x1) | (go_at_call 43; refine (c_appeal_permitted _ _ _).mono ?_; intro e w' hh; first | obtain ⟨rfl, y, rfl⟩ := Ret.ext2 hh | obtain ⟨rfl, y, rfl⟩ := Ret.ext hh))
            refine bodyPost_ret (v := .tuple #[apV (.zero), .int .i64 3]) ?_ rfl ?_
            · simp [results, Try.results26, go_sem, apV, Ap.zero]
            · exact ⟨by rw [hr.out] <;> rfl, (by repeat (first | with_reducible exact Below.refl _ _ | with_reducible refine B_ext ?_ _ | with_reducible refine B_alloc ?_ _ | with_reducible refine Below.drew ?_ | with_reducible refine B_set ?_ _ _ _))⟩
        · have n5p : c < 0 := by simpa using n5
          have hr := hid (show transR a s c d = (.zero, 3) by simp [transR, n1, n2p, n3p, n5p])
          unfold apV
          go_enter Try.func26, Try.ntmps26
          go_wp2_with (first | ((with_reducible refine wp_region_ext2 ?_ ?_ ?_); (kernel_rfl); (kernel_rfl)) | ((with_reducible refine wp_region_ext ?_ ?_ ?_); (kernel_rfl); (kernel_rfl)) | go_big_quiet_step (first | (go_at_call 43; exact quiet_of_ret (c_appeal_permitted _ _ _))) | ((with_reducible refine wpQuiet_nil ?_); intro x1) | (go_at_call 43; refine (c_appeal_permitted _ _ _).mono ?_; intro e w' hh; first | obtain ⟨rfl, y, rfl⟩ := Ret.ext2 hh | obtain ⟨rfl, y, rfl⟩ := Ret.ext hh))
          refine bodyPost_ret (v := .tuple #[apV (.zero), .int .i64 3]) ?_ rfl ?_
          · simp [results, Try.results26, go_sem, apV, Ap.zero]
          · exact ⟨by rw [hr.out] <;> rfl, (by repeat (first | with_reducible exact Below.refl _ _ | with_reducible refine B_ext ?_ _ | with_reducible refine B_alloc ?_ _ | with_reducible refine Below.drew ?_ | with_reducible refine B_set ?_ _ _ _))⟩
      · have n3p : a.dead < d := by simpa using n3
        cases e2 : (s == 2)
        · have e2p := hid (show ¬ (s = 2) by simpa using e2)
          have e2q : (s != 2) = true := by simpa using e2p.out
          cases e3 : (s == 3)
          · have e3p := hid (show ¬ (s = 3) by simpa using e3)
            have e3q : (s != 3) = true := by simpa using e3p.out
            cases n5 : decide (c < 0)
            · have n5p : ¬ (c < 0) := by simpa using n5
              cases n6 : decide (1000000000000000 < c)
              · have n6p : ¬ (1000000000000000 < c) := by simpa using n6
                cases z : (c == 0)
                · have zp := hid (show ¬ (c = 0) by simpa using z)
                  have zq : (c != 0) = true := by simpa using zp.out
                  have hr := hid (show transR a s c d = (.zero, 3) by simp [transR, n1, n2p, n3p, e2p.out, e3p.out, n5p, n6p, zp.out])
                  unfold apV
                  go_enter Try.func26, Try.ntmps26
                  go_wp2_with (first | ((with_reducible refine wp_region_ext2 ?_ ?_ ?_); (kernel_rfl); (kernel_rfl)) | ((with_reducible refine wp_region_ext ?_ ?_ ?_); (kernel_rfl); (kernel_rfl)) | go_big_quiet_step (first | (go_at_call 43; exact quiet_of_ret (c_appeal_permitted _ _ _))) | ((with_reducible refine wpQuiet_nil ?_); intro x1) | (go_at_call 43; refine (c_appeal_permitted _ _ _).mono ?_; intro e w' hh; first | obtain ⟨rfl, y, rfl⟩ := Ret.ext2 hh | obtain ⟨rfl, y, rfl⟩ := Ret.ext hh))
                  refine bodyPost_ret (v := .tuple #[apV (.zero), .int .i64 3]) ?_ rfl ?_
                  · simp [results, Try.results26, go_sem, apV, Ap.zero]
                  · exact ⟨by rw [hr.out] <;> rfl, (by repeat (first | with_reducible exact Below.refl _ _ | with_reducible refine B_ext ?_ _ | with_reducible refine B_alloc ?_ _ | with_reducible refine Below.drew ?_ | with_reducible refine B_set ?_ _ _ _))⟩
                · have zp := hid (show c = 0 by simpa using z)
                  have zq : (c != 0) = false := by simpa using zp.out
                  have hr := hid (show transR a s c d = ({ a with st := s, cents := c }, 0) by simp [transR, n1, n2p, n3p, e2p.out, e3p.out, n5p, n6p, eq_true zp.out])
                  unfold apV
                  go_enter Try.func26, Try.ntmps26
                  go_wp2_with (first | ((with_reducible refine wp_region_ext2 ?_ ?_ ?_); (kernel_rfl); (kernel_rfl)) | ((with_reducible refine wp_region_ext ?_ ?_ ?_); (kernel_rfl); (kernel_rfl)) | go_big_quiet_step (first | (go_at_call 43; exact quiet_of_ret (c_appeal_permitted _ _ _))) | ((with_reducible refine wpQuiet_nil ?_); intro x1) | (go_at_call 43; refine (c_appeal_permitted _ _ _).mono ?_; intro e w' hh; first | obtain ⟨rfl, y, rfl⟩ := Ret.ext2 hh | obtain ⟨rfl, y, rfl⟩ := Ret.ext hh))
                  refine bodyPost_ret (v := .tuple #[apV ({ a with st := s, cents := c }), .int .i64 0]) ?_ rfl ?_
                  · simp [results, Try.results26, go_sem, apV, Ap.zero]
                  · exact ⟨by rw [hr.out] <;> rfl, (by repeat (first | with_reducible exact Below.refl _ _ | with_reducible refine B_ext ?_ _ | with_reducible refine B_alloc ?_ _ | with_reducible refine Below.drew ?_ | with_reducible refine B_set ?_ _ _ _))⟩
              · have n6p : 1000000000000000 < c := by simpa using n6
                have hr := hid (show transR a s c d = (.zero, 3) by simp [transR, n1, n2p, n3p, e2p.out, e3p.out, n5p, n6p])
                unfold apV
                go_enter Try.func26, Try.ntmps26
                go_wp2_with (first | ((with_reducible refine wp_region_ext2 ?_ ?_ ?_); (kernel_rfl); (kernel_rfl)) | ((with_reducible refine wp_region_ext ?_ ?_ ?_); (kernel_rfl); (kernel_rfl)) | go_big_quiet_step (first | (go_at_call 43; exact quiet_of_ret (c_appeal_permitted _ _ _))) | ((with_reducible refine wpQuiet_nil ?_); intro x1) | (go_at_call 43; refine (c_appeal_permitted _ _ _).mono ?_; intro e w' hh; first | obtain ⟨rfl, y, rfl⟩ := Ret.ext2 hh | obtain ⟨rfl, y, rfl⟩ := Ret.ext hh))
                refine bodyPost_ret (v := .tuple #[apV (.zero), .int .i64 3]) ?_ rfl ?_
                · simp [results, Try.results26, go_sem, apV, Ap.zero]
                · exact ⟨by rw [hr.out] <;> rfl, (by repeat (first | with_reducible exact Below.refl _ _ | with_reducible refine B_ext ?_ _ | with_reducible refine B_alloc ?_ _ | with_reducible refine Below.drew ?_ | with_reducible refine B_set ?_ _ _ _))⟩
            · have n5p : c < 0 := by simpa using n5
              have hr := hid (show transR a s c d = (.zero, 3) by simp [transR, n1, n2p, n3p, e2p.out, e3p.out, n5p])
              unfold apV
              go_enter Try.func26, Try.ntmps26
              go_wp2_with (first | ((with_reducible refine wp_region_ext2 ?_ ?_ ?_); (kernel_rfl); (kernel_rfl)) | ((with_reducible refine wp_region_ext ?_ ?_ ?_); (kernel_rfl); (kernel_rfl)) | go_big_quiet_step (first | (go_at_call 43; exact quiet_of_ret (c_appeal_permitted _ _ _))) | ((with_reducible refine wpQuiet_nil ?_); intro x1) | (go_at_call 43; refine (c_appeal_permitted _ _ _).mono ?_; intro e w' hh; first | obtain ⟨rfl, y, rfl⟩ := Ret.ext2 hh | obtain ⟨rfl, y, rfl⟩ := Ret.ext hh))
              refine bodyPost_ret (v := .tuple #[apV (.zero), .int .i64 3]) ?_ rfl ?_
              · simp [results, Try.results26, go_sem, apV, Ap.zero]
              · exact ⟨by rw [hr.out] <;> rfl, (by repeat (first | with_reducible exact Below.refl _ _ | with_reducible refine B_ext ?_ _ | with_reducible refine B_alloc ?_ _ | with_reducible refine Below.drew ?_ | with_reducible refine B_set ?_ _ _ _))⟩
          · have e3p := hid (show s = 3 by simpa using e3)
            have e3q : (s != 3) = false := by simpa using e3p.out
            have hr := hid (show transR a s c d = (.zero, 14) by simp [transR, n1, n2p, n3p, e2p.out, eq_true e3p.out])
            unfold apV
            go_enter Try.func26, Try.ntmps26
            go_wp2_with (first | ((with_reducible refine wp_region_ext2 ?_ ?_ ?_); (kernel_rfl); (kernel_rfl)) | ((with_reducible refine wp_region_ext ?_ ?_ ?_); (kernel_rfl); (kernel_rfl)) | go_big_quiet_step (first | (go_at_call 43; exact quiet_of_ret (c_appeal_permitted _ _ _))) | ((with_reducible refine wpQuiet_nil ?_); intro x1) | (go_at_call 43; refine (c_appeal_permitted _ _ _).mono ?_; intro e w' hh; first | obtain ⟨rfl, y, rfl⟩ := Ret.ext2 hh | obtain ⟨rfl, y, rfl⟩ := Ret.ext hh))
            refine bodyPost_ret (v := .tuple #[apV (.zero), .int .i64 14]) ?_ rfl ?_
            · simp [results, Try.results26, go_sem, apV, Ap.zero]
            · exact ⟨by rw [hr.out] <;> rfl, (by repeat (first | with_reducible exact Below.refl _ _ | with_reducible refine B_ext ?_ _ | with_reducible refine B_alloc ?_ _ | with_reducible refine Below.drew ?_ | with_reducible refine B_set ?_ _ _ _))⟩
        · have e2p := hid (show s = 2 by simpa using e2)
          have e2q : (s != 2) = false := by simpa using e2p.out
          have hr := hid (show transR a s c d = (.zero, 14) by simp [transR, n1, n2p, n3p, eq_true e2p.out])
          unfold apV
          go_enter Try.func26, Try.ntmps26
          go_wp2_with (first | ((with_reducible refine wp_region_ext2 ?_ ?_ ?_); (kernel_rfl); (kernel_rfl)) | ((with_reducible refine wp_region_ext ?_ ?_ ?_); (kernel_rfl); (kernel_rfl)) | go_big_quiet_step (first | (go_at_call 43; exact quiet_of_ret (c_appeal_permitted _ _ _))) | ((with_reducible refine wpQuiet_nil ?_); intro x1) | (go_at_call 43; refine (c_appeal_permitted _ _ _).mono ?_; intro e w' hh; first | obtain ⟨rfl, y, rfl⟩ := Ret.ext2 hh | obtain ⟨rfl, y, rfl⟩ := Ret.ext hh))
          refine bodyPost_ret (v := .tuple #[apV (.zero), .int .i64 14]) ?_ rfl ?_
          · simp [results, Try.results26, go_sem, apV, Ap.zero]
          · exact ⟨by rw [hr.out] <;> rfl, (by repeat (first | with_reducible exact Below.refl _ _ | with_reducible refine B_ext ?_ _ | with_reducible refine B_alloc ?_ _ | with_reducible refine Below.drew ?_ | with_reducible refine B_set ?_ _ _ _))⟩
    · have n2p : d < a.filed := by simpa using n2
      have hr := hid (show transR a s c d = (.zero, 9) by simp [transR, n1, n2p])
      unfold apV
      go_enter Try.func26, Try.ntmps26
      go_wp2_with (first | ((with_reducible refine wp_region_ext2 ?_ ?_ ?_); (kernel_rfl); (kernel_rfl)) | ((with_reducible refine wp_region_ext ?_ ?_ ?_); (kernel_rfl); (kernel_rfl)) | go_big_quiet_step (first | (go_at_call 43; exact quiet_of_ret (c_appeal_permitted _ _ _))) | ((with_reducible refine wpQuiet_nil ?_); intro x1) | (go_at_call 43; refine (c_appeal_permitted _ _ _).mono ?_; intro e w' hh; first | obtain ⟨rfl, y, rfl⟩ := Ret.ext2 hh | obtain ⟨rfl, y, rfl⟩ := Ret.ext hh))
      refine bodyPost_ret (v := .tuple #[apV (.zero), .int .i64 9]) ?_ rfl ?_
      · simp [results, Try.results26, go_sem, apV, Ap.zero]
      · exact ⟨by rw [hr.out] <;> rfl, (by repeat (first | with_reducible exact Below.refl _ _ | with_reducible refine B_ext ?_ _ | with_reducible refine B_alloc ?_ _ | with_reducible refine Below.drew ?_ | with_reducible refine B_set ?_ _ _ _))⟩

set_option maxHeartbeats 1000000 in
theorem c_appeal_later (we : Int) (v : Value) (hs : List Int) (d n : Int) (w : World) (h : Ints w v hs) :
    Calls Try.prog 39 #[.agg #[.int .i64 we, v], .int .i64 d, .int .i64 n] w (Ret (.int .i64 (laterR we hs d n)) w) := by
  cases e : ((addR we hs d n).2 == 0)
  · have ep := hid (show ¬ ((addR we hs d n).2 = 0) by simpa using e)
    have eq : ((addR we hs d n).2 != 0) = true := by simpa using ep.out
    have hr := hid (show laterR we hs d n = 109572 by simp [laterR, ep.out])
    go_enter Try.func39, Try.ntmps39
    go_wp2_with (first | ((with_reducible refine wp_region_ext2 ?_ ?_ ?_); (kernel_rfl); (kernel_rfl)) | ((with_reducible refine wp_region_ext ?_ ?_ ?_); (kernel_rfl); (kernel_rfl)) | go_big_quiet_step (first | (go_at_call 19; exact quiet_of_ret (c_workday_Add _ _ hs _ _ _ (by first | with_reducible assumption | exact Ints.below (by assumption) (by repeat (first | with_reducible exact Below.refl _ _ | with_reducible refine B_ext ?_ _ | with_reducible refine B_alloc ?_ _ | with_reducible refine Below.drew ?_ | with_reducible refine B_set ?_ _ _ _)))))) | ((with_reducible refine wpQuiet_nil ?_); intro x1) | (go_at_call 19; refine (c_workday_Add _ _ hs _ _ _ (by first | with_reducible assumption | exact Ints.below (by assumption) (by repeat (first | with_reducible exact Below.refl _ _ | with_reducible refine B_ext ?_ _ | with_reducible refine B_alloc ?_ _ | with_reducible refine Below.drew ?_ | with_reducible refine B_set ?_ _ _ _)))).mono ?_; intro e w' hh; first | obtain ⟨rfl, y, rfl⟩ := Ret.ext2 hh | obtain ⟨rfl, y, rfl⟩ := Ret.ext hh))
    go_ret
    exact ⟨by rw [hr.out]; simp, (by repeat (first | with_reducible exact Below.refl _ _ | with_reducible refine B_ext ?_ _ | with_reducible refine B_alloc ?_ _ | with_reducible refine Below.drew ?_ | with_reducible refine B_set ?_ _ _ _))⟩
  · have ep := hid (show (addR we hs d n).2 = 0 by simpa using e)
    have eq : ((addR we hs d n).2 != 0) = false := by simpa using ep.out
    have hr := hid (show laterR we hs d n = (addR we hs d n).1 by simp [laterR, eq_true ep.out])
    go_enter Try.func39, Try.ntmps39
    go_wp2_with (first | ((with_reducible refine wp_region_ext2 ?_ ?_ ?_); (kernel_rfl); (kernel_rfl)) | ((with_reducible refine wp_region_ext ?_ ?_ ?_); (kernel_rfl); (kernel_rfl)) | go_big_quiet_step (first | (go_at_call 19; exact quiet_of_ret (c_workday_Add _ _ hs _ _ _ (by first | with_reducible assumption | exact Ints.below (by assumption) (by repeat (first | with_reducible exact Below.refl _ _ | with_reducible refine B_ext ?_ _ | with_reducible refine B_alloc ?_ _ | with_reducible refine Below.drew ?_ | with_reducible refine B_set ?_ _ _ _)))))) | ((with_reducible refine wpQuiet_nil ?_); intro x1) | (go_at_call 19; refine (c_workday_Add _ _ hs _ _ _ (by first | with_reducible assumption | exact Ints.below (by assumption) (by repeat (first | with_reducible exact Below.refl _ _ | with_reducible refine B_ext ?_ _ | with_reducible refine B_alloc ?_ _ | with_reducible refine Below.drew ?_ | with_reducible refine B_set ?_ _ _ _)))).mono ?_; intro e w' hh; first | obtain ⟨rfl, y, rfl⟩ := Ret.ext2 hh | obtain ⟨rfl, y, rfl⟩ := Ret.ext hh))
    go_ret
    exact ⟨by rw [hr.out]; simp, (by repeat (first | with_reducible exact Below.refl _ _ | with_reducible refine B_ext ?_ _ | with_reducible refine B_alloc ?_ _ | with_reducible refine Below.drew ?_ | with_reducible refine B_set ?_ _ _ _))⟩

set_option maxHeartbeats 4000000 in
theorem c_appeal_File (id f t d nt p0 p1 p2 p3 p4 p5 ad we : Int) (v : Value) (hs : List Int) (w : World) (h : Ints w v hs) :
    Calls Try.prog 24 #[.int .i64 id, .int .i64 f, .int .i64 t, .int .i64 d, .int .i64 nt, .agg #[.int .i64 p0, .int .i64 p1, .int .i64 p2, .int .i64 p3, .int .i64 p4, .int .i64 p5, .int .i64 ad, .int .i64 we, v]] w
      (Ret (.tuple #[apV (fileR id f t d nt ad we hs).1, .int .i64 (fileR id f t d nt ad we hs).2]) w) := by
  cases m1 : decide (id < 0)
  · have m1p : ¬ (id < 0) := by simpa using m1
    cases m2 : vdB d
    · have hr := hid (show fileR id f t d nt ad we hs = (.zero, 3) by simp [fileR, m1p, m2])
      go_enter Try.func24, Try.ntmps24
      go_wp2_with (first | ((with_reducible refine wp_region_ext2 ?_ ?_ ?_); (kernel_rfl); (kernel_rfl)) | ((with_reducible refine wp_region_ext ?_ ?_ ?_); (kernel_rfl); (kernel_rfl)) | go_big_quiet_step (first | (go_at_call 37; exact quiet_of_ret (c_appeal_validDate _ _)) | (go_at_call 38; exact quiet_of_ret (c_appeal_validMonths _ _ _)) | (go_at_call 15; exact quiet_of_ret (c_workday_Valid _ _ hs _ (by first | with_reducible assumption | exact Ints.below (by assumption) (by repeat (first | with_reducible exact Below.refl _ _ | with_reducible refine B_ext ?_ _ | with_reducible refine B_alloc ?_ _ | with_reducible refine Below.drew ?_ | with_reducible refine B_set ?_ _ _ _))))) | (go_at_call 39; exact quiet_of_ret (c_appeal_later _ _ hs _ _ _ (by first | with_reducible assumption | exact Ints.below (by assumption) (by repeat (first | with_reducible exact Below.refl _ _ | with_reducible refine B_ext ?_ _ | with_reducible refine B_alloc ?_ _ | with_reducible refine Below.drew ?_ | with_reducible refine B_set ?_ _ _ _)))))) | ((with_reducible refine wpQuiet_nil ?_); intro x1) | (go_at_call 37; refine (c_appeal_validDate _ _).mono ?_; intro e w' hh; first | obtain ⟨rfl, y, rfl⟩ := Ret.ext2 hh | obtain ⟨rfl, y, rfl⟩ := Ret.ext hh) | (go_at_call 38; refine (c_appeal_validMonths _ _ _).mono ?_; intro e w' hh; first | obtain ⟨rfl, y, rfl⟩ := Ret.ext2 hh | obtain ⟨rfl, y, rfl⟩ := Ret.ext hh) | (go_at_call 15; refine (c_workday_Valid _ _ hs _ (by first | with_reducible assumption | exact Ints.below (by assumption) (by repeat (first | with_reducible exact Below.refl _ _ | with_reducible refine B_ext ?_ _ | with_reducible refine B_alloc ?_ _ | with_reducible refine Below.drew ?_ | with_reducible refine B_set ?_ _ _ _)))).mono ?_; intro e w' hh; first | obtain ⟨rfl, y, rfl⟩ := Ret.ext2 hh | obtain ⟨rfl, y, rfl⟩ := Ret.ext hh) | (go_at_call 39; refine (c_appeal_later _ _ hs _ _ _ (by first | with_reducible assumption | exact Ints.below (by assumption) (by repeat (first | with_reducible exact Below.refl _ _ | with_reducible refine B_ext ?_ _ | with_reducible refine B_alloc ?_ _ | with_reducible refine Below.drew ?_ | with_reducible refine B_set ?_ _ _ _)))).mono ?_; intro e w' hh; first | obtain ⟨rfl, y, rfl⟩ := Ret.ext2 hh | obtain ⟨rfl, y, rfl⟩ := Ret.ext hh))
      refine bodyPost_ret (v := .tuple #[apV (.zero), .int .i64 3]) ?_ rfl ?_
      · simp [results, Try.results24, go_sem, apV, Ap.zero]
      · exact ⟨by rw [hr.out] <;> rfl, (by repeat (first | with_reducible exact Below.refl _ _ | with_reducible refine B_ext ?_ _ | with_reducible refine B_alloc ?_ _ | with_reducible refine Below.drew ?_ | with_reducible refine B_set ?_ _ _ _))⟩
    · cases m3 : vdB nt
      · have hr := hid (show fileR id f t d nt ad we hs = (.zero, 3) by simp [fileR, m1p, m2, m3])
        go_enter Try.func24, Try.ntmps24
        go_wp2_with (first | ((with_reducible refine wp_region_ext2 ?_ ?_ ?_); (kernel_rfl); (kernel_rfl)) | ((with_reducible refine wp_region_ext ?_ ?_ ?_); (kernel_rfl); (kernel_rfl)) | go_big_quiet_step (first | (go_at_call 37; exact quiet_of_ret (c_appeal_validDate _ _)) | (go_at_call 38; exact quiet_of_ret (c_appeal_validMonths _ _ _)) | (go_at_call 15; exact quiet_of_ret (c_workday_Valid _ _ hs _ (by first | with_reducible assumption | exact Ints.below (by assumption) (by repeat (first | with_reducible exact Below.refl _ _ | with_reducible refine B_ext ?_ _ | with_reducible refine B_alloc ?_ _ | with_reducible refine Below.drew ?_ | with_reducible refine B_set ?_ _ _ _))))) | (go_at_call 39; exact quiet_of_ret (c_appeal_later _ _ hs _ _ _ (by first | with_reducible assumption | exact Ints.below (by assumption) (by repeat (first | with_reducible exact Below.refl _ _ | with_reducible refine B_ext ?_ _ | with_reducible refine B_alloc ?_ _ | with_reducible refine Below.drew ?_ | with_reducible refine B_set ?_ _ _ _)))))) | ((with_reducible refine wpQuiet_nil ?_); intro x1) | (go_at_call 37; refine (c_appeal_validDate _ _).mono ?_; intro e w' hh; first | obtain ⟨rfl, y, rfl⟩ := Ret.ext2 hh | obtain ⟨rfl, y, rfl⟩ := Ret.ext hh) | (go_at_call 38; refine (c_appeal_validMonths _ _ _).mono ?_; intro e w' hh; first | obtain ⟨rfl, y, rfl⟩ := Ret.ext2 hh | obtain ⟨rfl, y, rfl⟩ := Ret.ext hh) | (go_at_call 15; refine (c_workday_Valid _ _ hs _ (by first | with_reducible assumption | exact Ints.below (by assumption) (by repeat (first | with_reducible exact Below.refl _ _ | with_reducible refine B_ext ?_ _ | with_reducible refine B_alloc ?_ _ | with_reducible refine Below.drew ?_ | with_reducible refine B_set ?_ _ _ _)))).mono ?_; intro e w' hh; first | obtain ⟨rfl, y, rfl⟩ := Ret.ext2 hh | obtain ⟨rfl, y, rfl⟩ := Ret.ext hh) | (go_at_call 39; refine (c_appeal_later _ _ hs _ _ _ (by first | with_reducible assumption | exact Ints.below (by assumption) (by repeat (first | with_reducible exact Below.refl _ _ | with_reducible refine B_ext ?_ _ | with_reducible refine B_alloc ?_ _ | with_reducible refine Below.drew ?_ | with_reducible refine B_set ?_ _ _ _)))).mono ?_; intro e w' hh; first | obtain ⟨rfl, y, rfl⟩ := Ret.ext2 hh | obtain ⟨rfl, y, rfl⟩ := Ret.ext hh))
        refine bodyPost_ret (v := .tuple #[apV (.zero), .int .i64 3]) ?_ rfl ?_
        · simp [results, Try.results24, go_sem, apV, Ap.zero]
        · exact ⟨by rw [hr.out] <;> rfl, (by repeat (first | with_reducible exact Below.refl _ _ | with_reducible refine B_ext ?_ _ | with_reducible refine B_alloc ?_ _ | with_reducible refine Below.drew ?_ | with_reducible refine B_set ?_ _ _ _))⟩
      · cases m4 : monB f t
        · have hr := hid (show fileR id f t d nt ad we hs = (.zero, 3) by simp [fileR, m1p, m2, m3, m4])
          go_enter Try.func24, Try.ntmps24
          go_wp2_with (first | ((with_reducible refine wp_region_ext2 ?_ ?_ ?_); (kernel_rfl); (kernel_rfl)) | ((with_reducible refine wp_region_ext ?_ ?_ ?_); (kernel_rfl); (kernel_rfl)) | go_big_quiet_step (first | (go_at_call 37; exact quiet_of_ret (c_appeal_validDate _ _)) | (go_at_call 38; exact quiet_of_ret (c_appeal_validMonths _ _ _)) | (go_at_call 15; exact quiet_of_ret (c_workday_Valid _ _ hs _ (by first | with_reducible assumption | exact Ints.below (by assumption) (by repeat (first | with_reducible exact Below.refl _ _ | with_reducible refine B_ext ?_ _ | with_reducible refine B_alloc ?_ _ | with_reducible refine Below.drew ?_ | with_reducible refine B_set ?_ _ _ _))))) | (go_at_call 39; exact quiet_of_ret (c_appeal_later _ _ hs _ _ _ (by first | with_reducible assumption | exact Ints.below (by assumption) (by repeat (first | with_reducible exact Below.refl _ _ | with_reducible refine B_ext ?_ _ | with_reducible refine B_alloc ?_ _ | with_reducible refine Below.drew ?_ | with_reducible refine B_set ?_ _ _ _)))))) | ((with_reducible refine wpQuiet_nil ?_); intro x1) | (go_at_call 37; refine (c_appeal_validDate _ _).mono ?_; intro e w' hh; first | obtain ⟨rfl, y, rfl⟩ := Ret.ext2 hh | obtain ⟨rfl, y, rfl⟩ := Ret.ext hh) | (go_at_call 38; refine (c_appeal_validMonths _ _ _).mono ?_; intro e w' hh; first | obtain ⟨rfl, y, rfl⟩ := Ret.ext2 hh | obtain ⟨rfl, y, rfl⟩ := Ret.ext hh) | (go_at_call 15; refine (c_workday_Valid _ _ hs _ (by first | with_reducible assumption | exact Ints.below (by assumption) (by repeat (first | with_reducible exact Below.refl _ _ | with_reducible refine B_ext ?_ _ | with_reducible refine B_alloc ?_ _ | with_reducible refine Below.drew ?_ | with_reducible refine B_set ?_ _ _ _)))).mono ?_; intro e w' hh; first | obtain ⟨rfl, y, rfl⟩ := Ret.ext2 hh | obtain ⟨rfl, y, rfl⟩ := Ret.ext hh) | (go_at_call 39; refine (c_appeal_later _ _ hs _ _ _ (by first | with_reducible assumption | exact Ints.below (by assumption) (by repeat (first | with_reducible exact Below.refl _ _ | with_reducible refine B_ext ?_ _ | with_reducible refine B_alloc ?_ _ | with_reducible refine Below.drew ?_ | with_reducible refine B_set ?_ _ _ _)))).mono ?_; intro e w' hh; first | obtain ⟨rfl, y, rfl⟩ := Ret.ext2 hh | obtain ⟨rfl, y, rfl⟩ := Ret.ext hh))
          refine bodyPost_ret (v := .tuple #[apV (.zero), .int .i64 3]) ?_ rfl ?_
          · simp [results, Try.results24, go_sem, apV, Ap.zero]
          · exact ⟨by rw [hr.out] <;> rfl, (by repeat (first | with_reducible exact Below.refl _ _ | with_reducible refine B_ext ?_ _ | with_reducible refine B_alloc ?_ _ | with_reducible refine Below.drew ?_ | with_reducible refine B_set ?_ _ _ _))⟩
        · cases m5 : decide (d < nt)
          · have m5p : ¬ (d < nt) := by simpa using m5
            cases m6 : calOk we hs
            · have hr := hid (show fileR id f t d nt ad we hs = (.zero, 1) by simp [fileR, m1p, m2, m3, m4, m5p, m6])
              go_enter Try.func24, Try.ntmps24
              go_wp2_with (first | ((with_reducible refine wp_region_ext2 ?_ ?_ ?_); (kernel_rfl); (kernel_rfl)) | ((with_reducible refine wp_region_ext ?_ ?_ ?_); (kernel_rfl); (kernel_rfl)) | go_big_quiet_step (first | (go_at_call 37; exact quiet_of_ret (c_appeal_validDate _ _)) | (go_at_call 38; exact quiet_of_ret (c_appeal_validMonths _ _ _)) | (go_at_call 15; exact quiet_of_ret (c_workday_Valid _ _ hs _ (by first | with_reducible assumption | exact Ints.below (by assumption) (by repeat (first | with_reducible exact Below.refl _ _ | with_reducible refine B_ext ?_ _ | with_reducible refine B_alloc ?_ _ | with_reducible refine Below.drew ?_ | with_reducible refine B_set ?_ _ _ _))))) | (go_at_call 39; exact quiet_of_ret (c_appeal_later _ _ hs _ _ _ (by first | with_reducible assumption | exact Ints.below (by assumption) (by repeat (first | with_reducible exact Below.refl _ _ | with_reducible refine B_ext ?_ _ | with_reducible refine B_alloc ?_ _ | with_reducible refine Below.drew ?_ | with_reducible refine B_set ?_ _ _ _)))))) | ((with_reducible refine wpQuiet_nil ?_); intro x1) | (go_at_call 37; refine (c_appeal_validDate _ _).mono ?_; intro e w' hh; first | obtain ⟨rfl, y, rfl⟩ := Ret.ext2 hh | obtain ⟨rfl, y, rfl⟩ := Ret.ext hh) | (go_at_call 38; refine (c_appeal_validMonths _ _ _).mono ?_; intro e w' hh; first | obtain ⟨rfl, y, rfl⟩ := Ret.ext2 hh | obtain ⟨rfl, y, rfl⟩ := Ret.ext hh) | (go_at_call 15; refine (c_workday_Valid _ _ hs _ (by first | with_reducible assumption | exact Ints.below (by assumption) (by repeat (first | with_reducible exact Below.refl _ _ | with_reducible refine B_ext ?_ _ | with_reducible refine B_alloc ?_ _ | with_reducible refine Below.drew ?_ | with_reducible refine B_set ?_ _ _ _)))).mono ?_; intro e w' hh; first | obtain ⟨rfl, y, rfl⟩ := Ret.ext2 hh | obtain ⟨rfl, y, rfl⟩ := Ret.ext hh) | (go_at_call 39; refine (c_appeal_later _ _ hs _ _ _ (by first | with_reducible assumption | exact Ints.below (by assumption) (by repeat (first | with_reducible exact Below.refl _ _ | with_reducible refine B_ext ?_ _ | with_reducible refine B_alloc ?_ _ | with_reducible refine Below.drew ?_ | with_reducible refine B_set ?_ _ _ _)))).mono ?_; intro e w' hh; first | obtain ⟨rfl, y, rfl⟩ := Ret.ext2 hh | obtain ⟨rfl, y, rfl⟩ := Ret.ext hh))
              refine bodyPost_ret (v := .tuple #[apV (.zero), .int .i64 1]) ?_ rfl ?_
              · simp [results, Try.results24, go_sem, apV, Ap.zero]
              · exact ⟨by rw [hr.out] <;> rfl, (by repeat (first | with_reducible exact Below.refl _ _ | with_reducible refine B_ext ?_ _ | with_reducible refine B_alloc ?_ _ | with_reducible refine Below.drew ?_ | with_reducible refine B_set ?_ _ _ _))⟩
            · cases m7 : decide (ad < 0)
              · have m7p : ¬ (ad < 0) := by simpa using m7
                cases m8 : decide (365 < ad)
                · have m8p : ¬ (365 < ad) := by simpa using m8
                  cases m9 : decide (d ≤ laterR we hs nt ad)
                  · have m9p : ¬ (d ≤ laterR we hs nt ad) := by simpa using m9
                    have hr := hid (show fileR id f t d nt ad we hs = (⟨id, f, t, d, d, 6, 0⟩, 0) by simp [fileR, m1p, m2, m3, m4, m5p, m6, m7p, m8p, m9p])
                    go_enter Try.func24, Try.ntmps24
                    go_wp2_with (first | ((with_reducible refine wp_region_ext2 ?_ ?_ ?_); (kernel_rfl); (kernel_rfl)) | ((with_reducible refine wp_region_ext ?_ ?_ ?_); (kernel_rfl); (kernel_rfl)) | go_big_quiet_step (first | (go_at_call 37; exact quiet_of_ret (c_appeal_validDate _ _)) | (go_at_call 38; exact quiet_of_ret (c_appeal_validMonths _ _ _)) | (go_at_call 15; exact quiet_of_ret (c_workday_Valid _ _ hs _ (by first | with_reducible assumption | exact Ints.below (by assumption) (by repeat (first | with_reducible exact Below.refl _ _ | with_reducible refine B_ext ?_ _ | with_reducible refine B_alloc ?_ _ | with_reducible refine Below.drew ?_ | with_reducible refine B_set ?_ _ _ _))))) | (go_at_call 39; exact quiet_of_ret (c_appeal_later _ _ hs _ _ _ (by first | with_reducible assumption | exact Ints.below (by assumption) (by repeat (first | with_reducible exact Below.refl _ _ | with_reducible refine B_ext ?_ _ | with_reducible refine B_alloc ?_ _ | with_reducible refine Below.drew ?_ | with_reducible refine B_set ?_ _ _ _)))))) | ((with_reducible refine wpQuiet_nil ?_); intro x1) | (go_at_call 37; refine (c_appeal_validDate _ _).mono ?_; intro e w' hh; first | obtain ⟨rfl, y, rfl⟩ := Ret.ext2 hh | obtain ⟨rfl, y, rfl⟩ := Ret.ext hh) | (go_at_call 38; refine (c_appeal_validMonths _ _ _).mono ?_; intro e w' hh; first | obtain ⟨rfl, y, rfl⟩ := Ret.ext2 hh | obtain ⟨rfl, y, rfl⟩ := Ret.ext hh) | (go_at_call 15; refine (c_workday_Valid _ _ hs _ (by first | with_reducible assumption | exact Ints.below (by assumption) (by repeat (first | with_reducible exact Below.refl _ _ | with_reducible refine B_ext ?_ _ | with_reducible refine B_alloc ?_ _ | with_reducible refine Below.drew ?_ | with_reducible refine B_set ?_ _ _ _)))).mono ?_; intro e w' hh; first | obtain ⟨rfl, y, rfl⟩ := Ret.ext2 hh | obtain ⟨rfl, y, rfl⟩ := Ret.ext hh) | (go_at_call 39; refine (c_appeal_later _ _ hs _ _ _ (by first | with_reducible assumption | exact Ints.below (by assumption) (by repeat (first | with_reducible exact Below.refl _ _ | with_reducible refine B_ext ?_ _ | with_reducible refine B_alloc ?_ _ | with_reducible refine Below.drew ?_ | with_reducible refine B_set ?_ _ _ _)))).mono ?_; intro e w' hh; first | obtain ⟨rfl, y, rfl⟩ := Ret.ext2 hh | obtain ⟨rfl, y, rfl⟩ := Ret.ext hh))
                    refine bodyPost_ret (v := .tuple #[apV (⟨id, f, t, d, d, 6, 0⟩), .int .i64 0]) ?_ rfl ?_
                    · simp [results, Try.results24, go_sem, apV, Ap.zero]
                    · exact ⟨by rw [hr.out] <;> rfl, (by repeat (first | with_reducible exact Below.refl _ _ | with_reducible refine B_ext ?_ _ | with_reducible refine B_alloc ?_ _ | with_reducible refine Below.drew ?_ | with_reducible refine B_set ?_ _ _ _))⟩
                  · have m9p : d ≤ laterR we hs nt ad := by simpa using m9
                    have hr := hid (show fileR id f t d nt ad we hs = (⟨id, f, t, d, laterR we hs d 60, 1, 0⟩, 0) by simp [fileR, m1p, m2, m3, m4, m5p, m6, m7p, m8p, m9p])
                    go_enter Try.func24, Try.ntmps24
                    go_wp2_with (first | ((with_reducible refine wp_region_ext2 ?_ ?_ ?_); (kernel_rfl); (kernel_rfl)) | ((with_reducible refine wp_region_ext ?_ ?_ ?_); (kernel_rfl); (kernel_rfl)) | go_big_quiet_step (first | (go_at_call 37; exact quiet_of_ret (c_appeal_validDate _ _)) | (go_at_call 38; exact quiet_of_ret (c_appeal_validMonths _ _ _)) | (go_at_call 15; exact quiet_of_ret (c_workday_Valid _ _ hs _ (by first | with_reducible assumption | exact Ints.below (by assumption) (by repeat (first | with_reducible exact Below.refl _ _ | with_reducible refine B_ext ?_ _ | with_reducible refine B_alloc ?_ _ | with_reducible refine Below.drew ?_ | with_reducible refine B_set ?_ _ _ _))))) | (go_at_call 39; exact quiet_of_ret (c_appeal_later _ _ hs _ _ _ (by first | with_reducible assumption | exact Ints.below (by assumption) (by repeat (first | with_reducible exact Below.refl _ _ | with_reducible refine B_ext ?_ _ | with_reducible refine B_alloc ?_ _ | with_reducible refine Below.drew ?_ | with_reducible refine B_set ?_ _ _ _)))))) | ((with_reducible refine wpQuiet_nil ?_); intro x1) | (go_at_call 37; refine (c_appeal_validDate _ _).mono ?_; intro e w' hh; first | obtain ⟨rfl, y, rfl⟩ := Ret.ext2 hh | obtain ⟨rfl, y, rfl⟩ := Ret.ext hh) | (go_at_call 38; refine (c_appeal_validMonths _ _ _).mono ?_; intro e w' hh; first | obtain ⟨rfl, y, rfl⟩ := Ret.ext2 hh | obtain ⟨rfl, y, rfl⟩ := Ret.ext hh) | (go_at_call 15; refine (c_workday_Valid _ _ hs _ (by first | with_reducible assumption | exact Ints.below (by assumption) (by repeat (first | with_reducible exact Below.refl _ _ | with_reducible refine B_ext ?_ _ | with_reducible refine B_alloc ?_ _ | with_reducible refine Below.drew ?_ | with_reducible refine B_set ?_ _ _ _)))).mono ?_; intro e w' hh; first | obtain ⟨rfl, y, rfl⟩ := Ret.ext2 hh | obtain ⟨rfl, y, rfl⟩ := Ret.ext hh) | (go_at_call 39; refine (c_appeal_later _ _ hs _ _ _ (by first | with_reducible assumption | exact Ints.below (by assumption) (by repeat (first | with_reducible exact Below.refl _ _ | with_reducible refine B_ext ?_ _ | with_reducible refine B_alloc ?_ _ | with_reducible refine Below.drew ?_ | with_reducible refine B_set ?_ _ _ _)))).mono ?_; intro e w' hh; first | obtain ⟨rfl, y, rfl⟩ := Ret.ext2 hh | obtain ⟨rfl, y, rfl⟩ := Ret.ext hh))
                    refine bodyPost_ret (v := .tuple #[apV (⟨id, f, t, d, laterR we hs d 60, 1, 0⟩), .int .i64 0]) ?_ rfl ?_
                    · simp [results, Try.results24, go_sem, apV, Ap.zero]
                    · exact ⟨by rw [hr.out] <;> rfl, (by repeat (first | with_reducible exact Below.refl _ _ | with_reducible refine B_ext ?_ _ | with_reducible refine B_alloc ?_ _ | with_reducible refine Below.drew ?_ | with_reducible refine B_set ?_ _ _ _))⟩
                · have m8p : 365 < ad := by simpa using m8
                  have hr := hid (show fileR id f t d nt ad we hs = (.zero, 1) by simp [fileR, m1p, m2, m3, m4, m5p, m6, m7p, m8p])
                  go_enter Try.func24, Try.ntmps24
                  go_wp2_with (first | ((with_reducible refine wp_region_ext2 ?_ ?_ ?_); (kernel_rfl); (kernel_rfl)) | ((with_reducible refine wp_region_ext ?_ ?_ ?_); (kernel_rfl); (kernel_rfl)) | go_big_quiet_step (first | (go_at_call 37; exact quiet_of_ret (c_appeal_validDate _ _)) | (go_at_call 38; exact quiet_of_ret (c_appeal_validMonths _ _ _)) | (go_at_call 15; exact quiet_of_ret (c_workday_Valid _ _ hs _ (by first | with_reducible assumption | exact Ints.below (by assumption) (by repeat (first | with_reducible exact Below.refl _ _ | with_reducible refine B_ext ?_ _ | with_reducible refine B_alloc ?_ _ | with_reducible refine Below.drew ?_ | with_reducible refine B_set ?_ _ _ _))))) | (go_at_call 39; exact quiet_of_ret (c_appeal_later _ _ hs _ _ _ (by first | with_reducible assumption | exact Ints.below (by assumption) (by repeat (first | with_reducible exact Below.refl _ _ | with_reducible refine B_ext ?_ _ | with_reducible refine B_alloc ?_ _ | with_reducible refine Below.drew ?_ | with_reducible refine B_set ?_ _ _ _)))))) | ((with_reducible refine wpQuiet_nil ?_); intro x1) | (go_at_call 37; refine (c_appeal_validDate _ _).mono ?_; intro e w' hh; first | obtain ⟨rfl, y, rfl⟩ := Ret.ext2 hh | obtain ⟨rfl, y, rfl⟩ := Ret.ext hh) | (go_at_call 38; refine (c_appeal_validMonths _ _ _).mono ?_; intro e w' hh; first | obtain ⟨rfl, y, rfl⟩ := Ret.ext2 hh | obtain ⟨rfl, y, rfl⟩ := Ret.ext hh) | (go_at_call 15; refine (c_workday_Valid _ _ hs _ (by first | with_reducible assumption | exact Ints.below (by assumption) (by repeat (first | with_reducible exact Below.refl _ _ | with_reducible refine B_ext ?_ _ | with_reducible refine B_alloc ?_ _ | with_reducible refine Below.drew ?_ | with_reducible refine B_set ?_ _ _ _)))).mono ?_; intro e w' hh; first | obtain ⟨rfl, y, rfl⟩ := Ret.ext2 hh | obtain ⟨rfl, y, rfl⟩ := Ret.ext hh) | (go_at_call 39; refine (c_appeal_later _ _ hs _ _ _ (by first | with_reducible assumption | exact Ints.below (by assumption) (by repeat (first | with_reducible exact Below.refl _ _ | with_reducible refine B_ext ?_ _ | with_reducible refine B_alloc ?_ _ | with_reducible refine Below.drew ?_ | with_reducible refine B_set ?_ _ _ _)))).mono ?_; intro e w' hh; first | obtain ⟨rfl, y, rfl⟩ := Ret.ext2 hh | obtain ⟨rfl, y, rfl⟩ := Ret.ext hh))
                  refine bodyPost_ret (v := .tuple #[apV (.zero), .int .i64 1]) ?_ rfl ?_
                  · simp [results, Try.results24, go_sem, apV, Ap.zero]
                  · exact ⟨by rw [hr.out] <;> rfl, (by repeat (first | with_reducible exact Below.refl _ _ | with_reducible refine B_ext ?_ _ | with_reducible refine B_alloc ?_ _ | with_reducible refine Below.drew ?_ | with_reducible refine B_set ?_ _ _ _))⟩
              · have m7p : ad < 0 := by simpa using m7
                have hr := hid (show fileR id f t d nt ad we hs = (.zero, 1) by simp [fileR, m1p, m2, m3, m4, m5p, m6, m7p])
                go_enter Try.func24, Try.ntmps24
                go_wp2_with (first | ((with_reducible refine wp_region_ext2 ?_ ?_ ?_); (kernel_rfl); (kernel_rfl)) | ((with_reducible refine wp_region_ext ?_ ?_ ?_); (kernel_rfl); (kernel_rfl)) | go_big_quiet_step (first | (go_at_call 37; exact quiet_of_ret (c_appeal_validDate _ _)) | (go_at_call 38; exact quiet_of_ret (c_appeal_validMonths _ _ _)) | (go_at_call 15; exact quiet_of_ret (c_workday_Valid _ _ hs _ (by first | with_reducible assumption | exact Ints.below (by assumption) (by repeat (first | with_reducible exact Below.refl _ _ | with_reducible refine B_ext ?_ _ | with_reducible refine B_alloc ?_ _ | with_reducible refine Below.drew ?_ | with_reducible refine B_set ?_ _ _ _))))) | (go_at_call 39; exact quiet_of_ret (c_appeal_later _ _ hs _ _ _ (by first | with_reducible assumption | exact Ints.below (by assumption) (by repeat (first | with_reducible exact Below.refl _ _ | with_reducible refine B_ext ?_ _ | with_reducible refine B_alloc ?_ _ | with_reducible refine Below.drew ?_ | with_reducible refine B_set ?_ _ _ _)))))) | ((with_reducible refine wpQuiet_nil ?_); intro x1) | (go_at_call 37; refine (c_appeal_validDate _ _).mono ?_; intro e w' hh; first | obtain ⟨rfl, y, rfl⟩ := Ret.ext2 hh | obtain ⟨rfl, y, rfl⟩ := Ret.ext hh) | (go_at_call 38; refine (c_appeal_validMonths _ _ _).mono ?_; intro e w' hh; first | obtain ⟨rfl, y, rfl⟩ := Ret.ext2 hh | obtain ⟨rfl, y, rfl⟩ := Ret.ext hh) | (go_at_call 15; refine (c_workday_Valid _ _ hs _ (by first | with_reducible assumption | exact Ints.below (by assumption) (by repeat (first | with_reducible exact Below.refl _ _ | with_reducible refine B_ext ?_ _ | with_reducible refine B_alloc ?_ _ | with_reducible refine Below.drew ?_ | with_reducible refine B_set ?_ _ _ _)))).mono ?_; intro e w' hh; first | obtain ⟨rfl, y, rfl⟩ := Ret.ext2 hh | obtain ⟨rfl, y, rfl⟩ := Ret.ext hh) | (go_at_call 39; refine (c_appeal_later _ _ hs _ _ _ (by first | with_reducible assumption | exact Ints.below (by assumption) (by repeat (first | with_reducible exact Below.refl _ _ | with_reducible refine B_ext ?_ _ | with_reducible refine B_alloc ?_ _ | with_reducible refine Below.drew ?_ | with_reducible refine B_set ?_ _ _ _)))).mono ?_; intro e w' hh; first | obtain ⟨rfl, y, rfl⟩ := Ret.ext2 hh | obtain ⟨rfl, y, rfl⟩ := Ret.ext hh))
                refine bodyPost_ret (v := .tuple #[apV (.zero), .int .i64 1]) ?_ rfl ?_
                · simp [results, Try.results24, go_sem, apV, Ap.zero]
                · exact ⟨by rw [hr.out] <;> rfl, (by repeat (first | with_reducible exact Below.refl _ _ | with_reducible refine B_ext ?_ _ | with_reducible refine B_alloc ?_ _ | with_reducible refine Below.drew ?_ | with_reducible refine B_set ?_ _ _ _))⟩
          · have m5p : d < nt := by simpa using m5
            have hr := hid (show fileR id f t d nt ad we hs = (.zero, 14) by simp [fileR, m1p, m2, m3, m4, m5p])
            go_enter Try.func24, Try.ntmps24
            go_wp2_with (first | ((with_reducible refine wp_region_ext2 ?_ ?_ ?_); (kernel_rfl); (kernel_rfl)) | ((with_reducible refine wp_region_ext ?_ ?_ ?_); (kernel_rfl); (kernel_rfl)) | go_big_quiet_step (first | (go_at_call 37; exact quiet_of_ret (c_appeal_validDate _ _)) | (go_at_call 38; exact quiet_of_ret (c_appeal_validMonths _ _ _)) | (go_at_call 15; exact quiet_of_ret (c_workday_Valid _ _ hs _ (by first | with_reducible assumption | exact Ints.below (by assumption) (by repeat (first | with_reducible exact Below.refl _ _ | with_reducible refine B_ext ?_ _ | with_reducible refine B_alloc ?_ _ | with_reducible refine Below.drew ?_ | with_reducible refine B_set ?_ _ _ _))))) | (go_at_call 39; exact quiet_of_ret (c_appeal_later _ _ hs _ _ _ (by first | with_reducible assumption | exact Ints.below (by assumption) (by repeat (first | with_reducible exact Below.refl _ _ | with_reducible refine B_ext ?_ _ | with_reducible refine B_alloc ?_ _ | with_reducible refine Below.drew ?_ | with_reducible refine B_set ?_ _ _ _)))))) | ((with_reducible refine wpQuiet_nil ?_); intro x1) | (go_at_call 37; refine (c_appeal_validDate _ _).mono ?_; intro e w' hh; first | obtain ⟨rfl, y, rfl⟩ := Ret.ext2 hh | obtain ⟨rfl, y, rfl⟩ := Ret.ext hh) | (go_at_call 38; refine (c_appeal_validMonths _ _ _).mono ?_; intro e w' hh; first | obtain ⟨rfl, y, rfl⟩ := Ret.ext2 hh | obtain ⟨rfl, y, rfl⟩ := Ret.ext hh) | (go_at_call 15; refine (c_workday_Valid _ _ hs _ (by first | with_reducible assumption | exact Ints.below (by assumption) (by repeat (first | with_reducible exact Below.refl _ _ | with_reducible refine B_ext ?_ _ | with_reducible refine B_alloc ?_ _ | with_reducible refine Below.drew ?_ | with_reducible refine B_set ?_ _ _ _)))).mono ?_; intro e w' hh; first | obtain ⟨rfl, y, rfl⟩ := Ret.ext2 hh | obtain ⟨rfl, y, rfl⟩ := Ret.ext hh) | (go_at_call 39; refine (c_appeal_later _ _ hs _ _ _ (by first | with_reducible assumption | exact Ints.below (by assumption) (by repeat (first | with_reducible exact Below.refl _ _ | with_reducible refine B_ext ?_ _ | with_reducible refine B_alloc ?_ _ | with_reducible refine Below.drew ?_ | with_reducible refine B_set ?_ _ _ _)))).mono ?_; intro e w' hh; first | obtain ⟨rfl, y, rfl⟩ := Ret.ext2 hh | obtain ⟨rfl, y, rfl⟩ := Ret.ext hh))
            refine bodyPost_ret (v := .tuple #[apV (.zero), .int .i64 14]) ?_ rfl ?_
            · simp [results, Try.results24, go_sem, apV, Ap.zero]
            · exact ⟨by rw [hr.out] <;> rfl, (by repeat (first | with_reducible exact Below.refl _ _ | with_reducible refine B_ext ?_ _ | with_reducible refine B_alloc ?_ _ | with_reducible refine Below.drew ?_ | with_reducible refine B_set ?_ _ _ _))⟩
  · have m1p : id < 0 := by simpa using m1
    have hr := hid (show fileR id f t d nt ad we hs = (.zero, 3) by simp [fileR, m1p])
    go_enter Try.func24, Try.ntmps24
    go_wp2_with (first | ((with_reducible refine wp_region_ext2 ?_ ?_ ?_); (kernel_rfl); (kernel_rfl)) | ((with_reducible refine wp_region_ext ?_ ?_ ?_); (kernel_rfl); (kernel_rfl)) | go_big_quiet_step (first | (go_at_call 37; exact quiet_of_ret (c_appeal_validDate _ _)) | (go_at_call 38; exact quiet_of_ret (c_appeal_validMonths _ _ _)) | (go_at_call 15; exact quiet_of_ret (c_workday_Valid _ _ hs _ (by first | with_reducible assumption | exact Ints.below (by assumption) (by repeat (first | with_reducible exact Below.refl _ _ | with_reducible refine B_ext ?_ _ | with_reducible refine B_alloc ?_ _ | with_reducible refine Below.drew ?_ | with_reducible refine B_set ?_ _ _ _))))) | (go_at_call 39; exact quiet_of_ret (c_appeal_later _ _ hs _ _ _ (by first | with_reducible assumption | exact Ints.below (by assumption) (by repeat (first | with_reducible exact Below.refl _ _ | with_reducible refine B_ext ?_ _ | with_reducible refine B_alloc ?_ _ | with_reducible refine Below.drew ?_ | with_reducible refine B_set ?_ _ _ _)))))) | ((with_reducible refine wpQuiet_nil ?_); intro x1) | (go_at_call 37; refine (c_appeal_validDate _ _).mono ?_; intro e w' hh; first | obtain ⟨rfl, y, rfl⟩ := Ret.ext2 hh | obtain ⟨rfl, y, rfl⟩ := Ret.ext hh) | (go_at_call 38; refine (c_appeal_validMonths _ _ _).mono ?_; intro e w' hh; first | obtain ⟨rfl, y, rfl⟩ := Ret.ext2 hh | obtain ⟨rfl, y, rfl⟩ := Ret.ext hh) | (go_at_call 15; refine (c_workday_Valid _ _ hs _ (by first | with_reducible assumption | exact Ints.below (by assumption) (by repeat (first | with_reducible exact Below.refl _ _ | with_reducible refine B_ext ?_ _ | with_reducible refine B_alloc ?_ _ | with_reducible refine Below.drew ?_ | with_reducible refine B_set ?_ _ _ _)))).mono ?_; intro e w' hh; first | obtain ⟨rfl, y, rfl⟩ := Ret.ext2 hh | obtain ⟨rfl, y, rfl⟩ := Ret.ext hh) | (go_at_call 39; refine (c_appeal_later _ _ hs _ _ _ (by first | with_reducible assumption | exact Ints.below (by assumption) (by repeat (first | with_reducible exact Below.refl _ _ | with_reducible refine B_ext ?_ _ | with_reducible refine B_alloc ?_ _ | with_reducible refine Below.drew ?_ | with_reducible refine B_set ?_ _ _ _)))).mono ?_; intro e w' hh; first | obtain ⟨rfl, y, rfl⟩ := Ret.ext2 hh | obtain ⟨rfl, y, rfl⟩ := Ret.ext hh))
    refine bodyPost_ret (v := .tuple #[apV (.zero), .int .i64 3]) ?_ rfl ?_
    · simp [results, Try.results24, go_sem, apV, Ap.zero]
    · exact ⟨by rw [hr.out] <;> rfl, (by repeat (first | with_reducible exact Below.refl _ _ | with_reducible refine B_ext ?_ _ | with_reducible refine B_alloc ?_ _ | with_reducible refine Below.drew ?_ | with_reducible refine B_set ?_ _ _ _))⟩

set_option maxHeartbeats 4000000 in
theorem c_ref41_Valid (a : Ap) (w : World) : Calls Try.prog 29 #[apV a] w (Ret (.bool (apOk a)) w) := by
  cases h1 : decide (a.id < 0)
  · have h1p : ¬ (a.id < 0) := by simpa using h1
    cases h2 : monB a.fr a.to
    · have hr := hid (show apOk a = false by
        simp only [apOk, h2]; simp <;> omega)
      unfold apV
      go_enter Try.func29, Try.ntmps29
      go_wp2_with (first | ((with_reducible refine wp_region_ext2 ?_ ?_ ?_); (kernel_rfl); (kernel_rfl)) | ((with_reducible refine wp_region_ext ?_ ?_ ?_); (kernel_rfl); (kernel_rfl)) | go_big_quiet_step (first | (go_at_call 41; exact quiet_of_ret (c_ref41_months _ _ _))) | ((with_reducible refine wpQuiet_nil ?_); intro x1) | (go_at_call 41; refine (c_ref41_months _ _ _).mono ?_; intro e w' hh; first | obtain ⟨rfl, y, rfl⟩ := Ret.ext2 hh | obtain ⟨rfl, y, rfl⟩ := Ret.ext hh))
      go_ret
      exact ⟨by rw [hr.out]; simp, (by repeat (first | with_reducible exact Below.refl _ _ | with_reducible refine B_ext ?_ _ | with_reducible refine B_alloc ?_ _ | with_reducible refine Below.drew ?_ | with_reducible refine B_set ?_ _ _ _))⟩
    · cases h3 : decide (a.filed < 0)
      · have h3p : ¬ (a.filed < 0) := by simpa using h3
        cases h4 : decide (a.dead < a.filed)
        · have h4p : ¬ (a.dead < a.filed) := by simpa using h4
          cases h5 : decide (109572 < a.dead)
          · have h5p : ¬ (109572 < a.dead) := by simpa using h5
            cases h6 : decide (1 ≤ a.st)
            · have h6p : ¬ (1 ≤ a.st) := by simpa using h6
              have hr := hid (show apOk a = false by
                simp only [apOk, h2]; simp <;> omega)
              unfold apV
              go_enter Try.func29, Try.ntmps29
              go_wp2_with (first | ((with_reducible refine wp_region_ext2 ?_ ?_ ?_); (kernel_rfl); (kernel_rfl)) | ((with_reducible refine wp_region_ext ?_ ?_ ?_); (kernel_rfl); (kernel_rfl)) | go_big_quiet_step (first | (go_at_call 41; exact quiet_of_ret (c_ref41_months _ _ _))) | ((with_reducible refine wpQuiet_nil ?_); intro x1) | (go_at_call 41; refine (c_ref41_months _ _ _).mono ?_; intro e w' hh; first | obtain ⟨rfl, y, rfl⟩ := Ret.ext2 hh | obtain ⟨rfl, y, rfl⟩ := Ret.ext hh))
              go_ret
              exact ⟨by rw [hr.out]; simp, (by repeat (first | with_reducible exact Below.refl _ _ | with_reducible refine B_ext ?_ _ | with_reducible refine B_alloc ?_ _ | with_reducible refine Below.drew ?_ | with_reducible refine B_set ?_ _ _ _))⟩
            · have h6p : 1 ≤ a.st := by simpa using h6
              cases h7 : decide (a.st ≤ 6)
              · have h7p : ¬ (a.st ≤ 6) := by simpa using h7
                have hr := hid (show apOk a = false by
                  simp only [apOk, h2]; simp <;> omega)
                unfold apV
                go_enter Try.func29, Try.ntmps29
                go_wp2_with (first | ((with_reducible refine wp_region_ext2 ?_ ?_ ?_); (kernel_rfl); (kernel_rfl)) | ((with_reducible refine wp_region_ext ?_ ?_ ?_); (kernel_rfl); (kernel_rfl)) | go_big_quiet_step (first | (go_at_call 41; exact quiet_of_ret (c_ref41_months _ _ _))) | ((with_reducible refine wpQuiet_nil ?_); intro x1) | (go_at_call 41; refine (c_ref41_months _ _ _).mono ?_; intro e w' hh; first | obtain ⟨rfl, y, rfl⟩ := Ret.ext2 hh | obtain ⟨rfl, y, rfl⟩ := Ret.ext hh))
                go_ret
                exact ⟨by rw [hr.out]; simp, (by repeat (first | with_reducible exact Below.refl _ _ | with_reducible refine B_ext ?_ _ | with_reducible refine B_alloc ?_ _ | with_reducible refine Below.drew ?_ | with_reducible refine B_set ?_ _ _ _))⟩
              · have h7p : a.st ≤ 6 := by simpa using h7
                cases g3 : decide (0 ≤ a.cents)
                · have g3p : ¬ (0 ≤ a.cents) := by simpa using g3
                  have hr := hid (show apOk a = false by
                    simp only [apOk, h2]; simp <;> omega)
                  unfold apV
                  go_enter Try.func29, Try.ntmps29
                  go_wp2_with (first | ((with_reducible refine wp_region_ext2 ?_ ?_ ?_); (kernel_rfl); (kernel_rfl)) | ((with_reducible refine wp_region_ext ?_ ?_ ?_); (kernel_rfl); (kernel_rfl)) | go_big_quiet_step (first | (go_at_call 41; exact quiet_of_ret (c_ref41_months _ _ _))) | ((with_reducible refine wpQuiet_nil ?_); intro x1) | (go_at_call 41; refine (c_ref41_months _ _ _).mono ?_; intro e w' hh; first | obtain ⟨rfl, y, rfl⟩ := Ret.ext2 hh | obtain ⟨rfl, y, rfl⟩ := Ret.ext hh))
                  go_ret
                  exact ⟨by rw [hr.out]; simp, (by repeat (first | with_reducible exact Below.refl _ _ | with_reducible refine B_ext ?_ _ | with_reducible refine B_alloc ?_ _ | with_reducible refine Below.drew ?_ | with_reducible refine B_set ?_ _ _ _))⟩
                · have g3p : 0 ≤ a.cents := by simpa using g3
                  cases g4 : decide (a.cents ≤ 1000000000000000)
                  · have g4p : ¬ (a.cents ≤ 1000000000000000) := by simpa using g4
                    have hr := hid (show apOk a = false by
                      simp only [apOk, h2]; simp <;> omega)
                    unfold apV
                    go_enter Try.func29, Try.ntmps29
                    go_wp2_with (first | ((with_reducible refine wp_region_ext2 ?_ ?_ ?_); (kernel_rfl); (kernel_rfl)) | ((with_reducible refine wp_region_ext ?_ ?_ ?_); (kernel_rfl); (kernel_rfl)) | go_big_quiet_step (first | (go_at_call 41; exact quiet_of_ret (c_ref41_months _ _ _))) | ((with_reducible refine wpQuiet_nil ?_); intro x1) | (go_at_call 41; refine (c_ref41_months _ _ _).mono ?_; intro e w' hh; first | obtain ⟨rfl, y, rfl⟩ := Ret.ext2 hh | obtain ⟨rfl, y, rfl⟩ := Ret.ext hh))
                    go_ret
                    exact ⟨by rw [hr.out]; simp, (by repeat (first | with_reducible exact Below.refl _ _ | with_reducible refine B_ext ?_ _ | with_reducible refine B_alloc ?_ _ | with_reducible refine Below.drew ?_ | with_reducible refine B_set ?_ _ _ _))⟩
                  · have g4p : a.cents ≤ 1000000000000000 := by simpa using g4
                    cases g1 : (a.cents == 0)
                    · have g1p := hid (show ¬ (a.cents = 0) by simpa using g1)
                      have g1q : (a.cents != 0) = true := by simpa using g1p.out
                      cases g2 : (a.st == 3)
                      · have g2p := hid (show ¬ (a.st = 3) by simpa using g2)
                        have g2q : (a.st != 3) = true := by simpa using g2p.out
                        have hr := hid (show apOk a = false by
                          have o0 := g1p.out; have o1 := g2p.out; simp only [apOk, h2]; simp <;> omega)
                        unfold apV
                        go_enter Try.func29, Try.ntmps29
                        go_wp2_with (first | ((with_reducible refine wp_region_ext2 ?_ ?_ ?_); (kernel_rfl); (kernel_rfl)) | ((with_reducible refine wp_region_ext ?_ ?_ ?_); (kernel_rfl); (kernel_rfl)) | go_big_quiet_step (first | (go_at_call 41; exact quiet_of_ret (c_ref41_months _ _ _))) | ((with_reducible refine wpQuiet_nil ?_); intro x1) | (go_at_call 41; refine (c_ref41_months _ _ _).mono ?_; intro e w' hh; first | obtain ⟨rfl, y, rfl⟩ := Ret.ext2 hh | obtain ⟨rfl, y, rfl⟩ := Ret.ext hh))
                        go_ret
                        exact ⟨by rw [hr.out]; simp, (by repeat (first | with_reducible exact Below.refl _ _ | with_reducible refine B_ext ?_ _ | with_reducible refine B_alloc ?_ _ | with_reducible refine Below.drew ?_ | with_reducible refine B_set ?_ _ _ _))⟩
                      · have g2p := hid (show a.st = 3 by simpa using g2)
                        have g2q : (a.st != 3) = false := by simpa using g2p.out
                        have hr := hid (show apOk a = true by
                          have o0 := g1p.out; have o1 := g2p.out; simp only [apOk, h2]; simp <;> omega)
                        unfold apV
                        go_enter Try.func29, Try.ntmps29
                        go_wp2_with (first | ((with_reducible refine wp_region_ext2 ?_ ?_ ?_); (kernel_rfl); (kernel_rfl)) | ((with_reducible refine wp_region_ext ?_ ?_ ?_); (kernel_rfl); (kernel_rfl)) | go_big_quiet_step (first | (go_at_call 41; exact quiet_of_ret (c_ref41_months _ _ _))) | ((with_reducible refine wpQuiet_nil ?_); intro x1) | (go_at_call 41; refine (c_ref41_months _ _ _).mono ?_; intro e w' hh; first | obtain ⟨rfl, y, rfl⟩ := Ret.ext2 hh | obtain ⟨rfl, y, rfl⟩ := Ret.ext hh))
                        go_ret
                        exact ⟨by rw [hr.out]; simp, (by repeat (first | with_reducible exact Below.refl _ _ | with_reducible refine B_ext ?_ _ | with_reducible refine B_alloc ?_ _ | with_reducible refine Below.drew ?_ | with_reducible refine B_set ?_ _ _ _))⟩
                    · have g1p := hid (show a.cents = 0 by simpa using g1)
                      have g1q : (a.cents != 0) = false := by simpa using g1p.out
                      have hr := hid (show apOk a = true by
                        have o0 := g1p.out; simp only [apOk, h2]; simp <;> omega)
                      unfold apV
                      go_enter Try.func29, Try.ntmps29
                      go_wp2_with (first | ((with_reducible refine wp_region_ext2 ?_ ?_ ?_); (kernel_rfl); (kernel_rfl)) | ((with_reducible refine wp_region_ext ?_ ?_ ?_); (kernel_rfl); (kernel_rfl)) | go_big_quiet_step (first | (go_at_call 41; exact quiet_of_ret (c_ref41_months _ _ _))) | ((with_reducible refine wpQuiet_nil ?_); intro x1) | (go_at_call 41; refine (c_ref41_months _ _ _).mono ?_; intro e w' hh; first | obtain ⟨rfl, y, rfl⟩ := Ret.ext2 hh | obtain ⟨rfl, y, rfl⟩ := Ret.ext hh))
                      go_ret
                      exact ⟨by rw [hr.out]; simp, (by repeat (first | with_reducible exact Below.refl _ _ | with_reducible refine B_ext ?_ _ | with_reducible refine B_alloc ?_ _ | with_reducible refine Below.drew ?_ | with_reducible refine B_set ?_ _ _ _))⟩
          · have h5p : 109572 < a.dead := by simpa using h5
            have hr := hid (show apOk a = false by
              simp only [apOk, h2]; simp <;> omega)
            unfold apV
            go_enter Try.func29, Try.ntmps29
            go_wp2_with (first | ((with_reducible refine wp_region_ext2 ?_ ?_ ?_); (kernel_rfl); (kernel_rfl)) | ((with_reducible refine wp_region_ext ?_ ?_ ?_); (kernel_rfl); (kernel_rfl)) | go_big_quiet_step (first | (go_at_call 41; exact quiet_of_ret (c_ref41_months _ _ _))) | ((with_reducible refine wpQuiet_nil ?_); intro x1) | (go_at_call 41; refine (c_ref41_months _ _ _).mono ?_; intro e w' hh; first | obtain ⟨rfl, y, rfl⟩ := Ret.ext2 hh | obtain ⟨rfl, y, rfl⟩ := Ret.ext hh))
            go_ret
            exact ⟨by rw [hr.out]; simp, (by repeat (first | with_reducible exact Below.refl _ _ | with_reducible refine B_ext ?_ _ | with_reducible refine B_alloc ?_ _ | with_reducible refine Below.drew ?_ | with_reducible refine B_set ?_ _ _ _))⟩
        · have h4p : a.dead < a.filed := by simpa using h4
          have hr := hid (show apOk a = false by
            simp only [apOk, h2]; simp <;> omega)
          unfold apV
          go_enter Try.func29, Try.ntmps29
          go_wp2_with (first | ((with_reducible refine wp_region_ext2 ?_ ?_ ?_); (kernel_rfl); (kernel_rfl)) | ((with_reducible refine wp_region_ext ?_ ?_ ?_); (kernel_rfl); (kernel_rfl)) | go_big_quiet_step (first | (go_at_call 41; exact quiet_of_ret (c_ref41_months _ _ _))) | ((with_reducible refine wpQuiet_nil ?_); intro x1) | (go_at_call 41; refine (c_ref41_months _ _ _).mono ?_; intro e w' hh; first | obtain ⟨rfl, y, rfl⟩ := Ret.ext2 hh | obtain ⟨rfl, y, rfl⟩ := Ret.ext hh))
          go_ret
          exact ⟨by rw [hr.out]; simp, (by repeat (first | with_reducible exact Below.refl _ _ | with_reducible refine B_ext ?_ _ | with_reducible refine B_alloc ?_ _ | with_reducible refine Below.drew ?_ | with_reducible refine B_set ?_ _ _ _))⟩
      · have h3p : a.filed < 0 := by simpa using h3
        have hr := hid (show apOk a = false by
          simp only [apOk, h2]; simp <;> omega)
        unfold apV
        go_enter Try.func29, Try.ntmps29
        go_wp2_with (first | ((with_reducible refine wp_region_ext2 ?_ ?_ ?_); (kernel_rfl); (kernel_rfl)) | ((with_reducible refine wp_region_ext ?_ ?_ ?_); (kernel_rfl); (kernel_rfl)) | go_big_quiet_step (first | (go_at_call 41; exact quiet_of_ret (c_ref41_months _ _ _))) | ((with_reducible refine wpQuiet_nil ?_); intro x1) | (go_at_call 41; refine (c_ref41_months _ _ _).mono ?_; intro e w' hh; first | obtain ⟨rfl, y, rfl⟩ := Ret.ext2 hh | obtain ⟨rfl, y, rfl⟩ := Ret.ext hh))
        go_ret
        exact ⟨by rw [hr.out]; simp, (by repeat (first | with_reducible exact Below.refl _ _ | with_reducible refine B_ext ?_ _ | with_reducible refine B_alloc ?_ _ | with_reducible refine Below.drew ?_ | with_reducible refine B_set ?_ _ _ _))⟩
  · have h1p : a.id < 0 := by simpa using h1
    have hr := hid (show apOk a = false by
      simp only [apOk]; simp <;> omega)
    unfold apV
    go_enter Try.func29, Try.ntmps29
    go_wp2_with (first | ((with_reducible refine wp_region_ext2 ?_ ?_ ?_); (kernel_rfl); (kernel_rfl)) | ((with_reducible refine wp_region_ext ?_ ?_ ?_); (kernel_rfl); (kernel_rfl)) | go_big_quiet_step (first | (go_at_call 41; exact quiet_of_ret (c_ref41_months _ _ _))) | ((with_reducible refine wpQuiet_nil ?_); intro x1) | (go_at_call 41; refine (c_ref41_months _ _ _).mono ?_; intro e w' hh; first | obtain ⟨rfl, y, rfl⟩ := Ret.ext2 hh | obtain ⟨rfl, y, rfl⟩ := Ret.ext hh))
    go_ret
    exact ⟨by rw [hr.out]; simp, (by repeat (first | with_reducible exact Below.refl _ _ | with_reducible refine B_ext ?_ _ | with_reducible refine B_alloc ?_ _ | with_reducible refine Below.drew ?_ | with_reducible refine B_set ?_ _ _ _))⟩

set_option maxHeartbeats 4000000 in
theorem c_ref41_Transition (a : Ap) (s c d : Int) (w : World) : Calls Try.prog 27 #[apV a, .int .i64 s, .int .i64 c, .int .i64 d] w
    (Ret (.tuple #[apV (transR a s c d).1, .int .i64 (transR a s c d).2]) w) := by
  cases n1 : permB a.st s
  · have hr := hid (show transR a s c d = (.zero, 13) by simp [transR, n1])
    unfold apV
    go_enter Try.func27, Try.ntmps27
    go_wp2_with (first | ((with_reducible refine wp_region_ext2 ?_ ?_ ?_); (kernel_rfl); (kernel_rfl)) | ((with_reducible refine wp_region_ext ?_ ?_ ?_); (kernel_rfl); (kernel_rfl)) | go_big_quiet_step (first | (go_at_call 44; exact quiet_of_ret (c_ref41_permitted _ _ _))) | ((with_reducible refine wpQuiet_nil ?_); intro x1) | (go_at_call 44; refine (c_ref41_permitted _ _ _).mono ?_; intro e w' hh; first | obtain ⟨rfl, y, rfl⟩ := Ret.ext2 hh | obtain ⟨rfl, y, rfl⟩ := Ret.ext hh))
    refine bodyPost_ret (v := .tuple #[apV (.zero), .int .i64 13]) ?_ rfl ?_
    · simp [results, Try.results27, go_sem, apV, Ap.zero]
    · exact ⟨by rw [hr.out] <;> rfl, (by repeat (first | with_reducible exact Below.refl _ _ | with_reducible refine B_ext ?_ _ | with_reducible refine B_alloc ?_ _ | with_reducible refine Below.drew ?_ | with_reducible refine B_set ?_ _ _ _))⟩
  · cases n2 : decide (d < a.filed)
    · have n2p : ¬ (d < a.filed) := by simpa using n2
      cases n3 : decide (a.dead < d)
      · have n3p : ¬ (a.dead < d) := by simpa using n3
        cases n5 : decide (c < 0)
        · have n5p : ¬ (c < 0) := by simpa using n5
          cases n6 : decide (1000000000000000 < c)
          · have n6p : ¬ (1000000000000000 < c) := by simpa using n6
            cases z : (c == 0)
            · have zp := hid (show ¬ (c = 0) by simpa using z)
              have zq : (c != 0) = true := by simpa using zp.out
              cases e3 : (s == 3)
              · have e3p := hid (show ¬ (s = 3) by simpa using e3)
                have e3q : (s != 3) = true := by simpa using e3p.out
                have hr := hid (show transR a s c d = (.zero, 3) by simp [transR, n1, n2p, n3p, n5p, n6p, zp.out, e3p.out])
                unfold apV
                go_enter Try.func27, Try.ntmps27
                go_wp2_with (first | ((with_reducible refine wp_region_ext2 ?_ ?_ ?_); (kernel_rfl); (kernel_rfl)) | ((with_reducible refine wp_region_ext ?_ ?_ ?_); (kernel_rfl); (kernel_rfl)) | go_big_quiet_step (first | (go_at_call 44; exact quiet_of_ret (c_ref41_permitted _ _ _))) | ((with_reducible refine wpQuiet_nil ?_); intro x1) | (go_at_call 44; refine (c_ref41_permitted _ _ _).mono ?_; intro e w' hh; first | obtain ⟨rfl, y, rfl⟩ := Ret.ext2 hh | obtain ⟨rfl, y, rfl⟩ := Ret.ext hh))
                refine bodyPost_ret (v := .tuple #[apV (.zero), .int .i64 3]) ?_ rfl ?_
                · simp [results, Try.results27, go_sem, apV, Ap.zero]
                · exact ⟨by rw [hr.out] <;> rfl, (by repeat (first | with_reducible exact Below.refl _ _ | with_reducible refine B_ext ?_ _ | with_reducible refine B_alloc ?_ _ | with_reducible refine Below.drew ?_ | with_reducible refine B_set ?_ _ _ _))⟩
              · have e3p := hid (show s = 3 by simpa using e3)
                have e3q : (s != 3) = false := by simpa using e3p.out
                have hr := hid (show transR a s c d = ({ a with st := s, cents := c }, 0) by simp [transR, n1, n2p, n3p, n5p, n6p, zp.out, eq_true e3p.out])
                unfold apV
                go_enter Try.func27, Try.ntmps27
                go_wp2_with (first | ((with_reducible refine wp_region_ext2 ?_ ?_ ?_); (kernel_rfl); (kernel_rfl)) | ((with_reducible refine wp_region_ext ?_ ?_ ?_); (kernel_rfl); (kernel_rfl)) | go_big_quiet_step (first | (go_at_call 44; exact quiet_of_ret (c_ref41_permitted _ _ _))) | ((with_reducible refine wpQuiet_nil ?_); intro x1) | (go_at_call 44; refine (c_ref41_permitted _ _ _).mono ?_; intro e w' hh; first | obtain ⟨rfl, y, rfl⟩ := Ret.ext2 hh | obtain ⟨rfl, y, rfl⟩ := Ret.ext hh))
                refine bodyPost_ret (v := .tuple #[apV ({ a with st := s, cents := c }), .int .i64 0]) ?_ rfl ?_
                · simp [results, Try.results27, go_sem, apV, Ap.zero]
                · exact ⟨by rw [hr.out] <;> rfl, (by repeat (first | with_reducible exact Below.refl _ _ | with_reducible refine B_ext ?_ _ | with_reducible refine B_alloc ?_ _ | with_reducible refine Below.drew ?_ | with_reducible refine B_set ?_ _ _ _))⟩
            · have zp := hid (show c = 0 by simpa using z)
              have zq : (c != 0) = false := by simpa using zp.out
              have hr := hid (show transR a s c d = ({ a with st := s, cents := c }, 0) by simp [transR, n1, n2p, n3p, n5p, n6p, eq_true zp.out])
              unfold apV
              go_enter Try.func27, Try.ntmps27
              go_wp2_with (first | ((with_reducible refine wp_region_ext2 ?_ ?_ ?_); (kernel_rfl); (kernel_rfl)) | ((with_reducible refine wp_region_ext ?_ ?_ ?_); (kernel_rfl); (kernel_rfl)) | go_big_quiet_step (first | (go_at_call 44; exact quiet_of_ret (c_ref41_permitted _ _ _))) | ((with_reducible refine wpQuiet_nil ?_); intro x1) | (go_at_call 44; refine (c_ref41_permitted _ _ _).mono ?_; intro e w' hh; first | obtain ⟨rfl, y, rfl⟩ := Ret.ext2 hh | obtain ⟨rfl, y, rfl⟩ := Ret.ext hh))
              refine bodyPost_ret (v := .tuple #[apV ({ a with st := s, cents := c }), .int .i64 0]) ?_ rfl ?_
              · simp [results, Try.results27, go_sem, apV, Ap.zero]
              · exact ⟨by rw [hr.out] <;> rfl, (by repeat (first | with_reducible exact Below.refl _ _ | with_reducible refine B_ext ?_ _ | with_reducible refine B_alloc ?_ _ | with_reducible refine Below.drew ?_ | with_reducible refine B_set ?_ _ _ _))⟩
          · have n6p : 1000000000000000 < c := by simpa using n6
            have hr := hid (show transR a s c d = (.zero, 3) by simp [transR, n1, n2p, n3p, n5p, n6p])
            unfold apV
            go_enter Try.func27, Try.ntmps27
            go_wp2_with (first | ((with_reducible refine wp_region_ext2 ?_ ?_ ?_); (kernel_rfl); (kernel_rfl)) | ((with_reducible refine wp_region_ext ?_ ?_ ?_); (kernel_rfl); (kernel_rfl)) | go_big_quiet_step (first | (go_at_call 44; exact quiet_of_ret (c_ref41_permitted _ _ _))) | ((with_reducible refine wpQuiet_nil ?_); intro x1) | (go_at_call 44; refine (c_ref41_permitted _ _ _).mono ?_; intro e w' hh; first | obtain ⟨rfl, y, rfl⟩ := Ret.ext2 hh | obtain ⟨rfl, y, rfl⟩ := Ret.ext hh))
            refine bodyPost_ret (v := .tuple #[apV (.zero), .int .i64 3]) ?_ rfl ?_
            · simp [results, Try.results27, go_sem, apV, Ap.zero]
            · exact ⟨by rw [hr.out] <;> rfl, (by repeat (first | with_reducible exact Below.refl _ _ | with_reducible refine B_ext ?_ _ | with_reducible refine B_alloc ?_ _ | with_reducible refine Below.drew ?_ | with_reducible refine B_set ?_ _ _ _))⟩
        · have n5p : c < 0 := by simpa using n5
          have hr := hid (show transR a s c d = (.zero, 3) by simp [transR, n1, n2p, n3p, n5p])
          unfold apV
          go_enter Try.func27, Try.ntmps27
          go_wp2_with (first | ((with_reducible refine wp_region_ext2 ?_ ?_ ?_); (kernel_rfl); (kernel_rfl)) | ((with_reducible refine wp_region_ext ?_ ?_ ?_); (kernel_rfl); (kernel_rfl)) | go_big_quiet_step (first | (go_at_call 44; exact quiet_of_ret (c_ref41_permitted _ _ _))) | ((with_reducible refine wpQuiet_nil ?_); intro x1) | (go_at_call 44; refine (c_ref41_permitted _ _ _).mono ?_; intro e w' hh; first | obtain ⟨rfl, y, rfl⟩ := Ret.ext2 hh | obtain ⟨rfl, y, rfl⟩ := Ret.ext hh))
          refine bodyPost_ret (v := .tuple #[apV (.zero), .int .i64 3]) ?_ rfl ?_
          · simp [results, Try.results27, go_sem, apV, Ap.zero]
          · exact ⟨by rw [hr.out] <;> rfl, (by repeat (first | with_reducible exact Below.refl _ _ | with_reducible refine B_ext ?_ _ | with_reducible refine B_alloc ?_ _ | with_reducible refine Below.drew ?_ | with_reducible refine B_set ?_ _ _ _))⟩
      · have n3p : a.dead < d := by simpa using n3
        cases e2 : (s == 2)
        · have e2p := hid (show ¬ (s = 2) by simpa using e2)
          have e2q : (s != 2) = true := by simpa using e2p.out
          cases e3 : (s == 3)
          · have e3p := hid (show ¬ (s = 3) by simpa using e3)
            have e3q : (s != 3) = true := by simpa using e3p.out
            cases n5 : decide (c < 0)
            · have n5p : ¬ (c < 0) := by simpa using n5
              cases n6 : decide (1000000000000000 < c)
              · have n6p : ¬ (1000000000000000 < c) := by simpa using n6
                cases z : (c == 0)
                · have zp := hid (show ¬ (c = 0) by simpa using z)
                  have zq : (c != 0) = true := by simpa using zp.out
                  have hr := hid (show transR a s c d = (.zero, 3) by simp [transR, n1, n2p, n3p, e2p.out, e3p.out, n5p, n6p, zp.out])
                  unfold apV
                  go_enter Try.func27, Try.ntmps27
                  go_wp2_with (first | ((with_reducible refine wp_region_ext2 ?_ ?_ ?_); (kernel_rfl); (kernel_rfl)) | ((with_reducible refine wp_region_ext ?_ ?_ ?_); (kernel_rfl); (kernel_rfl)) | go_big_quiet_step (first | (go_at_call 44; exact quiet_of_ret (c_ref41_permitted _ _ _))) | ((with_reducible refine wpQuiet_nil ?_); intro x1) | (go_at_call 44; refine (c_ref41_permitted _ _ _).mono ?_; intro e w' hh; first | obtain ⟨rfl, y, rfl⟩ := Ret.ext2 hh | obtain ⟨rfl, y, rfl⟩ := Ret.ext hh))
                  refine bodyPost_ret (v := .tuple #[apV (.zero), .int .i64 3]) ?_ rfl ?_
                  · simp [results, Try.results27, go_sem, apV, Ap.zero]
                  · exact ⟨by rw [hr.out] <;> rfl, (by repeat (first | with_reducible exact Below.refl _ _ | with_reducible refine B_ext ?_ _ | with_reducible refine B_alloc ?_ _ | with_reducible refine Below.drew ?_ | with_reducible refine B_set ?_ _ _ _))⟩
                · have zp := hid (show c = 0 by simpa using z)
                  have zq : (c != 0) = false := by simpa using zp.out
                  have hr := hid (show transR a s c d = ({ a with st := s, cents := c }, 0) by simp [transR, n1, n2p, n3p, e2p.out, e3p.out, n5p, n6p, eq_true zp.out])
                  unfold apV
                  go_enter Try.func27, Try.ntmps27
                  go_wp2_with (first | ((with_reducible refine wp_region_ext2 ?_ ?_ ?_); (kernel_rfl); (kernel_rfl)) | ((with_reducible refine wp_region_ext ?_ ?_ ?_); (kernel_rfl); (kernel_rfl)) | go_big_quiet_step (first | (go_at_call 44; exact quiet_of_ret (c_ref41_permitted _ _ _))) | ((with_reducible refine wpQuiet_nil ?_); intro x1) | (go_at_call 44; refine (c_ref41_permitted _ _ _).mono ?_; intro e w' hh; first | obtain ⟨rfl, y, rfl⟩ := Ret.ext2 hh | obtain ⟨rfl, y, rfl⟩ := Ret.ext hh))
                  refine bodyPost_ret (v := .tuple #[apV ({ a with st := s, cents := c }), .int .i64 0]) ?_ rfl ?_
                  · simp [results, Try.results27, go_sem, apV, Ap.zero]
                  · exact ⟨by rw [hr.out] <;> rfl, (by repeat (first | with_reducible exact Below.refl _ _ | with_reducible refine B_ext ?_ _ | with_reducible refine B_alloc ?_ _ | with_reducible refine Below.drew ?_ | with_reducible refine B_set ?_ _ _ _))⟩
              · have n6p : 1000000000000000 < c := by simpa using n6
                have hr := hid (show transR a s c d = (.zero, 3) by simp [transR, n1, n2p, n3p, e2p.out, e3p.out, n5p, n6p])
                unfold apV
                go_enter Try.func27, Try.ntmps27
                go_wp2_with (first | ((with_reducible refine wp_region_ext2 ?_ ?_ ?_); (kernel_rfl); (kernel_rfl)) | ((with_reducible refine wp_region_ext ?_ ?_ ?_); (kernel_rfl); (kernel_rfl)) | go_big_quiet_step (first | (go_at_call 44; exact quiet_of_ret (c_ref41_permitted _ _ _))) | ((with_reducible refine wpQuiet_nil ?_); intro x1) | (go_at_call 44; refine (c_ref41_permitted _ _ _).mono ?_; intro e w' hh; first | obtain ⟨rfl, y, rfl⟩ := Ret.ext2 hh | obtain ⟨rfl, y, rfl⟩ := Ret.ext hh))
                refine bodyPost_ret (v := .tuple #[apV (.zero), .int .i64 3]) ?_ rfl ?_
                · simp [results, Try.results27, go_sem, apV, Ap.zero]
                · exact ⟨by rw [hr.out] <;> rfl, (by repeat (first | with_reducible exact Below.refl _ _ | with_reducible refine B_ext ?_ _ | with_reducible refine B_alloc ?_ _ | with_reducible refine Below.drew ?_ | with_reducible refine B_set ?_ _ _ _))⟩
            · have n5p : c < 0 := by simpa using n5
              have hr := hid (show transR a s c d = (.zero, 3) by simp [transR, n1, n2p, n3p, e2p.out, e3p.out, n5p])
              unfold apV
              go_enter Try.func27, Try.ntmps27
              go_wp2_with (first | ((with_reducible refine wp_region_ext2 ?_ ?_ ?_); (kernel_rfl); (kernel_rfl)) | ((with_reducible refine wp_region_ext ?_ ?_ ?_); (kernel_rfl); (kernel_rfl)) | go_big_quiet_step (first | (go_at_call 44; exact quiet_of_ret (c_ref41_permitted _ _ _))) | ((with_reducible refine wpQuiet_nil ?_); intro x1) | (go_at_call 44; refine (c_ref41_permitted _ _ _).mono ?_; intro e w' hh; first | obtain ⟨rfl, y, rfl⟩ := Ret.ext2 hh | obtain ⟨rfl, y, rfl⟩ := Ret.ext hh))
              refine bodyPost_ret (v := .tuple #[apV (.zero), .int .i64 3]) ?_ rfl ?_
              · simp [results, Try.results27, go_sem, apV, Ap.zero]
              · exact ⟨by rw [hr.out] <;> rfl, (by repeat (first | with_reducible exact Below.refl _ _ | with_reducible refine B_ext ?_ _ | with_reducible refine B_alloc ?_ _ | with_reducible refine Below.drew ?_ | with_reducible refine B_set ?_ _ _ _))⟩
          · have e3p := hid (show s = 3 by simpa using e3)
            have e3q : (s != 3) = false := by simpa using e3p.out
            have hr := hid (show transR a s c d = (.zero, 14) by simp [transR, n1, n2p, n3p, e2p.out, eq_true e3p.out])
            unfold apV
            go_enter Try.func27, Try.ntmps27
            go_wp2_with (first | ((with_reducible refine wp_region_ext2 ?_ ?_ ?_); (kernel_rfl); (kernel_rfl)) | ((with_reducible refine wp_region_ext ?_ ?_ ?_); (kernel_rfl); (kernel_rfl)) | go_big_quiet_step (first | (go_at_call 44; exact quiet_of_ret (c_ref41_permitted _ _ _))) | ((with_reducible refine wpQuiet_nil ?_); intro x1) | (go_at_call 44; refine (c_ref41_permitted _ _ _).mono ?_; intro e w' hh; first | obtain ⟨rfl, y, rfl⟩ := Ret.ext2 hh | obtain ⟨rfl, y, rfl⟩ := Ret.ext hh))
            refine bodyPost_ret (v := .tuple #[apV (.zero), .int .i64 14]) ?_ rfl ?_
            · simp [results, Try.results27, go_sem, apV, Ap.zero]
            · exact ⟨by rw [hr.out] <;> rfl, (by repeat (first | with_reducible exact Below.refl _ _ | with_reducible refine B_ext ?_ _ | with_reducible refine B_alloc ?_ _ | with_reducible refine Below.drew ?_ | with_reducible refine B_set ?_ _ _ _))⟩
        · have e2p := hid (show s = 2 by simpa using e2)
          have e2q : (s != 2) = false := by simpa using e2p.out
          have hr := hid (show transR a s c d = (.zero, 14) by simp [transR, n1, n2p, n3p, eq_true e2p.out])
          unfold apV
          go_enter Try.func27, Try.ntmps27
          go_wp2_with (first | ((with_reducible refine wp_region_ext2 ?_ ?_ ?_); (kernel_rfl); (kernel_rfl)) | ((with_reducible refine wp_region_ext ?_ ?_ ?_); (kernel_rfl); (kernel_rfl)) | go_big_quiet_step (first | (go_at_call 44; exact quiet_of_ret (c_ref41_permitted _ _ _))) | ((with_reducible refine wpQuiet_nil ?_); intro x1) | (go_at_call 44; refine (c_ref41_permitted _ _ _).mono ?_; intro e w' hh; first | obtain ⟨rfl, y, rfl⟩ := Ret.ext2 hh | obtain ⟨rfl, y, rfl⟩ := Ret.ext hh))
          refine bodyPost_ret (v := .tuple #[apV (.zero), .int .i64 14]) ?_ rfl ?_
          · simp [results, Try.results27, go_sem, apV, Ap.zero]
          · exact ⟨by rw [hr.out] <;> rfl, (by repeat (first | with_reducible exact Below.refl _ _ | with_reducible refine B_ext ?_ _ | with_reducible refine B_alloc ?_ _ | with_reducible refine Below.drew ?_ | with_reducible refine B_set ?_ _ _ _))⟩
    · have n2p : d < a.filed := by simpa using n2
      have hr := hid (show transR a s c d = (.zero, 9) by simp [transR, n1, n2p])
      unfold apV
      go_enter Try.func27, Try.ntmps27
      go_wp2_with (first | ((with_reducible refine wp_region_ext2 ?_ ?_ ?_); (kernel_rfl); (kernel_rfl)) | ((with_reducible refine wp_region_ext ?_ ?_ ?_); (kernel_rfl); (kernel_rfl)) | go_big_quiet_step (first | (go_at_call 44; exact quiet_of_ret (c_ref41_permitted _ _ _))) | ((with_reducible refine wpQuiet_nil ?_); intro x1) | (go_at_call 44; refine (c_ref41_permitted _ _ _).mono ?_; intro e w' hh; first | obtain ⟨rfl, y, rfl⟩ := Ret.ext2 hh | obtain ⟨rfl, y, rfl⟩ := Ret.ext hh))
      refine bodyPost_ret (v := .tuple #[apV (.zero), .int .i64 9]) ?_ rfl ?_
      · simp [results, Try.results27, go_sem, apV, Ap.zero]
      · exact ⟨by rw [hr.out] <;> rfl, (by repeat (first | with_reducible exact Below.refl _ _ | with_reducible refine B_ext ?_ _ | with_reducible refine B_alloc ?_ _ | with_reducible refine Below.drew ?_ | with_reducible refine B_set ?_ _ _ _))⟩

set_option maxHeartbeats 1000000 in
theorem c_ref41_add (we : Int) (v : Value) (hs : List Int) (d n : Int) (w : World) (h : Ints w v hs) :
    Calls Try.prog 42 #[.agg #[.int .i64 we, v], .int .i64 d, .int .i64 n] w (Ret (.int .i64 (laterR we hs d n)) w) := by
  cases e : ((addR we hs d n).2 == 0)
  · have ep := hid (show ¬ ((addR we hs d n).2 = 0) by simpa using e)
    have eq : ((addR we hs d n).2 != 0) = true := by simpa using ep.out
    have hr := hid (show laterR we hs d n = 109572 by simp [laterR, ep.out])
    go_enter Try.func42, Try.ntmps42
    go_wp2_with (first | ((with_reducible refine wp_region_ext2 ?_ ?_ ?_); (kernel_rfl); (kernel_rfl)) | ((with_reducible refine wp_region_ext ?_ ?_ ?_); (kernel_rfl); (kernel_rfl)) | go_big_quiet_step (first | (go_at_call 20; exact quiet_of_ret (c_ref06_Add _ _ hs _ _ _ (by first | with_reducible assumption | exact Ints.below (by assumption) (by repeat (first | with_reducible exact Below.refl _ _ | with_reducible refine B_ext ?_ _ | with_reducible refine B_alloc ?_ _ | with_reducible refine Below.drew ?_ | with_reducible refine B_set ?_ _ _ _)))))) | ((with_reducible refine wpQuiet_nil ?_); intro x1) | (go_at_call 20; refine (c_ref06_Add _ _ hs _ _ _ (by first | with_reducible assumption | exact Ints.below (by assumption) (by repeat (first | with_reducible exact Below.refl _ _ | with_reducible refine B_ext ?_ _ | with_reducible refine B_alloc ?_ _ | with_reducible refine Below.drew ?_ | with_reducible refine B_set ?_ _ _ _)))).mono ?_; intro e w' hh; first | obtain ⟨rfl, y, rfl⟩ := Ret.ext2 hh | obtain ⟨rfl, y, rfl⟩ := Ret.ext hh))
    go_ret
    exact ⟨by rw [hr.out]; simp, (by repeat (first | with_reducible exact Below.refl _ _ | with_reducible refine B_ext ?_ _ | with_reducible refine B_alloc ?_ _ | with_reducible refine Below.drew ?_ | with_reducible refine B_set ?_ _ _ _))⟩
  · have ep := hid (show (addR we hs d n).2 = 0 by simpa using e)
    have eq : ((addR we hs d n).2 != 0) = false := by simpa using ep.out
    have hr := hid (show laterR we hs d n = (addR we hs d n).1 by simp [laterR, eq_true ep.out])
    go_enter Try.func42, Try.ntmps42
    go_wp2_with (first | ((with_reducible refine wp_region_ext2 ?_ ?_ ?_); (kernel_rfl); (kernel_rfl)) | ((with_reducible refine wp_region_ext ?_ ?_ ?_); (kernel_rfl); (kernel_rfl)) | go_big_quiet_step (first | (go_at_call 20; exact quiet_of_ret (c_ref06_Add _ _ hs _ _ _ (by first | with_reducible assumption | exact Ints.below (by assumption) (by repeat (first | with_reducible exact Below.refl _ _ | with_reducible refine B_ext ?_ _ | with_reducible refine B_alloc ?_ _ | with_reducible refine Below.drew ?_ | with_reducible refine B_set ?_ _ _ _)))))) | ((with_reducible refine wpQuiet_nil ?_); intro x1) | (go_at_call 20; refine (c_ref06_Add _ _ hs _ _ _ (by first | with_reducible assumption | exact Ints.below (by assumption) (by repeat (first | with_reducible exact Below.refl _ _ | with_reducible refine B_ext ?_ _ | with_reducible refine B_alloc ?_ _ | with_reducible refine Below.drew ?_ | with_reducible refine B_set ?_ _ _ _)))).mono ?_; intro e w' hh; first | obtain ⟨rfl, y, rfl⟩ := Ret.ext2 hh | obtain ⟨rfl, y, rfl⟩ := Ret.ext hh))
    go_ret
    exact ⟨by rw [hr.out]; simp, (by repeat (first | with_reducible exact Below.refl _ _ | with_reducible refine B_ext ?_ _ | with_reducible refine B_alloc ?_ _ | with_reducible refine Below.drew ?_ | with_reducible refine B_set ?_ _ _ _))⟩

set_option maxHeartbeats 4000000 in
theorem c_ref41_File (id f t d nt p0 p1 p2 p3 p4 p5 ad we : Int) (v : Value) (hs : List Int) (w : World) (h : Ints w v hs) :
    Calls Try.prog 25 #[.int .i64 id, .int .i64 f, .int .i64 t, .int .i64 d, .int .i64 nt, .agg #[.int .i64 p0, .int .i64 p1, .int .i64 p2, .int .i64 p3, .int .i64 p4, .int .i64 p5, .int .i64 ad, .int .i64 we, v]] w
      (Ret (.tuple #[apV (fileR id f t d nt ad we hs).1, .int .i64 (fileR id f t d nt ad we hs).2]) w) := by
  cases m1 : decide (id < 0)
  · have m1p : ¬ (id < 0) := by simpa using m1
    cases m2 : vdB d
    · have hr := hid (show fileR id f t d nt ad we hs = (.zero, 3) by simp [fileR, m1p, m2])
      go_enter Try.func25, Try.ntmps25
      go_wp2_with (first | ((with_reducible refine wp_region_ext2 ?_ ?_ ?_); (kernel_rfl); (kernel_rfl)) | ((with_reducible refine wp_region_ext ?_ ?_ ?_); (kernel_rfl); (kernel_rfl)) | go_big_quiet_step (first | (go_at_call 40; exact quiet_of_ret (c_ref41_date _ _)) | (go_at_call 41; exact quiet_of_ret (c_ref41_months _ _ _)) | (go_at_call 16; exact quiet_of_ret (c_ref06_Valid _ _ hs _ (by first | with_reducible assumption | exact Ints.below (by assumption) (by repeat (first | with_reducible exact Below.refl _ _ | with_reducible refine B_ext ?_ _ | with_reducible refine B_alloc ?_ _ | with_reducible refine Below.drew ?_ | with_reducible refine B_set ?_ _ _ _))))) | (go_at_call 42; exact quiet_of_ret (c_ref41_add _ _ hs _ _ _ (by first | with_reducible assumption | exact Ints.below (by assumption) (by repeat (first | with_reducible exact Below.refl _ _ | with_reducible refine B_ext ?_ _ | with_reducible refine B_alloc ?_ _ | with_reducible refine Below.drew ?_ | with_reducible refine B_set ?_ _ _ _)))))) | ((with_reducible refine wpQuiet_nil ?_); intro x1) | (go_at_call 40; refine (c_ref41_date _ _).mono ?_; intro e w' hh; first | obtain ⟨rfl, y, rfl⟩ := Ret.ext2 hh | obtain ⟨rfl, y, rfl⟩ := Ret.ext hh) | (go_at_call 41; refine (c_ref41_months _ _ _).mono ?_; intro e w' hh; first | obtain ⟨rfl, y, rfl⟩ := Ret.ext2 hh | obtain ⟨rfl, y, rfl⟩ := Ret.ext hh) | (go_at_call 16; refine (c_ref06_Valid _ _ hs _ (by first | with_reducible assumption | exact Ints.below (by assumption) (by repeat (first | with_reducible exact Below.refl _ _ | with_reducible refine B_ext ?_ _ | with_reducible refine B_alloc ?_ _ | with_reducible refine Below.drew ?_ | with_reducible refine B_set ?_ _ _ _)))).mono ?_; intro e w' hh; first | obtain ⟨rfl, y, rfl⟩ := Ret.ext2 hh | obtain ⟨rfl, y, rfl⟩ := Ret.ext hh) | (go_at_call 42; refine (c_ref41_add _ _ hs _ _ _ (by first | with_reducible assumption | exact Ints.below (by assumption) (by repeat (first | with_reducible exact Below.refl _ _ | with_reducible refine B_ext ?_ _ | with_reducible refine B_alloc ?_ _ | with_reducible refine Below.drew ?_ | with_reducible refine B_set ?_ _ _ _)))).mono ?_; intro e w' hh; first | obtain ⟨rfl, y, rfl⟩ := Ret.ext2 hh | obtain ⟨rfl, y, rfl⟩ := Ret.ext hh))
      refine bodyPost_ret (v := .tuple #[apV (.zero), .int .i64 3]) ?_ rfl ?_
      · simp [results, Try.results25, go_sem, apV, Ap.zero]
      · exact ⟨by rw [hr.out] <;> rfl, (by repeat (first | with_reducible exact Below.refl _ _ | with_reducible refine B_ext ?_ _ | with_reducible refine B_alloc ?_ _ | with_reducible refine Below.drew ?_ | with_reducible refine B_set ?_ _ _ _))⟩
    · cases m3 : vdB nt
      · have hr := hid (show fileR id f t d nt ad we hs = (.zero, 3) by simp [fileR, m1p, m2, m3])
        go_enter Try.func25, Try.ntmps25
        go_wp2_with (first | ((with_reducible refine wp_region_ext2 ?_ ?_ ?_); (kernel_rfl); (kernel_rfl)) | ((with_reducible refine wp_region_ext ?_ ?_ ?_); (kernel_rfl); (kernel_rfl)) | go_big_quiet_step (first | (go_at_call 40; exact quiet_of_ret (c_ref41_date _ _)) | (go_at_call 41; exact quiet_of_ret (c_ref41_months _ _ _)) | (go_at_call 16; exact quiet_of_ret (c_ref06_Valid _ _ hs _ (by first | with_reducible assumption | exact Ints.below (by assumption) (by repeat (first | with_reducible exact Below.refl _ _ | with_reducible refine B_ext ?_ _ | with_reducible refine B_alloc ?_ _ | with_reducible refine Below.drew ?_ | with_reducible refine B_set ?_ _ _ _))))) | (go_at_call 42; exact quiet_of_ret (c_ref41_add _ _ hs _ _ _ (by first | with_reducible assumption | exact Ints.below (by assumption) (by repeat (first | with_reducible exact Below.refl _ _ | with_reducible refine B_ext ?_ _ | with_reducible refine B_alloc ?_ _ | with_reducible refine Below.drew ?_ | with_reducible refine B_set ?_ _ _ _)))))) | ((with_reducible refine wpQuiet_nil ?_); intro x1) | (go_at_call 40; refine (c_ref41_date _ _).mono ?_; intro e w' hh; first | obtain ⟨rfl, y, rfl⟩ := Ret.ext2 hh | obtain ⟨rfl, y, rfl⟩ := Ret.ext hh) | (go_at_call 41; refine (c_ref41_months _ _ _).mono ?_; intro e w' hh; first | obtain ⟨rfl, y, rfl⟩ := Ret.ext2 hh | obtain ⟨rfl, y, rfl⟩ := Ret.ext hh) | (go_at_call 16; refine (c_ref06_Valid _ _ hs _ (by first | with_reducible assumption | exact Ints.below (by assumption) (by repeat (first | with_reducible exact Below.refl _ _ | with_reducible refine B_ext ?_ _ | with_reducible refine B_alloc ?_ _ | with_reducible refine Below.drew ?_ | with_reducible refine B_set ?_ _ _ _)))).mono ?_; intro e w' hh; first | obtain ⟨rfl, y, rfl⟩ := Ret.ext2 hh | obtain ⟨rfl, y, rfl⟩ := Ret.ext hh) | (go_at_call 42; refine (c_ref41_add _ _ hs _ _ _ (by first | with_reducible assumption | exact Ints.below (by assumption) (by repeat (first | with_reducible exact Below.refl _ _ | with_reducible refine B_ext ?_ _ | with_reducible refine B_alloc ?_ _ | with_reducible refine Below.drew ?_ | with_reducible refine B_set ?_ _ _ _)))).mono ?_; intro e w' hh; first | obtain ⟨rfl, y, rfl⟩ := Ret.ext2 hh | obtain ⟨rfl, y, rfl⟩ := Ret.ext hh))
        refine bodyPost_ret (v := .tuple #[apV (.zero), .int .i64 3]) ?_ rfl ?_
        · simp [results, Try.results25, go_sem, apV, Ap.zero]
        · exact ⟨by rw [hr.out] <;> rfl, (by repeat (first | with_reducible exact Below.refl _ _ | with_reducible refine B_ext ?_ _ | with_reducible refine B_alloc ?_ _ | with_reducible refine Below.drew ?_ | with_reducible refine B_set ?_ _ _ _))⟩
      · cases m4 : monB f t
        · have hr := hid (show fileR id f t d nt ad we hs = (.zero, 3) by simp [fileR, m1p, m2, m3, m4])
          go_enter Try.func25, Try.ntmps25
          go_wp2_with (first | ((with_reducible refine wp_region_ext2 ?_ ?_ ?_); (kernel_rfl); (kernel_rfl)) | ((with_reducible refine wp_region_ext ?_ ?_ ?_); (kernel_rfl); (kernel_rfl)) | go_big_quiet_step (first | (go_at_call 40; exact quiet_of_ret (c_ref41_date _ _)) | (go_at_call 41; exact quiet_of_ret (c_ref41_months _ _ _)) | (go_at_call 16; exact quiet_of_ret (c_ref06_Valid _ _ hs _ (by first | with_reducible assumption | exact Ints.below (by assumption) (by repeat (first | with_reducible exact Below.refl _ _ | with_reducible refine B_ext ?_ _ | with_reducible refine B_alloc ?_ _ | with_reducible refine Below.drew ?_ | with_reducible refine B_set ?_ _ _ _))))) | (go_at_call 42; exact quiet_of_ret (c_ref41_add _ _ hs _ _ _ (by first | with_reducible assumption | exact Ints.below (by assumption) (by repeat (first | with_reducible exact Below.refl _ _ | with_reducible refine B_ext ?_ _ | with_reducible refine B_alloc ?_ _ | with_reducible refine Below.drew ?_ | with_reducible refine B_set ?_ _ _ _)))))) | ((with_reducible refine wpQuiet_nil ?_); intro x1) | (go_at_call 40; refine (c_ref41_date _ _).mono ?_; intro e w' hh; first | obtain ⟨rfl, y, rfl⟩ := Ret.ext2 hh | obtain ⟨rfl, y, rfl⟩ := Ret.ext hh) | (go_at_call 41; refine (c_ref41_months _ _ _).mono ?_; intro e w' hh; first | obtain ⟨rfl, y, rfl⟩ := Ret.ext2 hh | obtain ⟨rfl, y, rfl⟩ := Ret.ext hh) | (go_at_call 16; refine (c_ref06_Valid _ _ hs _ (by first | with_reducible assumption | exact Ints.below (by assumption) (by repeat (first | with_reducible exact Below.refl _ _ | with_reducible refine B_ext ?_ _ | with_reducible refine B_alloc ?_ _ | with_reducible refine Below.drew ?_ | with_reducible refine B_set ?_ _ _ _)))).mono ?_; intro e w' hh; first | obtain ⟨rfl, y, rfl⟩ := Ret.ext2 hh | obtain ⟨rfl, y, rfl⟩ := Ret.ext hh) | (go_at_call 42; refine (c_ref41_add _ _ hs _ _ _ (by first | with_reducible assumption | exact Ints.below (by assumption) (by repeat (first | with_reducible exact Below.refl _ _ | with_reducible refine B_ext ?_ _ | with_reducible refine B_alloc ?_ _ | with_reducible refine Below.drew ?_ | with_reducible refine B_set ?_ _ _ _)))).mono ?_; intro e w' hh; first | obtain ⟨rfl, y, rfl⟩ := Ret.ext2 hh | obtain ⟨rfl, y, rfl⟩ := Ret.ext hh))
          refine bodyPost_ret (v := .tuple #[apV (.zero), .int .i64 3]) ?_ rfl ?_
          · simp [results, Try.results25, go_sem, apV, Ap.zero]
          · exact ⟨by rw [hr.out] <;> rfl, (by repeat (first | with_reducible exact Below.refl _ _ | with_reducible refine B_ext ?_ _ | with_reducible refine B_alloc ?_ _ | with_reducible refine Below.drew ?_ | with_reducible refine B_set ?_ _ _ _))⟩
        · cases m5 : decide (d < nt)
          · have m5p : ¬ (d < nt) := by simpa using m5
            cases m6 : calOk we hs
            · have hr := hid (show fileR id f t d nt ad we hs = (.zero, 1) by simp [fileR, m1p, m2, m3, m4, m5p, m6])
              go_enter Try.func25, Try.ntmps25
              go_wp2_with (first | ((with_reducible refine wp_region_ext2 ?_ ?_ ?_); (kernel_rfl); (kernel_rfl)) | ((with_reducible refine wp_region_ext ?_ ?_ ?_); (kernel_rfl); (kernel_rfl)) | go_big_quiet_step (first | (go_at_call 40; exact quiet_of_ret (c_ref41_date _ _)) | (go_at_call 41; exact quiet_of_ret (c_ref41_months _ _ _)) | (go_at_call 16; exact quiet_of_ret (c_ref06_Valid _ _ hs _ (by first | with_reducible assumption | exact Ints.below (by assumption) (by repeat (first | with_reducible exact Below.refl _ _ | with_reducible refine B_ext ?_ _ | with_reducible refine B_alloc ?_ _ | with_reducible refine Below.drew ?_ | with_reducible refine B_set ?_ _ _ _))))) | (go_at_call 42; exact quiet_of_ret (c_ref41_add _ _ hs _ _ _ (by first | with_reducible assumption | exact Ints.below (by assumption) (by repeat (first | with_reducible exact Below.refl _ _ | with_reducible refine B_ext ?_ _ | with_reducible refine B_alloc ?_ _ | with_reducible refine Below.drew ?_ | with_reducible refine B_set ?_ _ _ _)))))) | ((with_reducible refine wpQuiet_nil ?_); intro x1) | (go_at_call 40; refine (c_ref41_date _ _).mono ?_; intro e w' hh; first | obtain ⟨rfl, y, rfl⟩ := Ret.ext2 hh | obtain ⟨rfl, y, rfl⟩ := Ret.ext hh) | (go_at_call 41; refine (c_ref41_months _ _ _).mono ?_; intro e w' hh; first | obtain ⟨rfl, y, rfl⟩ := Ret.ext2 hh | obtain ⟨rfl, y, rfl⟩ := Ret.ext hh) | (go_at_call 16; refine (c_ref06_Valid _ _ hs _ (by first | with_reducible assumption | exact Ints.below (by assumption) (by repeat (first | with_reducible exact Below.refl _ _ | with_reducible refine B_ext ?_ _ | with_reducible refine B_alloc ?_ _ | with_reducible refine Below.drew ?_ | with_reducible refine B_set ?_ _ _ _)))).mono ?_; intro e w' hh; first | obtain ⟨rfl, y, rfl⟩ := Ret.ext2 hh | obtain ⟨rfl, y, rfl⟩ := Ret.ext hh) | (go_at_call 42; refine (c_ref41_add _ _ hs _ _ _ (by first | with_reducible assumption | exact Ints.below (by assumption) (by repeat (first | with_reducible exact Below.refl _ _ | with_reducible refine B_ext ?_ _ | with_reducible refine B_alloc ?_ _ | with_reducible refine Below.drew ?_ | with_reducible refine B_set ?_ _ _ _)))).mono ?_; intro e w' hh; first | obtain ⟨rfl, y, rfl⟩ := Ret.ext2 hh | obtain ⟨rfl, y, rfl⟩ := Ret.ext hh))
              refine bodyPost_ret (v := .tuple #[apV (.zero), .int .i64 1]) ?_ rfl ?_
              · simp [results, Try.results25, go_sem, apV, Ap.zero]
              · exact ⟨by rw [hr.out] <;> rfl, (by repeat (first | with_reducible exact Below.refl _ _ | with_reducible refine B_ext ?_ _ | with_reducible refine B_alloc ?_ _ | with_reducible refine Below.drew ?_ | with_reducible refine B_set ?_ _ _ _))⟩
            · cases m7 : decide (ad < 0)
              · have m7p : ¬ (ad < 0) := by simpa using m7
                cases m8 : decide (365 < ad)
                · have m8p : ¬ (365 < ad) := by simpa using m8
                  cases m9 : decide (laterR we hs nt ad < d)
                  · have m9p : ¬ (laterR we hs nt ad < d) := by simpa using m9
                    have hr := hid (show fileR id f t d nt ad we hs = (⟨id, f, t, d, laterR we hs d 60, 1, 0⟩, 0) by simp [fileR, m1p, m2, m3, m4, m5p, m6, m7p, m8p, show d ≤ laterR we hs nt ad by omega])
                    go_enter Try.func25, Try.ntmps25
                    go_wp2_with (first | ((with_reducible refine wp_region_ext2 ?_ ?_ ?_); (kernel_rfl); (kernel_rfl)) | ((with_reducible refine wp_region_ext ?_ ?_ ?_); (kernel_rfl); (kernel_rfl)) | go_big_quiet_step (first | (go_at_call 40; exact quiet_of_ret (c_ref41_date _ _)) | (go_at_call 41; exact quiet_of_ret (c_ref41_months _ _ _)) | (go_at_call 16; exact quiet_of_ret (c_ref06_Valid _ _ hs _ (by first | with_reducible assumption | exact Ints.below (by assumption) (by repeat (first | with_reducible exact Below.refl _ _ | with_reducible refine B_ext ?_ _ | with_reducible refine B_alloc ?_ _ | with_reducible refine Below.drew ?_ | with_reducible refine B_set ?_ _ _ _))))) | (go_at_call 42; exact quiet_of_ret (c_ref41_add _ _ hs _ _ _ (by first | with_reducible assumption | exact Ints.below (by assumption) (by repeat (first | with_reducible exact Below.refl _ _ | with_reducible refine B_ext ?_ _ | with_reducible refine B_alloc ?_ _ | with_reducible refine Below.drew ?_ | with_reducible refine B_set ?_ _ _ _)))))) | ((with_reducible refine wpQuiet_nil ?_); intro x1) | (go_at_call 40; refine (c_ref41_date _ _).mono ?_; intro e w' hh; first | obtain ⟨rfl, y, rfl⟩ := Ret.ext2 hh | obtain ⟨rfl, y, rfl⟩ := Ret.ext hh) | (go_at_call 41; refine (c_ref41_months _ _ _).mono ?_; intro e w' hh; first | obtain ⟨rfl, y, rfl⟩ := Ret.ext2 hh | obtain ⟨rfl, y, rfl⟩ := Ret.ext hh) | (go_at_call 16; refine (c_ref06_Valid _ _ hs _ (by first | with_reducible assumption | exact Ints.below (by assumption) (by repeat (first | with_reducible exact Below.refl _ _ | with_reducible refine B_ext ?_ _ | with_reducible refine B_alloc ?_ _ | with_reducible refine Below.drew ?_ | with_reducible refine B_set ?_ _ _ _)))).mono ?_; intro e w' hh; first | obtain ⟨rfl, y, rfl⟩ := Ret.ext2 hh | obtain ⟨rfl, y, rfl⟩ := Ret.ext hh) | (go_at_call 42; refine (c_ref41_add _ _ hs _ _ _ (by first | with_reducible assumption | exact Ints.below (by assumption) (by repeat (first | with_reducible exact Below.refl _ _ | with_reducible refine B_ext ?_ _ | with_reducible refine B_alloc ?_ _ | with_reducible refine Below.drew ?_ | with_reducible refine B_set ?_ _ _ _)))).mono ?_; intro e w' hh; first | obtain ⟨rfl, y, rfl⟩ := Ret.ext2 hh | obtain ⟨rfl, y, rfl⟩ := Ret.ext hh))
                    refine bodyPost_ret (v := .tuple #[apV (⟨id, f, t, d, laterR we hs d 60, 1, 0⟩), .int .i64 0]) ?_ rfl ?_
                    · simp [results, Try.results25, go_sem, apV, Ap.zero]
                    · exact ⟨by rw [hr.out] <;> rfl, (by repeat (first | with_reducible exact Below.refl _ _ | with_reducible refine B_ext ?_ _ | with_reducible refine B_alloc ?_ _ | with_reducible refine Below.drew ?_ | with_reducible refine B_set ?_ _ _ _))⟩
                  · have m9p : laterR we hs nt ad < d := by simpa using m9
                    have hr := hid (show fileR id f t d nt ad we hs = (⟨id, f, t, d, d, 6, 0⟩, 0) by simp [fileR, m1p, m2, m3, m4, m5p, m6, m7p, m8p, show ¬ d ≤ laterR we hs nt ad by omega])
                    go_enter Try.func25, Try.ntmps25
                    go_wp2_with (first | ((with_reducible refine wp_region_ext2 ?_ ?_ ?_); (kernel_rfl); (kernel_rfl)) | ((with_reducible refine wp_region_ext ?_ ?_ ?_); (kernel_rfl); (kernel_rfl)) | go_big_quiet_step (first | (go_at_call 40; exact quiet_of_ret (c_ref41_date _ _)) | (go_at_call 41; exact quiet_of_ret (c_ref41_months _ _ _)) | (go_at_call 16; exact quiet_of_ret (c_ref06_Valid _ _ hs _ (by first | with_reducible assumption | exact Ints.below (by assumption) (by repeat (first | with_reducible exact Below.refl _ _ | with_reducible refine B_ext ?_ _ | with_reducible refine B_alloc ?_ _ | with_reducible refine Below.drew ?_ | with_reducible refine B_set ?_ _ _ _))))) | (go_at_call 42; exact quiet_of_ret (c_ref41_add _ _ hs _ _ _ (by first | with_reducible assumption | exact Ints.below (by assumption) (by repeat (first | with_reducible exact Below.refl _ _ | with_reducible refine B_ext ?_ _ | with_reducible refine B_alloc ?_ _ | with_reducible refine Below.drew ?_ | with_reducible refine B_set ?_ _ _ _)))))) | ((with_reducible refine wpQuiet_nil ?_); intro x1) | (go_at_call 40; refine (c_ref41_date _ _).mono ?_; intro e w' hh; first | obtain ⟨rfl, y, rfl⟩ := Ret.ext2 hh | obtain ⟨rfl, y, rfl⟩ := Ret.ext hh) | (go_at_call 41; refine (c_ref41_months _ _ _).mono ?_; intro e w' hh; first | obtain ⟨rfl, y, rfl⟩ := Ret.ext2 hh | obtain ⟨rfl, y, rfl⟩ := Ret.ext hh) | (go_at_call 16; refine (c_ref06_Valid _ _ hs _ (by first | with_reducible assumption | exact Ints.below (by assumption) (by repeat (first | with_reducible exact Below.refl _ _ | with_reducible refine B_ext ?_ _ | with_reducible refine B_alloc ?_ _ | with_reducible refine Below.drew ?_ | with_reducible refine B_set ?_ _ _ _)))).mono ?_; intro e w' hh; first | obtain ⟨rfl, y, rfl⟩ := Ret.ext2 hh | obtain ⟨rfl, y, rfl⟩ := Ret.ext hh) | (go_at_call 42; refine (c_ref41_add _ _ hs _ _ _ (by first | with_reducible assumption | exact Ints.below (by assumption) (by repeat (first | with_reducible exact Below.refl _ _ | with_reducible refine B_ext ?_ _ | with_reducible refine B_alloc ?_ _ | with_reducible refine Below.drew ?_ | with_reducible refine B_set ?_ _ _ _)))).mono ?_; intro e w' hh; first | obtain ⟨rfl, y, rfl⟩ := Ret.ext2 hh | obtain ⟨rfl, y, rfl⟩ := Ret.ext hh))
                    refine bodyPost_ret (v := .tuple #[apV (⟨id, f, t, d, d, 6, 0⟩), .int .i64 0]) ?_ rfl ?_
                    · simp [results, Try.results25, go_sem, apV, Ap.zero]
                    · exact ⟨by rw [hr.out] <;> rfl, (by repeat (first | with_reducible exact Below.refl _ _ | with_reducible refine B_ext ?_ _ | with_reducible refine B_alloc ?_ _ | with_reducible refine Below.drew ?_ | with_reducible refine B_set ?_ _ _ _))⟩
                · have m8p : 365 < ad := by simpa using m8
                  have hr := hid (show fileR id f t d nt ad we hs = (.zero, 1) by simp [fileR, m1p, m2, m3, m4, m5p, m6, m7p, m8p])
                  go_enter Try.func25, Try.ntmps25
                  go_wp2_with (first | ((with_reducible refine wp_region_ext2 ?_ ?_ ?_); (kernel_rfl); (kernel_rfl)) | ((with_reducible refine wp_region_ext ?_ ?_ ?_); (kernel_rfl); (kernel_rfl)) | go_big_quiet_step (first | (go_at_call 40; exact quiet_of_ret (c_ref41_date _ _)) | (go_at_call 41; exact quiet_of_ret (c_ref41_months _ _ _)) | (go_at_call 16; exact quiet_of_ret (c_ref06_Valid _ _ hs _ (by first | with_reducible assumption | exact Ints.below (by assumption) (by repeat (first | with_reducible exact Below.refl _ _ | with_reducible refine B_ext ?_ _ | with_reducible refine B_alloc ?_ _ | with_reducible refine Below.drew ?_ | with_reducible refine B_set ?_ _ _ _))))) | (go_at_call 42; exact quiet_of_ret (c_ref41_add _ _ hs _ _ _ (by first | with_reducible assumption | exact Ints.below (by assumption) (by repeat (first | with_reducible exact Below.refl _ _ | with_reducible refine B_ext ?_ _ | with_reducible refine B_alloc ?_ _ | with_reducible refine Below.drew ?_ | with_reducible refine B_set ?_ _ _ _)))))) | ((with_reducible refine wpQuiet_nil ?_); intro x1) | (go_at_call 40; refine (c_ref41_date _ _).mono ?_; intro e w' hh; first | obtain ⟨rfl, y, rfl⟩ := Ret.ext2 hh | obtain ⟨rfl, y, rfl⟩ := Ret.ext hh) | (go_at_call 41; refine (c_ref41_months _ _ _).mono ?_; intro e w' hh; first | obtain ⟨rfl, y, rfl⟩ := Ret.ext2 hh | obtain ⟨rfl, y, rfl⟩ := Ret.ext hh) | (go_at_call 16; refine (c_ref06_Valid _ _ hs _ (by first | with_reducible assumption | exact Ints.below (by assumption) (by repeat (first | with_reducible exact Below.refl _ _ | with_reducible refine B_ext ?_ _ | with_reducible refine B_alloc ?_ _ | with_reducible refine Below.drew ?_ | with_reducible refine B_set ?_ _ _ _)))).mono ?_; intro e w' hh; first | obtain ⟨rfl, y, rfl⟩ := Ret.ext2 hh | obtain ⟨rfl, y, rfl⟩ := Ret.ext hh) | (go_at_call 42; refine (c_ref41_add _ _ hs _ _ _ (by first | with_reducible assumption | exact Ints.below (by assumption) (by repeat (first | with_reducible exact Below.refl _ _ | with_reducible refine B_ext ?_ _ | with_reducible refine B_alloc ?_ _ | with_reducible refine Below.drew ?_ | with_reducible refine B_set ?_ _ _ _)))).mono ?_; intro e w' hh; first | obtain ⟨rfl, y, rfl⟩ := Ret.ext2 hh | obtain ⟨rfl, y, rfl⟩ := Ret.ext hh))
                  refine bodyPost_ret (v := .tuple #[apV (.zero), .int .i64 1]) ?_ rfl ?_
                  · simp [results, Try.results25, go_sem, apV, Ap.zero]
                  · exact ⟨by rw [hr.out] <;> rfl, (by repeat (first | with_reducible exact Below.refl _ _ | with_reducible refine B_ext ?_ _ | with_reducible refine B_alloc ?_ _ | with_reducible refine Below.drew ?_ | with_reducible refine B_set ?_ _ _ _))⟩
              · have m7p : ad < 0 := by simpa using m7
                have hr := hid (show fileR id f t d nt ad we hs = (.zero, 1) by simp [fileR, m1p, m2, m3, m4, m5p, m6, m7p])
                go_enter Try.func25, Try.ntmps25
                go_wp2_with (first | ((with_reducible refine wp_region_ext2 ?_ ?_ ?_); (kernel_rfl); (kernel_rfl)) | ((with_reducible refine wp_region_ext ?_ ?_ ?_); (kernel_rfl); (kernel_rfl)) | go_big_quiet_step (first | (go_at_call 40; exact quiet_of_ret (c_ref41_date _ _)) | (go_at_call 41; exact quiet_of_ret (c_ref41_months _ _ _)) | (go_at_call 16; exact quiet_of_ret (c_ref06_Valid _ _ hs _ (by first | with_reducible assumption | exact Ints.below (by assumption) (by repeat (first | with_reducible exact Below.refl _ _ | with_reducible refine B_ext ?_ _ | with_reducible refine B_alloc ?_ _ | with_reducible refine Below.drew ?_ | with_reducible refine B_set ?_ _ _ _))))) | (go_at_call 42; exact quiet_of_ret (c_ref41_add _ _ hs _ _ _ (by first | with_reducible assumption | exact Ints.below (by assumption) (by repeat (first | with_reducible exact Below.refl _ _ | with_reducible refine B_ext ?_ _ | with_reducible refine B_alloc ?_ _ | with_reducible refine Below.drew ?_ | with_reducible refine B_set ?_ _ _ _)))))) | ((with_reducible refine wpQuiet_nil ?_); intro x1) | (go_at_call 40; refine (c_ref41_date _ _).mono ?_; intro e w' hh; first | obtain ⟨rfl, y, rfl⟩ := Ret.ext2 hh | obtain ⟨rfl, y, rfl⟩ := Ret.ext hh) | (go_at_call 41; refine (c_ref41_months _ _ _).mono ?_; intro e w' hh; first | obtain ⟨rfl, y, rfl⟩ := Ret.ext2 hh | obtain ⟨rfl, y, rfl⟩ := Ret.ext hh) | (go_at_call 16; refine (c_ref06_Valid _ _ hs _ (by first | with_reducible assumption | exact Ints.below (by assumption) (by repeat (first | with_reducible exact Below.refl _ _ | with_reducible refine B_ext ?_ _ | with_reducible refine B_alloc ?_ _ | with_reducible refine Below.drew ?_ | with_reducible refine B_set ?_ _ _ _)))).mono ?_; intro e w' hh; first | obtain ⟨rfl, y, rfl⟩ := Ret.ext2 hh | obtain ⟨rfl, y, rfl⟩ := Ret.ext hh) | (go_at_call 42; refine (c_ref41_add _ _ hs _ _ _ (by first | with_reducible assumption | exact Ints.below (by assumption) (by repeat (first | with_reducible exact Below.refl _ _ | with_reducible refine B_ext ?_ _ | with_reducible refine B_alloc ?_ _ | with_reducible refine Below.drew ?_ | with_reducible refine B_set ?_ _ _ _)))).mono ?_; intro e w' hh; first | obtain ⟨rfl, y, rfl⟩ := Ret.ext2 hh | obtain ⟨rfl, y, rfl⟩ := Ret.ext hh))
                refine bodyPost_ret (v := .tuple #[apV (.zero), .int .i64 1]) ?_ rfl ?_
                · simp [results, Try.results25, go_sem, apV, Ap.zero]
                · exact ⟨by rw [hr.out] <;> rfl, (by repeat (first | with_reducible exact Below.refl _ _ | with_reducible refine B_ext ?_ _ | with_reducible refine B_alloc ?_ _ | with_reducible refine Below.drew ?_ | with_reducible refine B_set ?_ _ _ _))⟩
          · have m5p : d < nt := by simpa using m5
            have hr := hid (show fileR id f t d nt ad we hs = (.zero, 14) by simp [fileR, m1p, m2, m3, m4, m5p])
            go_enter Try.func25, Try.ntmps25
            go_wp2_with (first | ((with_reducible refine wp_region_ext2 ?_ ?_ ?_); (kernel_rfl); (kernel_rfl)) | ((with_reducible refine wp_region_ext ?_ ?_ ?_); (kernel_rfl); (kernel_rfl)) | go_big_quiet_step (first | (go_at_call 40; exact quiet_of_ret (c_ref41_date _ _)) | (go_at_call 41; exact quiet_of_ret (c_ref41_months _ _ _)) | (go_at_call 16; exact quiet_of_ret (c_ref06_Valid _ _ hs _ (by first | with_reducible assumption | exact Ints.below (by assumption) (by repeat (first | with_reducible exact Below.refl _ _ | with_reducible refine B_ext ?_ _ | with_reducible refine B_alloc ?_ _ | with_reducible refine Below.drew ?_ | with_reducible refine B_set ?_ _ _ _))))) | (go_at_call 42; exact quiet_of_ret (c_ref41_add _ _ hs _ _ _ (by first | with_reducible assumption | exact Ints.below (by assumption) (by repeat (first | with_reducible exact Below.refl _ _ | with_reducible refine B_ext ?_ _ | with_reducible refine B_alloc ?_ _ | with_reducible refine Below.drew ?_ | with_reducible refine B_set ?_ _ _ _)))))) | ((with_reducible refine wpQuiet_nil ?_); intro x1) | (go_at_call 40; refine (c_ref41_date _ _).mono ?_; intro e w' hh; first | obtain ⟨rfl, y, rfl⟩ := Ret.ext2 hh | obtain ⟨rfl, y, rfl⟩ := Ret.ext hh) | (go_at_call 41; refine (c_ref41_months _ _ _).mono ?_; intro e w' hh; first | obtain ⟨rfl, y, rfl⟩ := Ret.ext2 hh | obtain ⟨rfl, y, rfl⟩ := Ret.ext hh) | (go_at_call 16; refine (c_ref06_Valid _ _ hs _ (by first | with_reducible assumption | exact Ints.below (by assumption) (by repeat (first | with_reducible exact Below.refl _ _ | with_reducible refine B_ext ?_ _ | with_reducible refine B_alloc ?_ _ | with_reducible refine Below.drew ?_ | with_reducible refine B_set ?_ _ _ _)))).mono ?_; intro e w' hh; first | obtain ⟨rfl, y, rfl⟩ := Ret.ext2 hh | obtain ⟨rfl, y, rfl⟩ := Ret.ext hh) | (go_at_call 42; refine (c_ref41_add _ _ hs _ _ _ (by first | with_reducible assumption | exact Ints.below (by assumption) (by repeat (first | with_reducible exact Below.refl _ _ | with_reducible refine B_ext ?_ _ | with_reducible refine B_alloc ?_ _ | with_reducible refine Below.drew ?_ | with_reducible refine B_set ?_ _ _ _)))).mono ?_; intro e w' hh; first | obtain ⟨rfl, y, rfl⟩ := Ret.ext2 hh | obtain ⟨rfl, y, rfl⟩ := Ret.ext hh))
            refine bodyPost_ret (v := .tuple #[apV (.zero), .int .i64 14]) ?_ rfl ?_
            · simp [results, Try.results25, go_sem, apV, Ap.zero]
            · exact ⟨by rw [hr.out] <;> rfl, (by repeat (first | with_reducible exact Below.refl _ _ | with_reducible refine B_ext ?_ _ | with_reducible refine B_alloc ?_ _ | with_reducible refine Below.drew ?_ | with_reducible refine B_set ?_ _ _ _))⟩
  · have m1p : id < 0 := by simpa using m1
    have hr := hid (show fileR id f t d nt ad we hs = (.zero, 3) by simp [fileR, m1p])
    go_enter Try.func25, Try.ntmps25
    go_wp2_with (first | ((with_reducible refine wp_region_ext2 ?_ ?_ ?_); (kernel_rfl); (kernel_rfl)) | ((with_reducible refine wp_region_ext ?_ ?_ ?_); (kernel_rfl); (kernel_rfl)) | go_big_quiet_step (first | (go_at_call 40; exact quiet_of_ret (c_ref41_date _ _)) | (go_at_call 41; exact quiet_of_ret (c_ref41_months _ _ _)) | (go_at_call 16; exact quiet_of_ret (c_ref06_Valid _ _ hs _ (by first | with_reducible assumption | exact Ints.below (by assumption) (by repeat (first | with_reducible exact Below.refl _ _ | with_reducible refine B_ext ?_ _ | with_reducible refine B_alloc ?_ _ | with_reducible refine Below.drew ?_ | with_reducible refine B_set ?_ _ _ _))))) | (go_at_call 42; exact quiet_of_ret (c_ref41_add _ _ hs _ _ _ (by first | with_reducible assumption | exact Ints.below (by assumption) (by repeat (first | with_reducible exact Below.refl _ _ | with_reducible refine B_ext ?_ _ | with_reducible refine B_alloc ?_ _ | with_reducible refine Below.drew ?_ | with_reducible refine B_set ?_ _ _ _)))))) | ((with_reducible refine wpQuiet_nil ?_); intro x1) | (go_at_call 40; refine (c_ref41_date _ _).mono ?_; intro e w' hh; first | obtain ⟨rfl, y, rfl⟩ := Ret.ext2 hh | obtain ⟨rfl, y, rfl⟩ := Ret.ext hh) | (go_at_call 41; refine (c_ref41_months _ _ _).mono ?_; intro e w' hh; first | obtain ⟨rfl, y, rfl⟩ := Ret.ext2 hh | obtain ⟨rfl, y, rfl⟩ := Ret.ext hh) | (go_at_call 16; refine (c_ref06_Valid _ _ hs _ (by first | with_reducible assumption | exact Ints.below (by assumption) (by repeat (first | with_reducible exact Below.refl _ _ | with_reducible refine B_ext ?_ _ | with_reducible refine B_alloc ?_ _ | with_reducible refine Below.drew ?_ | with_reducible refine B_set ?_ _ _ _)))).mono ?_; intro e w' hh; first | obtain ⟨rfl, y, rfl⟩ := Ret.ext2 hh | obtain ⟨rfl, y, rfl⟩ := Ret.ext hh) | (go_at_call 42; refine (c_ref41_add _ _ hs _ _ _ (by first | with_reducible assumption | exact Ints.below (by assumption) (by repeat (first | with_reducible exact Below.refl _ _ | with_reducible refine B_ext ?_ _ | with_reducible refine B_alloc ?_ _ | with_reducible refine Below.drew ?_ | with_reducible refine B_set ?_ _ _ _)))).mono ?_; intro e w' hh; first | obtain ⟨rfl, y, rfl⟩ := Ret.ext2 hh | obtain ⟨rfl, y, rfl⟩ := Ret.ext hh))
    refine bodyPost_ret (v := .tuple #[apV (.zero), .int .i64 3]) ?_ rfl ?_
    · simp [results, Try.results25, go_sem, apV, Ap.zero]
    · exact ⟨by rw [hr.out] <;> rfl, (by repeat (first | with_reducible exact Below.refl _ _ | with_reducible refine B_ext ?_ _ | with_reducible refine B_alloc ?_ _ | with_reducible refine Below.drew ?_ | with_reducible refine B_set ?_ _ _ _))⟩

end Go.Proofs.Ythalkfjbgldgbaa
