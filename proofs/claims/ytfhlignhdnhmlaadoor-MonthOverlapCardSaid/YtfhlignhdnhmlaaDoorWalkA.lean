/- Walks: the functions of packages workday and guerdonref06. -/
import Derived.Test.YtfhlignhdnhmlaaDoorRows
import Derived.Test.YtfhlignhdnhmlaaDoorLib
import Derived.Test.YtfhlignhdnhmlaaDoorWork
set_option linter.unusedSimpArgs false
set_option linter.unusedVariables false
namespace Go.Proofs.YtfhlignhdnhmlaaDoor
open Go.RowKit
attribute [local irreducible] Calls

theorem c_workday_validDate (d : Int) (w : World) : Calls Tryd.prog 66 #[.int .i64 d] w (Ret (.bool (vdB d)) w) := by
  unfold vdB
  go_enter Tryd.func66, Tryd.ntmps66
  go_wp2
  all_goals go_ret
  all_goals (refine ⟨?_, Below.refl _ _⟩; simp_all <;> omega)
theorem c_ref06_day (d : Int) (w : World) : Calls Tryd.prog 68 #[.int .i64 d] w (Ret (.bool (vdB d)) w) := by
  unfold vdB
  go_enter Tryd.func68, Tryd.ntmps68
  go_wp2
  all_goals go_ret
  all_goals (refine ⟨?_, Below.refl _ _⟩; simp_all <;> omega)
theorem c_date_valid (d : Int) (w : World) : Calls Tryd.prog 60 #[.int .i64 d] w (Ret (.bool (vdB d)) w) := by
  unfold vdB
  go_enter Tryd.func60, Tryd.ntmps60
  go_wp2
  all_goals go_ret
  all_goals (refine ⟨?_, Below.refl _ _⟩; simp_all <;> omega)
theorem c_date_Weekday (d : Int) (hv : vdB d = true) (w : World) : Calls Tryd.prog 39 #[.int .i64 d] w (Ret (.int .i64 (d % 7)) w) := by
  obtain ⟨h1, h2⟩ := vdB_true hv
  go_enter Tryd.func39, Tryd.ntmps39
  go_wp2_with (first | ((with_reducible refine wp_region_ext2 ?_ ?_ ?_); (kernel_rfl); (kernel_rfl)) | ((with_reducible refine wp_region_ext ?_ ?_ ?_); (kernel_rfl); (kernel_rfl)) | go_big_quiet_step (first | (go_at_call 60; exact quiet_of_ret (c_date_valid _ _))) | ((with_reducible refine wpQuiet_nil ?_); intro x1) | (go_at_call 60; refine (c_date_valid _ _).mono ?_; intro e w' hh; first | obtain ⟨rfl, yw, rfl⟩ := Ret.ext2 hh | obtain ⟨rfl, yw, rfl⟩ := Ret.ext hh))
  go_ret
  exact ⟨by simp, (by repeat (first | with_reducible exact Below.refl _ _ | with_reducible refine B_ext ?_ _ | with_reducible refine B_alloc ?_ _ | with_reducible refine Below.drew ?_ | with_reducible refine B_set ?_ _ _ _))⟩
theorem c_daterange_Valid (a b : Int) (w : World) : Calls Tryd.prog 72 #[.agg #[.int .i64 a, .int .i64 b]] w (Ret (.bool (rngB a b)) w) := by
  unfold rngB
  cases h1 : decide (0 ≤ a) <;> cases h2 : decide (a ≤ b) <;> cases h3 : decide (b ≤ 109573) <;> simp only [Bool.and_true, Bool.and_false]
  all_goals
    go_enter Tryd.func72, Tryd.ntmps72
    go_wp2_with (first | ((with_reducible refine wp_region_ext2 ?_ ?_ ?_); (kernel_rfl); (kernel_rfl)) | ((with_reducible refine wp_region_ext ?_ ?_ ?_); (kernel_rfl); (kernel_rfl)) | go_big_quiet_step (fail) | ((with_reducible refine wpQuiet_nil ?_); intro x1))
    all_goals go_ret
    all_goals exact ⟨by simp, (by repeat (first | with_reducible exact Below.refl _ _ | with_reducible refine B_ext ?_ _ | with_reducible refine B_alloc ?_ _ | with_reducible refine Below.drew ?_ | with_reducible refine B_set ?_ _ _ _))⟩

/-! slices.BinarySearch over []int -/
theorem c_cmp_isNaN (d : Int) (w : World) : Calls Tryd.prog 89 #[.int .i64 d] w (Ret (.bool false) w) := by
  go_enter Tryd.func89, Tryd.ntmps89
  go_wp2_with (first | ((with_reducible refine wp_region_ext2 ?_ ?_ ?_); (kernel_rfl); (kernel_rfl)) | ((with_reducible refine wp_region_ext ?_ ?_ ?_); (kernel_rfl); (kernel_rfl)) | go_big_quiet_step (fail) | ((with_reducible refine wpQuiet_nil ?_); intro x1))
  go_ret
  exact ⟨by simp, (by repeat (first | with_reducible exact Below.refl _ _ | with_reducible refine B_ext ?_ _ | with_reducible refine B_alloc ?_ _ | with_reducible refine Below.drew ?_ | with_reducible refine B_set ?_ _ _ _))⟩
theorem c_slices_isNaN (d : Int) (w : World) : Calls Tryd.prog 82 #[.int .i64 d] w (Ret (.bool false) w) := by
  go_enter Tryd.func82, Tryd.ntmps82
  go_wp2_with (first | ((with_reducible refine wp_region_ext2 ?_ ?_ ?_); (kernel_rfl); (kernel_rfl)) | ((with_reducible refine wp_region_ext ?_ ?_ ?_); (kernel_rfl); (kernel_rfl)) | go_big_quiet_step (fail) | ((with_reducible refine wpQuiet_nil ?_); intro x1))
  go_ret
  exact ⟨by simp, (by repeat (first | with_reducible exact Below.refl _ _ | with_reducible refine B_ext ?_ _ | with_reducible refine B_alloc ?_ _ | with_reducible refine Below.drew ?_ | with_reducible refine B_set ?_ _ _ _))⟩
theorem c_cmp_Less (a b : Int) (w : World) : Calls Tryd.prog 81 #[.int .i64 a, .int .i64 b] w (Ret (.bool (decide (a < b))) w) := by
  go_enter Tryd.func81, Tryd.ntmps81
  go_wp2_with (first | ((with_reducible refine wp_region_ext2 ?_ ?_ ?_); (kernel_rfl); (kernel_rfl)) | ((with_reducible refine wp_region_ext ?_ ?_ ?_); (kernel_rfl); (kernel_rfl)) | go_big_quiet_step (first | (go_at_call 89; exact quiet_of_ret (c_cmp_isNaN _ _))) | ((with_reducible refine wpQuiet_nil ?_); intro x1) | (go_at_call 89; refine (c_cmp_isNaN _ _).mono ?_; intro e w' hh; first | obtain ⟨rfl, yw, rfl⟩ := Ret.ext2 hh | obtain ⟨rfl, yw, rfl⟩ := Ret.ext hh))
  go_ret
  exact ⟨by simp, (by repeat (first | with_reducible exact Below.refl _ _ | with_reducible refine B_ext ?_ _ | with_reducible refine B_alloc ?_ _ | with_reducible refine Below.drew ?_ | with_reducible refine B_set ?_ _ _ _))⟩


theorem getD_lt {hs : List Int} {k : Nat} (h : k < hs.length) : ∃ d, hs[k]? = some d := ⟨_, List.getElem?_eq_getElem h⟩

set_option maxHeartbeats 1000000 in
theorem c_BinarySearch (v : Value) (hs : List Int) (d : Int) (w : World) (h : Ints w v hs) (hp : hs.Pairwise (· < ·)) (hlen : hs.length ≤ 1000000) :
    Calls Tryd.prog 73 #[v, .int .i64 d] w (Ret (.tuple #[.int .i64 (hs.countP (· < d)), .bool (decide (d ∈ hs))]) w) := by
  obtain ⟨a, c, rfl, hlc, hcm, hop⟩ := h.opn
  clear hlc hcm
  replace hp := hid (List.pairwise_iff_getElem.1 hp)
  go_enter Tryd.func73, Tryd.ntmps73
  go_wp2_with (first | ((with_reducible refine wp_region_ext2 ?_ ?_ ?_); (kernel_rfl); (kernel_rfl)) | ((with_reducible refine wp_region_ext ?_ ?_ ?_); (kernel_rfl); (kernel_rfl)) | go_big_quiet_step (fail) | ((with_reducible refine wpQuiet_nil ?_); intro x1))
  go_loopw [7, 8] (fun lo hi wr => ∃ x, wr = ext w x ∧ ∃ l r : Nat, lo = .int .i64 l ∧ hi = .int .i64 r ∧ l ≤ r ∧ r ≤ hs.length ∧ Hid (∀ i (_ : i < hs.length), i < l → hs[i] < d) ∧ Hid (∀ i (_ : i < hs.length), r ≤ i → d ≤ hs[i])) (fun lo hi _ => ((intOf hi) - (intOf lo)).toNat)
  case atStart => exact ⟨_, ext_self _, 0, hs.length, rfl, rfl, by omega, by omega, fun _ _ h => by omega, fun _ h1 h2 => by omega⟩
  case round =>
    obtain ⟨x, rfl, l, r, rfl, rfl, hlr, hr, hL, hR⟩ := hrel
    by_cases hlt : l < r
    · have hm : (l + r) / 2 < hs.length := by omega
      obtain ⟨b, off, rfl, hb, hcell⟩ := hop (by omega)
      replace hcell := hcell _ hm
      generalize hy : hs[(l + r) / 2] = y0 at hcell
      replace hy := hid hy
      clear hop
      by_cases hyd : y0 < d
      · have hdd : decide (y0 < d) = true := by simpa using hyd
        go_wp2_with (first | ((with_reducible refine wp_region_ext2 ?_ ?_ ?_); (kernel_rfl); (kernel_rfl)) | ((with_reducible refine wp_region_ext ?_ ?_ ?_); (kernel_rfl); (kernel_rfl)) | go_big_quiet_step (first | (go_at_call 81; exact quiet_of_ret (c_cmp_Less _ _ _))) | ((with_reducible refine wpQuiet_nil ?_); intro x1) | (go_at_call 81; refine (c_cmp_Less _ _ _).mono ?_; intro e w' hh; first | obtain ⟨rfl, yw, rfl⟩ := Ret.ext2 hh | obtain ⟨rfl, yw, rfl⟩ := Ret.ext hh))
        go_roundw
        case rel =>
          refine ⟨_, rfl, (l + r) / 2 + 1, r, by go_num, rfl, by omega, hr, fun i hi hil => ?_, hR⟩
          by_cases e : i = (l + r) / 2
          · subst e; rw [hy.out]; exact hyd
          · have := hp.out i ((l + r) / 2) hi hm (by omega); rw [hy.out] at this; omega
        case measure => simp [intOf]; omega
      · have hdd : decide (y0 < d) = false := by simpa using hyd
        go_wp2_with (first | ((with_reducible refine wp_region_ext2 ?_ ?_ ?_); (kernel_rfl); (kernel_rfl)) | ((with_reducible refine wp_region_ext ?_ ?_ ?_); (kernel_rfl); (kernel_rfl)) | go_big_quiet_step (first | (go_at_call 81; exact quiet_of_ret (c_cmp_Less _ _ _))) | ((with_reducible refine wpQuiet_nil ?_); intro x1) | (go_at_call 81; refine (c_cmp_Less _ _ _).mono ?_; intro e w' hh; first | obtain ⟨rfl, yw, rfl⟩ := Ret.ext2 hh | obtain ⟨rfl, yw, rfl⟩ := Ret.ext hh))
        go_roundw
        case rel =>
          refine ⟨_, rfl, l, (l + r) / 2, rfl, by go_num, by omega, by omega, hL, fun i hi hil => ?_⟩
          by_cases e : i = (l + r) / 2
          · subst e; rw [hy.out]; omega
          · have := hp.out ((l + r) / 2) i hm hi (by omega); rw [hy.out] at this; omega
        case measure => simp [intOf]; omega
    · have e : l = r := by omega
      subst e
      have hcnt : hs.countP (· < d) = l := countP_split hr (fun i hi hil => by simpa using hL.out i hi hil) (fun i hi hil => by have := hR.out i hi hil; simp; omega)
      replace hcnt := hid hcnt
      by_cases hl : l < hs.length
      · obtain ⟨b, off, rfl, hb, hcell⟩ := hop (by omega)
        replace hcell := hcell _ hl
        generalize hy : hs[l] = y0 at hcell
        replace hy := hid hy
        clear hop
        by_cases hyd : y0 = d
        · have hmem : decide (d ∈ hs) = true := by simp; rw [← hyd, ← hy.out]; exact List.getElem_mem hl
          replace hmem := hid hmem
          have hyd2 : (y0 == d) = true := by simpa using hyd
          replace hyd := hid hyd
          go_wp2_with (first | ((with_reducible refine wp_region_ext2 ?_ ?_ ?_); (kernel_rfl); (kernel_rfl)) | ((with_reducible refine wp_region_ext ?_ ?_ ?_); (kernel_rfl); (kernel_rfl)) | go_big_quiet_step (first | (go_at_call 82; exact quiet_of_ret (c_slices_isNaN _ _))) | ((with_reducible refine wpQuiet_nil ?_); intro x1) | (go_at_call 82; refine (c_slices_isNaN _ _).mono ?_; intro e w' hh; first | obtain ⟨rfl, yw, rfl⟩ := Ret.ext2 hh | obtain ⟨rfl, yw, rfl⟩ := Ret.ext hh))
          go_ret2
          refine ⟨?_, (by repeat (first | with_reducible exact Below.refl _ _ | with_reducible refine B_ext ?_ _ | with_reducible refine B_alloc ?_ _ | with_reducible refine Below.drew ?_ | with_reducible refine B_set ?_ _ _ _))⟩
          rw [hcnt.out, hmem.out]; simp
        · have hmem : decide (d ∈ hs) = false := by
            simp only [decide_eq_false_iff_not]
            intro hm
            obtain ⟨i, hi, rfl⟩ := List.getElem_of_mem hm
            by_cases h1 : i < l
            · have := hL.out i hi h1; omega
            · by_cases h2 : i = l
              · subst h2; exact hyd hy.out.symm
              · have := hp.out l i hl hi (by omega); have := hR.out l hl (by omega); rw [hy.out] at *; omega
          replace hmem := hid hmem
          have hyd2 : (y0 == d) = false := by simpa using hyd
          replace hyd := hid hyd
          go_wp2_with (first | ((with_reducible refine wp_region_ext2 ?_ ?_ ?_); (kernel_rfl); (kernel_rfl)) | ((with_reducible refine wp_region_ext ?_ ?_ ?_); (kernel_rfl); (kernel_rfl)) | go_big_quiet_step (first | (go_at_call 82; exact quiet_of_ret (c_slices_isNaN _ _))) | ((with_reducible refine wpQuiet_nil ?_); intro x1) | (go_at_call 82; refine (c_slices_isNaN _ _).mono ?_; intro e w' hh; first | obtain ⟨rfl, yw, rfl⟩ := Ret.ext2 hh | obtain ⟨rfl, yw, rfl⟩ := Ret.ext hh))
          go_ret2
          refine ⟨?_, (by repeat (first | with_reducible exact Below.refl _ _ | with_reducible refine B_ext ?_ _ | with_reducible refine B_alloc ?_ _ | with_reducible refine Below.drew ?_ | with_reducible refine B_set ?_ _ _ _))⟩
          rw [hcnt.out, hmem.out]; simp
      · have hmem : decide (d ∈ hs) = false := by
          simp only [decide_eq_false_iff_not]
          intro hm
          obtain ⟨i, hi, rfl⟩ := List.getElem_of_mem hm
          have := hL.out i hi (by omega); omega
        replace hmem := hid hmem
        go_wp2_with (first | ((with_reducible refine wp_region_ext2 ?_ ?_ ?_); (kernel_rfl); (kernel_rfl)) | ((with_reducible refine wp_region_ext ?_ ?_ ?_); (kernel_rfl); (kernel_rfl)) | go_big_quiet_step (fail) | ((with_reducible refine wpQuiet_nil ?_); intro x1))
        go_ret2
        refine ⟨?_, (by repeat (first | with_reducible exact Below.refl _ _ | with_reducible refine B_ext ?_ _ | with_reducible refine B_alloc ?_ _ | with_reducible refine Below.drew ?_ | with_reducible refine B_set ?_ _ _ _))⟩
        rw [hcnt.out, hmem.out]; simp


/-! package workday -/
theorem wk_test {we d : Int} (h0 : 0 ≤ we) (h1 : we ≤ 126) : (bits .and .i64 (we / 2 ^ (d % 7).toNat) 1 == 1) = !decide (we / 2 ^ (d % 7).toNat % 2 = 0) := by
  have := shr_bd (d % 7).toNat h0 h1
  rw [bits_and_one this.1 (by omega)]
  by_cases h : we / 2 ^ (d % 7).toNat % 2 = 0
  · simp [h]
  · have : we / 2 ^ (d % 7).toNat % 2 = 1 := by omega
    simp [this]
theorem c_works (we : Int) (v : Value) (hs : List Int) (d : Int) (w : World) (h : Ints w v hs) (hok : calOk we hs = true) (hd : vdB d = true) :
    Calls Tryd.prog 67 #[.agg #[.int .i64 we, v], .int .i64 d] w (Ret (.bool (wkB we hs d)) w) := by
  obtain ⟨h0, h1, hlen, _⟩ := calOk_true hok
  obtain ⟨d1, d2⟩ := vdB_true hd
  have hp := hid (calOk_sorted hok)
  have e := wk_test (d := d) h0 h1
  replace hok := hid hok
  replace hd := hid hd
  cases hb : decide (we / 2 ^ (d % 7).toNat % 2 = 0)
  · have hw := hid (show wkB we hs d = false by simp [wkB, hb])
    rw [hb] at e
    clear hb
    go_enter Tryd.func67, Tryd.ntmps67
    go_wp2_with (first | ((with_reducible refine wp_region_ext2 ?_ ?_ ?_); (kernel_rfl); (kernel_rfl)) | ((with_reducible refine wp_region_ext ?_ ?_ ?_); (kernel_rfl); (kernel_rfl)) | go_big_quiet_step (first | (go_at_call 39; exact quiet_of_ret (c_date_Weekday _ hd.out _)) | (go_at_call 73; exact quiet_of_ret (c_BinarySearch _ hs _ _ (by first | with_reducible assumption | exact Ints.below (by assumption) (by repeat (first | with_reducible exact Below.refl _ _ | with_reducible refine B_ext ?_ _ | with_reducible refine B_alloc ?_ _ | with_reducible refine Below.drew ?_ | with_reducible refine B_set ?_ _ _ _))) hp.out (by omega)))) | ((with_reducible refine wpQuiet_nil ?_); intro x1) | (go_at_call 39; refine (c_date_Weekday _ hd.out _).mono ?_; intro e w' hh; first | obtain ⟨rfl, yw, rfl⟩ := Ret.ext2 hh | obtain ⟨rfl, yw, rfl⟩ := Ret.ext hh) | (go_at_call 73; refine (c_BinarySearch _ hs _ _ (by first | with_reducible assumption | exact Ints.below (by assumption) (by repeat (first | with_reducible exact Below.refl _ _ | with_reducible refine B_ext ?_ _ | with_reducible refine B_alloc ?_ _ | with_reducible refine Below.drew ?_ | with_reducible refine B_set ?_ _ _ _))) hp.out (by omega)).mono ?_; intro e w' hh; first | obtain ⟨rfl, yw, rfl⟩ := Ret.ext2 hh | obtain ⟨rfl, yw, rfl⟩ := Ret.ext hh))
    go_ret
    exact ⟨by rw [hw.out]; simp, (by repeat (first | with_reducible exact Below.refl _ _ | with_reducible refine B_ext ?_ _ | with_reducible refine B_alloc ?_ _ | with_reducible refine Below.drew ?_ | with_reducible refine B_set ?_ _ _ _))⟩
  · have hw := hid (show wkB we hs d = !decide (d ∈ hs) by simp [wkB, hb])
    rw [hb] at e
    clear hb
    go_enter Tryd.func67, Tryd.ntmps67
    go_wp2_with (first | ((with_reducible refine wp_region_ext2 ?_ ?_ ?_); (kernel_rfl); (kernel_rfl)) | ((with_reducible refine wp_region_ext ?_ ?_ ?_); (kernel_rfl); (kernel_rfl)) | go_big_quiet_step (first | (go_at_call 39; exact quiet_of_ret (c_date_Weekday _ hd.out _)) | (go_at_call 73; exact quiet_of_ret (c_BinarySearch _ hs _ _ (by first | with_reducible assumption | exact Ints.below (by assumption) (by repeat (first | with_reducible exact Below.refl _ _ | with_reducible refine B_ext ?_ _ | with_reducible refine B_alloc ?_ _ | with_reducible refine Below.drew ?_ | with_reducible refine B_set ?_ _ _ _))) hp.out (by omega)))) | ((with_reducible refine wpQuiet_nil ?_); intro x1) | (go_at_call 39; refine (c_date_Weekday _ hd.out _).mono ?_; intro e w' hh; first | obtain ⟨rfl, yw, rfl⟩ := Ret.ext2 hh | obtain ⟨rfl, yw, rfl⟩ := Ret.ext hh) | (go_at_call 73; refine (c_BinarySearch _ hs _ _ (by first | with_reducible assumption | exact Ints.below (by assumption) (by repeat (first | with_reducible exact Below.refl _ _ | with_reducible refine B_ext ?_ _ | with_reducible refine B_alloc ?_ _ | with_reducible refine Below.drew ?_ | with_reducible refine B_set ?_ _ _ _))) hp.out (by omega)).mono ?_; intro e w' hh; first | obtain ⟨rfl, yw, rfl⟩ := Ret.ext2 hh | obtain ⟨rfl, yw, rfl⟩ := Ret.ext hh))
    go_ret
    exact ⟨by rw [hw.out]; simp, (by repeat (first | with_reducible exact Below.refl _ _ | with_reducible refine B_ext ?_ _ | with_reducible refine B_alloc ?_ _ | with_reducible refine Below.drew ?_ | with_reducible refine B_set ?_ _ _ _))⟩


set_option maxHeartbeats 1000000 in
theorem c_workday_Valid (we : Int) (v : Value) (hs : List Int) (w : World) (h : Ints w v hs) :
    Calls Tryd.prog 51 #[.agg #[.int .i64 we, v]] w (Ret (.bool (calOk we hs)) w) := by
  obtain ⟨a, c, rfl, hlc, hcm, hop⟩ := h.opn
  have hlen : hs.length ≤ 9223372036854775807 := by omega
  clear hlc hcm h
  by_cases h1 : we < 0
  · have hr := hid (show calOk we hs = false by simp [calOk]; omega)
    go_enter Tryd.func51, Tryd.ntmps51
    go_wp2_with (first | ((with_reducible refine wp_region_ext2 ?_ ?_ ?_); (kernel_rfl); (kernel_rfl)) | ((with_reducible refine wp_region_ext ?_ ?_ ?_); (kernel_rfl); (kernel_rfl)) | go_big_quiet_step (fail) | ((with_reducible refine wpQuiet_nil ?_); intro x1))
    go_ret
    exact ⟨by rw [hr.out]; simp, (by repeat (first | with_reducible exact Below.refl _ _ | with_reducible refine B_ext ?_ _ | with_reducible refine B_alloc ?_ _ | with_reducible refine Below.drew ?_ | with_reducible refine B_set ?_ _ _ _))⟩
  by_cases h2 : 126 < we
  · have hr := hid (show calOk we hs = false by simp [calOk]; omega)
    go_enter Tryd.func51, Tryd.ntmps51
    go_wp2_with (first | ((with_reducible refine wp_region_ext2 ?_ ?_ ?_); (kernel_rfl); (kernel_rfl)) | ((with_reducible refine wp_region_ext ?_ ?_ ?_); (kernel_rfl); (kernel_rfl)) | go_big_quiet_step (fail) | ((with_reducible refine wpQuiet_nil ?_); intro x1))
    go_ret
    exact ⟨by rw [hr.out]; simp, (by repeat (first | with_reducible exact Below.refl _ _ | with_reducible refine B_ext ?_ _ | with_reducible refine B_alloc ?_ _ | with_reducible refine Below.drew ?_ | with_reducible refine B_set ?_ _ _ _))⟩
  by_cases h3 : 64 < hs.length
  · have hr := hid (show calOk we hs = false by simp [calOk]; omega)
    go_enter Tryd.func51, Tryd.ntmps51
    go_wp2_with (first | ((with_reducible refine wp_region_ext2 ?_ ?_ ?_); (kernel_rfl); (kernel_rfl)) | ((with_reducible refine wp_region_ext ?_ ?_ ?_); (kernel_rfl); (kernel_rfl)) | go_big_quiet_step (fail) | ((with_reducible refine wpQuiet_nil ?_); intro x1))
    go_ret
    exact ⟨by rw [hr.out]; simp, (by repeat (first | with_reducible exact Below.refl _ _ | with_reducible refine B_ext ?_ _ | with_reducible refine B_alloc ?_ _ | with_reducible refine Below.drew ?_ | with_reducible refine B_set ?_ _ _ _))⟩
  have hr := hid (show calOk we hs = incr (-1) hs by simp [calOk]; omega)
  go_enter Tryd.func51, Tryd.ntmps51
  go_wp2_with (first | ((with_reducible refine wp_region_ext2 ?_ ?_ ?_); (kernel_rfl); (kernel_rfl)) | ((with_reducible refine wp_region_ext ?_ ?_ ?_); (kernel_rfl); (kernel_rfl)) | go_big_quiet_step (fail) | ((with_reducible refine wpQuiet_nil ?_); intro x1))
  go_loopw [3, 23] (fun l i wr => ∃ x, wr = ext (w.alloc (Obj.cells #[Value.int IntKind.i64 we, Value.slice a hs.length c] 33)) x ∧ ∃ (k : Nat) (last : Int), k ≤ hs.length ∧ i = .int .i64 k ∧ l = .int .i64 last ∧ Hid (incr (-1) hs = incr last (hs.drop k))) (fun _ i _ => hs.length - (intOf i).toNat)
  case atStart => exact ⟨_, ext_self _, 0, -1, Nat.zero_le _, rfl, rfl, by simp [Hid]⟩
  case round =>
    obtain ⟨x, rfl, k, last, hk, rfl, rfl, hinv⟩ := hrel
    by_cases hlt : k < hs.length
    · obtain ⟨b, off, rfl, hb, hcell⟩ := hop (by omega)
      replace hcell := hcell _ hlt
      have hdrop : hs.drop k = hs[k] :: hs.drop (k+1) := List.drop_eq_getElem_cons hlt
      generalize hs[k] = d at hcell hdrop
      clear hop
      by_cases hv : vdB d = true ∧ last < d
      · obtain ⟨hv, hd⟩ := hv
        have hstep := hid (show incr (-1) hs = incr d (hs.drop (k+1)) by rw [hinv.out, hdrop]; simp [incr, hv, hd])
        clear hdrop hinv
        go_wp2_with (first | ((with_reducible refine wp_region_ext2 ?_ ?_ ?_); (kernel_rfl); (kernel_rfl)) | ((with_reducible refine wp_region_ext ?_ ?_ ?_); (kernel_rfl); (kernel_rfl)) | go_big_quiet_step (first | (go_at_call 66; exact quiet_of_ret (c_workday_validDate _ _))) | ((with_reducible refine wpQuiet_nil ?_); intro x1) | (go_at_call 66; refine (c_workday_validDate _ _).mono ?_; intro e w' hh; first | obtain ⟨rfl, yw, rfl⟩ := Ret.ext2 hh | obtain ⟨rfl, yw, rfl⟩ := Ret.ext hh))
        go_roundw
        case rel => exact ⟨_, rfl, k + 1, d, by omega, by go_num, rfl, hstep⟩
        case measure => simp [intOf]; omega
      · have hstep := hid (show incr (-1) hs = false by
          rw [hinv.out, hdrop]
          by_cases h : vdB d = true
          · have : ¬ last < d := fun h' => hv ⟨h, h'⟩
            simp [incr, this]
          · simp [incr, h])
        clear hdrop hinv
        cases hvd : vdB d
        · go_wp2_with (first | ((with_reducible refine wp_region_ext2 ?_ ?_ ?_); (kernel_rfl); (kernel_rfl)) | ((with_reducible refine wp_region_ext ?_ ?_ ?_); (kernel_rfl); (kernel_rfl)) | go_big_quiet_step (first | (go_at_call 66; exact quiet_of_ret (c_workday_validDate _ _))) | ((with_reducible refine wpQuiet_nil ?_); intro x1) | (go_at_call 66; refine (c_workday_validDate _ _).mono ?_; intro e w' hh; first | obtain ⟨rfl, yw, rfl⟩ := Ret.ext2 hh | obtain ⟨rfl, yw, rfl⟩ := Ret.ext hh))
          go_ret
          exact ⟨by rw [hr.out, hstep.out]; simp, (by repeat (first | with_reducible exact Below.refl _ _ | with_reducible refine B_ext ?_ _ | with_reducible refine B_alloc ?_ _ | with_reducible refine Below.drew ?_ | with_reducible refine B_set ?_ _ _ _))⟩
        · have hld : d ≤ last := by
            have : ¬ last < d := fun h' => hv ⟨hvd, h'⟩
            omega
          clear hv
          go_wp2_with (first | ((with_reducible refine wp_region_ext2 ?_ ?_ ?_); (kernel_rfl); (kernel_rfl)) | ((with_reducible refine wp_region_ext ?_ ?_ ?_); (kernel_rfl); (kernel_rfl)) | go_big_quiet_step (first | (go_at_call 66; exact quiet_of_ret (c_workday_validDate _ _))) | ((with_reducible refine wpQuiet_nil ?_); intro x1) | (go_at_call 66; refine (c_workday_validDate _ _).mono ?_; intro e w' hh; first | obtain ⟨rfl, yw, rfl⟩ := Ret.ext2 hh | obtain ⟨rfl, yw, rfl⟩ := Ret.ext hh))
          go_ret
          exact ⟨by rw [hr.out, hstep.out]; simp, (by repeat (first | with_reducible exact Below.refl _ _ | with_reducible refine B_ext ?_ _ | with_reducible refine B_alloc ?_ _ | with_reducible refine Below.drew ?_ | with_reducible refine B_set ?_ _ _ _))⟩
    · have hstep := hid (show incr (-1) hs = true by
        rw [hinv.out, List.drop_of_length_le (by omega)]; simp [incr])
      clear hinv
      go_wp2_with (first | ((with_reducible refine wp_region_ext2 ?_ ?_ ?_); (kernel_rfl); (kernel_rfl)) | ((with_reducible refine wp_region_ext ?_ ?_ ?_); (kernel_rfl); (kernel_rfl)) | go_big_quiet_step (fail) | ((with_reducible refine wpQuiet_nil ?_); intro x1))
      go_ret
      exact ⟨by rw [hr.out, hstep.out]; simp, (by repeat (first | with_reducible exact Below.refl _ _ | with_reducible refine B_ext ?_ _ | with_reducible refine B_alloc ?_ _ | with_reducible refine Below.drew ?_ | with_reducible refine B_set ?_ _ _ _))⟩


set_option maxHeartbeats 1000000 in
theorem c_ref06_Valid (we : Int) (v : Value) (hs : List Int) (w : World) (h : Ints w v hs) :
    Calls Tryd.prog 53 #[.agg #[.int .i64 we, v]] w (Ret (.bool (calOk we hs)) w) := by
  obtain ⟨a, c, rfl, hlc, hcm, hop⟩ := h.opn
  have hlen : hs.length ≤ 9223372036854775807 := by omega
  clear hlc hcm h
  by_cases h1 : we < 0
  · have hr := hid (show calOk we hs = false by simp [calOk]; omega)
    go_enter Tryd.func53, Tryd.ntmps53
    go_wp2_with (first | ((with_reducible refine wp_region_ext2 ?_ ?_ ?_); (kernel_rfl); (kernel_rfl)) | ((with_reducible refine wp_region_ext ?_ ?_ ?_); (kernel_rfl); (kernel_rfl)) | go_big_quiet_step (fail) | ((with_reducible refine wpQuiet_nil ?_); intro x1))
    go_ret
    exact ⟨by rw [hr.out]; simp, (by repeat (first | with_reducible exact Below.refl _ _ | with_reducible refine B_ext ?_ _ | with_reducible refine B_alloc ?_ _ | with_reducible refine Below.drew ?_ | with_reducible refine B_set ?_ _ _ _))⟩
  by_cases h2 : 126 < we
  · have hr := hid (show calOk we hs = false by simp [calOk]; omega)
    go_enter Tryd.func53, Tryd.ntmps53
    go_wp2_with (first | ((with_reducible refine wp_region_ext2 ?_ ?_ ?_); (kernel_rfl); (kernel_rfl)) | ((with_reducible refine wp_region_ext ?_ ?_ ?_); (kernel_rfl); (kernel_rfl)) | go_big_quiet_step (fail) | ((with_reducible refine wpQuiet_nil ?_); intro x1))
    go_ret
    exact ⟨by rw [hr.out]; simp, (by repeat (first | with_reducible exact Below.refl _ _ | with_reducible refine B_ext ?_ _ | with_reducible refine B_alloc ?_ _ | with_reducible refine Below.drew ?_ | with_reducible refine B_set ?_ _ _ _))⟩
  by_cases h3 : 64 < hs.length
  · have hr := hid (show calOk we hs = false by simp [calOk]; omega)
    go_enter Tryd.func53, Tryd.ntmps53
    go_wp2_with (first | ((with_reducible refine wp_region_ext2 ?_ ?_ ?_); (kernel_rfl); (kernel_rfl)) | ((with_reducible refine wp_region_ext ?_ ?_ ?_); (kernel_rfl); (kernel_rfl)) | go_big_quiet_step (fail) | ((with_reducible refine wpQuiet_nil ?_); intro x1))
    go_ret
    exact ⟨by rw [hr.out]; simp, (by repeat (first | with_reducible exact Below.refl _ _ | with_reducible refine B_ext ?_ _ | with_reducible refine B_alloc ?_ _ | with_reducible refine Below.drew ?_ | with_reducible refine B_set ?_ _ _ _))⟩
  have hr := hid (show calOk we hs = incr (-1) hs by simp [calOk]; omega)
  go_enter Tryd.func53, Tryd.ntmps53
  go_wp2_with (first | ((with_reducible refine wp_region_ext2 ?_ ?_ ?_); (kernel_rfl); (kernel_rfl)) | ((with_reducible refine wp_region_ext ?_ ?_ ?_); (kernel_rfl); (kernel_rfl)) | go_big_quiet_step (fail) | ((with_reducible refine wpQuiet_nil ?_); intro x1))
  go_loopw [3] (fun i wr => ∃ x, wr = ext (w.alloc (Obj.cells #[Value.int IntKind.i64 we, Value.slice a hs.length c] 33)) x ∧ ∃ (k : Nat), k ≤ hs.length ∧ i = .int .i64 k ∧ Hid (incr (-1) hs = incr (if k = 0 then -1 else hs.getD (k-1) 0) (hs.drop k))) (fun i _ => hs.length - (intOf i).toNat)
  case atStart => exact ⟨_, ext_self _, 0, Nat.zero_le _, rfl, by simp [Hid]⟩
  case round =>
    obtain ⟨x, rfl, k, hk, rfl, hinv⟩ := hrel
    by_cases hlt : k < hs.length
    · obtain ⟨b, off, rfl, hb, hcell⟩ := hop (by omega)
      have hc1 := hcell _ hlt
      have hdrop : hs.drop k = hs[k] :: hs.drop (k+1) := List.drop_eq_getElem_cons hlt
      have hgd : hs.getD k 0 = hs[k] := by simp [hlt]
      have hinv2 := hinv.out
      rw [hdrop] at hinv2
      clear hop hdrop hinv
      by_cases hk0 : k = 0
      · subst hk0
        simp only [Nat.add_zero] at hc1
        generalize hs[0] = d at hc1 hgd hinv2
        replace hgd := hid hgd
        cases hvd : vdB d
        · have hstep := hid (show incr (-1) hs = false by rw [hinv2]; simp [incr, hvd])
          clear hinv2 hcell
          go_wp2_with (first | ((with_reducible refine wp_region_ext2 ?_ ?_ ?_); (kernel_rfl); (kernel_rfl)) | ((with_reducible refine wp_region_ext ?_ ?_ ?_); (kernel_rfl); (kernel_rfl)) | go_big_quiet_step (first | (go_at_call 68; exact quiet_of_ret (c_ref06_day _ _))) | ((with_reducible refine wpQuiet_nil ?_); intro x1) | (go_at_call 68; refine (c_ref06_day _ _).mono ?_; intro e w' hh; first | obtain ⟨rfl, yw, rfl⟩ := Ret.ext2 hh | obtain ⟨rfl, yw, rfl⟩ := Ret.ext hh))
          go_ret
          exact ⟨by rw [hr.out, hstep.out]; simp, (by repeat (first | with_reducible exact Below.refl _ _ | with_reducible refine B_ext ?_ _ | with_reducible refine B_alloc ?_ _ | with_reducible refine Below.drew ?_ | with_reducible refine B_set ?_ _ _ _))⟩
        · have hstep := hid (show incr (-1) hs = incr d (hs.drop 1) by
            rw [hinv2]
            have := vdB_true hvd
            have h : (-1 : Int) < d := by omega
            simp [incr, hvd, h])
          clear hinv2 hcell
          go_wp2_with (first | ((with_reducible refine wp_region_ext2 ?_ ?_ ?_); (kernel_rfl); (kernel_rfl)) | ((with_reducible refine wp_region_ext ?_ ?_ ?_); (kernel_rfl); (kernel_rfl)) | go_big_quiet_step (first | (go_at_call 68; exact quiet_of_ret (c_ref06_day _ _))) | ((with_reducible refine wpQuiet_nil ?_); intro x1) | (go_at_call 68; refine (c_ref06_day _ _).mono ?_; intro e w' hh; first | obtain ⟨rfl, yw, rfl⟩ := Ret.ext2 hh | obtain ⟨rfl, yw, rfl⟩ := Ret.ext hh))
          go_roundw
          case rel => exact ⟨_, rfl, 1, by omega, by go_num, by rw [if_neg (by omega)]; show _ = _; rw [hgd.out]; exact hstep.out⟩
          case measure => simp [intOf]; omega
      · have hc2 := hcell (k - 1) (by omega)
        have hgp : hs.getD (k - 1) 0 = hs[k - 1] := by simp [show k - 1 < hs.length by omega]
        rw [if_neg hk0, hgp] at hinv2
        generalize hs[k] = d at hc1 hgd hinv2
        generalize hs[k - 1] = e at hc2 hinv2
        clear hcell hgp
        replace hgd := hid hgd
        have hpos : 0 < k := by omega
        cases hvd : vdB d
        · have hstep := hid (show incr (-1) hs = false by rw [hinv2]; simp [incr, hvd])
          clear hinv2
          go_wp2_with (first | ((with_reducible refine wp_region_ext2 ?_ ?_ ?_); (kernel_rfl); (kernel_rfl)) | ((with_reducible refine wp_region_ext ?_ ?_ ?_); (kernel_rfl); (kernel_rfl)) | go_big_quiet_step (first | (go_at_call 68; exact quiet_of_ret (c_ref06_day _ _))) | ((with_reducible refine wpQuiet_nil ?_); intro x1) | (go_at_call 68; refine (c_ref06_day _ _).mono ?_; intro e w' hh; first | obtain ⟨rfl, yw, rfl⟩ := Ret.ext2 hh | obtain ⟨rfl, yw, rfl⟩ := Ret.ext hh))
          go_ret
          exact ⟨by rw [hr.out, hstep.out]; simp, (by repeat (first | with_reducible exact Below.refl _ _ | with_reducible refine B_ext ?_ _ | with_reducible refine B_alloc ?_ _ | with_reducible refine Below.drew ?_ | with_reducible refine B_set ?_ _ _ _))⟩
        by_cases hde : d ≤ e
        · have hstep := hid (show incr (-1) hs = false by
            rw [hinv2]
            have h : ¬ e < d := by omega
            simp [incr, h])
          clear hinv2
          go_wp2_with (first | ((with_reducible refine wp_region_ext2 ?_ ?_ ?_); (kernel_rfl); (kernel_rfl)) | ((with_reducible refine wp_region_ext ?_ ?_ ?_); (kernel_rfl); (kernel_rfl)) | go_big_quiet_step (first | (go_at_call 68; exact quiet_of_ret (c_ref06_day _ _))) | ((with_reducible refine wpQuiet_nil ?_); intro x1) | (go_at_call 68; refine (c_ref06_day _ _).mono ?_; intro e w' hh; first | obtain ⟨rfl, yw, rfl⟩ := Ret.ext2 hh | obtain ⟨rfl, yw, rfl⟩ := Ret.ext hh))
          go_ret
          exact ⟨by rw [hr.out, hstep.out]; simp, (by repeat (first | with_reducible exact Below.refl _ _ | with_reducible refine B_ext ?_ _ | with_reducible refine B_alloc ?_ _ | with_reducible refine Below.drew ?_ | with_reducible refine B_set ?_ _ _ _))⟩
        · have hstep := hid (show incr (-1) hs = incr d (hs.drop (k + 1)) by
            rw [hinv2]
            have h : e < d := by omega
            simp [incr, hvd, h])
          clear hinv2
          go_wp2_with (first | ((with_reducible refine wp_region_ext2 ?_ ?_ ?_); (kernel_rfl); (kernel_rfl)) | ((with_reducible refine wp_region_ext ?_ ?_ ?_); (kernel_rfl); (kernel_rfl)) | go_big_quiet_step (first | (go_at_call 68; exact quiet_of_ret (c_ref06_day _ _))) | ((with_reducible refine wpQuiet_nil ?_); intro x1) | (go_at_call 68; refine (c_ref06_day _ _).mono ?_; intro e w' hh; first | obtain ⟨rfl, yw, rfl⟩ := Ret.ext2 hh | obtain ⟨rfl, yw, rfl⟩ := Ret.ext hh))
          go_roundw
          case rel => exact ⟨_, rfl, k + 1, by omega, by go_num, by rw [if_neg (by omega)]; show _ = _; rw [show k + 1 - 1 = k from rfl, hgd.out]; exact hstep.out⟩
          case measure => simp [intOf]; omega
    · have hstep := hid (show incr (-1) hs = true by
        rw [hinv.out, List.drop_of_length_le (by omega)]; simp [incr])
      clear hinv
      go_wp2_with (first | ((with_reducible refine wp_region_ext2 ?_ ?_ ?_); (kernel_rfl); (kernel_rfl)) | ((with_reducible refine wp_region_ext ?_ ?_ ?_); (kernel_rfl); (kernel_rfl)) | go_big_quiet_step (fail) | ((with_reducible refine wpQuiet_nil ?_); intro x1))
      go_ret
      exact ⟨by rw [hr.out, hstep.out]; simp, (by repeat (first | with_reducible exact Below.refl _ _ | with_reducible refine B_ext ?_ _ | with_reducible refine B_alloc ?_ _ | with_reducible refine Below.drew ?_ | with_reducible refine B_set ?_ _ _ _))⟩


/-! IsWorkday -/
theorem c_workday_IsWorkday (we : Int) (v : Value) (hs : List Int) (d : Int) (w : World) (h : Ints w v hs) :
    Calls Tryd.prog 52 #[.agg #[.int .i64 we, v], .int .i64 d] w (Ret (.bool (isWkB we hs d)) w) := by
  cases hok : calOk we hs
  · have hr := hid (show isWkB we hs d = false by simp [isWkB, hok])
    go_enter Tryd.func52, Tryd.ntmps52
    go_wp2_with (first | ((with_reducible refine wp_region_ext2 ?_ ?_ ?_); (kernel_rfl); (kernel_rfl)) | ((with_reducible refine wp_region_ext ?_ ?_ ?_); (kernel_rfl); (kernel_rfl)) | go_big_quiet_step (first | (go_at_call 51; exact quiet_of_ret (c_workday_Valid _ _ hs _ (by first | with_reducible assumption | exact Ints.below (by assumption) (by repeat (first | with_reducible exact Below.refl _ _ | with_reducible refine B_ext ?_ _ | with_reducible refine B_alloc ?_ _ | with_reducible refine Below.drew ?_ | with_reducible refine B_set ?_ _ _ _))))) | (go_at_call 66; exact quiet_of_ret (c_workday_validDate _ _))) | ((with_reducible refine wpQuiet_nil ?_); intro x1) | (go_at_call 51; refine (c_workday_Valid _ _ hs _ (by first | with_reducible assumption | exact Ints.below (by assumption) (by repeat (first | with_reducible exact Below.refl _ _ | with_reducible refine B_ext ?_ _ | with_reducible refine B_alloc ?_ _ | with_reducible refine Below.drew ?_ | with_reducible refine B_set ?_ _ _ _)))).mono ?_; intro e w' hh; first | obtain ⟨rfl, yw, rfl⟩ := Ret.ext2 hh | obtain ⟨rfl, yw, rfl⟩ := Ret.ext hh) | (go_at_call 66; refine (c_workday_validDate _ _).mono ?_; intro e w' hh; first | obtain ⟨rfl, yw, rfl⟩ := Ret.ext2 hh | obtain ⟨rfl, yw, rfl⟩ := Ret.ext hh))
    go_ret
    exact ⟨by rw [hr.out]; simp, (by repeat (first | with_reducible exact Below.refl _ _ | with_reducible refine B_ext ?_ _ | with_reducible refine B_alloc ?_ _ | with_reducible refine Below.drew ?_ | with_reducible refine B_set ?_ _ _ _))⟩
  cases hd : vdB d
  · have hr := hid (show isWkB we hs d = false by simp [isWkB, hd])
    go_enter Tryd.func52, Tryd.ntmps52
    go_wp2_with (first | ((with_reducible refine wp_region_ext2 ?_ ?_ ?_); (kernel_rfl); (kernel_rfl)) | ((with_reducible refine wp_region_ext ?_ ?_ ?_); (kernel_rfl); (kernel_rfl)) | go_big_quiet_step (first | (go_at_call 51; exact quiet_of_ret (c_workday_Valid _ _ hs _ (by first | with_reducible assumption | exact Ints.below (by assumption) (by repeat (first | with_reducible exact Below.refl _ _ | with_reducible refine B_ext ?_ _ | with_reducible refine B_alloc ?_ _ | with_reducible refine Below.drew ?_ | with_reducible refine B_set ?_ _ _ _))))) | (go_at_call 66; exact quiet_of_ret (c_workday_validDate _ _))) | ((with_reducible refine wpQuiet_nil ?_); intro x1) | (go_at_call 51; refine (c_workday_Valid _ _ hs _ (by first | with_reducible assumption | exact Ints.below (by assumption) (by repeat (first | with_reducible exact Below.refl _ _ | with_reducible refine B_ext ?_ _ | with_reducible refine B_alloc ?_ _ | with_reducible refine Below.drew ?_ | with_reducible refine B_set ?_ _ _ _)))).mono ?_; intro e w' hh; first | obtain ⟨rfl, yw, rfl⟩ := Ret.ext2 hh | obtain ⟨rfl, yw, rfl⟩ := Ret.ext hh) | (go_at_call 66; refine (c_workday_validDate _ _).mono ?_; intro e w' hh; first | obtain ⟨rfl, yw, rfl⟩ := Ret.ext2 hh | obtain ⟨rfl, yw, rfl⟩ := Ret.ext hh))
    go_ret
    exact ⟨by rw [hr.out]; simp, (by repeat (first | with_reducible exact Below.refl _ _ | with_reducible refine B_ext ?_ _ | with_reducible refine B_alloc ?_ _ | with_reducible refine Below.drew ?_ | with_reducible refine B_set ?_ _ _ _))⟩
  have hr := hid (show isWkB we hs d = wkB we hs d by simp [isWkB, hok, hd])
  go_enter Tryd.func52, Tryd.ntmps52
  go_wp2_with (first | ((with_reducible refine wp_region_ext2 ?_ ?_ ?_); (kernel_rfl); (kernel_rfl)) | ((with_reducible refine wp_region_ext ?_ ?_ ?_); (kernel_rfl); (kernel_rfl)) | go_big_quiet_step (first | (go_at_call 51; exact quiet_of_ret (c_workday_Valid _ _ hs _ (by first | with_reducible assumption | exact Ints.below (by assumption) (by repeat (first | with_reducible exact Below.refl _ _ | with_reducible refine B_ext ?_ _ | with_reducible refine B_alloc ?_ _ | with_reducible refine Below.drew ?_ | with_reducible refine B_set ?_ _ _ _))))) | (go_at_call 66; exact quiet_of_ret (c_workday_validDate _ _)) | (go_at_call 67; exact quiet_of_ret (c_works _ _ hs _ _ (by first | with_reducible assumption | exact Ints.below (by assumption) (by repeat (first | with_reducible exact Below.refl _ _ | with_reducible refine B_ext ?_ _ | with_reducible refine B_alloc ?_ _ | with_reducible refine Below.drew ?_ | with_reducible refine B_set ?_ _ _ _))) hok hd))) | ((with_reducible refine wpQuiet_nil ?_); intro x1) | (go_at_call 51; refine (c_workday_Valid _ _ hs _ (by first | with_reducible assumption | exact Ints.below (by assumption) (by repeat (first | with_reducible exact Below.refl _ _ | with_reducible refine B_ext ?_ _ | with_reducible refine B_alloc ?_ _ | with_reducible refine Below.drew ?_ | with_reducible refine B_set ?_ _ _ _)))).mono ?_; intro e w' hh; first | obtain ⟨rfl, yw, rfl⟩ := Ret.ext2 hh | obtain ⟨rfl, yw, rfl⟩ := Ret.ext hh) | (go_at_call 66; refine (c_workday_validDate _ _).mono ?_; intro e w' hh; first | obtain ⟨rfl, yw, rfl⟩ := Ret.ext2 hh | obtain ⟨rfl, yw, rfl⟩ := Ret.ext hh) | (go_at_call 67; refine (c_works _ _ hs _ _ (by first | with_reducible assumption | exact Ints.below (by assumption) (by repeat (first | with_reducible exact Below.refl _ _ | with_reducible refine B_ext ?_ _ | with_reducible refine B_alloc ?_ _ | with_reducible refine Below.drew ?_ | with_reducible refine B_set ?_ _ _ _))) hok hd).mono ?_; intro e w' hh; first | obtain ⟨rfl, yw, rfl⟩ := Ret.ext2 hh | obtain ⟨rfl, yw, rfl⟩ := Ret.ext hh))
  go_ret
  exact ⟨by rw [hr.out]; simp, (by repeat (first | with_reducible exact Below.refl _ _ | with_reducible refine B_ext ?_ _ | with_reducible refine B_alloc ?_ _ | with_reducible refine Below.drew ?_ | with_reducible refine B_set ?_ _ _ _))⟩

set_option maxHeartbeats 1000000 in
theorem c_ref06_IsWorkday (we : Int) (v : Value) (hs : List Int) (d : Int) (w : World) (h : Ints w v hs) :
    Calls Tryd.prog 54 #[.agg #[.int .i64 we, v], .int .i64 d] w (Ret (.bool (isWkB we hs d)) w) := by
  cases hok : calOk we hs
  · have hr := hid (show isWkB we hs d = false by simp [isWkB, hok])
    go_enter Tryd.func54, Tryd.ntmps54
    go_wp2_with (first | ((with_reducible refine wp_region_ext2 ?_ ?_ ?_); (kernel_rfl); (kernel_rfl)) | ((with_reducible refine wp_region_ext ?_ ?_ ?_); (kernel_rfl); (kernel_rfl)) | go_big_quiet_step (first | (go_at_call 53; exact quiet_of_ret (c_ref06_Valid _ _ hs _ (by first | with_reducible assumption | exact Ints.below (by assumption) (by repeat (first | with_reducible exact Below.refl _ _ | with_reducible refine B_ext ?_ _ | with_reducible refine B_alloc ?_ _ | with_reducible refine Below.drew ?_ | with_reducible refine B_set ?_ _ _ _))))) | (go_at_call 68; exact quiet_of_ret (c_ref06_day _ _))) | ((with_reducible refine wpQuiet_nil ?_); intro x1) | (go_at_call 53; refine (c_ref06_Valid _ _ hs _ (by first | with_reducible assumption | exact Ints.below (by assumption) (by repeat (first | with_reducible exact Below.refl _ _ | with_reducible refine B_ext ?_ _ | with_reducible refine B_alloc ?_ _ | with_reducible refine Below.drew ?_ | with_reducible refine B_set ?_ _ _ _)))).mono ?_; intro e w' hh; first | obtain ⟨rfl, yw, rfl⟩ := Ret.ext2 hh | obtain ⟨rfl, yw, rfl⟩ := Ret.ext hh) | (go_at_call 68; refine (c_ref06_day _ _).mono ?_; intro e w' hh; first | obtain ⟨rfl, yw, rfl⟩ := Ret.ext2 hh | obtain ⟨rfl, yw, rfl⟩ := Ret.ext hh))
    go_ret
    exact ⟨by rw [hr.out]; simp, (by repeat (first | with_reducible exact Below.refl _ _ | with_reducible refine B_ext ?_ _ | with_reducible refine B_alloc ?_ _ | with_reducible refine Below.drew ?_ | with_reducible refine B_set ?_ _ _ _))⟩
  cases hd : vdB d
  · have hr := hid (show isWkB we hs d = false by simp [isWkB, hd])
    go_enter Tryd.func54, Tryd.ntmps54
    go_wp2_with (first | ((with_reducible refine wp_region_ext2 ?_ ?_ ?_); (kernel_rfl); (kernel_rfl)) | ((with_reducible refine wp_region_ext ?_ ?_ ?_); (kernel_rfl); (kernel_rfl)) | go_big_quiet_step (first | (go_at_call 53; exact quiet_of_ret (c_ref06_Valid _ _ hs _ (by first | with_reducible assumption | exact Ints.below (by assumption) (by repeat (first | with_reducible exact Below.refl _ _ | with_reducible refine B_ext ?_ _ | with_reducible refine B_alloc ?_ _ | with_reducible refine Below.drew ?_ | with_reducible refine B_set ?_ _ _ _))))) | (go_at_call 68; exact quiet_of_ret (c_ref06_day _ _))) | ((with_reducible refine wpQuiet_nil ?_); intro x1) | (go_at_call 53; refine (c_ref06_Valid _ _ hs _ (by first | with_reducible assumption | exact Ints.below (by assumption) (by repeat (first | with_reducible exact Below.refl _ _ | with_reducible refine B_ext ?_ _ | with_reducible refine B_alloc ?_ _ | with_reducible refine Below.drew ?_ | with_reducible refine B_set ?_ _ _ _)))).mono ?_; intro e w' hh; first | obtain ⟨rfl, yw, rfl⟩ := Ret.ext2 hh | obtain ⟨rfl, yw, rfl⟩ := Ret.ext hh) | (go_at_call 68; refine (c_ref06_day _ _).mono ?_; intro e w' hh; first | obtain ⟨rfl, yw, rfl⟩ := Ret.ext2 hh | obtain ⟨rfl, yw, rfl⟩ := Ret.ext hh))
    go_ret
    exact ⟨by rw [hr.out]; simp, (by repeat (first | with_reducible exact Below.refl _ _ | with_reducible refine B_ext ?_ _ | with_reducible refine B_alloc ?_ _ | with_reducible refine Below.drew ?_ | with_reducible refine B_set ?_ _ _ _))⟩
  have hr := hid (show isWkB we hs d = wkB we hs d by simp [isWkB, hok, hd])
  have hin := h
  obtain ⟨a, c, rfl, hlc, hcm, hop⟩ := h.opn
  have hlen : hs.length ≤ 9223372036854775807 := by omega
  clear hlc hcm
  obtain ⟨h0, h1, -, -⟩ := calOk_true hok
  obtain ⟨d1, d2⟩ := vdB_true hd
  go_enter Tryd.func54, Tryd.ntmps54
  go_wp2_with (first | ((with_reducible refine wp_region_ext2 ?_ ?_ ?_); (kernel_rfl); (kernel_rfl)) | ((with_reducible refine wp_region_ext ?_ ?_ ?_); (kernel_rfl); (kernel_rfl)) | go_big_quiet_step (first | (go_at_call 53; exact quiet_of_ret (c_ref06_Valid _ _ hs _ (by first | with_reducible assumption | exact Ints.below (by assumption) (by repeat (first | with_reducible exact Below.refl _ _ | with_reducible refine B_ext ?_ _ | with_reducible refine B_alloc ?_ _ | with_reducible refine Below.drew ?_ | with_reducible refine B_set ?_ _ _ _))))) | (go_at_call 68; exact quiet_of_ret (c_ref06_day _ _))) | ((with_reducible refine wpQuiet_nil ?_); intro x1) | (go_at_call 53; refine (c_ref06_Valid _ _ hs _ (by first | with_reducible assumption | exact Ints.below (by assumption) (by repeat (first | with_reducible exact Below.refl _ _ | with_reducible refine B_ext ?_ _ | with_reducible refine B_alloc ?_ _ | with_reducible refine Below.drew ?_ | with_reducible refine B_set ?_ _ _ _)))).mono ?_; intro e w' hh; first | obtain ⟨rfl, yw, rfl⟩ := Ret.ext2 hh | obtain ⟨rfl, yw, rfl⟩ := Ret.ext hh) | (go_at_call 68; refine (c_ref06_day _ _).mono ?_; intro e w' hh; first | obtain ⟨rfl, yw, rfl⟩ := Ret.ext2 hh | obtain ⟨rfl, yw, rfl⟩ := Ret.ext hh))
  clear hin h
  go_loopw [5] (fun i wr => ∃ x, wr = ext (w.alloc (Obj.cells #[Value.int IntKind.i64 we, Value.slice a hs.length c] 33)) x ∧ ∃ (k : Nat), k ≤ hs.length ∧ i = .int .i64 k ∧ Hid (d ∈ hs ↔ d ∈ hs.drop k)) (fun i _ => hs.length - (intOf i).toNat)
  case atStart => exact ⟨_, rfl, 0, Nat.zero_le _, rfl, by simp [Hid]⟩
  case round =>
    obtain ⟨x, rfl, k, hk, rfl, hinv⟩ := hrel
    by_cases hlt : k < hs.length
    · obtain ⟨b, off, rfl, hb, hcell⟩ := hop (by omega)
      replace hcell := hcell _ hlt
      have hdrop : hs.drop k = hs[k] :: hs.drop (k+1) := List.drop_eq_getElem_cons hlt
      generalize hs[k] = y0 at hcell hdrop
      clear hop
      by_cases he : y0 = d
      · have hstep := hid (show wkB we hs d = false by
          have : d ∈ hs := hinv.out.2 (by rw [hdrop]; simp [he])
          simp [wkB, this])
        clear hinv hdrop
        have he2 : (y0 == d) = true := by simpa using he
        replace he := hid he
        go_wp2_with (first | ((with_reducible refine wp_region_ext2 ?_ ?_ ?_); (kernel_rfl); (kernel_rfl)) | ((with_reducible refine wp_region_ext ?_ ?_ ?_); (kernel_rfl); (kernel_rfl)) | go_big_quiet_step (fail) | ((with_reducible refine wpQuiet_nil ?_); intro x1))
        go_ret
        exact ⟨by rw [hr.out, hstep.out]; simp, (by repeat (first | with_reducible exact Below.refl _ _ | with_reducible refine B_ext ?_ _ | with_reducible refine B_alloc ?_ _ | with_reducible refine Below.drew ?_ | with_reducible refine B_set ?_ _ _ _))⟩
      · have hstep := hid (show d ∈ hs ↔ d ∈ hs.drop (k+1) by
          rw [hinv.out, hdrop]; simp; intro h; exact absurd h.symm he)
        clear hinv hdrop
        have he2 : (y0 == d) = false := by simpa using he
        replace he := hid he
        go_wp2_with (first | ((with_reducible refine wp_region_ext2 ?_ ?_ ?_); (kernel_rfl); (kernel_rfl)) | ((with_reducible refine wp_region_ext ?_ ?_ ?_); (kernel_rfl); (kernel_rfl)) | go_big_quiet_step (fail) | ((with_reducible refine wpQuiet_nil ?_); intro x1))
        go_roundw
        case rel => exact ⟨_, rfl, k + 1, by omega, by go_num, hstep⟩
        case measure => simp [intOf]; omega
    · have hmem := hid (show d ∉ hs by rw [hinv.out, List.drop_of_length_le (by omega)]; simp)
      clear hinv hop
      go_wp2_with (first | ((with_reducible refine wp_region_ext2 ?_ ?_ ?_); (kernel_rfl); (kernel_rfl)) | ((with_reducible refine wp_region_ext ?_ ?_ ?_); (kernel_rfl); (kernel_rfl)) | go_big_quiet_step (fail) | ((with_reducible refine wpQuiet_nil ?_); intro x1))
      go_loopw [6, 7] (fun b i wr => ∃ x, wr = ext (w.alloc (Obj.cells #[Value.int IntKind.i64 we, Value.slice a hs.length c] 33)) x ∧ ∃ (j : Nat), (j : Int) ≤ d % 7 ∧ i = .int .i64 j ∧ b = .int .i64 (we / 2 ^ j)) (fun _ i _ => (d % 7 - intOf i).toNat)
      case atStart => exact ⟨_, rfl, 0, by omega, rfl, by simp⟩
      case round =>
        obtain ⟨x, rfl, j, hj, rfl, rfl⟩ := hrel
        obtain ⟨s1, s2⟩ := shr_bd j h0 h1
        have hpow := hid (show we / 2 ^ (j+1) = we / 2 ^ j / 2 by rw [Int.pow_succ, Int.ediv_ediv_of_nonneg (by exact_mod_cast Nat.le_of_lt (Nat.two_pow_pos j))])
        generalize hgb : we / 2 ^ j = bt at *
        replace hgb := hid hgb
        by_cases hlt2 : (j : Int) < d % 7
        · go_wp2_with (first | ((with_reducible refine wp_region_ext2 ?_ ?_ ?_); (kernel_rfl); (kernel_rfl)) | ((with_reducible refine wp_region_ext ?_ ?_ ?_); (kernel_rfl); (kernel_rfl)) | go_big_quiet_step (fail) | ((with_reducible refine wpQuiet_nil ?_); intro x1))
          go_roundw
          case rel => exact ⟨_, rfl, j + 1, by omega, by go_num, by rw [hpow.out]⟩
          case measure => simp [intOf]; omega
        · have hje := hid (show (d % 7).toNat = j by omega)
          by_cases hz : bt % 2 = 0
          · have hfin := hid (show wkB we hs d = true by simp [wkB, hmem.out, hje.out, hgb.out, hz])
            have hz2 : (bt % 2 == 0) = true := by simpa using hz
            replace hz := hid hz
            go_wp2_with (first | ((with_reducible refine wp_region_ext2 ?_ ?_ ?_); (kernel_rfl); (kernel_rfl)) | ((with_reducible refine wp_region_ext ?_ ?_ ?_); (kernel_rfl); (kernel_rfl)) | go_big_quiet_step (fail) | ((with_reducible refine wpQuiet_nil ?_); intro x1))
            go_ret
            exact ⟨by rw [hr.out, hfin.out]; simp, (by repeat (first | with_reducible exact Below.refl _ _ | with_reducible refine B_ext ?_ _ | with_reducible refine B_alloc ?_ _ | with_reducible refine Below.drew ?_ | with_reducible refine B_set ?_ _ _ _))⟩
          · have hfin := hid (show wkB we hs d = false by simp [wkB, hmem.out, hje.out, hgb.out, hz])
            have hz2 : (bt % 2 == 0) = false := by simpa using hz
            replace hz := hid hz
            go_wp2_with (first | ((with_reducible refine wp_region_ext2 ?_ ?_ ?_); (kernel_rfl); (kernel_rfl)) | ((with_reducible refine wp_region_ext ?_ ?_ ?_); (kernel_rfl); (kernel_rfl)) | go_big_quiet_step (fail) | ((with_reducible refine wpQuiet_nil ?_); intro x1))
            go_ret
            exact ⟨by rw [hr.out, hfin.out]; simp, (by repeat (first | with_reducible exact Below.refl _ _ | with_reducible refine B_ext ?_ _ | with_reducible refine B_alloc ?_ _ | with_reducible refine Below.drew ?_ | with_reducible refine B_set ?_ _ _ _))⟩


/-! Next, Add, Count -/
theorem c_ref05_Valid (a b : Int) (w : World) : Calls Tryd.prog 50 #[.agg #[.int .i64 a, .int .i64 b]] w (Ret (.bool (rngB a b)) w) := by
  unfold rngB
  cases h1 : decide (0 ≤ a) <;> cases h2 : decide (a ≤ b) <;> cases h3 : decide (b ≤ 109573) <;> simp only [Bool.and_true, Bool.and_false]
  all_goals
    go_enter Tryd.func50, Tryd.ntmps50
    go_wp2_with (first | ((with_reducible refine wp_region_ext2 ?_ ?_ ?_); (kernel_rfl); (kernel_rfl)) | ((with_reducible refine wp_region_ext ?_ ?_ ?_); (kernel_rfl); (kernel_rfl)) | go_big_quiet_step (fail) | ((with_reducible refine wpQuiet_nil ?_); intro x1))
    all_goals go_ret
    all_goals exact ⟨by simp, (by repeat (first | with_reducible exact Below.refl _ _ | with_reducible refine B_ext ?_ _ | with_reducible refine B_alloc ?_ _ | with_reducible refine Below.drew ?_ | with_reducible refine B_set ?_ _ _ _))⟩

end Go.Proofs.YtfhlignhdnhmlaaDoor
