/- Walks: the functions of packages workday and guerdonref06. -/
import Derived.Test.YthalkfjbgldgbaaRows
import Derived.Test.YthalkfjbgldgbaaLib
import Derived.Test.YthalkfjbgldgbaaWork
set_option linter.unusedSimpArgs false
set_option linter.unusedVariables false
namespace Go.Proofs.Ythalkfjbgldgbaa
open Go.RowKit
attribute [local irreducible] Calls

theorem c_workday_validDate (d : Int) (w : World) : Calls Try.prog 32 #[.int .i64 d] w (Ret (.bool (vdB d)) w) := by
  unfold vdB
  go_enter Try.func32, Try.ntmps32
  go_wp2
  all_goals go_ret
  all_goals (refine ⟨?_, Below.refl _ _⟩; simp_all <;> omega)
theorem c_ref06_day (d : Int) (w : World) : Calls Try.prog 34 #[.int .i64 d] w (Ret (.bool (vdB d)) w) := by
  unfold vdB
  go_enter Try.func34, Try.ntmps34
  go_wp2
  all_goals go_ret
  all_goals (refine ⟨?_, Below.refl _ _⟩; simp_all <;> omega)
theorem c_date_valid (d : Int) (w : World) : Calls Try.prog 47 #[.int .i64 d] w (Ret (.bool (vdB d)) w) := by
  unfold vdB
  go_enter Try.func47, Try.ntmps47
  go_wp2
  all_goals go_ret
  all_goals (refine ⟨?_, Below.refl _ _⟩; simp_all <;> omega)
theorem c_date_Weekday (d : Int) (hv : vdB d = true) (w : World) : Calls Try.prog 45 #[.int .i64 d] w (Ret (.int .i64 (d % 7)) w) := by
  obtain ⟨h1, h2⟩ := vdB_true hv
  go_enter Try.func45, Try.ntmps45
  go_wp2_with (first | ((with_reducible refine wp_region_ext2 ?_ ?_ ?_); (kernel_rfl); (kernel_rfl)) | ((with_reducible refine wp_region_ext ?_ ?_ ?_); (kernel_rfl); (kernel_rfl)) | go_big_quiet_step (first | (go_at_call 47; exact quiet_of_ret (c_date_valid _ _))) | ((with_reducible refine wpQuiet_nil ?_); intro x1) | (go_at_call 47; refine (c_date_valid _ _).mono ?_; intro e w' hh; first | obtain ⟨rfl, y, rfl⟩ := Ret.ext2 hh | obtain ⟨rfl, y, rfl⟩ := Ret.ext hh))
  go_ret
  exact ⟨by simp, (by repeat (first | with_reducible exact Below.refl _ _ | with_reducible refine B_ext ?_ _ | with_reducible refine B_alloc ?_ _ | with_reducible refine Below.drew ?_ | with_reducible refine B_set ?_ _ _ _))⟩
theorem c_daterange_Valid (a b : Int) (w : World) : Calls Try.prog 35 #[.agg #[.int .i64 a, .int .i64 b]] w (Ret (.bool (rngB a b)) w) := by
  unfold rngB
  cases h1 : decide (0 ≤ a) <;> cases h2 : decide (a ≤ b) <;> cases h3 : decide (b ≤ 109573) <;> simp only [Bool.and_true, Bool.and_false]
  all_goals
    go_enter Try.func35, Try.ntmps35
    go_wp2_with (first | ((with_reducible refine wp_region_ext2 ?_ ?_ ?_); (kernel_rfl); (kernel_rfl)) | ((with_reducible refine wp_region_ext ?_ ?_ ?_); (kernel_rfl); (kernel_rfl)) | go_big_quiet_step (fail) | ((with_reducible refine wpQuiet_nil ?_); intro x1))
    all_goals go_ret
    all_goals exact ⟨by simp, (by repeat (first | with_reducible exact Below.refl _ _ | with_reducible refine B_ext ?_ _ | with_reducible refine B_alloc ?_ _ | with_reducible refine Below.drew ?_ | with_reducible refine B_set ?_ _ _ _))⟩

/-! slices.BinarySearch over []int -/
theorem c_cmp_isNaN (d : Int) (w : World) : Calls Try.prog 50 #[.int .i64 d] w (Ret (.bool false) w) := by
  go_enter Try.func50, Try.ntmps50
  go_wp2_with (first | ((with_reducible refine wp_region_ext2 ?_ ?_ ?_); (kernel_rfl); (kernel_rfl)) | ((with_reducible refine wp_region_ext ?_ ?_ ?_); (kernel_rfl); (kernel_rfl)) | go_big_quiet_step (fail) | ((with_reducible refine wpQuiet_nil ?_); intro x1))
  go_ret
  exact ⟨by simp, (by repeat (first | with_reducible exact Below.refl _ _ | with_reducible refine B_ext ?_ _ | with_reducible refine B_alloc ?_ _ | with_reducible refine Below.drew ?_ | with_reducible refine B_set ?_ _ _ _))⟩
theorem c_slices_isNaN (d : Int) (w : World) : Calls Try.prog 49 #[.int .i64 d] w (Ret (.bool false) w) := by
  go_enter Try.func49, Try.ntmps49
  go_wp2_with (first | ((with_reducible refine wp_region_ext2 ?_ ?_ ?_); (kernel_rfl); (kernel_rfl)) | ((with_reducible refine wp_region_ext ?_ ?_ ?_); (kernel_rfl); (kernel_rfl)) | go_big_quiet_step (fail) | ((with_reducible refine wpQuiet_nil ?_); intro x1))
  go_ret
  exact ⟨by simp, (by repeat (first | with_reducible exact Below.refl _ _ | with_reducible refine B_ext ?_ _ | with_reducible refine B_alloc ?_ _ | with_reducible refine Below.drew ?_ | with_reducible refine B_set ?_ _ _ _))⟩
theorem c_cmp_Less (a b : Int) (w : World) : Calls Try.prog 48 #[.int .i64 a, .int .i64 b] w (Ret (.bool (decide (a < b))) w) := by
  go_enter Try.func48, Try.ntmps48
  go_wp2_with (first | ((with_reducible refine wp_region_ext2 ?_ ?_ ?_); (kernel_rfl); (kernel_rfl)) | ((with_reducible refine wp_region_ext ?_ ?_ ?_); (kernel_rfl); (kernel_rfl)) | go_big_quiet_step (first | (go_at_call 50; exact quiet_of_ret (c_cmp_isNaN _ _))) | ((with_reducible refine wpQuiet_nil ?_); intro x1) | (go_at_call 50; refine (c_cmp_isNaN _ _).mono ?_; intro e w' hh; first | obtain ⟨rfl, y, rfl⟩ := Ret.ext2 hh | obtain ⟨rfl, y, rfl⟩ := Ret.ext hh))
  go_ret
  exact ⟨by simp, (by repeat (first | with_reducible exact Below.refl _ _ | with_reducible refine B_ext ?_ _ | with_reducible refine B_alloc ?_ _ | with_reducible refine Below.drew ?_ | with_reducible refine B_set ?_ _ _ _))⟩


theorem getD_lt {hs : List Int} {k : Nat} (h : k < hs.length) : ∃ d, hs[k]? = some d := ⟨_, List.getElem?_eq_getElem h⟩

set_option maxHeartbeats 1000000 in
theorem c_BinarySearch (v : Value) (hs : List Int) (d : Int) (w : World) (h : Ints w v hs) (hp : hs.Pairwise (· < ·)) (hlen : hs.length ≤ 1000000) :
    Calls Try.prog 46 #[v, .int .i64 d] w (Ret (.tuple #[.int .i64 (hs.countP (· < d)), .bool (decide (d ∈ hs))]) w) := by
  obtain ⟨a, c, rfl, hlc, hcm, hop⟩ := h.opn
  clear hlc hcm
  replace hp := hid (List.pairwise_iff_getElem.1 hp)
  go_enter Try.func46, Try.ntmps46
  go_wp2_with (first | ((with_reducible refine wp_region_ext2 ?_ ?_ ?_); (kernel_rfl); (kernel_rfl)) | ((with_reducible refine wp_region_ext ?_ ?_ ?_); (kernel_rfl); (kernel_rfl)) | go_big_quiet_step (fail) | ((with_reducible refine wpQuiet_nil ?_); intro x1))
  go_loopw [7, 8] (fun lo hi wr => ∃ x, wr = ext w x ∧ ∃ l r : Nat, lo = .int .i64 l ∧ hi = .int .i64 r ∧ l ≤ r ∧ r ≤ hs.length ∧ Hid (∀ i (_ : i < hs.length), i < l → hs[i] < d) ∧ Hid (∀ i (_ : i < hs.length), r ≤ i → d ≤ hs[i])) (fun lo hi _ => ((intOf hi) - (intOf lo)).toNat)
  case atStart => exact ⟨_, ext_self _, 0, hs.length, rfl, rfl, by omega, by omega, fun _ _ h => by omega, fun _ h1 h2 => by omega⟩
  case round =>
    obtain ⟨x, rfl, l, r, rfl, rfl, hlr, hr, hL, hR⟩ := hrel
    by_cases hlt : l < r
    · have hm : (l + r) / 2 < hs.length := by omega
      obtain ⟨b, off, rfl, hb, hcell⟩ := hop (by omega)
      replace hcell := hcell _ hm
      generalize hy : hs[(l + r) / 2] = y0 at hcell
      replace hy := hid hy
      clear hop
      by_cases hyd : y0 < d
      · have hdd : decide (y0 < d) = true := by simpa using hyd
        go_wp2_with (first | ((with_reducible refine wp_region_ext2 ?_ ?_ ?_); (kernel_rfl); (kernel_rfl)) | ((with_reducible refine wp_region_ext ?_ ?_ ?_); (kernel_rfl); (kernel_rfl)) | go_big_quiet_step (first | (go_at_call 48; exact quiet_of_ret (c_cmp_Less _ _ _))) | ((with_reducible refine wpQuiet_nil ?_); intro x1) | (go_at_call 48; refine (c_cmp_Less _ _ _).mono ?_; intro e w' hh; first | obtain ⟨rfl, y, rfl⟩ := Ret.ext2 hh | obtain ⟨rfl, y, rfl⟩ := Ret.ext hh))
        go_roundw
        case rel =>
          refine ⟨_, rfl, (l + r) / 2 + 1, r, by go_num, rfl, by omega, hr, fun i hi hil => ?_, hR⟩
          by_cases e : i = (l + r) / 2
          · subst e; rw [hy.out]; exact hyd
          · have := hp.out i ((l + r) / 2) hi hm (by omega); rw [hy.out] at this; omega
        case measure => simp [intOf]; omega
      · have hdd : decide (y0 < d) = false := by simpa using hyd
        go_wp2_with (first | ((with_reducible refine wp_region_ext2 ?_ ?_ ?_); (kernel_rfl); (kernel_rfl)) | ((with_reducible refine wp_region_ext ?_ ?_ ?_); (kernel_rfl); (kernel_rfl)) | go_big_quiet_step (first | (go_at_call 48; exact quiet_of_ret (c_cmp_Less _ _ _))) | ((with_reducible refine wpQuiet_nil ?_); intro x1) | (go_at_call 48; refine (c_cmp_Less _ _ _).mono ?_; intro e w' hh; first | obtain ⟨rfl, y, rfl⟩ := Ret.ext2 hh | obtain ⟨rfl, y, rfl⟩ := Ret.ext hh))
        go_roundw
        case rel =>
          refine ⟨_, rfl, l, (l + r) / 2, rfl, by go_num, by omega, by omega, hL, fun i hi hil => ?_⟩
          by_cases e : i = (l + r) / 2
          · subst e; rw [hy.out]; omega
          · have := hp.out ((l + r) / 2) i hm hi (by omega); rw [hy.out] at this; omega
        case measure => simp [intOf]; omega
    · have e : l = r := by omega
      subst e
      have hcnt : hs.countP (· < d) = l := countP_split hr (fun i hi hil => by simpa using hL.out i hi hil) (fun i hi hil => by have := hR.out i hi hil; simp; omega)
      replace hcnt := hid hcnt
      by_cases hl : l < hs.length
      · obtain ⟨b, off, rfl, hb, hcell⟩ := hop (by omega)
        replace hcell := hcell _ hl
        generalize hy : hs[l] = y0 at hcell
        replace hy := hid hy
        clear hop
        by_cases hyd : y0 = d
        · have hmem : decide (d ∈ hs) = true := by simp; rw [← hyd, ← hy.out]; exact List.getElem_mem hl
          replace hmem := hid hmem
          have hyd2 : (y0 == d) = true := by simpa using hyd
          replace hyd := hid hyd
          go_wp2_with (first | ((with_reducible refine wp_region_ext2 ?_ ?_ ?_); (kernel_rfl); (kernel_rfl)) | ((with_reducible refine wp_region_ext ?_ ?_ ?_); (kernel_rfl); (kernel_rfl)) | go_big_quiet_step (first | (go_at_call 49; exact quiet_of_ret (c_slices_isNaN _ _))) | ((with_reducible refine wpQuiet_nil ?_); intro x1) | (go_at_call 49; refine (c_slices_isNaN _ _).mono ?_; intro e w' hh; first | obtain ⟨rfl, y, rfl⟩ := Ret.ext2 hh | obtain ⟨rfl, y, rfl⟩ := Ret.ext hh))
          go_ret2
          refine ⟨?_, (by repeat (first | with_reducible exact Below.refl _ _ | with_reducible refine B_ext ?_ _ | with_reducible refine B_alloc ?_ _ | with_reducible refine Below.drew ?_ | with_reducible refine B_set ?_ _ _ _))⟩
          rw [hcnt.out, hmem.out]; simp
        · have hmem : decide (d ∈ hs) = false := by
            simp only [decide_eq_false_iff_not]
            intro hm
            obtain ⟨i, hi, rfl⟩ := List.getElem_of_mem hm
            by_cases h1 : i < l
            · have := hL.out i hi h1; omega
            · by_cases h2 : i = l
              · subst h2; exact hyd hy.out.symm
              · have := hp.out l i hl hi (by omega); have := hR.out l hl (by omega); rw [hy.out] at *; omega
          replace hmem := hid hmem
          have hyd2 : (y0 == d) = false := by simpa using hyd
          replace hyd := hid hyd
          go_wp2_with (first | ((with_reducible refine wp_region_ext2 ?_ ?_ ?_); (kernel_rfl); (kernel_rfl)) | ((with_reducible refine wp_region_ext ?_ ?_ ?_); (kernel_rfl); (kernel_rfl)) | go_big_quiet_step (first | (go_at_call 49; exact quiet_of_ret (c_slices_isNaN _ _))) | ((with_reducible refine wpQuiet_nil ?_); intro x1) | (go_at_call 49; refine (c_slices_isNaN _ _).mono ?_; intro e w' hh; first | obtain ⟨rfl, y, rfl⟩ := Ret.ext2 hh | obtain ⟨rfl, y, rfl⟩ := Ret.ext hh))
          go_ret2
          refine ⟨?_, (by repeat (first | with_reducible exact Below.refl _ _ | with_reducible refine B_ext ?_ _ | with_reducible refine B_alloc ?_ _ | with_reducible refine Below.drew ?_ | with_reducible refine B_set ?_ _ _ _))⟩
          rw [hcnt.out, hmem.out]; simp
      · have hmem : decide (d ∈ hs) = false := by
          simp only [decide_eq_false_iff_not]
          intro hm
          obtain ⟨i, hi, rfl⟩ := List.getElem_of_mem hm
          have := hL.out i hi (by omega); omega
        replace hmem := hid hmem
        go_wp2_with (first | ((with_reducible refine wp_region_ext2 ?_ ?_ ?_); (kernel_rfl); (kernel_rfl)) | ((with_reducible refine wp_region_ext ?_ ?_ ?_); (kernel_rfl); (kernel_rfl)) | go_big_quiet_step (fail) | ((with_reducible refine wpQuiet_nil ?_); intro x1))
        go_ret2
        refine ⟨?_, (by repeat (first | with_reducible exact Below.refl _ _ | with_reducible refine B_ext ?_ _ | with_reducible refine B_alloc ?_ _ | with_reducible refine Below.drew ?_ | with_reducible refine B_set ?_ _ _ _))⟩
        rw [hcnt.out, hmem.out]; simp


/-! package workday -/
theorem wk_test {we d : Int} (h0 : 0 ≤ we) (h1 : we ≤ 126) : (bits .and .i64 (we / 2 ^ (d % 7).toNat) 1 == 1) = !decide (we / 2 ^ (d % 7).toNat % 2 = 0) := by
  have := shr_bd (d % 7).toNat h0 h1
  rw [bits_and_one this.1 (by omega)]
  by_cases h : we / 2 ^ (d % 7).toNat % 2 = 0
  · simp [h]
  · have : we / 2 ^ (d % 7).toNat % 2 = 1 := by omega
    simp [this]
theorem c_works (we : Int) (v : Value) (hs : List Int) (d : Int) (w : World) (h : Ints w v hs) (hok : calOk we hs = true) (hd : vdB d = true) :
    Calls Try.prog 33 #[.agg #[.int .i64 we, v], .int .i64 d] w (Ret (.bool (wkB we hs d)) w) := by
  obtain ⟨h0, h1, hlen, _⟩ := calOk_true hok
  obtain ⟨d1, d2⟩ := vdB_true hd
  have hp := hid (calOk_sorted hok)
  have e := wk_test (d := d) h0 h1
  replace hok := hid hok
  replace hd := hid hd
  cases hb : decide (we / 2 ^ (d % 7).toNat % 2 = 0)
  · have hw := hid (show wkB we hs d = false by simp [wkB, hb])
    rw [hb] at e
    clear hb
    go_enter Try.func33, Try.ntmps33
    go_wp2_with (first | ((with_reducible refine wp_region_ext2 ?_ ?_ ?_); (kernel_rfl); (kernel_rfl)) | ((with_reducible refine wp_region_ext ?_ ?_ ?_); (kernel_rfl); (kernel_rfl)) | go_big_quiet_step (first | (go_at_call 45; exact quiet_of_ret (c_date_Weekday _ hd.out _)) | (go_at_call 46; exact quiet_of_ret (c_BinarySearch _ hs _ _ (by first | with_reducible assumption | exact Ints.below (by assumption) (by repeat (first | with_reducible exact Below.refl _ _ | with_reducible refine B_ext ?_ _ | with_reducible refine B_alloc ?_ _ | with_reducible refine Below.drew ?_ | with_reducible refine B_set ?_ _ _ _))) hp.out (by omega)))) | ((with_reducible refine wpQuiet_nil ?_); intro x1) | (go_at_call 45; refine (c_date_Weekday _ hd.out _).mono ?_; intro e w' hh; first | obtain ⟨rfl, y, rfl⟩ := Ret.ext2 hh | obtain ⟨rfl, y, rfl⟩ := Ret.ext hh) | (go_at_call 46; refine (c_BinarySearch _ hs _ _ (by first | with_reducible assumption | exact Ints.below (by assumption) (by repeat (first | with_reducible exact Below.refl _ _ | with_reducible refine B_ext ?_ _ | with_reducible refine B_alloc ?_ _ | with_reducible refine Below.drew ?_ | with_reducible refine B_set ?_ _ _ _))) hp.out (by omega)).mono ?_; intro e w' hh; first | obtain ⟨rfl, y, rfl⟩ := Ret.ext2 hh | obtain ⟨rfl, y, rfl⟩ := Ret.ext hh))
    go_ret
    exact ⟨by rw [hw.out]; simp, (by repeat (first | with_reducible exact Below.refl _ _ | with_reducible refine B_ext ?_ _ | with_reducible refine B_alloc ?_ _ | with_reducible refine Below.drew ?_ | with_reducible refine B_set ?_ _ _ _))⟩
  · have hw := hid (show wkB we hs d = !decide (d ∈ hs) by simp [wkB, hb])
    rw [hb] at e
    clear hb
    go_enter Try.func33, Try.ntmps33
    go_wp2_with (first | ((with_reducible refine wp_region_ext2 ?_ ?_ ?_); (kernel_rfl); (kernel_rfl)) | ((with_reducible refine wp_region_ext ?_ ?_ ?_); (kernel_rfl); (kernel_rfl)) | go_big_quiet_step (first | (go_at_call 45; exact quiet_of_ret (c_date_Weekday _ hd.out _)) | (go_at_call 46; exact quiet_of_ret (c_BinarySearch _ hs _ _ (by first | with_reducible assumption | exact Ints.below (by assumption) (by repeat (first | with_reducible exact Below.refl _ _ | with_reducible refine B_ext ?_ _ | with_reducible refine B_alloc ?_ _ | with_reducible refine Below.drew ?_ | with_reducible refine B_set ?_ _ _ _))) hp.out (by omega)))) | ((with_reducible refine wpQuiet_nil ?_); intro x1) | (go_at_call 45; refine (c_date_Weekday _ hd.out _).mono ?_; intro e w' hh; first | obtain ⟨rfl, y, rfl⟩ := Ret.ext2 hh | obtain ⟨rfl, y, rfl⟩ := Ret.ext hh) | (go_at_call 46; refine (c_BinarySearch _ hs _ _ (by first | with_reducible assumption | exact Ints.below (by assumption) (by repeat (first | with_reducible exact Below.refl _ _ | with_reducible refine B_ext ?_ _ | with_reducible refine B_alloc ?_ _ | with_reducible refine Below.drew ?_ | with_reducible refine B_set ?_ _ _ _))) hp.out (by omega)).mono ?_; intro e w' hh; first | obtain ⟨rfl, y, rfl⟩ := Ret.ext2 hh | obtain ⟨rfl, y, rfl⟩ := Ret.ext hh))
    go_ret
    exact ⟨by rw [hw.out]; simp, (by repeat (first | with_reducible exact Below.refl _ _ | with_reducible refine B_ext ?_ _ | with_reducible refine B_alloc ?_ _ | with_reducible refine Below.drew ?_ | with_reducible refine B_set ?_ _ _ _))⟩


set_option maxHeartbeats 1000000 in
theorem c_workday_Valid (we : Int) (v : Value) (hs : List Int) (w : World) (h : Ints w v hs) :
    Calls Try.prog 15 #[.agg #[.int .i64 we, v]] w (Ret (.bool (calOk we hs)) w) := by
  obtain ⟨a, c, rfl, hlc, hcm, hop⟩ := h.opn
  have hlen : hs.length ≤ 9223372036854775807 := by omega
  clear hlc hcm h
  by_cases h1 : we < 0
  · have hr := hid (show calOk we hs = false by simp [calOk]; omega)
    go_enter Try.func15, Try.ntmps15
    go_wp2_with (first | ((with_reducible refine wp_region_ext2 ?_ ?_ ?_); (kernel_rfl); (kernel_rfl)) | ((with_reducible refine wp_region_ext ?_ ?_ ?_); (kernel_rfl); (kernel_rfl)) | go_big_quiet_step (fail) | ((with_reducible refine wpQuiet_nil ?_); intro x1))
    go_ret
    exact ⟨by rw [hr.out]; simp, (by repeat (first | with_reducible exact Below.refl _ _ | with_reducible refine B_ext ?_ _ | with_reducible refine B_alloc ?_ _ | with_reducible refine Below.drew ?_ | with_reducible refine B_set ?_ _ _ _))⟩
  by_cases h2 : 126 < we
  · have hr := hid (show calOk we hs = false by simp [calOk]; omega)
    go_enter Try.func15, Try.ntmps15
    go_wp2_with (first | ((with_reducible refine wp_region_ext2 ?_ ?_ ?_); (kernel_rfl); (kernel_rfl)) | ((with_reducible refine wp_region_ext ?_ ?_ ?_); (kernel_rfl); (kernel_rfl)) | go_big_quiet_step (fail) | ((with_reducible refine wpQuiet_nil ?_); intro x1))
    go_ret
    exact ⟨by rw [hr.out]; simp, (by repeat (first | with_reducible exact Below.refl _ _ | with_reducible refine B_ext ?_ _ | with_reducible refine B_alloc ?_ _ | with_reducible refine Below.drew ?_ | with_reducible refine B_set ?_ _ _ _))⟩
  by_cases h3 : 64 < hs.length
  · have hr := hid (show calOk we hs = false by simp [calOk]; omega)
    go_enter Try.func15, Try.ntmps15
    go_wp2_with (first | ((with_reducible refine wp_region_ext2 ?_ ?_ ?_); (kernel_rfl); (kernel_rfl)) | ((with_reducible refine wp_region_ext ?_ ?_ ?_); (kernel_rfl); (kernel_rfl)) | go_big_quiet_step (fail) | ((with_reducible refine wpQuiet_nil ?_); intro x1))
    go_ret
    exact ⟨by rw [hr.out]; simp, (by repeat (first | with_reducible exact Below.refl _ _ | with_reducible refine B_ext ?_ _ | with_reducible refine B_alloc ?_ _ | with_reducible refine Below.drew ?_ | with_reducible refine B_set ?_ _ _ _))⟩
  have hr := hid (show calOk we hs = incr (-1) hs by simp [calOk]; omega)
  go_enter Try.func15, Try.ntmps15
  go_wp2_with (first | ((with_reducible refine wp_region_ext2 ?_ ?_ ?_); (kernel_rfl); (kernel_rfl)) | ((with_reducible refine wp_region_ext ?_ ?_ ?_); (kernel_rfl); (kernel_rfl)) | go_big_quiet_step (fail) | ((with_reducible refine wpQuiet_nil ?_); intro x1))
  go_loopw [3, 23] (fun l i wr => ∃ x, wr = ext (w.alloc (Obj.cells #[Value.int IntKind.i64 we, Value.slice a hs.length c] 24)) x ∧ ∃ (k : Nat) (last : Int), k ≤ hs.length ∧ i = .int .i64 k ∧ l = .int .i64 last ∧ Hid (incr (-1) hs = incr last (hs.drop k))) (fun _ i _ => hs.length - (intOf i).toNat)
  case atStart => exact ⟨_, ext_self _, 0, -1, Nat.zero_le _, rfl, rfl, by simp [Hid]⟩
  case round =>
    obtain ⟨x, rfl, k, last, hk, rfl, rfl, hinv⟩ := hrel
    by_cases hlt : k < hs.length
    · obtain ⟨b, off, rfl, hb, hcell⟩ := hop (by omega)
      replace hcell := hcell _ hlt
      have hdrop : hs.drop k = hs[k] :: hs.drop (k+1) := List.drop_eq_getElem_cons hlt
      generalize hs[k] = d at hcell hdrop
      clear hop
      by_cases hv : vdB d = true ∧ last < d
      · obtain ⟨hv, hd⟩ := hv
        have hstep := hid (show incr (-1) hs = incr d (hs.drop (k+1)) by rw [hinv.out, hdrop]; simp [incr, hv, hd])
        clear hdrop hinv
        go_wp2_with (first | ((with_reducible refine wp_region_ext2 ?_ ?_ ?_); (kernel_rfl); (kernel_rfl)) | ((with_reducible refine wp_region_ext ?_ ?_ ?_); (kernel_rfl); (kernel_rfl)) | go_big_quiet_step (first | (go_at_call 32; exact quiet_of_ret (c_workday_validDate _ _))) | ((with_reducible refine wpQuiet_nil ?_); intro x1) | (go_at_call 32; refine (c_workday_validDate _ _).mono ?_; intro e w' hh; first | obtain ⟨rfl, y, rfl⟩ := Ret.ext2 hh | obtain ⟨rfl, y, rfl⟩ := Ret.ext hh))
        go_roundw
        case rel => exact ⟨_, rfl, k + 1, d, by omega, by go_num, rfl, hstep⟩
        case measure => simp [intOf]; omega
      · have hstep := hid (show incr (-1) hs = false by
          rw [hinv.out, hdrop]
          by_cases h : vdB d = true
          · have : ¬ last < d := fun h' => hv ⟨h, h'⟩
            simp [incr, this]
          · simp [incr, h])
        clear hdrop hinv
        cases hvd : vdB d
        · go_wp2_with (first | ((with_reducible refine wp_region_ext2 ?_ ?_ ?_); (kernel_rfl); (kernel_rfl)) | ((with_reducible refine wp_region_ext ?_ ?_ ?_); (kernel_rfl); (kernel_rfl)) | go_big_quiet_step (first | (go_at_call 32; exact quiet_of_ret (c_workday_validDate _ _))) | ((with_reducible refine wpQuiet_nil ?_); intro x1) | (go_at_call 32; refine (c_workday_validDate _ _).mono ?_; intro e w' hh; first | obtain ⟨rfl, y, rfl⟩ := Ret.ext2 hh | obtain ⟨rfl, y, rfl⟩ := Ret.ext hh))
          go_ret
          exact ⟨by rw [hr.out, hstep.out]; simp, (by repeat (first | with_reducible exact Below.refl _ _ | with_reducible refine B_ext ?_ _ | with_reducible refine B_alloc ?_ _ | with_reducible refine Below.drew ?_ | with_reducible refine B_set ?_ _ _ _))⟩
        · have hld : d ≤ last := by
            have : ¬ last < d := fun h' => hv ⟨hvd, h'⟩
            omega
          clear hv
          go_wp2_with (first | ((with_reducible refine wp_region_ext2 ?_ ?_ ?_); (kernel_rfl); (kernel_rfl)) | ((with_reducible refine wp_region_ext ?_ ?_ ?_); (kernel_rfl); (kernel_rfl)) | go_big_quiet_step (first | (go_at_call 32; exact quiet_of_ret (c_workday_validDate _ _))) | ((with_reducible refine wpQuiet_nil ?_); intro x1) | (go_at_call 32; refine (c_workday_validDate _ _).mono ?_; intro e w' hh; first | obtain ⟨rfl, y, rfl⟩ := Ret.ext2 hh | obtain ⟨rfl, y, rfl⟩ := Ret.ext hh))
          go_ret
          exact ⟨by rw [hr.out, hstep.out]; simp, (by repeat (first | with_reducible exact Below.refl _ _ | with_reducible refine B_ext ?_ _ | with_reducible refine B_alloc ?_ _ | with_reducible refine Below.drew ?_ | with_reducible refine B_set ?_ _ _ _))⟩
    · have hstep := hid (show incr (-1) hs = true by
        rw [hinv.out, List.drop_of_length_le (by omega)]; simp [incr])
      clear hinv
      go_wp2_with (first | ((with_reducible refine wp_region_ext2 ?_ ?_ ?_); (kernel_rfl); (kernel_rfl)) | ((with_reducible refine wp_region_ext ?_ ?_ ?_); (kernel_rfl); (kernel_rfl)) | go_big_quiet_step (fail) | ((with_reducible refine wpQuiet_nil ?_); intro x1))
      go_ret
      exact ⟨by rw [hr.out, hstep.out]; simp, (by repeat (first | with_reducible exact Below.refl _ _ | with_reducible refine B_ext ?_ _ | with_reducible refine B_alloc ?_ _ | with_reducible refine Below.drew ?_ | with_reducible refine B_set ?_ _ _ _))⟩


set_option maxHeartbeats 1000000 in
theorem c_ref06_Valid (we : Int) (v : Value) (hs : List Int) (w : World) (h : Ints w v hs) :
    Calls Try.prog 16 #[.agg #[.int .i64 we, v]] w (Ret (.bool (calOk we hs)) w) := by
  obtain ⟨a, c, rfl, hlc, hcm, hop⟩ := h.opn
  have hlen : hs.length ≤ 9223372036854775807 := by omega
  clear hlc hcm h
  by_cases h1 : we < 0
  · have hr := hid (show calOk we hs = false by simp [calOk]; omega)
    go_enter Try.func16, Try.ntmps16
    go_wp2_with (first | ((with_reducible refine wp_region_ext2 ?_ ?_ ?_); (kernel_rfl); (kernel_rfl)) | ((with_reducible refine wp_region_ext ?_ ?_ ?_); (kernel_rfl); (kernel_rfl)) | go_big_quiet_step (fail) | ((with_reducible refine wpQuiet_nil ?_); intro x1))
    go_ret
    exact ⟨by rw [hr.out]; simp, (by repeat (first | with_reducible exact Below.refl _ _ | with_reducible refine B_ext ?_ _ | with_reducible refine B_alloc ?_ _ | with_reducible refine Below.drew ?_ | with_reducible refine B_set ?_ _ _ _))⟩
  by_cases h2 : 126 < we
  · have hr := hid (show calOk we hs = false by simp [calOk]; omega)
    go_enter Try.func16, Try.ntmps16
    go_wp2_with (first | ((with_reducible refine wp_region_ext2 ?_ ?_ ?_); (kernel_rfl); (kernel_rfl)) | ((with_reducible refine wp_region_ext ?_ ?_ ?_); (kernel_rfl); (kernel_rfl)) | go_big_quiet_step (fail) | ((with_reducible refine wpQuiet_nil ?_); intro x1))
    go_ret
    exact ⟨by rw [hr.out]; simp, (by repeat (first | with_reducible exact Below.refl _ _ | with_reducible refine B_ext ?_ _ | with_reducible refine B_alloc ?_ _ | with_reducible refine Below.drew ?_ | with_reducible refine B_set ?_ _ _ _))⟩
  by_cases h3 : 64 < hs.length
  · have hr := hid (show calOk we hs = false by simp [calOk]; omega)
    go_enter Try.func16, Try.ntmps16
    go_wp2_with (first | ((with_reducible refine wp_region_ext2 ?_ ?_ ?_); (kernel_rfl); (kernel_rfl)) | ((with_reducible refine wp_region_ext ?_ ?_ ?_); (kernel_rfl); (kernel_rfl)) | go_big_quiet_step (fail) | ((with_reducible refine wpQuiet_nil ?_); intro x1))
    go_ret
    exact ⟨by rw [hr.out]; simp, (by repeat (first | with_reducible exact Below.refl _ _ | with_reducible refine B_ext ?_ _ | with_reducible refine B_alloc ?_ _ | with_reducible refine Below.drew ?_ | with_reducible refine B_set ?_ _ _ _))⟩
  have hr := hid (show calOk we hs = incr (-1) hs by simp [calOk]; omega)
  go_enter Try.func16, Try.ntmps16
  go_wp2_with (first | ((with_reducible refine wp_region_ext2 ?_ ?_ ?_); (kernel_rfl); (kernel_rfl)) | ((with_reducible refine wp_region_ext ?_ ?_ ?_); (kernel_rfl); (kernel_rfl)) | go_big_quiet_step (fail) | ((with_reducible refine wpQuiet_nil ?_); intro x1))
  go_loopw [3] (fun i wr => ∃ x, wr = ext (w.alloc (Obj.cells #[Value.int IntKind.i64 we, Value.slice a hs.length c] 24)) x ∧ ∃ (k : Nat), k ≤ hs.length ∧ i = .int .i64 k ∧ Hid (incr (-1) hs = incr (if k = 0 then -1 else hs.getD (k-1) 0) (hs.drop k))) (fun i _ => hs.length - (intOf i).toNat)
  case atStart => exact ⟨_, ext_self _, 0, Nat.zero_le _, rfl, by simp [Hid]⟩
  case round =>
    obtain ⟨x, rfl, k, hk, rfl, hinv⟩ := hrel
    by_cases hlt : k < hs.length
    · obtain ⟨b, off, rfl, hb, hcell⟩ := hop (by omega)
      have hc1 := hcell _ hlt
      have hdrop : hs.drop k = hs[k] :: hs.drop (k+1) := List.drop_eq_getElem_cons hlt
      have hgd : hs.getD k 0 = hs[k] := by simp [hlt]
      have hinv2 := hinv.out
      rw [hdrop] at hinv2
      clear hop hdrop hinv
      by_cases hk0 : k = 0
      · subst hk0
        simp only [Nat.add_zero] at hc1
        generalize hs[0] = d at hc1 hgd hinv2
        replace hgd := hid hgd
        cases hvd : vdB d
        · have hstep := hid (show incr (-1) hs = false by rw [hinv2]; simp [incr, hvd])
          clear hinv2 hcell
          go_wp2_with (first | ((with_reducible refine wp_region_ext2 ?_ ?_ ?_); (kernel_rfl); (kernel_rfl)) | ((with_reducible refine wp_region_ext ?_ ?_ ?_); (kernel_rfl); (kernel_rfl)) | go_big_quiet_step (first | (go_at_call 34; exact quiet_of_ret (c_ref06_day _ _))) | ((with_reducible refine wpQuiet_nil ?_); intro x1) | (go_at_call 34; refine (c_ref06_day _ _).mono ?_; intro e w' hh; first | obtain ⟨rfl, y, rfl⟩ := Ret.ext2 hh | obtain ⟨rfl, y, rfl⟩ := Ret.ext hh))
          go_ret
          exact ⟨by rw [hr.out, hstep.out]; simp, (by repeat (first | with_reducible exact Below.refl _ _ | with_reducible refine B_ext ?_ _ | with_reducible refine B_alloc ?_ _ | with_reducible refine Below.drew ?_ | with_reducible refine B_set ?_ _ _ _))⟩
        · have hstep := hid (show incr (-1) hs = incr d (hs.drop 1) by
            rw [hinv2]
            have := vdB_true hvd
            have h : (-1 : Int) < d := by omega
            simp [incr, hvd, h])
          clear hinv2 hcell
          go_wp2_with (first | ((with_reducible refine wp_region_ext2 ?_ ?_ ?_); (kernel_rfl); (kernel_rfl)) | ((with_reducible refine wp_region_ext ?_ ?_ ?_); (kernel_rfl); (kernel_rfl)) | go_big_quiet_step (first | (go_at_call 34; exact quiet_of_ret (c_ref06_day _ _))) | ((with_reducible refine wpQuiet_nil ?_); intro x1) | (go_at_call 34; refine (c_ref06_day _ _).mono ?_; intro e w' hh; first | obtain ⟨rfl, y, rfl⟩ := Ret.ext2 hh | obtain ⟨rfl, y, rfl⟩ := Ret.ext hh))
          go_roundw
          case rel => exact ⟨_, rfl, 1, by omega, by go_num, by rw [if_neg (by omega)]; show _ = _; rw [hgd.out]; exact hstep.out⟩
          case measure => simp [intOf]; omega
      · have hc2 := hcell (k - 1) (by omega)
        have hgp : hs.getD (k - 1) 0 = hs[k - 1] := by simp [show k - 1 < hs.length by omega]
        rw [if_neg hk0, hgp] at hinv2
        generalize hs[k] = d at hc1 hgd hinv2
        generalize hs[k - 1] = e at hc2 hinv2
        clear hcell hgp
        replace hgd := hid hgd
        have hpos : 0 < k := by omega
        cases hvd : vdB d
        · have hstep := hid (show incr (-1) hs = false by rw [hinv2]; simp [incr, hvd])
          clear hinv2
          go_wp2_with (first | ((with_reducible refine wp_region_ext2 ?_ ?_ ?_); (kernel_rfl); (kernel_rfl)) | ((with_reducible refine wp_region_ext ?_ ?_ ?_); (kernel_rfl); (kernel_rfl)) | go_big_quiet_step (first | (go_at_call 34; exact quiet_of_ret (c_ref06_day _ _))) | ((with_reducible refine wpQuiet_nil ?_); intro x1) | (go_at_call 34; refine (c_ref06_day _ _).mono ?_; intro e w' hh; first | obtain ⟨rfl, y, rfl⟩ := Ret.ext2 hh | obtain ⟨rfl, y, rfl⟩ := Ret.ext hh))
          go_ret
          exact ⟨by rw [hr.out, hstep.out]; simp, (by repeat (first | with_reducible exact Below.refl _ _ | with_reducible refine B_ext ?_ _ | with_reducible refine B_alloc ?_ _ | with_reducible refine Below.drew ?_ | with_reducible refine B_set ?_ _ _ _))⟩
        by_cases hde : d ≤ e
        · have hstep := hid (show incr (-1) hs = false by
            rw [hinv2]
            have h : ¬ e < d := by omega
            simp [incr, h])
          clear hinv2
          go_wp2_with (first | ((with_reducible refine wp_region_ext2 ?_ ?_ ?_); (kernel_rfl); (kernel_rfl)) | ((with_reducible refine wp_region_ext ?_ ?_ ?_); (kernel_rfl); (kernel_rfl)) | go_big_quiet_step (first | (go_at_call 34; exact quiet_of_ret (c_ref06_day _ _))) | ((with_reducible refine wpQuiet_nil ?_); intro x1) | (go_at_call 34; refine (c_ref06_day _ _).mono ?_; intro e w' hh; first | obtain ⟨rfl, y, rfl⟩ := Ret.ext2 hh | obtain ⟨rfl, y, rfl⟩ := Ret.ext hh))
          go_ret
          exact ⟨by rw [hr.out, hstep.out]; simp, (by repeat (first | with_reducible exact Below.refl _ _ | with_reducible refine B_ext ?_ _ | with_reducible refine B_alloc ?_ _ | with_reducible refine Below.drew ?_ | with_reducible refine B_set ?_ _ _ _))⟩
        · have hstep := hid (show incr (-1) hs = incr d (hs.drop (k + 1)) by
            rw [hinv2]
            have h : e < d := by omega
            simp [incr, hvd, h])
          clear hinv2
          go_wp2_with (first | ((with_reducible refine wp_region_ext2 ?_ ?_ ?_); (kernel_rfl); (kernel_rfl)) | ((with_reducible refine wp_region_ext ?_ ?_ ?_); (kernel_rfl); (kernel_rfl)) | go_big_quiet_step (first | (go_at_call 34; exact quiet_of_ret (c_ref06_day _ _))) | ((with_reducible refine wpQuiet_nil ?_); intro x1) | (go_at_call 34; refine (c_ref06_day _ _).mono ?_; intro e w' hh; first | obtain ⟨rfl, y, rfl⟩ := Ret.ext2 hh | obtain ⟨rfl, y, rfl⟩ := Ret.ext hh))
          go_roundw
          case rel => exact ⟨_, rfl, k + 1, by omega, by go_num, by rw [if_neg (by omega)]; show _ = _; rw [show k + 1 - 1 = k from rfl, hgd.out]; exact hstep.out⟩
          case measure => simp [intOf]; omega
    · have hstep := hid (show incr (-1) hs = true by
        rw [hinv.out, List.drop_of_length_le (by omega)]; simp [incr])
      clear hinv
      go_wp2_with (first | ((with_reducible refine wp_region_ext2 ?_ ?_ ?_); (kernel_rfl); (kernel_rfl)) | ((with_reducible refine wp_region_ext ?_ ?_ ?_); (kernel_rfl); (kernel_rfl)) | go_big_quiet_step (fail) | ((with_reducible refine wpQuiet_nil ?_); intro x1))
      go_ret
      exact ⟨by rw [hr.out, hstep.out]; simp, (by repeat (first | with_reducible exact Below.refl _ _ | with_reducible refine B_ext ?_ _ | with_reducible refine B_alloc ?_ _ | with_reducible refine Below.drew ?_ | with_reducible refine B_set ?_ _ _ _))⟩


/-! IsWorkday -/
theorem c_workday_IsWorkday (we : Int) (v : Value) (hs : List Int) (d : Int) (w : World) (h : Ints w v hs) :
    Calls Try.prog 17 #[.agg #[.int .i64 we, v], .int .i64 d] w (Ret (.bool (isWkB we hs d)) w) := by
  cases hok : calOk we hs
  · have hr := hid (show isWkB we hs d = false by simp [isWkB, hok])
    go_enter Try.func17, Try.ntmps17
    go_wp2_with (first | ((with_reducible refine wp_region_ext2 ?_ ?_ ?_); (kernel_rfl); (kernel_rfl)) | ((with_reducible refine wp_region_ext ?_ ?_ ?_); (kernel_rfl); (kernel_rfl)) | go_big_quiet_step (first | (go_at_call 15; exact quiet_of_ret (c_workday_Valid _ _ hs _ (by first | with_reducible assumption | exact Ints.below (by assumption) (by repeat (first | with_reducible exact Below.refl _ _ | with_reducible refine B_ext ?_ _ | with_reducible refine B_alloc ?_ _ | with_reducible refine Below.drew ?_ | with_reducible refine B_set ?_ _ _ _))))) | (go_at_call 32; exact quiet_of_ret (c_workday_validDate _ _))) | ((with_reducible refine wpQuiet_nil ?_); intro x1) | (go_at_call 15; refine (c_workday_Valid _ _ hs _ (by first | with_reducible assumption | exact Ints.below (by assumption) (by repeat (first | with_reducible exact Below.refl _ _ | with_reducible refine B_ext ?_ _ | with_reducible refine B_alloc ?_ _ | with_reducible refine Below.drew ?_ | with_reducible refine B_set ?_ _ _ _)))).mono ?_; intro e w' hh; first | obtain ⟨rfl, y, rfl⟩ := Ret.ext2 hh | obtain ⟨rfl, y, rfl⟩ := Ret.ext hh) | (go_at_call 32; refine (c_workday_validDate _ _).mono ?_; intro e w' hh; first | obtain ⟨rfl, y, rfl⟩ := Ret.ext2 hh | obtain ⟨rfl, y, rfl⟩ := Ret.ext hh))
    go_ret
    exact ⟨by rw [hr.out]; simp, (by repeat (first | with_reducible exact Below.refl _ _ | with_reducible refine B_ext ?_ _ | with_reducible refine B_alloc ?_ _ | with_reducible refine Below.drew ?_ | with_reducible refine B_set ?_ _ _ _))⟩
  cases hd : vdB d
  · have hr := hid (show isWkB we hs d = false by simp [isWkB, hd])
    go_enter Try.func17, Try.ntmps17
    go_wp2_with (first | ((with_reducible refine wp_region_ext2 ?_ ?_ ?_); (kernel_rfl); (kernel_rfl)) | ((with_reducible refine wp_region_ext ?_ ?_ ?_); (kernel_rfl); (kernel_rfl)) | go_big_quiet_step (first | (go_at_call 15; exact quiet_of_ret (c_workday_Valid _ _ hs _ (by first | with_reducible assumption | exact Ints.below (by assumption) (by repeat (first | with_reducible exact Below.refl _ _ | with_reducible refine B_ext ?_ _ | with_reducible refine B_alloc ?_ _ | with_reducible refine Below.drew ?_ | with_reducible refine B_set ?_ _ _ _))))) | (go_at_call 32; exact quiet_of_ret (c_workday_validDate _ _))) | ((with_reducible refine wpQuiet_nil ?_); intro x1) | (go_at_call 15; refine (c_workday_Valid _ _ hs _ (by first | with_reducible assumption | exact Ints.below (by assumption) (by repeat (first | with_reducible exact Below.refl _ _ | with_reducible refine B_ext ?_ _ | with_reducible refine B_alloc ?_ _ | with_reducible refine Below.drew ?_ | with_reducible refine B_set ?_ _ _ _)))).mono ?_; intro e w' hh; first | obtain ⟨rfl, y, rfl⟩ := Ret.ext2 hh | obtain ⟨rfl, y, rfl⟩ := Ret.ext hh) | (go_at_call 32; refine (c_workday_validDate _ _).mono ?_; intro e w' hh; first | obtain ⟨rfl, y, rfl⟩ := Ret.ext2 hh | obtain ⟨rfl, y, rfl⟩ := Ret.ext hh))
    go_ret
    exact ⟨by rw [hr.out]; simp, (by repeat (first | with_reducible exact Below.refl _ _ | with_reducible refine B_ext ?_ _ | with_reducible refine B_alloc ?_ _ | with_reducible refine Below.drew ?_ | with_reducible refine B_set ?_ _ _ _))⟩
  have hr := hid (show isWkB we hs d = wkB we hs d by simp [isWkB, hok, hd])
  go_enter Try.func17, Try.ntmps17
  go_wp2_with (first | ((with_reducible refine wp_region_ext2 ?_ ?_ ?_); (kernel_rfl); (kernel_rfl)) | ((with_reducible refine wp_region_ext ?_ ?_ ?_); (kernel_rfl); (kernel_rfl)) | go_big_quiet_step (first | (go_at_call 15; exact quiet_of_ret (c_workday_Valid _ _ hs _ (by first | with_reducible assumption | exact Ints.below (by assumption) (by repeat (first | with_reducible exact Below.refl _ _ | with_reducible refine B_ext ?_ _ | with_reducible refine B_alloc ?_ _ | with_reducible refine Below.drew ?_ | with_reducible refine B_set ?_ _ _ _))))) | (go_at_call 32; exact quiet_of_ret (c_workday_validDate _ _)) | (go_at_call 33; exact quiet_of_ret (c_works _ _ hs _ _ (by first | with_reducible assumption | exact Ints.below (by assumption) (by repeat (first | with_reducible exact Below.refl _ _ | with_reducible refine B_ext ?_ _ | with_reducible refine B_alloc ?_ _ | with_reducible refine Below.drew ?_ | with_reducible refine B_set ?_ _ _ _))) hok hd))) | ((with_reducible refine wpQuiet_nil ?_); intro x1) | (go_at_call 15; refine (c_workday_Valid _ _ hs _ (by first | with_reducible assumption | exact Ints.below (by assumption) (by repeat (first | with_reducible exact Below.refl _ _ | with_reducible refine B_ext ?_ _ | with_reducible refine B_alloc ?_ _ | with_reducible refine Below.drew ?_ | with_reducible refine B_set ?_ _ _ _)))).mono ?_; intro e w' hh; first | obtain ⟨rfl, y, rfl⟩ := Ret.ext2 hh | obtain ⟨rfl, y, rfl⟩ := Ret.ext hh) | (go_at_call 32; refine (c_workday_validDate _ _).mono ?_; intro e w' hh; first | obtain ⟨rfl, y, rfl⟩ := Ret.ext2 hh | obtain ⟨rfl, y, rfl⟩ := Ret.ext hh) | (go_at_call 33; refine (c_works _ _ hs _ _ (by first | with_reducible assumption | exact Ints.below (by assumption) (by repeat (first | with_reducible exact Below.refl _ _ | with_reducible refine B_ext ?_ _ | with_reducible refine B_alloc ?_ _ | with_reducible refine Below.drew ?_ | with_reducible refine B_set ?_ _ _ _))) hok hd).mono ?_; intro e w' hh; first | obtain ⟨rfl, y, rfl⟩ := Ret.ext2 hh | obtain ⟨rfl, y, rfl⟩ := Ret.ext hh))
  go_ret
  exact ⟨by rw [hr.out]; simp, (by repeat (first | with_reducible exact Below.refl _ _ | with_reducible refine B_ext ?_ _ | with_reducible refine B_alloc ?_ _ | with_reducible refine Below.drew ?_ | with_reducible refine B_set ?_ _ _ _))⟩

set_option maxHeartbeats 1000000 in
theorem c_ref06_IsWorkday (we : Int) (v : Value) (hs : List Int) (d : Int) (w : World) (h : Ints w v hs) :
    Calls Try.prog 18 #[.agg #[.int .i64 we, v], .int .i64 d] w (Ret (.bool (isWkB we hs d)) w) := by
  cases hok : calOk we hs
  · have hr := hid (show isWkB we hs d = false by simp [isWkB, hok])
    go_enter Try.func18, Try.ntmps18
    go_wp2_with (first | ((with_reducible refine wp_region_ext2 ?_ ?_ ?_); (kernel_rfl); (kernel_rfl)) | ((with_reducible refine wp_region_ext ?_ ?_ ?_); (kernel_rfl); (kernel_rfl)) | go_big_quiet_step (first | (go_at_call 16; exact quiet_of_ret (c_ref06_Valid _ _ hs _ (by first | with_reducible assumption | exact Ints.below (by assumption) (by repeat (first | with_reducible exact Below.refl _ _ | with_reducible refine B_ext ?_ _ | with_reducible refine B_alloc ?_ _ | with_reducible refine Below.drew ?_ | with_reducible refine B_set ?_ _ _ _))))) | (go_at_call 34; exact quiet_of_ret (c_ref06_day _ _))) | ((with_reducible refine wpQuiet_nil ?_); intro x1) | (go_at_call 16; refine (c_ref06_Valid _ _ hs _ (by first | with_reducible assumption | exact Ints.below (by assumption) (by repeat (first | with_reducible exact Below.refl _ _ | with_reducible refine B_ext ?_ _ | with_reducible refine B_alloc ?_ _ | with_reducible refine Below.drew ?_ | with_reducible refine B_set ?_ _ _ _)))).mono ?_; intro e w' hh; first | obtain ⟨rfl, y, rfl⟩ := Ret.ext2 hh | obtain ⟨rfl, y, rfl⟩ := Ret.ext hh) | (go_at_call 34; refine (c_ref06_day _ _).mono ?_; intro e w' hh; first | obtain ⟨rfl, y, rfl⟩ := Ret.ext2 hh | obtain ⟨rfl, y, rfl⟩ := Ret.ext hh))
    go_ret
    exact ⟨by rw [hr.out]; simp, (by repeat (first | with_reducible exact Below.refl _ _ | with_reducible refine B_ext ?_ _ | with_reducible refine B_alloc ?_ _ | with_reducible refine Below.drew ?_ | with_reducible refine B_set ?_ _ _ _))⟩
  cases hd : vdB d
  · have hr := hid (show isWkB we hs d = false by simp [isWkB, hd])
    go_enter Try.func18, Try.ntmps18
    go_wp2_with (first | ((with_reducible refine wp_region_ext2 ?_ ?_ ?_); (kernel_rfl); (kernel_rfl)) | ((with_reducible refine wp_region_ext ?_ ?_ ?_); (kernel_rfl); (kernel_rfl)) | go_big_quiet_step (first | (go_at_call 16; exact quiet_of_ret (c_ref06_Valid _ _ hs _ (by first | with_reducible assumption | exact Ints.below (by assumption) (by repeat (first | with_reducible exact Below.refl _ _ | with_reducible refine B_ext ?_ _ | with_reducible refine B_alloc ?_ _ | with_reducible refine Below.drew ?_ | with_reducible refine B_set ?_ _ _ _))))) | (go_at_call 34; exact quiet_of_ret (c_ref06_day _ _))) | ((with_reducible refine wpQuiet_nil ?_); intro x1) | (go_at_call 16; refine (c_ref06_Valid _ _ hs _ (by first | with_reducible assumption | exact Ints.below (by assumption) (by repeat (first | with_reducible exact Below.refl _ _ | with_reducible refine B_ext ?_ _ | with_reducible refine B_alloc ?_ _ | with_reducible refine Below.drew ?_ | with_reducible refine B_set ?_ _ _ _)))).mono ?_; intro e w' hh; first | obtain ⟨rfl, y, rfl⟩ := Ret.ext2 hh | obtain ⟨rfl, y, rfl⟩ := Ret.ext hh) | (go_at_call 34; refine (c_ref06_day _ _).mono ?_; intro e w' hh; first | obtain ⟨rfl, y, rfl⟩ := Ret.ext2 hh | obtain ⟨rfl, y, rfl⟩ := Ret.ext hh))
    go_ret
    exact ⟨by rw [hr.out]; simp, (by repeat (first | with_reducible exact Below.refl _ _ | with_reducible refine B_ext ?_ _ | with_reducible refine B_alloc ?_ _ | with_reducible refine Below.drew ?_ | with_reducible refine B_set ?_ _ _ _))⟩
  have hr := hid (show isWkB we hs d = wkB we hs d by simp [isWkB, hok, hd])
  have hin := h
  obtain ⟨a, c, rfl, hlc, hcm, hop⟩ := h.opn
  have hlen : hs.length ≤ 9223372036854775807 := by omega
  clear hlc hcm
  obtain ⟨h0, h1, -, -⟩ := calOk_true hok
  obtain ⟨d1, d2⟩ := vdB_true hd
  go_enter Try.func18, Try.ntmps18
  go_wp2_with (first | ((with_reducible refine wp_region_ext2 ?_ ?_ ?_); (kernel_rfl); (kernel_rfl)) | ((with_reducible refine wp_region_ext ?_ ?_ ?_); (kernel_rfl); (kernel_rfl)) | go_big_quiet_step (first | (go_at_call 16; exact quiet_of_ret (c_ref06_Valid _ _ hs _ (by first | with_reducible assumption | exact Ints.below (by assumption) (by repeat (first | with_reducible exact Below.refl _ _ | with_reducible refine B_ext ?_ _ | with_reducible refine B_alloc ?_ _ | with_reducible refine Below.drew ?_ | with_reducible refine B_set ?_ _ _ _))))) | (go_at_call 34; exact quiet_of_ret (c_ref06_day _ _))) | ((with_reducible refine wpQuiet_nil ?_); intro x1) | (go_at_call 16; refine (c_ref06_Valid _ _ hs _ (by first | with_reducible assumption | exact Ints.below (by assumption) (by repeat (first | with_reducible exact Below.refl _ _ | with_reducible refine B_ext ?_ _ | with_reducible refine B_alloc ?_ _ | with_reducible refine Below.drew ?_ | with_reducible refine B_set ?_ _ _ _)))).mono ?_; intro e w' hh; first | obtain ⟨rfl, y, rfl⟩ := Ret.ext2 hh | obtain ⟨rfl, y, rfl⟩ := Ret.ext hh) | (go_at_call 34; refine (c_ref06_day _ _).mono ?_; intro e w' hh; first | obtain ⟨rfl, y, rfl⟩ := Ret.ext2 hh | obtain ⟨rfl, y, rfl⟩ := Ret.ext hh))
  clear hin h
  go_loopw [5] (fun i wr => ∃ x, wr = ext (w.alloc (Obj.cells #[Value.int IntKind.i64 we, Value.slice a hs.length c] 24)) x ∧ ∃ (k : Nat), k ≤ hs.length ∧ i = .int .i64 k ∧ Hid (d ∈ hs ↔ d ∈ hs.drop k)) (fun i _ => hs.length - (intOf i).toNat)
  case atStart => exact ⟨_, rfl, 0, Nat.zero_le _, rfl, by simp [Hid]⟩
  case round =>
    obtain ⟨x, rfl, k, hk, rfl, hinv⟩ := hrel
    by_cases hlt : k < hs.length
    · obtain ⟨b, off, rfl, hb, hcell⟩ := hop (by omega)
      replace hcell := hcell _ hlt
      have hdrop : hs.drop k = hs[k] :: hs.drop (k+1) := List.drop_eq_getElem_cons hlt
      generalize hs[k] = y0 at hcell hdrop
      clear hop
      by_cases he : y0 = d
      · have hstep := hid (show wkB we hs d = false by
          have : d ∈ hs := hinv.out.2 (by rw [hdrop]; simp [he])
          simp [wkB, this])
        clear hinv hdrop
        have he2 : (y0 == d) = true := by simpa using he
        replace he := hid he
        go_wp2_with (first | ((with_reducible refine wp_region_ext2 ?_ ?_ ?_); (kernel_rfl); (kernel_rfl)) | ((with_reducible refine wp_region_ext ?_ ?_ ?_); (kernel_rfl); (kernel_rfl)) | go_big_quiet_step (fail) | ((with_reducible refine wpQuiet_nil ?_); intro x1))
        go_ret
        exact ⟨by rw [hr.out, hstep.out]; simp, (by repeat (first | with_reducible exact Below.refl _ _ | with_reducible refine B_ext ?_ _ | with_reducible refine B_alloc ?_ _ | with_reducible refine Below.drew ?_ | with_reducible refine B_set ?_ _ _ _))⟩
      · have hstep := hid (show d ∈ hs ↔ d ∈ hs.drop (k+1) by
          rw [hinv.out, hdrop]; simp; intro h; exact absurd h.symm he)
        clear hinv hdrop
        have he2 : (y0 == d) = false := by simpa using he
        replace he := hid he
        go_wp2_with (first | ((with_reducible refine wp_region_ext2 ?_ ?_ ?_); (kernel_rfl); (kernel_rfl)) | ((with_reducible refine wp_region_ext ?_ ?_ ?_); (kernel_rfl); (kernel_rfl)) | go_big_quiet_step (fail) | ((with_reducible refine wpQuiet_nil ?_); intro x1))
        go_roundw
        case rel => exact ⟨_, rfl, k + 1, by omega, by go_num, hstep⟩
        case measure => simp [intOf]; omega
    · have hmem := hid (show d ∉ hs by rw [hinv.out, List.drop_of_length_le (by omega)]; simp)
      clear hinv hop
      go_wp2_with (first | ((with_reducible refine wp_region_ext2 ?_ ?_ ?_); (kernel_rfl); (kernel_rfl)) | ((with_reducible refine wp_region_ext ?_ ?_ ?_); (kernel_rfl); (kernel_rfl)) | go_big_quiet_step (fail) | ((with_reducible refine wpQuiet_nil ?_); intro x1))
      go_loopw [6, 7] (fun b i wr => ∃ x, wr = ext (w.alloc (Obj.cells #[Value.int IntKind.i64 we, Value.slice a hs.length c] 24)) x ∧ ∃ (j : Nat), (j : Int) ≤ d % 7 ∧ i = .int .i64 j ∧ b = .int .i64 (we / 2 ^ j)) (fun _ i _ => (d % 7 - intOf i).toNat)
      case atStart => exact ⟨_, rfl, 0, by omega, rfl, by simp⟩
      case round =>
        obtain ⟨x, rfl, j, hj, rfl, rfl⟩ := hrel
        obtain ⟨s1, s2⟩ := shr_bd j h0 h1
        have hpow := hid (show we / 2 ^ (j+1) = we / 2 ^ j / 2 by rw [Int.pow_succ, Int.ediv_ediv_of_nonneg (by exact_mod_cast Nat.le_of_lt (Nat.two_pow_pos j))])
        generalize hgb : we / 2 ^ j = bt at *
        replace hgb := hid hgb
        by_cases hlt2 : (j : Int) < d % 7
        · go_wp2_with (first | ((with_reducible refine wp_region_ext2 ?_ ?_ ?_); (kernel_rfl); (kernel_rfl)) | ((with_reducible refine wp_region_ext ?_ ?_ ?_); (kernel_rfl); (kernel_rfl)) | go_big_quiet_step (fail) | ((with_reducible refine wpQuiet_nil ?_); intro x1))
          go_roundw
          case rel => exact ⟨_, rfl, j + 1, by omega, by go_num, by rw [hpow.out]⟩
          case measure => simp [intOf]; omega
        · have hje := hid (show (d % 7).toNat = j by omega)
          by_cases hz : bt % 2 = 0
          · have hfin := hid (show wkB we hs d = true by simp [wkB, hmem.out, hje.out, hgb.out, hz])
            have hz2 : (bt % 2 == 0) = true := by simpa using hz
            replace hz := hid hz
            go_wp2_with (first | ((with_reducible refine wp_region_ext2 ?_ ?_ ?_); (kernel_rfl); (kernel_rfl)) | ((with_reducible refine wp_region_ext ?_ ?_ ?_); (kernel_rfl); (kernel_rfl)) | go_big_quiet_step (fail) | ((with_reducible refine wpQuiet_nil ?_); intro x1))
            go_ret
            exact ⟨by rw [hr.out, hfin.out]; simp, (by repeat (first | with_reducible exact Below.refl _ _ | with_reducible refine B_ext ?_ _ | with_reducible refine B_alloc ?_ _ | with_reducible refine Below.drew ?_ | with_reducible refine B_set ?_ _ _ _))⟩
          · have hfin := hid (show wkB we hs d = false by simp [wkB, hmem.out, hje.out, hgb.out, hz])
            have hz2 : (bt % 2 == 0) = false := by simpa using hz
            replace hz := hid hz
            go_wp2_with (first | ((with_reducible refine wp_region_ext2 ?_ ?_ ?_); (kernel_rfl); (kernel_rfl)) | ((with_reducible refine wp_region_ext ?_ ?_ ?_); (kernel_rfl); (kernel_rfl)) | go_big_quiet_step (fail) | ((with_reducible refine wpQuiet_nil ?_); intro x1))
            go_ret
            exact ⟨by rw [hr.out, hfin.out]; simp, (by repeat (first | with_reducible exact Below.refl _ _ | with_reducible refine B_ext ?_ _ | with_reducible refine B_alloc ?_ _ | with_reducible refine Below.drew ?_ | with_reducible refine B_set ?_ _ _ _))⟩


/-! Next, Add, Count -/
theorem c_ref05_Valid (a b : Int) (w : World) : Calls Try.prog 36 #[.agg #[.int .i64 a, .int .i64 b]] w (Ret (.bool (rngB a b)) w) := by
  unfold rngB
  cases h1 : decide (0 ≤ a) <;> cases h2 : decide (a ≤ b) <;> cases h3 : decide (b ≤ 109573) <;> simp only [Bool.and_true, Bool.and_false]
  all_goals
    go_enter Try.func36, Try.ntmps36
    go_wp2_with (first | ((with_reducible refine wp_region_ext2 ?_ ?_ ?_); (kernel_rfl); (kernel_rfl)) | ((with_reducible refine wp_region_ext ?_ ?_ ?_); (kernel_rfl); (kernel_rfl)) | go_big_quiet_step (fail) | ((with_reducible refine wpQuiet_nil ?_); intro x1))
    all_goals go_ret
    all_goals exact ⟨by simp, (by repeat (first | with_reducible exact Below.refl _ _ | with_reducible refine B_ext ?_ _ | with_reducible refine B_alloc ?_ _ | with_reducible refine Below.drew ?_ | with_reducible refine B_set ?_ _ _ _))⟩

set_option maxHeartbeats 1000000 in
theorem c_workday_Next (we : Int) (v : Value) (hs : List Int) (d : Int) (w : World) (h : Ints w v hs) :
    Calls Try.prog 13 #[.agg #[.int .i64 we, v], .int .i64 d] w (Ret (.tuple #[.int .i64 (nextR we hs d).1, .int .i64 (nextR we hs d).2]) w) := by
  cases hok : calOk we hs
  · have hr := hid (show nextR we hs d = (0, 1) by simp [nextR, hok])
    go_enter Try.func13, Try.ntmps13
    go_wp2_with (first | ((with_reducible refine wp_region_ext2 ?_ ?_ ?_); (kernel_rfl); (kernel_rfl)) | ((with_reducible refine wp_region_ext ?_ ?_ ?_); (kernel_rfl); (kernel_rfl)) | go_big_quiet_step (first | (go_at_call 15; exact quiet_of_ret (c_workday_Valid _ _ hs _ (by first | with_reducible assumption | exact Ints.below (by assumption) (by repeat (first | with_reducible exact Below.refl _ _ | with_reducible refine B_ext ?_ _ | with_reducible refine B_alloc ?_ _ | with_reducible refine Below.drew ?_ | with_reducible refine B_set ?_ _ _ _)))))) | ((with_reducible refine wpQuiet_nil ?_); intro x1) | (go_at_call 15; refine (c_workday_Valid _ _ hs _ (by first | with_reducible assumption | exact Ints.below (by assumption) (by repeat (first | with_reducible exact Below.refl _ _ | with_reducible refine B_ext ?_ _ | with_reducible refine B_alloc ?_ _ | with_reducible refine Below.drew ?_ | with_reducible refine B_set ?_ _ _ _)))).mono ?_; intro e w' hh; first | obtain ⟨rfl, y, rfl⟩ := Ret.ext2 hh | obtain ⟨rfl, y, rfl⟩ := Ret.ext hh))
    go_ret2
    exact ⟨by rw [hr.out]; simp, (by repeat (first | with_reducible exact Below.refl _ _ | with_reducible refine B_ext ?_ _ | with_reducible refine B_alloc ?_ _ | with_reducible refine Below.drew ?_ | with_reducible refine B_set ?_ _ _ _))⟩
  cases hd : vdB d
  · have hr := hid (show nextR we hs d = (0, 3) by simp [nextR, hok, hd])
    go_enter Try.func13, Try.ntmps13
    go_wp2_with (first | ((with_reducible refine wp_region_ext2 ?_ ?_ ?_); (kernel_rfl); (kernel_rfl)) | ((with_reducible refine wp_region_ext ?_ ?_ ?_); (kernel_rfl); (kernel_rfl)) | go_big_quiet_step (first | (go_at_call 15; exact quiet_of_ret (c_workday_Valid _ _ hs _ (by first | with_reducible assumption | exact Ints.below (by assumption) (by repeat (first | with_reducible exact Below.refl _ _ | with_reducible refine B_ext ?_ _ | with_reducible refine B_alloc ?_ _ | with_reducible refine Below.drew ?_ | with_reducible refine B_set ?_ _ _ _))))) | (go_at_call 32; exact quiet_of_ret (c_workday_validDate _ _))) | ((with_reducible refine wpQuiet_nil ?_); intro x1) | (go_at_call 15; refine (c_workday_Valid _ _ hs _ (by first | with_reducible assumption | exact Ints.below (by assumption) (by repeat (first | with_reducible exact Below.refl _ _ | with_reducible refine B_ext ?_ _ | with_reducible refine B_alloc ?_ _ | with_reducible refine Below.drew ?_ | with_reducible refine B_set ?_ _ _ _)))).mono ?_; intro e w' hh; first | obtain ⟨rfl, y, rfl⟩ := Ret.ext2 hh | obtain ⟨rfl, y, rfl⟩ := Ret.ext hh) | (go_at_call 32; refine (c_workday_validDate _ _).mono ?_; intro e w' hh; first | obtain ⟨rfl, y, rfl⟩ := Ret.ext2 hh | obtain ⟨rfl, y, rfl⟩ := Ret.ext hh))
    go_ret2
    exact ⟨by rw [hr.out]; simp, (by repeat (first | with_reducible exact Below.refl _ _ | with_reducible refine B_ext ?_ _ | with_reducible refine B_alloc ?_ _ | with_reducible refine Below.drew ?_ | with_reducible refine B_set ?_ _ _ _))⟩
  have hr := hid (show nextR we hs d = optR (nextF (wkB we hs) (109573 - d).toNat d) by simp [nextR, hok, hd])
  obtain ⟨d1, d2⟩ := vdB_true hd
  go_enter Try.func13, Try.ntmps13
  go_wp2_with (first | ((with_reducible refine wp_region_ext2 ?_ ?_ ?_); (kernel_rfl); (kernel_rfl)) | ((with_reducible refine wp_region_ext ?_ ?_ ?_); (kernel_rfl); (kernel_rfl)) | go_big_quiet_step (first | (go_at_call 15; exact quiet_of_ret (c_workday_Valid _ _ hs _ (by first | with_reducible assumption | exact Ints.below (by assumption) (by repeat (first | with_reducible exact Below.refl _ _ | with_reducible refine B_ext ?_ _ | with_reducible refine B_alloc ?_ _ | with_reducible refine Below.drew ?_ | with_reducible refine B_set ?_ _ _ _))))) | (go_at_call 32; exact quiet_of_ret (c_workday_validDate _ _))) | ((with_reducible refine wpQuiet_nil ?_); intro x1) | (go_at_call 15; refine (c_workday_Valid _ _ hs _ (by first | with_reducible assumption | exact Ints.below (by assumption) (by repeat (first | with_reducible exact Below.refl _ _ | with_reducible refine B_ext ?_ _ | with_reducible refine B_alloc ?_ _ | with_reducible refine Below.drew ?_ | with_reducible refine B_set ?_ _ _ _)))).mono ?_; intro e w' hh; first | obtain ⟨rfl, y, rfl⟩ := Ret.ext2 hh | obtain ⟨rfl, y, rfl⟩ := Ret.ext hh) | (go_at_call 32; refine (c_workday_validDate _ _).mono ?_; intro e w' hh; first | obtain ⟨rfl, y, rfl⟩ := Ret.ext2 hh | obtain ⟨rfl, y, rfl⟩ := Ret.ext hh))
  go_loopw [1] (fun i wr => ∃ x, wr = ext (w.alloc (Obj.cells #[Value.int IntKind.i64 we, v] 24)) x ∧ ∃ e : Int, i = .int .i64 e ∧ 0 ≤ e ∧ e ≤ 109573 ∧ Hid (nextF (wkB we hs) (109573 - d).toNat d = nextF (wkB we hs) (109573 - e).toNat e)) (fun i _ => (109573 - intOf i).toNat)
  case atStart => exact ⟨_, rfl, d, rfl, by omega, by omega, rfl⟩
  case round =>
    obtain ⟨x, rfl, e, rfl, e1, e2, hinv⟩ := hrel
    by_cases hlt : e ≤ 109572
    · have hk : (109573 - e).toNat = (109573 - (e + 1)).toNat + 1 := by omega
      have hi2 := hinv.out
      rw [hk, nextF] at hi2
      clear hk
      cases hb : wkB we hs e
      · have hwk := hb
        have hstep := hid (show nextF (wkB we hs) (109573 - d).toNat d = nextF (wkB we hs) (109573 - (e + 1)).toNat (e + 1) by rw [hi2, hb]; simp)
        clear hi2 hinv
        go_wp2_with (first | ((with_reducible refine wp_region_ext2 ?_ ?_ ?_); (kernel_rfl); (kernel_rfl)) | ((with_reducible refine wp_region_ext ?_ ?_ ?_); (kernel_rfl); (kernel_rfl)) | go_big_quiet_step (first | (go_at_call 33; exact quiet_of_ret (c_works _ _ hs _ _ (by first | with_reducible assumption | exact Ints.below (by assumption) (by repeat (first | with_reducible exact Below.refl _ _ | with_reducible refine B_ext ?_ _ | with_reducible refine B_alloc ?_ _ | with_reducible refine Below.drew ?_ | with_reducible refine B_set ?_ _ _ _))) hok (vdB_mk (by omega) (by omega))))) | ((with_reducible refine wpQuiet_nil ?_); intro x1) | (go_at_call 33; refine (c_works _ _ hs _ _ (by first | with_reducible assumption | exact Ints.below (by assumption) (by repeat (first | with_reducible exact Below.refl _ _ | with_reducible refine B_ext ?_ _ | with_reducible refine B_alloc ?_ _ | with_reducible refine Below.drew ?_ | with_reducible refine B_set ?_ _ _ _))) hok (vdB_mk (by omega) (by omega))).mono ?_; intro e w' hh; first | obtain ⟨rfl, y, rfl⟩ := Ret.ext2 hh | obtain ⟨rfl, y, rfl⟩ := Ret.ext hh))
        go_roundw
        case rel => exact ⟨_, rfl, e + 1, rfl, by omega, by omega, hstep⟩
        case measure => simp [intOf]; omega
      · have hwk := hb
        have hstep := hid (show nextR we hs d = (e, 0) by rw [hr.out, hi2, hb]; simp [optR])
        clear hi2 hinv
        go_wp2_with (first | ((with_reducible refine wp_region_ext2 ?_ ?_ ?_); (kernel_rfl); (kernel_rfl)) | ((with_reducible refine wp_region_ext ?_ ?_ ?_); (kernel_rfl); (kernel_rfl)) | go_big_quiet_step (first | (go_at_call 33; exact quiet_of_ret (c_works _ _ hs _ _ (by first | with_reducible assumption | exact Ints.below (by assumption) (by repeat (first | with_reducible exact Below.refl _ _ | with_reducible refine B_ext ?_ _ | with_reducible refine B_alloc ?_ _ | with_reducible refine Below.drew ?_ | with_reducible refine B_set ?_ _ _ _))) hok (vdB_mk (by omega) (by omega))))) | ((with_reducible refine wpQuiet_nil ?_); intro x1) | (go_at_call 33; refine (c_works _ _ hs _ _ (by first | with_reducible assumption | exact Ints.below (by assumption) (by repeat (first | with_reducible exact Below.refl _ _ | with_reducible refine B_ext ?_ _ | with_reducible refine B_alloc ?_ _ | with_reducible refine Below.drew ?_ | with_reducible refine B_set ?_ _ _ _))) hok (vdB_mk (by omega) (by omega))).mono ?_; intro e w' hh; first | obtain ⟨rfl, y, rfl⟩ := Ret.ext2 hh | obtain ⟨rfl, y, rfl⟩ := Ret.ext hh))
        go_ret2
        exact ⟨by rw [hstep.out]; simp, (by repeat (first | with_reducible exact Below.refl _ _ | with_reducible refine B_ext ?_ _ | with_reducible refine B_alloc ?_ _ | with_reducible refine Below.drew ?_ | with_reducible refine B_set ?_ _ _ _))⟩
    · have hstep := hid (show nextR we hs d = (0, 6) by
        rw [hr.out, hinv.out, show (109573 - e).toNat = 0 by omega]; simp [optR, nextF])
      clear hinv
      go_wp2_with (first | ((with_reducible refine wp_region_ext2 ?_ ?_ ?_); (kernel_rfl); (kernel_rfl)) | ((with_reducible refine wp_region_ext ?_ ?_ ?_); (kernel_rfl); (kernel_rfl)) | go_big_quiet_step (fail) | ((with_reducible refine wpQuiet_nil ?_); intro x1))
      go_ret2
      exact ⟨by rw [hstep.out]; simp, (by repeat (first | with_reducible exact Below.refl _ _ | with_reducible refine B_ext ?_ _ | with_reducible refine B_alloc ?_ _ | with_reducible refine Below.drew ?_ | with_reducible refine B_set ?_ _ _ _))⟩

set_option maxHeartbeats 1000000 in
theorem c_ref06_Next (we : Int) (v : Value) (hs : List Int) (d : Int) (w : World) (h : Ints w v hs) :
    Calls Try.prog 14 #[.agg #[.int .i64 we, v], .int .i64 d] w (Ret (.tuple #[.int .i64 (nextR we hs d).1, .int .i64 (nextR we hs d).2]) w) := by
  cases hok : calOk we hs
  · have hr := hid (show nextR we hs d = (0, 1) by simp [nextR, hok])
    go_enter Try.func14, Try.ntmps14
    go_wp2_with (first | ((with_reducible refine wp_region_ext2 ?_ ?_ ?_); (kernel_rfl); (kernel_rfl)) | ((with_reducible refine wp_region_ext ?_ ?_ ?_); (kernel_rfl); (kernel_rfl)) | go_big_quiet_step (first | (go_at_call 16; exact quiet_of_ret (c_ref06_Valid _ _ hs _ (by first | with_reducible assumption | exact Ints.below (by assumption) (by repeat (first | with_reducible exact Below.refl _ _ | with_reducible refine B_ext ?_ _ | with_reducible refine B_alloc ?_ _ | with_reducible refine Below.drew ?_ | with_reducible refine B_set ?_ _ _ _)))))) | ((with_reducible refine wpQuiet_nil ?_); intro x1) | (go_at_call 16; refine (c_ref06_Valid _ _ hs _ (by first | with_reducible assumption | exact Ints.below (by assumption) (by repeat (first | with_reducible exact Below.refl _ _ | with_reducible refine B_ext ?_ _ | with_reducible refine B_alloc ?_ _ | with_reducible refine Below.drew ?_ | with_reducible refine B_set ?_ _ _ _)))).mono ?_; intro e w' hh; first | obtain ⟨rfl, y, rfl⟩ := Ret.ext2 hh | obtain ⟨rfl, y, rfl⟩ := Ret.ext hh))
    go_ret2
    exact ⟨by rw [hr.out]; simp, (by repeat (first | with_reducible exact Below.refl _ _ | with_reducible refine B_ext ?_ _ | with_reducible refine B_alloc ?_ _ | with_reducible refine Below.drew ?_ | with_reducible refine B_set ?_ _ _ _))⟩
  cases hd : vdB d
  · have hr := hid (show nextR we hs d = (0, 3) by simp [nextR, hok, hd])
    go_enter Try.func14, Try.ntmps14
    go_wp2_with (first | ((with_reducible refine wp_region_ext2 ?_ ?_ ?_); (kernel_rfl); (kernel_rfl)) | ((with_reducible refine wp_region_ext ?_ ?_ ?_); (kernel_rfl); (kernel_rfl)) | go_big_quiet_step (first | (go_at_call 16; exact quiet_of_ret (c_ref06_Valid _ _ hs _ (by first | with_reducible assumption | exact Ints.below (by assumption) (by repeat (first | with_reducible exact Below.refl _ _ | with_reducible refine B_ext ?_ _ | with_reducible refine B_alloc ?_ _ | with_reducible refine Below.drew ?_ | with_reducible refine B_set ?_ _ _ _))))) | (go_at_call 34; exact quiet_of_ret (c_ref06_day _ _))) | ((with_reducible refine wpQuiet_nil ?_); intro x1) | (go_at_call 16; refine (c_ref06_Valid _ _ hs _ (by first | with_reducible assumption | exact Ints.below (by assumption) (by repeat (first | with_reducible exact Below.refl _ _ | with_reducible refine B_ext ?_ _ | with_reducible refine B_alloc ?_ _ | with_reducible refine Below.drew ?_ | with_reducible refine B_set ?_ _ _ _)))).mono ?_; intro e w' hh; first | obtain ⟨rfl, y, rfl⟩ := Ret.ext2 hh | obtain ⟨rfl, y, rfl⟩ := Ret.ext hh) | (go_at_call 34; refine (c_ref06_day _ _).mono ?_; intro e w' hh; first | obtain ⟨rfl, y, rfl⟩ := Ret.ext2 hh | obtain ⟨rfl, y, rfl⟩ := Ret.ext hh))
    go_ret2
    exact ⟨by rw [hr.out]; simp, (by repeat (first | with_reducible exact Below.refl _ _ | with_reducible refine B_ext ?_ _ | with_reducible refine B_alloc ?_ _ | with_reducible refine Below.drew ?_ | with_reducible refine B_set ?_ _ _ _))⟩
  have hr := hid (show nextR we hs d = optR (nextF (wkB we hs) (109573 - d).toNat d) by simp [nextR, hok, hd])
  obtain ⟨d1, d2⟩ := vdB_true hd
  go_enter Try.func14, Try.ntmps14
  go_wp2_with (first | ((with_reducible refine wp_region_ext2 ?_ ?_ ?_); (kernel_rfl); (kernel_rfl)) | ((with_reducible refine wp_region_ext ?_ ?_ ?_); (kernel_rfl); (kernel_rfl)) | go_big_quiet_step (first | (go_at_call 16; exact quiet_of_ret (c_ref06_Valid _ _ hs _ (by first | with_reducible assumption | exact Ints.below (by assumption) (by repeat (first | with_reducible exact Below.refl _ _ | with_reducible refine B_ext ?_ _ | with_reducible refine B_alloc ?_ _ | with_reducible refine Below.drew ?_ | with_reducible refine B_set ?_ _ _ _))))) | (go_at_call 34; exact quiet_of_ret (c_ref06_day _ _))) | ((with_reducible refine wpQuiet_nil ?_); intro x1) | (go_at_call 16; refine (c_ref06_Valid _ _ hs _ (by first | with_reducible assumption | exact Ints.below (by assumption) (by repeat (first | with_reducible exact Below.refl _ _ | with_reducible refine B_ext ?_ _ | with_reducible refine B_alloc ?_ _ | with_reducible refine Below.drew ?_ | with_reducible refine B_set ?_ _ _ _)))).mono ?_; intro e w' hh; first | obtain ⟨rfl, y, rfl⟩ := Ret.ext2 hh | obtain ⟨rfl, y, rfl⟩ := Ret.ext hh) | (go_at_call 34; refine (c_ref06_day _ _).mono ?_; intro e w' hh; first | obtain ⟨rfl, y, rfl⟩ := Ret.ext2 hh | obtain ⟨rfl, y, rfl⟩ := Ret.ext hh))
  go_loopw [1] (fun i wr => ∃ x, wr = ext (w.alloc (Obj.cells #[Value.int IntKind.i64 we, v] 24)) x ∧ ∃ e : Int, i = .int .i64 e ∧ 0 ≤ e ∧ e ≤ 109573 ∧ Hid (nextF (wkB we hs) (109573 - d).toNat d = nextF (wkB we hs) (109573 - e).toNat e)) (fun i _ => (109573 - intOf i).toNat)
  case atStart => exact ⟨_, rfl, d, rfl, by omega, by omega, rfl⟩
  case round =>
    obtain ⟨x, rfl, e, rfl, e1, e2, hinv⟩ := hrel
    by_cases hlt : e ≤ 109572
    · have hk : (109573 - e).toNat = (109573 - (e + 1)).toNat + 1 := by omega
      have hi2 := hinv.out
      rw [hk, nextF] at hi2
      clear hk
      cases hb : wkB we hs e
      · have hwk : isWkB we hs e = false := by simp [isWkB, hok, vdB_mk (show 0 ≤ e by omega) (show e ≤ 109572 by omega), hb]
        have hstep := hid (show nextF (wkB we hs) (109573 - d).toNat d = nextF (wkB we hs) (109573 - (e + 1)).toNat (e + 1) by rw [hi2, hb]; simp)
        clear hi2 hinv
        go_wp2_with (first | ((with_reducible refine wp_region_ext2 ?_ ?_ ?_); (kernel_rfl); (kernel_rfl)) | ((with_reducible refine wp_region_ext ?_ ?_ ?_); (kernel_rfl); (kernel_rfl)) | go_big_quiet_step (first | (go_at_call 18; exact quiet_of_ret (c_ref06_IsWorkday _ _ hs _ _ (by first | with_reducible assumption | exact Ints.below (by assumption) (by repeat (first | with_reducible exact Below.refl _ _ | with_reducible refine B_ext ?_ _ | with_reducible refine B_alloc ?_ _ | with_reducible refine Below.drew ?_ | with_reducible refine B_set ?_ _ _ _)))))) | ((with_reducible refine wpQuiet_nil ?_); intro x1) | (go_at_call 18; refine (c_ref06_IsWorkday _ _ hs _ _ (by first | with_reducible assumption | exact Ints.below (by assumption) (by repeat (first | with_reducible exact Below.refl _ _ | with_reducible refine B_ext ?_ _ | with_reducible refine B_alloc ?_ _ | with_reducible refine Below.drew ?_ | with_reducible refine B_set ?_ _ _ _)))).mono ?_; intro e w' hh; first | obtain ⟨rfl, y, rfl⟩ := Ret.ext2 hh | obtain ⟨rfl, y, rfl⟩ := Ret.ext hh))
        go_roundw
        case rel => exact ⟨_, rfl, e + 1, rfl, by omega, by omega, hstep⟩
        case measure => simp [intOf]; omega
      · have hwk : isWkB we hs e = true := by simp [isWkB, hok, vdB_mk (show 0 ≤ e by omega) (show e ≤ 109572 by omega), hb]
        have hstep := hid (show nextR we hs d = (e, 0) by rw [hr.out, hi2, hb]; simp [optR])
        clear hi2 hinv
        go_wp2_with (first | ((with_reducible refine wp_region_ext2 ?_ ?_ ?_); (kernel_rfl); (kernel_rfl)) | ((with_reducible refine wp_region_ext ?_ ?_ ?_); (kernel_rfl); (kernel_rfl)) | go_big_quiet_step (first | (go_at_call 18; exact quiet_of_ret (c_ref06_IsWorkday _ _ hs _ _ (by first | with_reducible assumption | exact Ints.below (by assumption) (by repeat (first | with_reducible exact Below.refl _ _ | with_reducible refine B_ext ?_ _ | with_reducible refine B_alloc ?_ _ | with_reducible refine Below.drew ?_ | with_reducible refine B_set ?_ _ _ _)))))) | ((with_reducible refine wpQuiet_nil ?_); intro x1) | (go_at_call 18; refine (c_ref06_IsWorkday _ _ hs _ _ (by first | with_reducible assumption | exact Ints.below (by assumption) (by repeat (first | with_reducible exact Below.refl _ _ | with_reducible refine B_ext ?_ _ | with_reducible refine B_alloc ?_ _ | with_reducible refine Below.drew ?_ | with_reducible refine B_set ?_ _ _ _)))).mono ?_; intro e w' hh; first | obtain ⟨rfl, y, rfl⟩ := Ret.ext2 hh | obtain ⟨rfl, y, rfl⟩ := Ret.ext hh))
        go_ret2
        exact ⟨by rw [hstep.out]; simp, (by repeat (first | with_reducible exact Below.refl _ _ | with_reducible refine B_ext ?_ _ | with_reducible refine B_alloc ?_ _ | with_reducible refine Below.drew ?_ | with_reducible refine B_set ?_ _ _ _))⟩
    · have hstep := hid (show nextR we hs d = (0, 6) by
        rw [hr.out, hinv.out, show (109573 - e).toNat = 0 by omega]; simp [optR, nextF])
      clear hinv
      go_wp2_with (first | ((with_reducible refine wp_region_ext2 ?_ ?_ ?_); (kernel_rfl); (kernel_rfl)) | ((with_reducible refine wp_region_ext ?_ ?_ ?_); (kernel_rfl); (kernel_rfl)) | go_big_quiet_step (fail) | ((with_reducible refine wpQuiet_nil ?_); intro x1))
      go_ret2
      exact ⟨by rw [hstep.out]; simp, (by repeat (first | with_reducible exact Below.refl _ _ | with_reducible refine B_ext ?_ _ | with_reducible refine B_alloc ?_ _ | with_reducible refine Below.drew ?_ | with_reducible refine B_set ?_ _ _ _))⟩

set_option maxHeartbeats 1000000 in
theorem c_workday_Add (we : Int) (v : Value) (hs : List Int) (d n : Int) (w : World) (h : Ints w v hs) :
    Calls Try.prog 19 #[.agg #[.int .i64 we, v], .int .i64 d, .int .i64 n] w (Ret (.tuple #[.int .i64 (addR we hs d n).1, .int .i64 (addR we hs d n).2]) w) := by
  by_cases hn : n = 0
  · subst hn
    have hr := hid (show addR we hs d 0 = nextR we hs d by
      unfold addR nextR
      split
      · rfl
      · split
        · rfl
        · simp)
    rw [hr.out]
    go_enter Try.func19, Try.ntmps19
    go_wp2_with (first | ((with_reducible refine wp_region_ext2 ?_ ?_ ?_); (kernel_rfl); (kernel_rfl)) | ((with_reducible refine wp_region_ext ?_ ?_ ?_); (kernel_rfl); (kernel_rfl)) | go_big_quiet_step (first | (go_at_call 13; exact quiet_of_ret (c_workday_Next _ _ hs _ _ (by first | with_reducible assumption | exact Ints.below (by assumption) (by repeat (first | with_reducible exact Below.refl _ _ | with_reducible refine B_ext ?_ _ | with_reducible refine B_alloc ?_ _ | with_reducible refine Below.drew ?_ | with_reducible refine B_set ?_ _ _ _)))))) | ((with_reducible refine wpQuiet_nil ?_); intro x1) | (go_at_call 13; refine (c_workday_Next _ _ hs _ _ (by first | with_reducible assumption | exact Ints.below (by assumption) (by repeat (first | with_reducible exact Below.refl _ _ | with_reducible refine B_ext ?_ _ | with_reducible refine B_alloc ?_ _ | with_reducible refine Below.drew ?_ | with_reducible refine B_set ?_ _ _ _)))).mono ?_; intro e w' hh; first | obtain ⟨rfl, y, rfl⟩ := Ret.ext2 hh | obtain ⟨rfl, y, rfl⟩ := Ret.ext hh))
    go_ret2
    exact ⟨by simp, (by repeat (first | with_reducible exact Below.refl _ _ | with_reducible refine B_ext ?_ _ | with_reducible refine B_alloc ?_ _ | with_reducible refine Below.drew ?_ | with_reducible refine B_set ?_ _ _ _))⟩
  have hn0 : (n == 0) = false := by simpa using hn
  replace hn := hid hn
  cases hok : calOk we hs
  · have hr := hid (show addR we hs d n = (0, 1) by simp [addR, hok])
    go_enter Try.func19, Try.ntmps19
    go_wp2_with (first | ((with_reducible refine wp_region_ext2 ?_ ?_ ?_); (kernel_rfl); (kernel_rfl)) | ((with_reducible refine wp_region_ext ?_ ?_ ?_); (kernel_rfl); (kernel_rfl)) | go_big_quiet_step (first | (go_at_call 15; exact quiet_of_ret (c_workday_Valid _ _ hs _ (by first | with_reducible assumption | exact Ints.below (by assumption) (by repeat (first | with_reducible exact Below.refl _ _ | with_reducible refine B_ext ?_ _ | with_reducible refine B_alloc ?_ _ | with_reducible refine Below.drew ?_ | with_reducible refine B_set ?_ _ _ _))))) | (go_at_call 32; exact quiet_of_ret (c_workday_validDate _ _))) | ((with_reducible refine wpQuiet_nil ?_); intro x1) | (go_at_call 15; refine (c_workday_Valid _ _ hs _ (by first | with_reducible assumption | exact Ints.below (by assumption) (by repeat (first | with_reducible exact Below.refl _ _ | with_reducible refine B_ext ?_ _ | with_reducible refine B_alloc ?_ _ | with_reducible refine Below.drew ?_ | with_reducible refine B_set ?_ _ _ _)))).mono ?_; intro e w' hh; first | obtain ⟨rfl, y, rfl⟩ := Ret.ext2 hh | obtain ⟨rfl, y, rfl⟩ := Ret.ext hh) | (go_at_call 32; refine (c_workday_validDate _ _).mono ?_; intro e w' hh; first | obtain ⟨rfl, y, rfl⟩ := Ret.ext2 hh | obtain ⟨rfl, y, rfl⟩ := Ret.ext hh))
    go_ret2
    exact ⟨by rw [hr.out]; simp, (by repeat (first | with_reducible exact Below.refl _ _ | with_reducible refine B_ext ?_ _ | with_reducible refine B_alloc ?_ _ | with_reducible refine Below.drew ?_ | with_reducible refine B_set ?_ _ _ _))⟩
  cases hd : vdB d
  · have hr := hid (show addR we hs d n = (0, 3) by simp [addR, hok, hd])
    go_enter Try.func19, Try.ntmps19
    go_wp2_with (first | ((with_reducible refine wp_region_ext2 ?_ ?_ ?_); (kernel_rfl); (kernel_rfl)) | ((with_reducible refine wp_region_ext ?_ ?_ ?_); (kernel_rfl); (kernel_rfl)) | go_big_quiet_step (first | (go_at_call 15; exact quiet_of_ret (c_workday_Valid _ _ hs _ (by first | with_reducible assumption | exact Ints.below (by assumption) (by repeat (first | with_reducible exact Below.refl _ _ | with_reducible refine B_ext ?_ _ | with_reducible refine B_alloc ?_ _ | with_reducible refine Below.drew ?_ | with_reducible refine B_set ?_ _ _ _))))) | (go_at_call 32; exact quiet_of_ret (c_workday_validDate _ _))) | ((with_reducible refine wpQuiet_nil ?_); intro x1) | (go_at_call 15; refine (c_workday_Valid _ _ hs _ (by first | with_reducible assumption | exact Ints.below (by assumption) (by repeat (first | with_reducible exact Below.refl _ _ | with_reducible refine B_ext ?_ _ | with_reducible refine B_alloc ?_ _ | with_reducible refine Below.drew ?_ | with_reducible refine B_set ?_ _ _ _)))).mono ?_; intro e w' hh; first | obtain ⟨rfl, y, rfl⟩ := Ret.ext2 hh | obtain ⟨rfl, y, rfl⟩ := Ret.ext hh) | (go_at_call 32; refine (c_workday_validDate _ _).mono ?_; intro e w' hh; first | obtain ⟨rfl, y, rfl⟩ := Ret.ext2 hh | obtain ⟨rfl, y, rfl⟩ := Ret.ext hh))
    go_ret2
    exact ⟨by rw [hr.out]; simp, (by repeat (first | with_reducible exact Below.refl _ _ | with_reducible refine B_ext ?_ _ | with_reducible refine B_alloc ?_ _ | with_reducible refine Below.drew ?_ | with_reducible refine B_set ?_ _ _ _))⟩
  by_cases hn1 : n < 0
  · have hr := hid (show addR we hs d n = (0, 3) by simp [addR, hok, hd, hn1])
    go_enter Try.func19, Try.ntmps19
    go_wp2_with (first | ((with_reducible refine wp_region_ext2 ?_ ?_ ?_); (kernel_rfl); (kernel_rfl)) | ((with_reducible refine wp_region_ext ?_ ?_ ?_); (kernel_rfl); (kernel_rfl)) | go_big_quiet_step (first | (go_at_call 15; exact quiet_of_ret (c_workday_Valid _ _ hs _ (by first | with_reducible assumption | exact Ints.below (by assumption) (by repeat (first | with_reducible exact Below.refl _ _ | with_reducible refine B_ext ?_ _ | with_reducible refine B_alloc ?_ _ | with_reducible refine Below.drew ?_ | with_reducible refine B_set ?_ _ _ _))))) | (go_at_call 32; exact quiet_of_ret (c_workday_validDate _ _))) | ((with_reducible refine wpQuiet_nil ?_); intro x1) | (go_at_call 15; refine (c_workday_Valid _ _ hs _ (by first | with_reducible assumption | exact Ints.below (by assumption) (by repeat (first | with_reducible exact Below.refl _ _ | with_reducible refine B_ext ?_ _ | with_reducible refine B_alloc ?_ _ | with_reducible refine Below.drew ?_ | with_reducible refine B_set ?_ _ _ _)))).mono ?_; intro e w' hh; first | obtain ⟨rfl, y, rfl⟩ := Ret.ext2 hh | obtain ⟨rfl, y, rfl⟩ := Ret.ext hh) | (go_at_call 32; refine (c_workday_validDate _ _).mono ?_; intro e w' hh; first | obtain ⟨rfl, y, rfl⟩ := Ret.ext2 hh | obtain ⟨rfl, y, rfl⟩ := Ret.ext hh))
    go_ret2
    exact ⟨by rw [hr.out]; simp, (by repeat (first | with_reducible exact Below.refl _ _ | with_reducible refine B_ext ?_ _ | with_reducible refine B_alloc ?_ _ | with_reducible refine Below.drew ?_ | with_reducible refine B_set ?_ _ _ _))⟩
  have hn1' : decide (n < 0) = false := by simpa using hn1
  by_cases hn2 : 365 < n
  · have hr := hid (show addR we hs d n = (0, 3) by simp [addR, hok, hd, hn2])
    go_enter Try.func19, Try.ntmps19
    go_wp2_with (first | ((with_reducible refine wp_region_ext2 ?_ ?_ ?_); (kernel_rfl); (kernel_rfl)) | ((with_reducible refine wp_region_ext ?_ ?_ ?_); (kernel_rfl); (kernel_rfl)) | go_big_quiet_step (first | (go_at_call 15; exact quiet_of_ret (c_workday_Valid _ _ hs _ (by first | with_reducible assumption | exact Ints.below (by assumption) (by repeat (first | with_reducible exact Below.refl _ _ | with_reducible refine B_ext ?_ _ | with_reducible refine B_alloc ?_ _ | with_reducible refine Below.drew ?_ | with_reducible refine B_set ?_ _ _ _))))) | (go_at_call 32; exact quiet_of_ret (c_workday_validDate _ _))) | ((with_reducible refine wpQuiet_nil ?_); intro x1) | (go_at_call 15; refine (c_workday_Valid _ _ hs _ (by first | with_reducible assumption | exact Ints.below (by assumption) (by repeat (first | with_reducible exact Below.refl _ _ | with_reducible refine B_ext ?_ _ | with_reducible refine B_alloc ?_ _ | with_reducible refine Below.drew ?_ | with_reducible refine B_set ?_ _ _ _)))).mono ?_; intro e w' hh; first | obtain ⟨rfl, y, rfl⟩ := Ret.ext2 hh | obtain ⟨rfl, y, rfl⟩ := Ret.ext hh) | (go_at_call 32; refine (c_workday_validDate _ _).mono ?_; intro e w' hh; first | obtain ⟨rfl, y, rfl⟩ := Ret.ext2 hh | obtain ⟨rfl, y, rfl⟩ := Ret.ext hh))
    go_ret2
    exact ⟨by rw [hr.out]; simp, (by repeat (first | with_reducible exact Below.refl _ _ | with_reducible refine B_ext ?_ _ | with_reducible refine B_alloc ?_ _ | with_reducible refine Below.drew ?_ | with_reducible refine B_set ?_ _ _ _))⟩
  have hn2' : decide (365 < n) = false := by simpa using hn2
  have hr := hid (show addR we hs d n = optR (addF (wkB we hs) (109572 - d).toNat (d + 1) n) by simp [addR, hok, hd, hn1, hn2, hn.out])
  have hnpos : 1 ≤ n := by have := hn.out; omega
  obtain ⟨d1, d2⟩ := vdB_true hd
  go_enter Try.func19, Try.ntmps19
  go_wp2_with (first | ((with_reducible refine wp_region_ext2 ?_ ?_ ?_); (kernel_rfl); (kernel_rfl)) | ((with_reducible refine wp_region_ext ?_ ?_ ?_); (kernel_rfl); (kernel_rfl)) | go_big_quiet_step (first | (go_at_call 15; exact quiet_of_ret (c_workday_Valid _ _ hs _ (by first | with_reducible assumption | exact Ints.below (by assumption) (by repeat (first | with_reducible exact Below.refl _ _ | with_reducible refine B_ext ?_ _ | with_reducible refine B_alloc ?_ _ | with_reducible refine Below.drew ?_ | with_reducible refine B_set ?_ _ _ _))))) | (go_at_call 32; exact quiet_of_ret (c_workday_validDate _ _))) | ((with_reducible refine wpQuiet_nil ?_); intro x1) | (go_at_call 15; refine (c_workday_Valid _ _ hs _ (by first | with_reducible assumption | exact Ints.below (by assumption) (by repeat (first | with_reducible exact Below.refl _ _ | with_reducible refine B_ext ?_ _ | with_reducible refine B_alloc ?_ _ | with_reducible refine Below.drew ?_ | with_reducible refine B_set ?_ _ _ _)))).mono ?_; intro e w' hh; first | obtain ⟨rfl, y, rfl⟩ := Ret.ext2 hh | obtain ⟨rfl, y, rfl⟩ := Ret.ext hh) | (go_at_call 32; refine (c_workday_validDate _ _).mono ?_; intro e w' hh; first | obtain ⟨rfl, y, rfl⟩ := Ret.ext2 hh | obtain ⟨rfl, y, rfl⟩ := Ret.ext hh))
  go_loopw [1, 2] (fun i j wr => ∃ x, wr = ext (w.alloc (Obj.cells #[Value.int IntKind.i64 we, v] 24)) x ∧ ∃ e m : Int, i = .int .i64 e ∧ j = .int .i64 m ∧ 0 ≤ e ∧ e ≤ 109573 ∧ 1 ≤ m ∧ m ≤ 365 ∧ Hid (addF (wkB we hs) (109572 - d).toNat (d + 1) n = addF (wkB we hs) (109573 - e).toNat e m)) (fun i _ _ => (109573 - intOf i).toNat)
  case atStart => exact ⟨_, rfl, d + 1, n, rfl, rfl, by omega, by omega, by omega, by omega, by show _ = _; rw [show (109573 - (d + 1)).toNat = (109572 - d).toNat by omega]⟩
  case round =>
    obtain ⟨x, rfl, e, m, rfl, rfl, e1, e2, m1, m2, hinv⟩ := hrel
    by_cases hlt : e ≤ 109572
    · have hk : (109573 - e).toNat = (109573 - (e + 1)).toNat + 1 := by omega
      have hi2 := hinv.out
      rw [hk, addF] at hi2
      clear hk
      cases hb : wkB we hs (e)
      · have hwk := hb
        have hstep := hid (show addF (wkB we hs) (109572 - d).toNat (d + 1) n = addF (wkB we hs) (109573 - (e + 1)).toNat (e + 1) m by rw [hi2, hb]; simp)
        clear hi2 hinv
        go_wp2_with (first | ((with_reducible refine wp_region_ext2 ?_ ?_ ?_); (kernel_rfl); (kernel_rfl)) | ((with_reducible refine wp_region_ext ?_ ?_ ?_); (kernel_rfl); (kernel_rfl)) | go_big_quiet_step (first | (go_at_call 33; exact quiet_of_ret (c_works _ _ hs _ _ (by first | with_reducible assumption | exact Ints.below (by assumption) (by repeat (first | with_reducible exact Below.refl _ _ | with_reducible refine B_ext ?_ _ | with_reducible refine B_alloc ?_ _ | with_reducible refine Below.drew ?_ | with_reducible refine B_set ?_ _ _ _))) hok (vdB_mk (by omega) (by omega))))) | ((with_reducible refine wpQuiet_nil ?_); intro x1) | (go_at_call 33; refine (c_works _ _ hs _ _ (by first | with_reducible assumption | exact Ints.below (by assumption) (by repeat (first | with_reducible exact Below.refl _ _ | with_reducible refine B_ext ?_ _ | with_reducible refine B_alloc ?_ _ | with_reducible refine Below.drew ?_ | with_reducible refine B_set ?_ _ _ _))) hok (vdB_mk (by omega) (by omega))).mono ?_; intro e w' hh; first | obtain ⟨rfl, y, rfl⟩ := Ret.ext2 hh | obtain ⟨rfl, y, rfl⟩ := Ret.ext hh))
        go_roundw
        case rel => exact ⟨_, rfl, e + 1, m, rfl, rfl, by omega, by omega, m1, m2, hstep⟩
        case measure => simp [intOf]; omega
      · have hwk := hb
        by_cases hm1 : m = 1
        · have hstep := hid (show addR we hs d n = (e, 0) by rw [hr.out, hi2, hb, hm1]; simp [optR])
          have hm0 : (m - 1 == 0) = true := by simp; omega
          replace hm1 := hid hm1
          clear hi2 hinv
          go_wp2_with (first | ((with_reducible refine wp_region_ext2 ?_ ?_ ?_); (kernel_rfl); (kernel_rfl)) | ((with_reducible refine wp_region_ext ?_ ?_ ?_); (kernel_rfl); (kernel_rfl)) | go_big_quiet_step (first | (go_at_call 33; exact quiet_of_ret (c_works _ _ hs _ _ (by first | with_reducible assumption | exact Ints.below (by assumption) (by repeat (first | with_reducible exact Below.refl _ _ | with_reducible refine B_ext ?_ _ | with_reducible refine B_alloc ?_ _ | with_reducible refine Below.drew ?_ | with_reducible refine B_set ?_ _ _ _))) hok (vdB_mk (by omega) (by omega))))) | ((with_reducible refine wpQuiet_nil ?_); intro x1) | (go_at_call 33; refine (c_works _ _ hs _ _ (by first | with_reducible assumption | exact Ints.below (by assumption) (by repeat (first | with_reducible exact Below.refl _ _ | with_reducible refine B_ext ?_ _ | with_reducible refine B_alloc ?_ _ | with_reducible refine Below.drew ?_ | with_reducible refine B_set ?_ _ _ _))) hok (vdB_mk (by omega) (by omega))).mono ?_; intro e w' hh; first | obtain ⟨rfl, y, rfl⟩ := Ret.ext2 hh | obtain ⟨rfl, y, rfl⟩ := Ret.ext hh))
          go_ret2
          exact ⟨by rw [hstep.out]; simp, (by repeat (first | with_reducible exact Below.refl _ _ | with_reducible refine B_ext ?_ _ | with_reducible refine B_alloc ?_ _ | with_reducible refine Below.drew ?_ | with_reducible refine B_set ?_ _ _ _))⟩
        · have hstep := hid (show addF (wkB we hs) (109572 - d).toNat (d + 1) n = addF (wkB we hs) (109573 - (e + 1)).toNat (e + 1) (m - 1) by rw [hi2, hb]; simp [hm1])
          have hm0 : (m - 1 == 0) = false := by simp; omega
          have hm2 : 2 ≤ m := by omega
          replace hm1 := hid hm1
          clear hi2 hinv
          go_wp2_with (first | ((with_reducible refine wp_region_ext2 ?_ ?_ ?_); (kernel_rfl); (kernel_rfl)) | ((with_reducible refine wp_region_ext ?_ ?_ ?_); (kernel_rfl); (kernel_rfl)) | go_big_quiet_step (first | (go_at_call 33; exact quiet_of_ret (c_works _ _ hs _ _ (by first | with_reducible assumption | exact Ints.below (by assumption) (by repeat (first | with_reducible exact Below.refl _ _ | with_reducible refine B_ext ?_ _ | with_reducible refine B_alloc ?_ _ | with_reducible refine Below.drew ?_ | with_reducible refine B_set ?_ _ _ _))) hok (vdB_mk (by omega) (by omega))))) | ((with_reducible refine wpQuiet_nil ?_); intro x1) | (go_at_call 33; refine (c_works _ _ hs _ _ (by first | with_reducible assumption | exact Ints.below (by assumption) (by repeat (first | with_reducible exact Below.refl _ _ | with_reducible refine B_ext ?_ _ | with_reducible refine B_alloc ?_ _ | with_reducible refine Below.drew ?_ | with_reducible refine B_set ?_ _ _ _))) hok (vdB_mk (by omega) (by omega))).mono ?_; intro e w' hh; first | obtain ⟨rfl, y, rfl⟩ := Ret.ext2 hh | obtain ⟨rfl, y, rfl⟩ := Ret.ext hh))
          go_roundw
          case rel => exact ⟨_, rfl, e + 1, m - 1, rfl, rfl, by omega, by omega, by omega, by omega, hstep⟩
          case measure => simp [intOf]; omega
    · have hstep := hid (show addR we hs d n = (0, 6) by
        rw [hr.out, hinv.out, show (109573 - e).toNat = 0 by omega]; simp [optR, addF])
      clear hinv
      go_wp2_with (first | ((with_reducible refine wp_region_ext2 ?_ ?_ ?_); (kernel_rfl); (kernel_rfl)) | ((with_reducible refine wp_region_ext ?_ ?_ ?_); (kernel_rfl); (kernel_rfl)) | go_big_quiet_step (fail) | ((with_reducible refine wpQuiet_nil ?_); intro x1))
      go_ret2
      exact ⟨by rw [hstep.out]; simp, (by repeat (first | with_reducible exact Below.refl _ _ | with_reducible refine B_ext ?_ _ | with_reducible refine B_alloc ?_ _ | with_reducible refine Below.drew ?_ | with_reducible refine B_set ?_ _ _ _))⟩

set_option maxHeartbeats 1000000 in
theorem c_workday_Count (we : Int) (v : Value) (hs : List Int) (a b : Int) (w : World) (h : Ints w v hs) :
    Calls Try.prog 21 #[.agg #[.int .i64 we, v], .agg #[.int .i64 a, .int .i64 b]] w (Ret (.int .i64 (cntR we hs a b)) w) := by
  cases hok : calOk we hs
  · have hr := hid (show cntR we hs a b = 0 by simp [cntR, hok])
    go_enter Try.func21, Try.ntmps21
    go_wp2_with (first | ((with_reducible refine wp_region_ext2 ?_ ?_ ?_); (kernel_rfl); (kernel_rfl)) | ((with_reducible refine wp_region_ext ?_ ?_ ?_); (kernel_rfl); (kernel_rfl)) | go_big_quiet_step (first | (go_at_call 15; exact quiet_of_ret (c_workday_Valid _ _ hs _ (by first | with_reducible assumption | exact Ints.below (by assumption) (by repeat (first | with_reducible exact Below.refl _ _ | with_reducible refine B_ext ?_ _ | with_reducible refine B_alloc ?_ _ | with_reducible refine Below.drew ?_ | with_reducible refine B_set ?_ _ _ _))))) | (go_at_call 35; exact quiet_of_ret (c_daterange_Valid _ _ _))) | ((with_reducible refine wpQuiet_nil ?_); intro x1) | (go_at_call 15; refine (c_workday_Valid _ _ hs _ (by first | with_reducible assumption | exact Ints.below (by assumption) (by repeat (first | with_reducible exact Below.refl _ _ | with_reducible refine B_ext ?_ _ | with_reducible refine B_alloc ?_ _ | with_reducible refine Below.drew ?_ | with_reducible refine B_set ?_ _ _ _)))).mono ?_; intro e w' hh; first | obtain ⟨rfl, y, rfl⟩ := Ret.ext2 hh | obtain ⟨rfl, y, rfl⟩ := Ret.ext hh) | (go_at_call 35; refine (c_daterange_Valid _ _ _).mono ?_; intro e w' hh; first | obtain ⟨rfl, y, rfl⟩ := Ret.ext2 hh | obtain ⟨rfl, y, rfl⟩ := Ret.ext hh))
    go_ret
    exact ⟨by rw [hr.out]; simp, (by repeat (first | with_reducible exact Below.refl _ _ | with_reducible refine B_ext ?_ _ | with_reducible refine B_alloc ?_ _ | with_reducible refine Below.drew ?_ | with_reducible refine B_set ?_ _ _ _))⟩
  cases hd : rngB a b
  · have hr := hid (show cntR we hs a b = 0 by simp [cntR, hok, hd])
    go_enter Try.func21, Try.ntmps21
    go_wp2_with (first | ((with_reducible refine wp_region_ext2 ?_ ?_ ?_); (kernel_rfl); (kernel_rfl)) | ((with_reducible refine wp_region_ext ?_ ?_ ?_); (kernel_rfl); (kernel_rfl)) | go_big_quiet_step (first | (go_at_call 15; exact quiet_of_ret (c_workday_Valid _ _ hs _ (by first | with_reducible assumption | exact Ints.below (by assumption) (by repeat (first | with_reducible exact Below.refl _ _ | with_reducible refine B_ext ?_ _ | with_reducible refine B_alloc ?_ _ | with_reducible refine Below.drew ?_ | with_reducible refine B_set ?_ _ _ _))))) | (go_at_call 35; exact quiet_of_ret (c_daterange_Valid _ _ _))) | ((with_reducible refine wpQuiet_nil ?_); intro x1) | (go_at_call 15; refine (c_workday_Valid _ _ hs _ (by first | with_reducible assumption | exact Ints.below (by assumption) (by repeat (first | with_reducible exact Below.refl _ _ | with_reducible refine B_ext ?_ _ | with_reducible refine B_alloc ?_ _ | with_reducible refine Below.drew ?_ | with_reducible refine B_set ?_ _ _ _)))).mono ?_; intro e w' hh; first | obtain ⟨rfl, y, rfl⟩ := Ret.ext2 hh | obtain ⟨rfl, y, rfl⟩ := Ret.ext hh) | (go_at_call 35; refine (c_daterange_Valid _ _ _).mono ?_; intro e w' hh; first | obtain ⟨rfl, y, rfl⟩ := Ret.ext2 hh | obtain ⟨rfl, y, rfl⟩ := Ret.ext hh))
    go_ret
    exact ⟨by rw [hr.out]; simp, (by repeat (first | with_reducible exact Below.refl _ _ | with_reducible refine B_ext ?_ _ | with_reducible refine B_alloc ?_ _ | with_reducible refine Below.drew ?_ | with_reducible refine B_set ?_ _ _ _))⟩
  have hr := hid (show cntR we hs a b = cntF (wkB we hs) (b - a).toNat a by simp [cntR, hok, hd])
  obtain ⟨d1, d2, d3⟩ : 0 ≤ a ∧ a ≤ b ∧ b ≤ 109573 := by simpa [rngB, and_assoc] using hd
  go_enter Try.func21, Try.ntmps21
  go_wp2_with (first | ((with_reducible refine wp_region_ext2 ?_ ?_ ?_); (kernel_rfl); (kernel_rfl)) | ((with_reducible refine wp_region_ext ?_ ?_ ?_); (kernel_rfl); (kernel_rfl)) | go_big_quiet_step (first | (go_at_call 15; exact quiet_of_ret (c_workday_Valid _ _ hs _ (by first | with_reducible assumption | exact Ints.below (by assumption) (by repeat (first | with_reducible exact Below.refl _ _ | with_reducible refine B_ext ?_ _ | with_reducible refine B_alloc ?_ _ | with_reducible refine Below.drew ?_ | with_reducible refine B_set ?_ _ _ _))))) | (go_at_call 35; exact quiet_of_ret (c_daterange_Valid _ _ _))) | ((with_reducible refine wpQuiet_nil ?_); intro x1) | (go_at_call 15; refine (c_workday_Valid _ _ hs _ (by first | with_reducible assumption | exact Ints.below (by assumption) (by repeat (first | with_reducible exact Below.refl _ _ | with_reducible refine B_ext ?_ _ | with_reducible refine B_alloc ?_ _ | with_reducible refine Below.drew ?_ | with_reducible refine B_set ?_ _ _ _)))).mono ?_; intro e w' hh; first | obtain ⟨rfl, y, rfl⟩ := Ret.ext2 hh | obtain ⟨rfl, y, rfl⟩ := Ret.ext hh) | (go_at_call 35; refine (c_daterange_Valid _ _ _).mono ?_; intro e w' hh; first | obtain ⟨rfl, y, rfl⟩ := Ret.ext2 hh | obtain ⟨rfl, y, rfl⟩ := Ret.ext hh))
  go_loopw [5, 6] (fun c i wr => ∃ x, wr = ext ((w.alloc (Obj.cells #[Value.int IntKind.i64 we, v] 24)).alloc (Obj.cells #[Value.int IntKind.i64 a, Value.int IntKind.i64 b] 34)) x ∧ ∃ e m : Int, c = .int .i64 m ∧ i = .int .i64 e ∧ a ≤ e ∧ e ≤ b ∧ 0 ≤ m ∧ m ≤ e ∧ Hid (cntF (wkB we hs) (b - a).toNat a = m + cntF (wkB we hs) (b - e).toNat e)) (fun _ i _ => (b - intOf i).toNat)
  case atStart => exact ⟨_, rfl, a, 0, rfl, rfl, by omega, by omega, by omega, by omega, by simp [Hid]⟩
  case round =>
    obtain ⟨x, rfl, e, m, rfl, rfl, e1, e2, m1, m2, hinv⟩ := hrel
    by_cases hlt : e < b
    · have hk : (b - e).toNat = (b - (e + 1)).toNat + 1 := by omega
      have hi2 := hinv.out
      rw [hk, cntF] at hi2
      clear hk
      cases hb : wkB we hs e
      · have hwk := hb
        have hstep := hid (show cntF (wkB we hs) (b - a).toNat a = m + cntF (wkB we hs) (b - (e + 1)).toNat (e + 1) by rw [hi2, hb]; simp)
        clear hi2 hinv
        go_wp2_with (first | ((with_reducible refine wp_region_ext2 ?_ ?_ ?_); (kernel_rfl); (kernel_rfl)) | ((with_reducible refine wp_region_ext ?_ ?_ ?_); (kernel_rfl); (kernel_rfl)) | go_big_quiet_step (first | (go_at_call 33; exact quiet_of_ret (c_works _ _ hs _ _ (by first | with_reducible assumption | exact Ints.below (by assumption) (by repeat (first | with_reducible exact Below.refl _ _ | with_reducible refine B_ext ?_ _ | with_reducible refine B_alloc ?_ _ | with_reducible refine Below.drew ?_ | with_reducible refine B_set ?_ _ _ _))) hok (vdB_mk (by omega) (by omega))))) | ((with_reducible refine wpQuiet_nil ?_); intro x1) | (go_at_call 33; refine (c_works _ _ hs _ _ (by first | with_reducible assumption | exact Ints.below (by assumption) (by repeat (first | with_reducible exact Below.refl _ _ | with_reducible refine B_ext ?_ _ | with_reducible refine B_alloc ?_ _ | with_reducible refine Below.drew ?_ | with_reducible refine B_set ?_ _ _ _))) hok (vdB_mk (by omega) (by omega))).mono ?_; intro e w' hh; first | obtain ⟨rfl, y, rfl⟩ := Ret.ext2 hh | obtain ⟨rfl, y, rfl⟩ := Ret.ext hh))
        go_roundw
        case rel => exact ⟨_, rfl, e + 1, m, rfl, rfl, by omega, by omega, by omega, by omega, hstep⟩
        case measure => simp [intOf]; omega
      · have hwk := hb
        have hstep := hid (show cntF (wkB we hs) (b - a).toNat a = (m + 1) + cntF (wkB we hs) (b - (e + 1)).toNat (e + 1) by rw [hi2, hb]; simp; omega)
        clear hi2 hinv
        go_wp2_with (first | ((with_reducible refine wp_region_ext2 ?_ ?_ ?_); (kernel_rfl); (kernel_rfl)) | ((with_reducible refine wp_region_ext ?_ ?_ ?_); (kernel_rfl); (kernel_rfl)) | go_big_quiet_step (first | (go_at_call 33; exact quiet_of_ret (c_works _ _ hs _ _ (by first | with_reducible assumption | exact Ints.below (by assumption) (by repeat (first | with_reducible exact Below.refl _ _ | with_reducible refine B_ext ?_ _ | with_reducible refine B_alloc ?_ _ | with_reducible refine Below.drew ?_ | with_reducible refine B_set ?_ _ _ _))) hok (vdB_mk (by omega) (by omega))))) | ((with_reducible refine wpQuiet_nil ?_); intro x1) | (go_at_call 33; refine (c_works _ _ hs _ _ (by first | with_reducible assumption | exact Ints.below (by assumption) (by repeat (first | with_reducible exact Below.refl _ _ | with_reducible refine B_ext ?_ _ | with_reducible refine B_alloc ?_ _ | with_reducible refine Below.drew ?_ | with_reducible refine B_set ?_ _ _ _))) hok (vdB_mk (by omega) (by omega))).mono ?_; intro e w' hh; first | obtain ⟨rfl, y, rfl⟩ := Ret.ext2 hh | obtain ⟨rfl, y, rfl⟩ := Ret.ext hh))
        go_roundw
        case rel => exact ⟨_, rfl, e + 1, m + 1, rfl, rfl, by omega, by omega, by omega, by omega, hstep⟩
        case measure => simp [intOf]; omega
    · have hstep := hid (show cntR we hs a b = m by
        rw [hr.out, hinv.out, show (b - e).toNat = 0 by omega]; simp [cntF])
      clear hinv
      go_wp2_with (first | ((with_reducible refine wp_region_ext2 ?_ ?_ ?_); (kernel_rfl); (kernel_rfl)) | ((with_reducible refine wp_region_ext ?_ ?_ ?_); (kernel_rfl); (kernel_rfl)) | go_big_quiet_step (fail) | ((with_reducible refine wpQuiet_nil ?_); intro x1))
      go_ret
      exact ⟨by rw [hstep.out]; simp, (by repeat (first | with_reducible exact Below.refl _ _ | with_reducible refine B_ext ?_ _ | with_reducible refine B_alloc ?_ _ | with_reducible refine Below.drew ?_ | with_reducible refine B_set ?_ _ _ _))⟩

set_option maxHeartbeats 1000000 in
theorem c_ref06_Add (we : Int) (v : Value) (hs : List Int) (d n : Int) (w : World) (h : Ints w v hs) :
    Calls Try.prog 20 #[.agg #[.int .i64 we, v], .int .i64 d, .int .i64 n] w (Ret (.tuple #[.int .i64 (addR we hs d n).1, .int .i64 (addR we hs d n).2]) w) := by
  by_cases hn : n = 0
  · subst hn
    have hr := hid (show addR we hs d 0 = nextR we hs d by
      unfold addR nextR
      split
      · rfl
      · split
        · rfl
        · simp)
    rw [hr.out]
    cases hok : calOk we hs
    · have hx := hid (show nextR we hs d = (0, 1) by simp [nextR, hok])
      go_enter Try.func20, Try.ntmps20
      go_wp2_with (first | ((with_reducible refine wp_region_ext2 ?_ ?_ ?_); (kernel_rfl); (kernel_rfl)) | ((with_reducible refine wp_region_ext ?_ ?_ ?_); (kernel_rfl); (kernel_rfl)) | go_big_quiet_step (first | (go_at_call 16; exact quiet_of_ret (c_ref06_Valid _ _ hs _ (by first | with_reducible assumption | exact Ints.below (by assumption) (by repeat (first | with_reducible exact Below.refl _ _ | with_reducible refine B_ext ?_ _ | with_reducible refine B_alloc ?_ _ | with_reducible refine Below.drew ?_ | with_reducible refine B_set ?_ _ _ _))))) | (go_at_call 34; exact quiet_of_ret (c_ref06_day _ _))) | ((with_reducible refine wpQuiet_nil ?_); intro x1) | (go_at_call 16; refine (c_ref06_Valid _ _ hs _ (by first | with_reducible assumption | exact Ints.below (by assumption) (by repeat (first | with_reducible exact Below.refl _ _ | with_reducible refine B_ext ?_ _ | with_reducible refine B_alloc ?_ _ | with_reducible refine Below.drew ?_ | with_reducible refine B_set ?_ _ _ _)))).mono ?_; intro e w' hh; first | obtain ⟨rfl, y, rfl⟩ := Ret.ext2 hh | obtain ⟨rfl, y, rfl⟩ := Ret.ext hh) | (go_at_call 34; refine (c_ref06_day _ _).mono ?_; intro e w' hh; first | obtain ⟨rfl, y, rfl⟩ := Ret.ext2 hh | obtain ⟨rfl, y, rfl⟩ := Ret.ext hh))
      go_ret2
      exact ⟨by rw [hx.out]; simp, (by repeat (first | with_reducible exact Below.refl _ _ | with_reducible refine B_ext ?_ _ | with_reducible refine B_alloc ?_ _ | with_reducible refine Below.drew ?_ | with_reducible refine B_set ?_ _ _ _))⟩
    cases hd : vdB d
    · have hx := hid (show nextR we hs d = (0, 3) by simp [nextR, hok, hd])
      go_enter Try.func20, Try.ntmps20
      go_wp2_with (first | ((with_reducible refine wp_region_ext2 ?_ ?_ ?_); (kernel_rfl); (kernel_rfl)) | ((with_reducible refine wp_region_ext ?_ ?_ ?_); (kernel_rfl); (kernel_rfl)) | go_big_quiet_step (first | (go_at_call 16; exact quiet_of_ret (c_ref06_Valid _ _ hs _ (by first | with_reducible assumption | exact Ints.below (by assumption) (by repeat (first | with_reducible exact Below.refl _ _ | with_reducible refine B_ext ?_ _ | with_reducible refine B_alloc ?_ _ | with_reducible refine Below.drew ?_ | with_reducible refine B_set ?_ _ _ _))))) | (go_at_call 34; exact quiet_of_ret (c_ref06_day _ _))) | ((with_reducible refine wpQuiet_nil ?_); intro x1) | (go_at_call 16; refine (c_ref06_Valid _ _ hs _ (by first | with_reducible assumption | exact Ints.below (by assumption) (by repeat (first | with_reducible exact Below.refl _ _ | with_reducible refine B_ext ?_ _ | with_reducible refine B_alloc ?_ _ | with_reducible refine Below.drew ?_ | with_reducible refine B_set ?_ _ _ _)))).mono ?_; intro e w' hh; first | obtain ⟨rfl, y, rfl⟩ := Ret.ext2 hh | obtain ⟨rfl, y, rfl⟩ := Ret.ext hh) | (go_at_call 34; refine (c_ref06_day _ _).mono ?_; intro e w' hh; first | obtain ⟨rfl, y, rfl⟩ := Ret.ext2 hh | obtain ⟨rfl, y, rfl⟩ := Ret.ext hh))
      go_ret2
      exact ⟨by rw [hx.out]; simp, (by repeat (first | with_reducible exact Below.refl _ _ | with_reducible refine B_ext ?_ _ | with_reducible refine B_alloc ?_ _ | with_reducible refine Below.drew ?_ | with_reducible refine B_set ?_ _ _ _))⟩
    go_enter Try.func20, Try.ntmps20
    go_wp2_with (first | ((with_reducible refine wp_region_ext2 ?_ ?_ ?_); (kernel_rfl); (kernel_rfl)) | ((with_reducible refine wp_region_ext ?_ ?_ ?_); (kernel_rfl); (kernel_rfl)) | go_big_quiet_step (first | (go_at_call 16; exact quiet_of_ret (c_ref06_Valid _ _ hs _ (by first | with_reducible assumption | exact Ints.below (by assumption) (by repeat (first | with_reducible exact Below.refl _ _ | with_reducible refine B_ext ?_ _ | with_reducible refine B_alloc ?_ _ | with_reducible refine Below.drew ?_ | with_reducible refine B_set ?_ _ _ _))))) | (go_at_call 34; exact quiet_of_ret (c_ref06_day _ _)) | (go_at_call 14; exact quiet_of_ret (c_ref06_Next _ _ hs _ _ (by first | with_reducible assumption | exact Ints.below (by assumption) (by repeat (first | with_reducible exact Below.refl _ _ | with_reducible refine B_ext ?_ _ | with_reducible refine B_alloc ?_ _ | with_reducible refine Below.drew ?_ | with_reducible refine B_set ?_ _ _ _)))))) | ((with_reducible refine wpQuiet_nil ?_); intro x1) | (go_at_call 16; refine (c_ref06_Valid _ _ hs _ (by first | with_reducible assumption | exact Ints.below (by assumption) (by repeat (first | with_reducible exact Below.refl _ _ | with_reducible refine B_ext ?_ _ | with_reducible refine B_alloc ?_ _ | with_reducible refine Below.drew ?_ | with_reducible refine B_set ?_ _ _ _)))).mono ?_; intro e w' hh; first | obtain ⟨rfl, y, rfl⟩ := Ret.ext2 hh | obtain ⟨rfl, y, rfl⟩ := Ret.ext hh) | (go_at_call 34; refine (c_ref06_day _ _).mono ?_; intro e w' hh; first | obtain ⟨rfl, y, rfl⟩ := Ret.ext2 hh | obtain ⟨rfl, y, rfl⟩ := Ret.ext hh) | (go_at_call 14; refine (c_ref06_Next _ _ hs _ _ (by first | with_reducible assumption | exact Ints.below (by assumption) (by repeat (first | with_reducible exact Below.refl _ _ | with_reducible refine B_ext ?_ _ | with_reducible refine B_alloc ?_ _ | with_reducible refine Below.drew ?_ | with_reducible refine B_set ?_ _ _ _)))).mono ?_; intro e w' hh; first | obtain ⟨rfl, y, rfl⟩ := Ret.ext2 hh | obtain ⟨rfl, y, rfl⟩ := Ret.ext hh))
    go_ret2
    exact ⟨by simp, (by repeat (first | with_reducible exact Below.refl _ _ | with_reducible refine B_ext ?_ _ | with_reducible refine B_alloc ?_ _ | with_reducible refine Below.drew ?_ | with_reducible refine B_set ?_ _ _ _))⟩
  have hn0 : (n == 0) = false := by simpa using hn
  replace hn := hid hn
  cases hok : calOk we hs
  · have hr := hid (show addR we hs d n = (0, 1) by simp [addR, hok])
    go_enter Try.func20, Try.ntmps20
    go_wp2_with (first | ((with_reducible refine wp_region_ext2 ?_ ?_ ?_); (kernel_rfl); (kernel_rfl)) | ((with_reducible refine wp_region_ext ?_ ?_ ?_); (kernel_rfl); (kernel_rfl)) | go_big_quiet_step (first | (go_at_call 16; exact quiet_of_ret (c_ref06_Valid _ _ hs _ (by first | with_reducible assumption | exact Ints.below (by assumption) (by repeat (first | with_reducible exact Below.refl _ _ | with_reducible refine B_ext ?_ _ | with_reducible refine B_alloc ?_ _ | with_reducible refine Below.drew ?_ | with_reducible refine B_set ?_ _ _ _))))) | (go_at_call 34; exact quiet_of_ret (c_ref06_day _ _))) | ((with_reducible refine wpQuiet_nil ?_); intro x1) | (go_at_call 16; refine (c_ref06_Valid _ _ hs _ (by first | with_reducible assumption | exact Ints.below (by assumption) (by repeat (first | with_reducible exact Below.refl _ _ | with_reducible refine B_ext ?_ _ | with_reducible refine B_alloc ?_ _ | with_reducible refine Below.drew ?_ | with_reducible refine B_set ?_ _ _ _)))).mono ?_; intro e w' hh; first | obtain ⟨rfl, y, rfl⟩ := Ret.ext2 hh | obtain ⟨rfl, y, rfl⟩ := Ret.ext hh) | (go_at_call 34; refine (c_ref06_day _ _).mono ?_; intro e w' hh; first | obtain ⟨rfl, y, rfl⟩ := Ret.ext2 hh | obtain ⟨rfl, y, rfl⟩ := Ret.ext hh))
    go_ret2
    exact ⟨by rw [hr.out]; simp, (by repeat (first | with_reducible exact Below.refl _ _ | with_reducible refine B_ext ?_ _ | with_reducible refine B_alloc ?_ _ | with_reducible refine Below.drew ?_ | with_reducible refine B_set ?_ _ _ _))⟩
  cases hd : vdB d
  · have hr := hid (show addR we hs d n = (0, 3) by simp [addR, hok, hd])
    go_enter Try.func20, Try.ntmps20
    go_wp2_with (first | ((with_reducible refine wp_region_ext2 ?_ ?_ ?_); (kernel_rfl); (kernel_rfl)) | ((with_reducible refine wp_region_ext ?_ ?_ ?_); (kernel_rfl); (kernel_rfl)) | go_big_quiet_step (first | (go_at_call 16; exact quiet_of_ret (c_ref06_Valid _ _ hs _ (by first | with_reducible assumption | exact Ints.below (by assumption) (by repeat (first | with_reducible exact Below.refl _ _ | with_reducible refine B_ext ?_ _ | with_reducible refine B_alloc ?_ _ | with_reducible refine Below.drew ?_ | with_reducible refine B_set ?_ _ _ _))))) | (go_at_call 34; exact quiet_of_ret (c_ref06_day _ _))) | ((with_reducible refine wpQuiet_nil ?_); intro x1) | (go_at_call 16; refine (c_ref06_Valid _ _ hs _ (by first | with_reducible assumption | exact Ints.below (by assumption) (by repeat (first | with_reducible exact Below.refl _ _ | with_reducible refine B_ext ?_ _ | with_reducible refine B_alloc ?_ _ | with_reducible refine Below.drew ?_ | with_reducible refine B_set ?_ _ _ _)))).mono ?_; intro e w' hh; first | obtain ⟨rfl, y, rfl⟩ := Ret.ext2 hh | obtain ⟨rfl, y, rfl⟩ := Ret.ext hh) | (go_at_call 34; refine (c_ref06_day _ _).mono ?_; intro e w' hh; first | obtain ⟨rfl, y, rfl⟩ := Ret.ext2 hh | obtain ⟨rfl, y, rfl⟩ := Ret.ext hh))
    go_ret2
    exact ⟨by rw [hr.out]; simp, (by repeat (first | with_reducible exact Below.refl _ _ | with_reducible refine B_ext ?_ _ | with_reducible refine B_alloc ?_ _ | with_reducible refine Below.drew ?_ | with_reducible refine B_set ?_ _ _ _))⟩
  by_cases hn1 : n < 0
  · have hr := hid (show addR we hs d n = (0, 3) by simp [addR, hok, hd, hn1])
    go_enter Try.func20, Try.ntmps20
    go_wp2_with (first | ((with_reducible refine wp_region_ext2 ?_ ?_ ?_); (kernel_rfl); (kernel_rfl)) | ((with_reducible refine wp_region_ext ?_ ?_ ?_); (kernel_rfl); (kernel_rfl)) | go_big_quiet_step (first | (go_at_call 16; exact quiet_of_ret (c_ref06_Valid _ _ hs _ (by first | with_reducible assumption | exact Ints.below (by assumption) (by repeat (first | with_reducible exact Below.refl _ _ | with_reducible refine B_ext ?_ _ | with_reducible refine B_alloc ?_ _ | with_reducible refine Below.drew ?_ | with_reducible refine B_set ?_ _ _ _))))) | (go_at_call 34; exact quiet_of_ret (c_ref06_day _ _))) | ((with_reducible refine wpQuiet_nil ?_); intro x1) | (go_at_call 16; refine (c_ref06_Valid _ _ hs _ (by first | with_reducible assumption | exact Ints.below (by assumption) (by repeat (first | with_reducible exact Below.refl _ _ | with_reducible refine B_ext ?_ _ | with_reducible refine B_alloc ?_ _ | with_reducible refine Below.drew ?_ | with_reducible refine B_set ?_ _ _ _)))).mono ?_; intro e w' hh; first | obtain ⟨rfl, y, rfl⟩ := Ret.ext2 hh | obtain ⟨rfl, y, rfl⟩ := Ret.ext hh) | (go_at_call 34; refine (c_ref06_day _ _).mono ?_; intro e w' hh; first | obtain ⟨rfl, y, rfl⟩ := Ret.ext2 hh | obtain ⟨rfl, y, rfl⟩ := Ret.ext hh))
    go_ret2
    exact ⟨by rw [hr.out]; simp, (by repeat (first | with_reducible exact Below.refl _ _ | with_reducible refine B_ext ?_ _ | with_reducible refine B_alloc ?_ _ | with_reducible refine Below.drew ?_ | with_reducible refine B_set ?_ _ _ _))⟩
  have hn1' : decide (n < 0) = false := by simpa using hn1
  by_cases hn2 : 365 < n
  · have hr := hid (show addR we hs d n = (0, 3) by simp [addR, hok, hd, hn2])
    go_enter Try.func20, Try.ntmps20
    go_wp2_with (first | ((with_reducible refine wp_region_ext2 ?_ ?_ ?_); (kernel_rfl); (kernel_rfl)) | ((with_reducible refine wp_region_ext ?_ ?_ ?_); (kernel_rfl); (kernel_rfl)) | go_big_quiet_step (first | (go_at_call 16; exact quiet_of_ret (c_ref06_Valid _ _ hs _ (by first | with_reducible assumption | exact Ints.below (by assumption) (by repeat (first | with_reducible exact Below.refl _ _ | with_reducible refine B_ext ?_ _ | with_reducible refine B_alloc ?_ _ | with_reducible refine Below.drew ?_ | with_reducible refine B_set ?_ _ _ _))))) | (go_at_call 34; exact quiet_of_ret (c_ref06_day _ _))) | ((with_reducible refine wpQuiet_nil ?_); intro x1) | (go_at_call 16; refine (c_ref06_Valid _ _ hs _ (by first | with_reducible assumption | exact Ints.below (by assumption) (by repeat (first | with_reducible exact Below.refl _ _ | with_reducible refine B_ext ?_ _ | with_reducible refine B_alloc ?_ _ | with_reducible refine Below.drew ?_ | with_reducible refine B_set ?_ _ _ _)))).mono ?_; intro e w' hh; first | obtain ⟨rfl, y, rfl⟩ := Ret.ext2 hh | obtain ⟨rfl, y, rfl⟩ := Ret.ext hh) | (go_at_call 34; refine (c_ref06_day _ _).mono ?_; intro e w' hh; first | obtain ⟨rfl, y, rfl⟩ := Ret.ext2 hh | obtain ⟨rfl, y, rfl⟩ := Ret.ext hh))
    go_ret2
    exact ⟨by rw [hr.out]; simp, (by repeat (first | with_reducible exact Below.refl _ _ | with_reducible refine B_ext ?_ _ | with_reducible refine B_alloc ?_ _ | with_reducible refine Below.drew ?_ | with_reducible refine B_set ?_ _ _ _))⟩
  have hn2' : decide (365 < n) = false := by simpa using hn2
  have hr := hid (show addR we hs d n = optR (addF (wkB we hs) (109572 - d).toNat (d + 1) n) by simp [addR, hok, hd, hn1, hn2, hn.out])
  have hnpos : 1 ≤ n := by have := hn.out; omega
  obtain ⟨d1, d2⟩ := vdB_true hd
  go_enter Try.func20, Try.ntmps20
  go_wp2_with (first | ((with_reducible refine wp_region_ext2 ?_ ?_ ?_); (kernel_rfl); (kernel_rfl)) | ((with_reducible refine wp_region_ext ?_ ?_ ?_); (kernel_rfl); (kernel_rfl)) | go_big_quiet_step (first | (go_at_call 16; exact quiet_of_ret (c_ref06_Valid _ _ hs _ (by first | with_reducible assumption | exact Ints.below (by assumption) (by repeat (first | with_reducible exact Below.refl _ _ | with_reducible refine B_ext ?_ _ | with_reducible refine B_alloc ?_ _ | with_reducible refine Below.drew ?_ | with_reducible refine B_set ?_ _ _ _))))) | (go_at_call 34; exact quiet_of_ret (c_ref06_day _ _))) | ((with_reducible refine wpQuiet_nil ?_); intro x1) | (go_at_call 16; refine (c_ref06_Valid _ _ hs _ (by first | with_reducible assumption | exact Ints.below (by assumption) (by repeat (first | with_reducible exact Below.refl _ _ | with_reducible refine B_ext ?_ _ | with_reducible refine B_alloc ?_ _ | with_reducible refine Below.drew ?_ | with_reducible refine B_set ?_ _ _ _)))).mono ?_; intro e w' hh; first | obtain ⟨rfl, y, rfl⟩ := Ret.ext2 hh | obtain ⟨rfl, y, rfl⟩ := Ret.ext hh) | (go_at_call 34; refine (c_ref06_day _ _).mono ?_; intro e w' hh; first | obtain ⟨rfl, y, rfl⟩ := Ret.ext2 hh | obtain ⟨rfl, y, rfl⟩ := Ret.ext hh))
  go_loopw [1, 2] (fun i j wr => ∃ x, wr = ext (w.alloc (Obj.cells #[Value.int IntKind.i64 we, v] 24)) x ∧ ∃ e m : Int, i = .int .i64 e ∧ j = .int .i64 m ∧ 0 ≤ e ∧ e ≤ 109572 ∧ 1 ≤ m ∧ m ≤ 365 ∧ Hid (addF (wkB we hs) (109572 - d).toNat (d + 1) n = addF (wkB we hs) (109572 - e).toNat (e + 1) m)) (fun i _ _ => (109572 - intOf i).toNat)
  case atStart => exact ⟨_, rfl, d, n, rfl, rfl, by omega, by omega, by omega, by omega, rfl⟩
  case round =>
    obtain ⟨x, rfl, e, m, rfl, rfl, e1, e2, m1, m2, hinv⟩ := hrel
    by_cases hlt : e < 109572
    · have hk : (109572 - e).toNat = (109572 - (e + 1)).toNat + 1 := by omega
      have hi2 := hinv.out
      rw [hk, addF] at hi2
      clear hk
      cases hb : wkB we hs (e + 1)
      · have hwk : isWkB we hs (e + 1) = false := by simp [isWkB, hok, vdB_mk (show 0 ≤ e + 1 by omega) (show e + 1 ≤ 109572 by omega), hb]
        have hstep := hid (show addF (wkB we hs) (109572 - d).toNat (d + 1) n = addF (wkB we hs) (109572 - (e + 1)).toNat (e + 1 + 1) m by rw [hi2, hb]; simp)
        clear hi2 hinv
        go_wp2_with (first | ((with_reducible refine wp_region_ext2 ?_ ?_ ?_); (kernel_rfl); (kernel_rfl)) | ((with_reducible refine wp_region_ext ?_ ?_ ?_); (kernel_rfl); (kernel_rfl)) | go_big_quiet_step (first | (go_at_call 18; exact quiet_of_ret (c_ref06_IsWorkday _ _ hs _ _ (by first | with_reducible assumption | exact Ints.below (by assumption) (by repeat (first | with_reducible exact Below.refl _ _ | with_reducible refine B_ext ?_ _ | with_reducible refine B_alloc ?_ _ | with_reducible refine Below.drew ?_ | with_reducible refine B_set ?_ _ _ _)))))) | ((with_reducible refine wpQuiet_nil ?_); intro x1) | (go_at_call 18; refine (c_ref06_IsWorkday _ _ hs _ _ (by first | with_reducible assumption | exact Ints.below (by assumption) (by repeat (first | with_reducible exact Below.refl _ _ | with_reducible refine B_ext ?_ _ | with_reducible refine B_alloc ?_ _ | with_reducible refine Below.drew ?_ | with_reducible refine B_set ?_ _ _ _)))).mono ?_; intro e w' hh; first | obtain ⟨rfl, y, rfl⟩ := Ret.ext2 hh | obtain ⟨rfl, y, rfl⟩ := Ret.ext hh))
        go_roundw
        case rel => exact ⟨_, rfl, e + 1, m, rfl, rfl, by omega, by omega, m1, m2, hstep⟩
        case measure => simp [intOf]; omega
      · have hwk : isWkB we hs (e + 1) = true := by simp [isWkB, hok, vdB_mk (show 0 ≤ e + 1 by omega) (show e + 1 ≤ 109572 by omega), hb]
        by_cases hm1 : m = 1
        · have hstep := hid (show addR we hs d n = (e + 1, 0) by rw [hr.out, hi2, hb, hm1]; simp [optR])
          have hm0 : (m - 1 == 0) = true := by simp; omega
          replace hm1 := hid hm1
          clear hi2 hinv
          go_wp2_with (first | ((with_reducible refine wp_region_ext2 ?_ ?_ ?_); (kernel_rfl); (kernel_rfl)) | ((with_reducible refine wp_region_ext ?_ ?_ ?_); (kernel_rfl); (kernel_rfl)) | go_big_quiet_step (first | (go_at_call 18; exact quiet_of_ret (c_ref06_IsWorkday _ _ hs _ _ (by first | with_reducible assumption | exact Ints.below (by assumption) (by repeat (first | with_reducible exact Below.refl _ _ | with_reducible refine B_ext ?_ _ | with_reducible refine B_alloc ?_ _ | with_reducible refine Below.drew ?_ | with_reducible refine B_set ?_ _ _ _)))))) | ((with_reducible refine wpQuiet_nil ?_); intro x1) | (go_at_call 18; refine (c_ref06_IsWorkday _ _ hs _ _ (by first | with_reducible assumption | exact Ints.below (by assumption) (by repeat (first | with_reducible exact Below.refl _ _ | with_reducible refine B_ext ?_ _ | with_reducible refine B_alloc ?_ _ | with_reducible refine Below.drew ?_ | with_reducible refine B_set ?_ _ _ _)))).mono ?_; intro e w' hh; first | obtain ⟨rfl, y, rfl⟩ := Ret.ext2 hh | obtain ⟨rfl, y, rfl⟩ := Ret.ext hh))
          go_ret2
          exact ⟨by rw [hstep.out]; simp, (by repeat (first | with_reducible exact Below.refl _ _ | with_reducible refine B_ext ?_ _ | with_reducible refine B_alloc ?_ _ | with_reducible refine Below.drew ?_ | with_reducible refine B_set ?_ _ _ _))⟩
        · have hstep := hid (show addF (wkB we hs) (109572 - d).toNat (d + 1) n = addF (wkB we hs) (109572 - (e + 1)).toNat (e + 1 + 1) (m - 1) by rw [hi2, hb]; simp [hm1])
          have hm0 : (m - 1 == 0) = false := by simp; omega
          have hm2 : 2 ≤ m := by omega
          replace hm1 := hid hm1
          clear hi2 hinv
          go_wp2_with (first | ((with_reducible refine wp_region_ext2 ?_ ?_ ?_); (kernel_rfl); (kernel_rfl)) | ((with_reducible refine wp_region_ext ?_ ?_ ?_); (kernel_rfl); (kernel_rfl)) | go_big_quiet_step (first | (go_at_call 18; exact quiet_of_ret (c_ref06_IsWorkday _ _ hs _ _ (by first | with_reducible assumption | exact Ints.below (by assumption) (by repeat (first | with_reducible exact Below.refl _ _ | with_reducible refine B_ext ?_ _ | with_reducible refine B_alloc ?_ _ | with_reducible refine Below.drew ?_ | with_reducible refine B_set ?_ _ _ _)))))) | ((with_reducible refine wpQuiet_nil ?_); intro x1) | (go_at_call 18; refine (c_ref06_IsWorkday _ _ hs _ _ (by first | with_reducible assumption | exact Ints.below (by assumption) (by repeat (first | with_reducible exact Below.refl _ _ | with_reducible refine B_ext ?_ _ | with_reducible refine B_alloc ?_ _ | with_reducible refine Below.drew ?_ | with_reducible refine B_set ?_ _ _ _)))).mono ?_; intro e w' hh; first | obtain ⟨rfl, y, rfl⟩ := Ret.ext2 hh | obtain ⟨rfl, y, rfl⟩ := Ret.ext hh))
          go_roundw
          case rel => exact ⟨_, rfl, e + 1, m - 1, rfl, rfl, by omega, by omega, by omega, by omega, hstep⟩
          case measure => simp [intOf]; omega
    · have hstep := hid (show addR we hs d n = (0, 6) by
        rw [hr.out, hinv.out, show (109572 - e).toNat = 0 by omega]; simp [optR, addF])
      clear hinv
      go_wp2_with (first | ((with_reducible refine wp_region_ext2 ?_ ?_ ?_); (kernel_rfl); (kernel_rfl)) | ((with_reducible refine wp_region_ext ?_ ?_ ?_); (kernel_rfl); (kernel_rfl)) | go_big_quiet_step (fail) | ((with_reducible refine wpQuiet_nil ?_); intro x1))
      go_ret2
      exact ⟨by rw [hstep.out]; simp, (by repeat (first | with_reducible exact Below.refl _ _ | with_reducible refine B_ext ?_ _ | with_reducible refine B_alloc ?_ _ | with_reducible refine Below.drew ?_ | with_reducible refine B_set ?_ _ _ _))⟩

set_option maxHeartbeats 1000000 in
theorem c_ref06_Count (we : Int) (v : Value) (hs : List Int) (a b : Int) (w : World) (h : Ints w v hs) :
    Calls Try.prog 22 #[.agg #[.int .i64 we, v], .agg #[.int .i64 a, .int .i64 b]] w (Ret (.int .i64 (cntR we hs a b)) w) := by
  cases hok : calOk we hs
  · have hr := hid (show cntR we hs a b = 0 by simp [cntR, hok])
    go_enter Try.func22, Try.ntmps22
    go_wp2_with (first | ((with_reducible refine wp_region_ext2 ?_ ?_ ?_); (kernel_rfl); (kernel_rfl)) | ((with_reducible refine wp_region_ext ?_ ?_ ?_); (kernel_rfl); (kernel_rfl)) | go_big_quiet_step (first | (go_at_call 16; exact quiet_of_ret (c_ref06_Valid _ _ hs _ (by first | with_reducible assumption | exact Ints.below (by assumption) (by repeat (first | with_reducible exact Below.refl _ _ | with_reducible refine B_ext ?_ _ | with_reducible refine B_alloc ?_ _ | with_reducible refine Below.drew ?_ | with_reducible refine B_set ?_ _ _ _))))) | (go_at_call 36; exact quiet_of_ret (c_ref05_Valid _ _ _))) | ((with_reducible refine wpQuiet_nil ?_); intro x1) | (go_at_call 16; refine (c_ref06_Valid _ _ hs _ (by first | with_reducible assumption | exact Ints.below (by assumption) (by repeat (first | with_reducible exact Below.refl _ _ | with_reducible refine B_ext ?_ _ | with_reducible refine B_alloc ?_ _ | with_reducible refine Below.drew ?_ | with_reducible refine B_set ?_ _ _ _)))).mono ?_; intro e w' hh; first | obtain ⟨rfl, y, rfl⟩ := Ret.ext2 hh | obtain ⟨rfl, y, rfl⟩ := Ret.ext hh) | (go_at_call 36; refine (c_ref05_Valid _ _ _).mono ?_; intro e w' hh; first | obtain ⟨rfl, y, rfl⟩ := Ret.ext2 hh | obtain ⟨rfl, y, rfl⟩ := Ret.ext hh))
    go_ret
    exact ⟨by rw [hr.out]; simp, (by repeat (first | with_reducible exact Below.refl _ _ | with_reducible refine B_ext ?_ _ | with_reducible refine B_alloc ?_ _ | with_reducible refine Below.drew ?_ | with_reducible refine B_set ?_ _ _ _))⟩
  cases hd : rngB a b
  · have hr := hid (show cntR we hs a b = 0 by simp [cntR, hok, hd])
    go_enter Try.func22, Try.ntmps22
    go_wp2_with (first | ((with_reducible refine wp_region_ext2 ?_ ?_ ?_); (kernel_rfl); (kernel_rfl)) | ((with_reducible refine wp_region_ext ?_ ?_ ?_); (kernel_rfl); (kernel_rfl)) | go_big_quiet_step (first | (go_at_call 16; exact quiet_of_ret (c_ref06_Valid _ _ hs _ (by first | with_reducible assumption | exact Ints.below (by assumption) (by repeat (first | with_reducible exact Below.refl _ _ | with_reducible refine B_ext ?_ _ | with_reducible refine B_alloc ?_ _ | with_reducible refine Below.drew ?_ | with_reducible refine B_set ?_ _ _ _))))) | (go_at_call 36; exact quiet_of_ret (c_ref05_Valid _ _ _))) | ((with_reducible refine wpQuiet_nil ?_); intro x1) | (go_at_call 16; refine (c_ref06_Valid _ _ hs _ (by first | with_reducible assumption | exact Ints.below (by assumption) (by repeat (first | with_reducible exact Below.refl _ _ | with_reducible refine B_ext ?_ _ | with_reducible refine B_alloc ?_ _ | with_reducible refine Below.drew ?_ | with_reducible refine B_set ?_ _ _ _)))).mono ?_; intro e w' hh; first | obtain ⟨rfl, y, rfl⟩ := Ret.ext2 hh | obtain ⟨rfl, y, rfl⟩ := Ret.ext hh) | (go_at_call 36; refine (c_ref05_Valid _ _ _).mono ?_; intro e w' hh; first | obtain ⟨rfl, y, rfl⟩ := Ret.ext2 hh | obtain ⟨rfl, y, rfl⟩ := Ret.ext hh))
    go_ret
    exact ⟨by rw [hr.out]; simp, (by repeat (first | with_reducible exact Below.refl _ _ | with_reducible refine B_ext ?_ _ | with_reducible refine B_alloc ?_ _ | with_reducible refine Below.drew ?_ | with_reducible refine B_set ?_ _ _ _))⟩
  have hr := hid (show cntR we hs a b = cntF (wkB we hs) (b - a).toNat a by simp [cntR, hok, hd])
  obtain ⟨d1, d2, d3⟩ : 0 ≤ a ∧ a ≤ b ∧ b ≤ 109573 := by simpa [rngB, and_assoc] using hd
  go_enter Try.func22, Try.ntmps22
  go_wp2_with (first | ((with_reducible refine wp_region_ext2 ?_ ?_ ?_); (kernel_rfl); (kernel_rfl)) | ((with_reducible refine wp_region_ext ?_ ?_ ?_); (kernel_rfl); (kernel_rfl)) | go_big_quiet_step (first | (go_at_call 16; exact quiet_of_ret (c_ref06_Valid _ _ hs _ (by first | with_reducible assumption | exact Ints.below (by assumption) (by repeat (first | with_reducible exact Below.refl _ _ | with_reducible refine B_ext ?_ _ | with_reducible refine B_alloc ?_ _ | with_reducible refine Below.drew ?_ | with_reducible refine B_set ?_ _ _ _))))) | (go_at_call 36; exact quiet_of_ret (c_ref05_Valid _ _ _))) | ((with_reducible refine wpQuiet_nil ?_); intro x1) | (go_at_call 16; refine (c_ref06_Valid _ _ hs _ (by first | with_reducible assumption | exact Ints.below (by assumption) (by repeat (first | with_reducible exact Below.refl _ _ | with_reducible refine B_ext ?_ _ | with_reducible refine B_alloc ?_ _ | with_reducible refine Below.drew ?_ | with_reducible refine B_set ?_ _ _ _)))).mono ?_; intro e w' hh; first | obtain ⟨rfl, y, rfl⟩ := Ret.ext2 hh | obtain ⟨rfl, y, rfl⟩ := Ret.ext hh) | (go_at_call 36; refine (c_ref05_Valid _ _ _).mono ?_; intro e w' hh; first | obtain ⟨rfl, y, rfl⟩ := Ret.ext2 hh | obtain ⟨rfl, y, rfl⟩ := Ret.ext hh))
  go_loopw [5, 6] (fun c i wr => ∃ x, wr = ext ((w.alloc (Obj.cells #[Value.int IntKind.i64 we, v] 24)).alloc (Obj.cells #[Value.int IntKind.i64 a, Value.int IntKind.i64 b] 34)) x ∧ ∃ e m : Int, c = .int .i64 m ∧ i = .int .i64 e ∧ a ≤ e ∧ e ≤ b ∧ 0 ≤ m ∧ m ≤ e ∧ Hid (cntF (wkB we hs) (b - a).toNat a = m + cntF (wkB we hs) (b - e).toNat e)) (fun _ i _ => (b - intOf i).toNat)
  case atStart => exact ⟨_, rfl, a, 0, rfl, rfl, by omega, by omega, by omega, by omega, by simp [Hid]⟩
  case round =>
    obtain ⟨x, rfl, e, m, rfl, rfl, e1, e2, m1, m2, hinv⟩ := hrel
    by_cases hlt : e < b
    · have hk : (b - e).toNat = (b - (e + 1)).toNat + 1 := by omega
      have hi2 := hinv.out
      rw [hk, cntF] at hi2
      clear hk
      cases hb : wkB we hs e
      · have hwk : isWkB we hs (e) = false := by simp [isWkB, hok, vdB_mk (show 0 ≤ e by omega) (show e ≤ 109572 by omega), hb]
        have hstep := hid (show cntF (wkB we hs) (b - a).toNat a = m + cntF (wkB we hs) (b - (e + 1)).toNat (e + 1) by rw [hi2, hb]; simp)
        clear hi2 hinv
        go_wp2_with (first | ((with_reducible refine wp_region_ext2 ?_ ?_ ?_); (kernel_rfl); (kernel_rfl)) | ((with_reducible refine wp_region_ext ?_ ?_ ?_); (kernel_rfl); (kernel_rfl)) | go_big_quiet_step (first | (go_at_call 18; exact quiet_of_ret (c_ref06_IsWorkday _ _ hs _ _ (by first | with_reducible assumption | exact Ints.below (by assumption) (by repeat (first | with_reducible exact Below.refl _ _ | with_reducible refine B_ext ?_ _ | with_reducible refine B_alloc ?_ _ | with_reducible refine Below.drew ?_ | with_reducible refine B_set ?_ _ _ _)))))) | ((with_reducible refine wpQuiet_nil ?_); intro x1) | (go_at_call 18; refine (c_ref06_IsWorkday _ _ hs _ _ (by first | with_reducible assumption | exact Ints.below (by assumption) (by repeat (first | with_reducible exact Below.refl _ _ | with_reducible refine B_ext ?_ _ | with_reducible refine B_alloc ?_ _ | with_reducible refine Below.drew ?_ | with_reducible refine B_set ?_ _ _ _)))).mono ?_; intro e w' hh; first | obtain ⟨rfl, y, rfl⟩ := Ret.ext2 hh | obtain ⟨rfl, y, rfl⟩ := Ret.ext hh))
        go_roundw
        case rel => exact ⟨_, rfl, e + 1, m, rfl, rfl, by omega, by omega, by omega, by omega, hstep⟩
        case measure => simp [intOf]; omega
      · have hwk : isWkB we hs (e) = true := by simp [isWkB, hok, vdB_mk (show 0 ≤ e by omega) (show e ≤ 109572 by omega), hb]
        have hstep := hid (show cntF (wkB we hs) (b - a).toNat a = (m + 1) + cntF (wkB we hs) (b - (e + 1)).toNat (e + 1) by rw [hi2, hb]; simp; omega)
        clear hi2 hinv
        go_wp2_with (first | ((with_reducible refine wp_region_ext2 ?_ ?_ ?_); (kernel_rfl); (kernel_rfl)) | ((with_reducible refine wp_region_ext ?_ ?_ ?_); (kernel_rfl); (kernel_rfl)) | go_big_quiet_step (first | (go_at_call 18; exact quiet_of_ret (c_ref06_IsWorkday _ _ hs _ _ (by first | with_reducible assumption | exact Ints.below (by assumption) (by repeat (first | with_reducible exact Below.refl _ _ | with_reducible refine B_ext ?_ _ | with_reducible refine B_alloc ?_ _ | with_reducible refine Below.drew ?_ | with_reducible refine B_set ?_ _ _ _)))))) | ((with_reducible refine wpQuiet_nil ?_); intro x1) | (go_at_call 18; refine (c_ref06_IsWorkday _ _ hs _ _ (by first | with_reducible assumption | exact Ints.below (by assumption) (by repeat (first | with_reducible exact Below.refl _ _ | with_reducible refine B_ext ?_ _ | with_reducible refine B_alloc ?_ _ | with_reducible refine Below.drew ?_ | with_reducible refine B_set ?_ _ _ _)))).mono ?_; intro e w' hh; first | obtain ⟨rfl, y, rfl⟩ := Ret.ext2 hh | obtain ⟨rfl, y, rfl⟩ := Ret.ext hh))
        go_roundw
        case rel => exact ⟨_, rfl, e + 1, m + 1, rfl, rfl, by omega, by omega, by omega, by omega, hstep⟩
        case measure => simp [intOf]; omega
    · have hstep := hid (show cntR we hs a b = m by
        rw [hr.out, hinv.out, show (b - e).toNat = 0 by omega]; simp [cntF])
      clear hinv
      go_wp2_with (first | ((with_reducible refine wp_region_ext2 ?_ ?_ ?_); (kernel_rfl); (kernel_rfl)) | ((with_reducible refine wp_region_ext ?_ ?_ ?_); (kernel_rfl); (kernel_rfl)) | go_big_quiet_step (fail) | ((with_reducible refine wpQuiet_nil ?_); intro x1))
      go_ret
      exact ⟨by rw [hstep.out]; simp, (by repeat (first | with_reducible exact Below.refl _ _ | with_reducible refine B_ext ?_ _ | with_reducible refine B_alloc ?_ _ | with_reducible refine Below.drew ?_ | with_reducible refine B_set ?_ _ _ _))⟩
end Go.Proofs.Ythalkfjbgldgbaa
