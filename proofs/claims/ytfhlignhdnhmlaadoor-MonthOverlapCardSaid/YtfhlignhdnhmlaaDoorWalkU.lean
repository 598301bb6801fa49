/- Walks: months as text, and the awake checks. -/
import Derived.Test.YtfhlignhdnhmlaaDoorWalkT
set_option linter.unusedSimpArgs false
set_option linter.unusedVariables false
namespace Go.Proofs.YtfhlignhdnhmlaaDoor
open Go.RowKit
attribute [local irreducible] Calls

def mfmtR (m : Int) : List UInt8 := if mvB m then Lib.itoa (1900 + m / 12) ++ ([45] ++ padL 2 (Lib.itoa (m % 12 + 1))) else []
theorem padL2 (l : List UInt8) (h : 1 ≤ l.length) : padL 2 l = if l.length < 2 then [48] ++ l else l := by
  unfold padL
  split
  · rw [show 2 - l.length = 1 by omega]; rfl
  · rw [show 2 - l.length = 0 by omega]; rfl
def mparR (s : ByteArray) : Int × Int :=
  if ¬ s.size = 7 then (0, 2) else if ¬ bt s 4 = 45 then (0, 2) else
  if (nB (s.extract 0 4) && nB (s.extract 5 7)) = false then (0, 2) else
  if nV (s.extract 0 4) < 1900 then (0, 3) else if 2199 < nV (s.extract 0 4) then (0, 3) else if nV (s.extract 5 7) < 1 then (0, 3) else if 12 < nV (s.extract 5 7) then (0, 3) else
  (12 * (nV (s.extract 0 4) - 1900) + nV (s.extract 5 7) - 1, 0)

theorem c_month_Format (m : Int) (w : World) (ht : Tab w) : Calls Tryd.prog 26 #[.int .i64 m] w (Ret (bs (mfmtR m)) w) := by
  cases hv : mvB m
  · have hr := hid (show mfmtR m = [] by simp [mfmtR, hv])
    go_enter Tryd.func26, Tryd.ntmps26
    go_wp2_with (first | ((with_reducible refine wp_region_ext2 ?_ ?_ ?_); (kernel_rfl); (kernel_rfl)) | ((with_reducible refine wp_region_ext ?_ ?_ ?_); (kernel_rfl); (kernel_rfl)) | go_big_quiet_step (first | (go_at_call 47; exact quiet_of_ret (c_month_valid _ _)) | (go_at_call 56; exact quiet_of_ret (c_numtext_FormatInt _ _ (by omega) (by omega) (ht.below (by repeat (first | with_reducible exact Below.refl _ _ | with_reducible refine B_ext ?_ _ | with_reducible refine B_alloc ?_ _ | with_reducible refine Below.drew ?_ | with_reducible refine B_set ?_ _ _ _)))))) | ((with_reducible refine wpQuiet_nil ?_); intro x1) | (go_at_call 47; refine (c_month_valid _ _).mono ?_; intro e w' hh; first | obtain ⟨rfl, yw, rfl⟩ := Ret.ext2 hh | obtain ⟨rfl, yw, rfl⟩ := Ret.ext hh) | (go_at_call 56; refine (c_numtext_FormatInt _ _ (by omega) (by omega) (ht.below (by repeat (first | with_reducible exact Below.refl _ _ | with_reducible refine B_ext ?_ _ | with_reducible refine B_alloc ?_ _ | with_reducible refine Below.drew ?_ | with_reducible refine B_set ?_ _ _ _)))).mono ?_; intro e w' hh; first | obtain ⟨rfl, yw, rfl⟩ := Ret.ext2 hh | obtain ⟨rfl, yw, rfl⟩ := Ret.ext hh))
    go_ret
    exact ⟨by rw [hr.out] <;> simp, (by repeat (first | with_reducible exact Below.refl _ _ | with_reducible refine B_ext ?_ _ | with_reducible refine B_alloc ?_ _ | with_reducible refine Below.drew ?_ | with_reducible refine B_set ?_ _ _ _))⟩
  · obtain ⟨n1, n2⟩ := mvB_true hv
    obtain ⟨k1, l1⟩ := itoa_len (n := 1900 + m / 12) (by omega) (by omega)
    obtain ⟨k2, l2⟩ := itoa_len (n := m % 12 + 1) (by omega) (by omega)
    have hr := hid (show mfmtR m = Lib.itoa (1900 + m / 12) ++ ([45] ++ (if (Lib.itoa (m % 12 + 1)).length < 2 then [48] ++ Lib.itoa (m % 12 + 1) else Lib.itoa (m % 12 + 1))) by simp only [mfmtR, hv, padL2 _ k2, if_true])
    by_cases hl : (Lib.itoa (m % 12 + 1)).length < 2
    · rw [if_pos hl] at hr
      go_enter Tryd.func26, Tryd.ntmps26
      go_wp2_with (first | ((with_reducible refine wp_region_ext2 ?_ ?_ ?_); (kernel_rfl); (kernel_rfl)) | ((with_reducible refine wp_region_ext ?_ ?_ ?_); (kernel_rfl); (kernel_rfl)) | go_big_quiet_step (first | (go_at_call 47; exact quiet_of_ret (c_month_valid _ _)) | (go_at_call 56; exact quiet_of_ret (c_numtext_FormatInt _ _ (by omega) (by omega) (ht.below (by repeat (first | with_reducible exact Below.refl _ _ | with_reducible refine B_ext ?_ _ | with_reducible refine B_alloc ?_ _ | with_reducible refine Below.drew ?_ | with_reducible refine B_set ?_ _ _ _)))))) | ((with_reducible refine wpQuiet_nil ?_); intro x1) | (go_at_call 47; refine (c_month_valid _ _).mono ?_; intro e w' hh; first | obtain ⟨rfl, yw, rfl⟩ := Ret.ext2 hh | obtain ⟨rfl, yw, rfl⟩ := Ret.ext hh) | (go_at_call 56; refine (c_numtext_FormatInt _ _ (by omega) (by omega) (ht.below (by repeat (first | with_reducible exact Below.refl _ _ | with_reducible refine B_ext ?_ _ | with_reducible refine B_alloc ?_ _ | with_reducible refine Below.drew ?_ | with_reducible refine B_set ?_ _ _ _)))).mono ?_; intro e w' hh; first | obtain ⟨rfl, yw, rfl⟩ := Ret.ext2 hh | obtain ⟨rfl, yw, rfl⟩ := Ret.ext hh))
      go_ret
      exact ⟨by rw [hr.out]; simp [ba_append], (by repeat (first | with_reducible exact Below.refl _ _ | with_reducible refine B_ext ?_ _ | with_reducible refine B_alloc ?_ _ | with_reducible refine Below.drew ?_ | with_reducible refine B_set ?_ _ _ _))⟩
    · rw [if_neg hl] at hr
      have hl2 : 2 ≤ (Lib.itoa (m % 12 + 1)).length := by omega
      go_enter Tryd.func26, Tryd.ntmps26
      go_wp2_with (first | ((with_reducible refine wp_region_ext2 ?_ ?_ ?_); (kernel_rfl); (kernel_rfl)) | ((with_reducible refine wp_region_ext ?_ ?_ ?_); (kernel_rfl); (kernel_rfl)) | go_big_quiet_step (first | (go_at_call 47; exact quiet_of_ret (c_month_valid _ _)) | (go_at_call 56; exact quiet_of_ret (c_numtext_FormatInt _ _ (by omega) (by omega) (ht.below (by repeat (first | with_reducible exact Below.refl _ _ | with_reducible refine B_ext ?_ _ | with_reducible refine B_alloc ?_ _ | with_reducible refine Below.drew ?_ | with_reducible refine B_set ?_ _ _ _)))))) | ((with_reducible refine wpQuiet_nil ?_); intro x1) | (go_at_call 47; refine (c_month_valid _ _).mono ?_; intro e w' hh; first | obtain ⟨rfl, yw, rfl⟩ := Ret.ext2 hh | obtain ⟨rfl, yw, rfl⟩ := Ret.ext hh) | (go_at_call 56; refine (c_numtext_FormatInt _ _ (by omega) (by omega) (ht.below (by repeat (first | with_reducible exact Below.refl _ _ | with_reducible refine B_ext ?_ _ | with_reducible refine B_alloc ?_ _ | with_reducible refine Below.drew ?_ | with_reducible refine B_set ?_ _ _ _)))).mono ?_; intro e w' hh; first | obtain ⟨rfl, yw, rfl⟩ := Ret.ext2 hh | obtain ⟨rfl, yw, rfl⟩ := Ret.ext hh))
      go_ret
      exact ⟨by rw [hr.out]; simp [ba_append], (by repeat (first | with_reducible exact Below.refl _ _ | with_reducible refine B_ext ?_ _ | with_reducible refine B_alloc ?_ _ | with_reducible refine Below.drew ?_ | with_reducible refine B_set ?_ _ _ _))⟩

theorem c_ref07_Format (m : Int) (w : World) : Calls Tryd.prog 27 #[.int .i64 m] w (Ret (bs (mfmtR m)) w) := by
  cases hv : mvB m
  · have hr := hid (show mfmtR m = [] by simp [mfmtR, hv])
    go_enter Tryd.func27, Tryd.ntmps27
    go_wp2_with (first | ((with_reducible refine wp_region_ext2 ?_ ?_ ?_); (kernel_rfl); (kernel_rfl)) | ((with_reducible refine wp_region_ext ?_ ?_ ?_); (kernel_rfl); (kernel_rfl)) | go_big_quiet_step (first | (go_at_call 48; exact quiet_of_ret (c_ref07_valid _ _)) | (go_at_call 57; exact quiet_of_ret (c_ref01_FormatInt _ _ (by omega) (by omega)))) | ((with_reducible refine wpQuiet_nil ?_); intro x1) | (go_at_call 48; refine (c_ref07_valid _ _).mono ?_; intro e w' hh; first | obtain ⟨rfl, yw, rfl⟩ := Ret.ext2 hh | obtain ⟨rfl, yw, rfl⟩ := Ret.ext hh) | (go_at_call 57; refine (c_ref01_FormatInt _ _ (by omega) (by omega)).mono ?_; intro e w' hh; first | obtain ⟨rfl, yw, rfl⟩ := Ret.ext2 hh | obtain ⟨rfl, yw, rfl⟩ := Ret.ext hh))
    go_ret
    exact ⟨by rw [hr.out] <;> simp, (by repeat (first | with_reducible exact Below.refl _ _ | with_reducible refine B_ext ?_ _ | with_reducible refine B_alloc ?_ _ | with_reducible refine Below.drew ?_ | with_reducible refine B_set ?_ _ _ _))⟩
  · obtain ⟨n1, n2⟩ := mvB_true hv
    obtain ⟨k1, l1⟩ := itoa_len (n := 1900 + m / 12) (by omega) (by omega)
    obtain ⟨k2, l2⟩ := itoa_len (n := m % 12 + 1) (by omega) (by omega)
    have hr := hid (show mfmtR m = Lib.itoa (1900 + m / 12) ++ ([45] ++ (if (Lib.itoa (m % 12 + 1)).length < 2 then [48] ++ Lib.itoa (m % 12 + 1) else Lib.itoa (m % 12 + 1))) by simp only [mfmtR, hv, padL2 _ k2, if_true])
    by_cases hl : (Lib.itoa (m % 12 + 1)).length < 2
    · rw [if_pos hl] at hr
      go_enter Tryd.func27, Tryd.ntmps27
      go_wp2_with (first | ((with_reducible refine wp_region_ext2 ?_ ?_ ?_); (kernel_rfl); (kernel_rfl)) | ((with_reducible refine wp_region_ext ?_ ?_ ?_); (kernel_rfl); (kernel_rfl)) | go_big_quiet_step (first | (go_at_call 48; exact quiet_of_ret (c_ref07_valid _ _)) | (go_at_call 57; exact quiet_of_ret (c_ref01_FormatInt _ _ (by omega) (by omega)))) | ((with_reducible refine wpQuiet_nil ?_); intro x1) | (go_at_call 48; refine (c_ref07_valid _ _).mono ?_; intro e w' hh; first | obtain ⟨rfl, yw, rfl⟩ := Ret.ext2 hh | obtain ⟨rfl, yw, rfl⟩ := Ret.ext hh) | (go_at_call 57; refine (c_ref01_FormatInt _ _ (by omega) (by omega)).mono ?_; intro e w' hh; first | obtain ⟨rfl, yw, rfl⟩ := Ret.ext2 hh | obtain ⟨rfl, yw, rfl⟩ := Ret.ext hh))
      go_ret
      exact ⟨by rw [hr.out]; simp [ba_append], (by repeat (first | with_reducible exact Below.refl _ _ | with_reducible refine B_ext ?_ _ | with_reducible refine B_alloc ?_ _ | with_reducible refine Below.drew ?_ | with_reducible refine B_set ?_ _ _ _))⟩
    · rw [if_neg hl] at hr
      have hl2 : 2 ≤ (Lib.itoa (m % 12 + 1)).length := by omega
      go_enter Tryd.func27, Tryd.ntmps27
      go_wp2_with (first | ((with_reducible refine wp_region_ext2 ?_ ?_ ?_); (kernel_rfl); (kernel_rfl)) | ((with_reducible refine wp_region_ext ?_ ?_ ?_); (kernel_rfl); (kernel_rfl)) | go_big_quiet_step (first | (go_at_call 48; exact quiet_of_ret (c_ref07_valid _ _)) | (go_at_call 57; exact quiet_of_ret (c_ref01_FormatInt _ _ (by omega) (by omega)))) | ((with_reducible refine wpQuiet_nil ?_); intro x1) | (go_at_call 48; refine (c_ref07_valid _ _).mono ?_; intro e w' hh; first | obtain ⟨rfl, yw, rfl⟩ := Ret.ext2 hh | obtain ⟨rfl, yw, rfl⟩ := Ret.ext hh) | (go_at_call 57; refine (c_ref01_FormatInt _ _ (by omega) (by omega)).mono ?_; intro e w' hh; first | obtain ⟨rfl, yw, rfl⟩ := Ret.ext2 hh | obtain ⟨rfl, yw, rfl⟩ := Ret.ext hh))
      go_ret
      exact ⟨by rw [hr.out]; simp [ba_append], (by repeat (first | with_reducible exact Below.refl _ _ | with_reducible refine B_ext ?_ _ | with_reducible refine B_alloc ?_ _ | with_reducible refine Below.drew ?_ | with_reducible refine B_set ?_ _ _ _))⟩

set_option maxHeartbeats 4000000 in
theorem c_ref07_Parse (s : ByteArray) (w : World) : Calls Tryd.prog 25 #[.string s] w (Ret (.tuple #[.int .i64 (mparR s).1, .int .i64 (mparR s).2]) w) := by
  by_cases a : s.size = 7
  case neg =>
    have hr := hid (show mparR s = (0, 2) by simp [mparR, a])
    go_enter Tryd.func25, Tryd.ntmps25
    go_wp2_with (first | ((with_reducible refine wp_region_ext2 ?_ ?_ ?_); (kernel_rfl); (kernel_rfl)) | ((with_reducible refine wp_region_ext ?_ ?_ ?_); (kernel_rfl); (kernel_rfl)) | go_big_quiet_step (first | (go_at_call 55; exact quiet_of_ret (c_ref04_Digits _ _ (by simp; omega)))) | ((with_reducible refine wpQuiet_nil ?_); intro x1) | (go_at_call 55; refine (c_ref04_Digits _ _ (by simp; omega)).mono ?_; intro e w' hh; first | obtain ⟨rfl, yw, rfl⟩ := Ret.ext2 hh | obtain ⟨rfl, yw, rfl⟩ := Ret.ext hh))
    go_ret2
    exact ⟨by rw [hr.out] <;> simp, (by repeat (first | with_reducible exact Below.refl _ _ | with_reducible refine B_ext ?_ _ | with_reducible refine B_alloc ?_ _ | with_reducible refine Below.drew ?_ | with_reducible refine B_set ?_ _ _ _))⟩
  have b4h : bt s 4 = ((s[4]'(by omega)).toNat : Int) := bt_eq (by omega)
  cases b4 : (((s[4]'(by omega)).toNat : Int) == 45)
  · have b4q : (((s[4]'(by omega)).toNat : Int) != 45) = !(((s[4]'(by omega)).toNat : Int) == 45) := rfl
    rw [b4] at b4q
    have hr := hid (show mparR s = (0, 2) by
      simp only [beq_eq_false_iff_ne, ne_eq] at b4
      simp [mparR, a, b4h, b4])
    go_enter Tryd.func25, Tryd.ntmps25
    go_wp2_with (first | ((with_reducible refine wp_region_ext2 ?_ ?_ ?_); (kernel_rfl); (kernel_rfl)) | ((with_reducible refine wp_region_ext ?_ ?_ ?_); (kernel_rfl); (kernel_rfl)) | go_big_quiet_step (first | (go_at_call 55; exact quiet_of_ret (c_ref04_Digits _ _ (by simp; omega)))) | ((with_reducible refine wpQuiet_nil ?_); intro x1) | (go_at_call 55; refine (c_ref04_Digits _ _ (by simp; omega)).mono ?_; intro e w' hh; first | obtain ⟨rfl, yw, rfl⟩ := Ret.ext2 hh | obtain ⟨rfl, yw, rfl⟩ := Ret.ext hh))
    go_ret2
    exact ⟨by rw [hr.out] <;> simp, (by repeat (first | with_reducible exact Below.refl _ _ | with_reducible refine B_ext ?_ _ | with_reducible refine B_alloc ?_ _ | with_reducible refine Below.drew ?_ | with_reducible refine B_set ?_ _ _ _))⟩
  have b4q : (((s[4]'(by omega)).toNat : Int) != 45) = !(((s[4]'(by omega)).toNat : Int) == 45) := rfl
  rw [b4] at b4q
  have b4e : bt s 4 = 45 := by rw [b4h]; simpa using b4
  cases n0 : nB (s.extract 0 4)
  · have d0 : dI (s.extract 0 4) = -1 := by simp [dI, n0]
    have hr := hid (show mparR s = (0, 2) by simp [mparR, a, b4e, n0])
    go_enter Tryd.func25, Tryd.ntmps25
    go_wp2_with (first | ((with_reducible refine wp_region_ext2 ?_ ?_ ?_); (kernel_rfl); (kernel_rfl)) | ((with_reducible refine wp_region_ext ?_ ?_ ?_); (kernel_rfl); (kernel_rfl)) | go_big_quiet_step (first | (go_at_call 55; exact quiet_of_ret (c_ref04_Digits _ _ (by simp; omega)))) | ((with_reducible refine wpQuiet_nil ?_); intro x1) | (go_at_call 55; refine (c_ref04_Digits _ _ (by simp; omega)).mono ?_; intro e w' hh; first | obtain ⟨rfl, yw, rfl⟩ := Ret.ext2 hh | obtain ⟨rfl, yw, rfl⟩ := Ret.ext hh))
    go_ret2
    exact ⟨by rw [hr.out] <;> simp, (by repeat (first | with_reducible exact Below.refl _ _ | with_reducible refine B_ext ?_ _ | with_reducible refine B_alloc ?_ _ | with_reducible refine Below.drew ?_ | with_reducible refine B_set ?_ _ _ _))⟩
  have d0 : dI (s.extract 0 4) = nV (s.extract 0 4) := by simp [dI, n0]
  have v0 := nV_bd 4 (by simp; omega) n0
  simp at v0
  obtain ⟨v0a, v0b⟩ := v0
  cases n5 : nB (s.extract 5 7)
  · have d5 : dI (s.extract 5 7) = -1 := by simp [dI, n5]
    have hr := hid (show mparR s = (0, 2) by simp [mparR, a, b4e, n0, n5])
    go_enter Tryd.func25, Tryd.ntmps25
    go_wp2_with (first | ((with_reducible refine wp_region_ext2 ?_ ?_ ?_); (kernel_rfl); (kernel_rfl)) | ((with_reducible refine wp_region_ext ?_ ?_ ?_); (kernel_rfl); (kernel_rfl)) | go_big_quiet_step (first | (go_at_call 55; exact quiet_of_ret (c_ref04_Digits _ _ (by simp; omega)))) | ((with_reducible refine wpQuiet_nil ?_); intro x1) | (go_at_call 55; refine (c_ref04_Digits _ _ (by simp; omega)).mono ?_; intro e w' hh; first | obtain ⟨rfl, yw, rfl⟩ := Ret.ext2 hh | obtain ⟨rfl, yw, rfl⟩ := Ret.ext hh))
    go_ret2
    exact ⟨by rw [hr.out] <;> simp, (by repeat (first | with_reducible exact Below.refl _ _ | with_reducible refine B_ext ?_ _ | with_reducible refine B_alloc ?_ _ | with_reducible refine Below.drew ?_ | with_reducible refine B_set ?_ _ _ _))⟩
  have d5 : dI (s.extract 5 7) = nV (s.extract 5 7) := by simp [dI, n5]
  have v5 := nV_bd 2 (by simp; omega) n5
  simp at v5
  obtain ⟨v5a, v5b⟩ := v5
  by_cases y1 : nV (s.extract 0 4) < 1900
  · have hr := hid (show mparR s = (0, 3) by simp [mparR, a, b4e, n0, n5, y1])
    go_enter Tryd.func25, Tryd.ntmps25
    go_wp2_with (first | ((with_reducible refine wp_region_ext2 ?_ ?_ ?_); (kernel_rfl); (kernel_rfl)) | ((with_reducible refine wp_region_ext ?_ ?_ ?_); (kernel_rfl); (kernel_rfl)) | go_big_quiet_step (first | (go_at_call 55; exact quiet_of_ret (c_ref04_Digits _ _ (by simp; omega)))) | ((with_reducible refine wpQuiet_nil ?_); intro x1) | (go_at_call 55; refine (c_ref04_Digits _ _ (by simp; omega)).mono ?_; intro e w' hh; first | obtain ⟨rfl, yw, rfl⟩ := Ret.ext2 hh | obtain ⟨rfl, yw, rfl⟩ := Ret.ext hh))
    go_ret2
    exact ⟨by rw [hr.out] <;> simp, (by repeat (first | with_reducible exact Below.refl _ _ | with_reducible refine B_ext ?_ _ | with_reducible refine B_alloc ?_ _ | with_reducible refine Below.drew ?_ | with_reducible refine B_set ?_ _ _ _))⟩
  · replace y1 : 1900 ≤ nV (s.extract 0 4) := by omega
    by_cases y2 : 2199 < nV (s.extract 0 4)
    · have hr := hid (show mparR s = (0, 3) by simp [mparR, a, b4e, n0, n5, Int.not_lt.2 y1, y2])
      go_enter Tryd.func25, Tryd.ntmps25
      go_wp2_with (first | ((with_reducible refine wp_region_ext2 ?_ ?_ ?_); (kernel_rfl); (kernel_rfl)) | ((with_reducible refine wp_region_ext ?_ ?_ ?_); (kernel_rfl); (kernel_rfl)) | go_big_quiet_step (first | (go_at_call 55; exact quiet_of_ret (c_ref04_Digits _ _ (by simp; omega)))) | ((with_reducible refine wpQuiet_nil ?_); intro x1) | (go_at_call 55; refine (c_ref04_Digits _ _ (by simp; omega)).mono ?_; intro e w' hh; first | obtain ⟨rfl, yw, rfl⟩ := Ret.ext2 hh | obtain ⟨rfl, yw, rfl⟩ := Ret.ext hh))
      go_ret2
      exact ⟨by rw [hr.out] <;> simp, (by repeat (first | with_reducible exact Below.refl _ _ | with_reducible refine B_ext ?_ _ | with_reducible refine B_alloc ?_ _ | with_reducible refine Below.drew ?_ | with_reducible refine B_set ?_ _ _ _))⟩
    · replace y2 : nV (s.extract 0 4) ≤ 2199 := by omega
      by_cases m1 : nV (s.extract 5 7) < 1
      · have hr := hid (show mparR s = (0, 3) by simp [mparR, a, b4e, n0, n5, Int.not_lt.2 y1, Int.not_lt.2 y2, m1])
        go_enter Tryd.func25, Tryd.ntmps25
        go_wp2_with (first | ((with_reducible refine wp_region_ext2 ?_ ?_ ?_); (kernel_rfl); (kernel_rfl)) | ((with_reducible refine wp_region_ext ?_ ?_ ?_); (kernel_rfl); (kernel_rfl)) | go_big_quiet_step (first | (go_at_call 55; exact quiet_of_ret (c_ref04_Digits _ _ (by simp; omega)))) | ((with_reducible refine wpQuiet_nil ?_); intro x1) | (go_at_call 55; refine (c_ref04_Digits _ _ (by simp; omega)).mono ?_; intro e w' hh; first | obtain ⟨rfl, yw, rfl⟩ := Ret.ext2 hh | obtain ⟨rfl, yw, rfl⟩ := Ret.ext hh))
        go_ret2
        exact ⟨by rw [hr.out] <;> simp, (by repeat (first | with_reducible exact Below.refl _ _ | with_reducible refine B_ext ?_ _ | with_reducible refine B_alloc ?_ _ | with_reducible refine Below.drew ?_ | with_reducible refine B_set ?_ _ _ _))⟩
      · replace m1 : 1 ≤ nV (s.extract 5 7) := by omega
        by_cases m2 : 12 < nV (s.extract 5 7)
        · have hr := hid (show mparR s = (0, 3) by simp [mparR, a, b4e, n0, n5, Int.not_lt.2 y1, Int.not_lt.2 y2, Int.not_lt.2 m1, m2])
          go_enter Tryd.func25, Tryd.ntmps25
          go_wp2_with (first | ((with_reducible refine wp_region_ext2 ?_ ?_ ?_); (kernel_rfl); (kernel_rfl)) | ((with_reducible refine wp_region_ext ?_ ?_ ?_); (kernel_rfl); (kernel_rfl)) | go_big_quiet_step (first | (go_at_call 55; exact quiet_of_ret (c_ref04_Digits _ _ (by simp; omega)))) | ((with_reducible refine wpQuiet_nil ?_); intro x1) | (go_at_call 55; refine (c_ref04_Digits _ _ (by simp; omega)).mono ?_; intro e w' hh; first | obtain ⟨rfl, yw, rfl⟩ := Ret.ext2 hh | obtain ⟨rfl, yw, rfl⟩ := Ret.ext hh))
          go_ret2
          exact ⟨by rw [hr.out] <;> simp, (by repeat (first | with_reducible exact Below.refl _ _ | with_reducible refine B_ext ?_ _ | with_reducible refine B_alloc ?_ _ | with_reducible refine Below.drew ?_ | with_reducible refine B_set ?_ _ _ _))⟩
        · replace m2 : nV (s.extract 5 7) ≤ 12 := by omega
          have hr := hid (show mparR s = (12 * (nV (s.extract 0 4) - 1900) + nV (s.extract 5 7) - 1, 0) by simp [mparR, a, b4e, n0, n5, Int.not_lt.2 y1, Int.not_lt.2 y2, Int.not_lt.2 m1, Int.not_lt.2 m2])
          go_enter Tryd.func25, Tryd.ntmps25
          go_wp2_with (first | ((with_reducible refine wp_region_ext2 ?_ ?_ ?_); (kernel_rfl); (kernel_rfl)) | ((with_reducible refine wp_region_ext ?_ ?_ ?_); (kernel_rfl); (kernel_rfl)) | go_big_quiet_step (first | (go_at_call 55; exact quiet_of_ret (c_ref04_Digits _ _ (by simp; omega)))) | ((with_reducible refine wpQuiet_nil ?_); intro x1) | (go_at_call 55; refine (c_ref04_Digits _ _ (by simp; omega)).mono ?_; intro e w' hh; first | obtain ⟨rfl, yw, rfl⟩ := Ret.ext2 hh | obtain ⟨rfl, yw, rfl⟩ := Ret.ext hh))
          go_ret2
          exact ⟨by rw [hr.out] <;> simp, (by repeat (first | with_reducible exact Below.refl _ _ | with_reducible refine B_ext ?_ _ | with_reducible refine B_alloc ?_ _ | with_reducible refine Below.drew ?_ | with_reducible refine B_set ?_ _ _ _))⟩

set_option maxHeartbeats 2000000 in
theorem c_month_Parse (s : ByteArray) (w : World) : Calls Tryd.prog 24 #[.string s] w (Ret (.tuple #[.int .i64 (mparR s).1, .int .i64 (mparR s).2]) w) := by
  by_cases a : s.size = 7
  case neg =>
    have hr := hid (show mparR s = (0, 2) by simp [mparR, a])
    go_enter Tryd.func24, Tryd.ntmps24
    go_wp2_with (first | ((with_reducible refine wp_region_ext2 ?_ ?_ ?_); (kernel_rfl); (kernel_rfl)) | ((with_reducible refine wp_region_ext ?_ ?_ ?_); (kernel_rfl); (kernel_rfl)) | go_big_quiet_step (fail) | ((with_reducible refine wpQuiet_nil ?_); intro x1))
    go_ret2
    exact ⟨by rw [hr.out] <;> simp, (by repeat (first | with_reducible exact Below.refl _ _ | with_reducible refine B_ext ?_ _ | with_reducible refine B_alloc ?_ _ | with_reducible refine Below.drew ?_ | with_reducible refine B_set ?_ _ _ _))⟩
  have b4h : bt s 4 = ((s[4]'(by omega)).toNat : Int) := bt_eq (by omega)
  cases b4 : (((s[4]'(by omega)).toNat : Int) == 45)
  · have b4q : (((s[4]'(by omega)).toNat : Int) != 45) = !(((s[4]'(by omega)).toNat : Int) == 45) := rfl
    rw [b4] at b4q
    have hr := hid (show mparR s = (0, 2) by
      simp only [beq_eq_false_iff_ne, ne_eq] at b4
      simp [mparR, a, b4h, b4])
    go_enter Tryd.func24, Tryd.ntmps24
    go_wp2_with (first | ((with_reducible refine wp_region_ext2 ?_ ?_ ?_); (kernel_rfl); (kernel_rfl)) | ((with_reducible refine wp_region_ext ?_ ?_ ?_); (kernel_rfl); (kernel_rfl)) | go_big_quiet_step (fail) | ((with_reducible refine wpQuiet_nil ?_); intro x1))
    go_ret2
    exact ⟨by rw [hr.out] <;> simp, (by repeat (first | with_reducible exact Below.refl _ _ | with_reducible refine B_ext ?_ _ | with_reducible refine B_alloc ?_ _ | with_reducible refine Below.drew ?_ | with_reducible refine B_set ?_ _ _ _))⟩
  have b4q : (((s[4]'(by omega)).toNat : Int) != 45) = !(((s[4]'(by omega)).toNat : Int) == 45) := rfl
  rw [b4] at b4q
  have b4e : bt s 4 = 45 := by rw [b4h]; simpa using b4
  go_enter Tryd.func24, Tryd.ntmps24
  go_wp2_with (first | ((with_reducible refine wp_region_ext2 ?_ ?_ ?_); (kernel_rfl); (kernel_rfl)) | ((with_reducible refine wp_region_ext ?_ ?_ ?_); (kernel_rfl); (kernel_rfl)) | go_big_quiet_step (fail) | ((with_reducible refine wpQuiet_nil ?_); intro x1))
  go_loopw [4, 18] (fun n i wr => ∃ x, wr = ext w x ∧ ∃ k : Nat, k ≤ 7 ∧ i = .int .i64 k ∧ n = .int .i64 (numV (dl s k)) ∧ Hid (numB (dl s k) = true)) (fun _ i _ => (7 - intOf i).toNat)
  case atStart => exact ⟨_, ext_self _, 0, by omega, rfl, by simp [numV, dl], by simp [numB, Hid, dl]⟩
  case round =>
    obtain ⟨x, rfl, k, hk, rfl, rfl, hnum⟩ := hrel
    obtain ⟨v0, v1⟩ := dl_bd a hk hnum.out
    by_cases hlt : k < 7
    · by_cases h4 : k = 4
      · subst h4
        have hn := hid (show numB (dl s 5) = true by rw [dl_4]; exact hnum.out)
        have hv := hid (show numV (dl s 5) = numV (dl s 4) by rw [dl_4])
        go_wp2_with (first | ((with_reducible refine wp_region_ext2 ?_ ?_ ?_); (kernel_rfl); (kernel_rfl)) | ((with_reducible refine wp_region_ext ?_ ?_ ?_); (kernel_rfl); (kernel_rfl)) | go_big_quiet_step (fail) | ((with_reducible refine wpQuiet_nil ?_); intro x1))
        go_roundw
        case rel => exact ⟨_, rfl, 5, by omega, by simp, by rw [hv.out] <;> go_num, hn⟩
        case measure => simp [intOf]
      · have h4q : ((k : Int) == 4) = false := by simp; omega
        have hks : k < s.size := by omega
        cases hd : dgB (s[k]'hks)
        · have hbad := dl_bad a hlt h4 hd
          have hr := hid (show mparR s = (0, 2) by simp only [mparR, a, b4e, hbad]; simp)
          clear hbad
          simp only [dgB, decide_eq_false_iff_not] at hd
          by_cases hb : ((s[k]'hks).toNat : Int) < 48
          · clear hd
            go_wp2_with (first | ((with_reducible refine wp_region_ext2 ?_ ?_ ?_); (kernel_rfl); (kernel_rfl)) | ((with_reducible refine wp_region_ext ?_ ?_ ?_); (kernel_rfl); (kernel_rfl)) | go_big_quiet_step (fail) | ((with_reducible refine wpQuiet_nil ?_); intro x1))
            go_ret2
            exact ⟨by simp [hr.out], (by repeat (first | with_reducible exact Below.refl _ _ | with_reducible refine B_ext ?_ _ | with_reducible refine B_alloc ?_ _ | with_reducible refine Below.drew ?_ | with_reducible refine B_set ?_ _ _ _))⟩
          · have hb2 : (57 : Int) < (s[k]'hks).toNat := by omega
            have hb1 : decide (((s[k]'hks).toNat : Int) < 48) = false := by simpa using hb
            clear hd hb
            go_wp2_with (first | ((with_reducible refine wp_region_ext2 ?_ ?_ ?_); (kernel_rfl); (kernel_rfl)) | ((with_reducible refine wp_region_ext ?_ ?_ ?_); (kernel_rfl); (kernel_rfl)) | go_big_quiet_step (fail) | ((with_reducible refine wpQuiet_nil ?_); intro x1))
            go_ret2
            exact ⟨by simp [hr.out], (by repeat (first | with_reducible exact Below.refl _ _ | with_reducible refine B_ext ?_ _ | with_reducible refine B_alloc ?_ _ | with_reducible refine Below.drew ?_ | with_reducible refine B_set ?_ _ _ _))⟩
        · have hn := hid (show numB (dl s (k + 1)) = true by rw [dl_next hks h4]; have := hnum.out; simp only [numB, List.all_append] at this ⊢; rw [this]; simp [hd])
          have hv := hid (show numV (dl s (k + 1)) = 10 * numV (dl s k) + (((s[k]'hks).toNat : Int) - 48) by rw [dl_next hks h4, numV_snoc])
          simp only [dgB, decide_eq_true_eq] at hd
          have hb1 : decide (((s[k]'hks).toNat : Int) < 48) = false := by simp; omega
          have hb2 : decide ((57 : Int) < (s[k]'hks).toNat) = false := by simp; omega
          have hb3 : (48 : Int) ≤ (s[k]'hks).toNat := by omega
          have hb4 : ((s[k]'hks).toNat : Int) ≤ 57 := by omega
          clear hd
          go_wp2_with (first | ((with_reducible refine wp_region_ext2 ?_ ?_ ?_); (kernel_rfl); (kernel_rfl)) | ((with_reducible refine wp_region_ext ?_ ?_ ?_); (kernel_rfl); (kernel_rfl)) | go_big_quiet_step (fail) | ((with_reducible refine wpQuiet_nil ?_); intro x1))
          go_roundw
          case rel => exact ⟨_, rfl, k + 1, by omega, by simp, by rw [hv.out] <;> go_num, hn⟩
          case measure => simp [intOf]; omega
    · obtain rfl : k = 7 := by omega
      obtain ⟨d1, d2⟩ := dl_7 a
      have hnn := hnum.out
      rw [d1, Bool.and_eq_true] at hnn
      obtain ⟨n0, n5⟩ := hnn
      have w0 := nV_bd 4 (by simp; omega) n0
      have w5 := nV_bd 2 (by simp; omega) n5
      simp at w0 w5
      obtain ⟨v0a, v0b⟩ := w0
      obtain ⟨v5a, v5b⟩ := w5
      have q1 : numV (dl s 7) / 100 = nV (s.extract 0 4) := by rw [d2]; omega
      have q2 : numV (dl s 7) % 100 = nV (s.extract 5 7) := by rw [d2]; omega
      clear d1 d2 hnum
      by_cases y1 : nV (s.extract 0 4) < 1900
      · have hr := hid (show mparR s = (0, 3) by simp [mparR, a, b4e, n0, n5, y1])
        go_wp2_with (first | ((with_reducible refine wp_region_ext2 ?_ ?_ ?_); (kernel_rfl); (kernel_rfl)) | ((with_reducible refine wp_region_ext ?_ ?_ ?_); (kernel_rfl); (kernel_rfl)) | go_big_quiet_step (fail) | ((with_reducible refine wpQuiet_nil ?_); intro x1))
        go_ret2
        exact ⟨by rw [hr.out] <;> simp, (by repeat (first | with_reducible exact Below.refl _ _ | with_reducible refine B_ext ?_ _ | with_reducible refine B_alloc ?_ _ | with_reducible refine Below.drew ?_ | with_reducible refine B_set ?_ _ _ _))⟩
      · replace y1 : 1900 ≤ nV (s.extract 0 4) := by omega
        by_cases y2 : 2199 < nV (s.extract 0 4)
        · have hr := hid (show mparR s = (0, 3) by simp [mparR, a, b4e, n0, n5, Int.not_lt.2 y1, y2])
          go_wp2_with (first | ((with_reducible refine wp_region_ext2 ?_ ?_ ?_); (kernel_rfl); (kernel_rfl)) | ((with_reducible refine wp_region_ext ?_ ?_ ?_); (kernel_rfl); (kernel_rfl)) | go_big_quiet_step (fail) | ((with_reducible refine wpQuiet_nil ?_); intro x1))
          go_ret2
          exact ⟨by rw [hr.out] <;> simp, (by repeat (first | with_reducible exact Below.refl _ _ | with_reducible refine B_ext ?_ _ | with_reducible refine B_alloc ?_ _ | with_reducible refine Below.drew ?_ | with_reducible refine B_set ?_ _ _ _))⟩
        · replace y2 : nV (s.extract 0 4) ≤ 2199 := by omega
          by_cases m1 : nV (s.extract 5 7) < 1
          · have hr := hid (show mparR s = (0, 3) by simp [mparR, a, b4e, n0, n5, Int.not_lt.2 y1, Int.not_lt.2 y2, m1])
            go_wp2_with (first | ((with_reducible refine wp_region_ext2 ?_ ?_ ?_); (kernel_rfl); (kernel_rfl)) | ((with_reducible refine wp_region_ext ?_ ?_ ?_); (kernel_rfl); (kernel_rfl)) | go_big_quiet_step (fail) | ((with_reducible refine wpQuiet_nil ?_); intro x1))
            go_ret2
            exact ⟨by rw [hr.out] <;> simp, (by repeat (first | with_reducible exact Below.refl _ _ | with_reducible refine B_ext ?_ _ | with_reducible refine B_alloc ?_ _ | with_reducible refine Below.drew ?_ | with_reducible refine B_set ?_ _ _ _))⟩
          · replace m1 : 1 ≤ nV (s.extract 5 7) := by omega
            by_cases m2 : 12 < nV (s.extract 5 7)
            · have hr := hid (show mparR s = (0, 3) by simp [mparR, a, b4e, n0, n5, Int.not_lt.2 y1, Int.not_lt.2 y2, Int.not_lt.2 m1, m2])
              go_wp2_with (first | ((with_reducible refine wp_region_ext2 ?_ ?_ ?_); (kernel_rfl); (kernel_rfl)) | ((with_reducible refine wp_region_ext ?_ ?_ ?_); (kernel_rfl); (kernel_rfl)) | go_big_quiet_step (fail) | ((with_reducible refine wpQuiet_nil ?_); intro x1))
              go_ret2
              exact ⟨by rw [hr.out] <;> simp, (by repeat (first | with_reducible exact Below.refl _ _ | with_reducible refine B_ext ?_ _ | with_reducible refine B_alloc ?_ _ | with_reducible refine Below.drew ?_ | with_reducible refine B_set ?_ _ _ _))⟩
            · replace m2 : nV (s.extract 5 7) ≤ 12 := by omega
              have hr := hid (show mparR s = (12 * (nV (s.extract 0 4) - 1900) + nV (s.extract 5 7) - 1, 0) by simp [mparR, a, b4e, n0, n5, Int.not_lt.2 y1, Int.not_lt.2 y2, Int.not_lt.2 m1, Int.not_lt.2 m2])
              go_wp2_with (first | ((with_reducible refine wp_region_ext2 ?_ ?_ ?_); (kernel_rfl); (kernel_rfl)) | ((with_reducible refine wp_region_ext ?_ ?_ ?_); (kernel_rfl); (kernel_rfl)) | go_big_quiet_step (fail) | ((with_reducible refine wpQuiet_nil ?_); intro x1))
              go_ret2
              exact ⟨by rw [hr.out] <;> simp, (by repeat (first | with_reducible exact Below.refl _ _ | with_reducible refine B_ext ?_ _ | with_reducible refine B_alloc ?_ _ | with_reducible refine Below.drew ?_ | with_reducible refine B_set ?_ _ _ _))⟩

end Go.Proofs.YtfhlignhdnhmlaaDoor
