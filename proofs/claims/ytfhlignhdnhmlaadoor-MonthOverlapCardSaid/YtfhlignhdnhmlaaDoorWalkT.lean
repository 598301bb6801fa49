/- Walks: dates and months as text. -/
import Derived.Test.YtfhlignhdnhmlaaDoorWalkM
set_option linter.unusedSimpArgs false
set_option linter.unusedVariables false
namespace Go.Proofs.YtfhlignhdnhmlaaDoor
open Go.RowKit
attribute [local irreducible] Calls

theorem c_date_number (s : ByteArray) (w : World) (hs : s.size ≤ 18) :
    Calls Tryd.prog 62 #[.string s] w (Ret (.tuple #[.int .i64 (nI s), .bool (nB s)]) w) := by
  go_enter Tryd.func62, Tryd.ntmps62
  go_wp2_with (first | ((with_reducible refine wp_region_ext2 ?_ ?_ ?_); (kernel_rfl); (kernel_rfl)) | ((with_reducible refine wp_region_ext ?_ ?_ ?_); (kernel_rfl); (kernel_rfl)) | go_big_quiet_step (fail) | ((with_reducible refine wpQuiet_nil ?_); intro x1))
  go_loopw [4, 8] (fun n i wr => ∃ x, wr = ext w x ∧ ∃ k : Nat, k ≤ s.size ∧ i = .int .i64 k ∧ n = .int .i64 (numV (s.data.toList.take k)) ∧ Hid (numB (s.data.toList.take k) = true)) (fun _ i _ => (s.size - intOf i).toNat)
  case atStart => exact ⟨_, ext_self _, 0, by omega, rfl, by simp [numV], by simp [numB, Hid]⟩
  case round =>
    obtain ⟨x, rfl, k, hk, rfl, rfl, hnum⟩ := hrel
    by_cases hlt : k < s.size
    · obtain ⟨v0, v1⟩ := numV_take hs hlt hnum.out
      cases hd : dgB s[k]
      · have hr := hid (show nB s = false from numB_bad hlt hd)
        have hr2 := hid (show nI s = 0 by simp [nI, hr.out])
        simp only [dgB, decide_eq_false_iff_not] at hd
        by_cases hb : (s[k].toNat : Int) < 48
        · clear hd
          go_wp2_with (first | ((with_reducible refine wp_region_ext2 ?_ ?_ ?_); (kernel_rfl); (kernel_rfl)) | ((with_reducible refine wp_region_ext ?_ ?_ ?_); (kernel_rfl); (kernel_rfl)) | go_big_quiet_step (fail) | ((with_reducible refine wpQuiet_nil ?_); intro x1))
          go_ret2
          exact ⟨by simp [hr.out, hr2.out], (by repeat (first | with_reducible exact Below.refl _ _ | with_reducible refine B_ext ?_ _ | with_reducible refine B_alloc ?_ _ | with_reducible refine Below.drew ?_ | with_reducible refine B_set ?_ _ _ _))⟩
        · have hb2 : (57 : Int) < s[k].toNat := by omega
          have hb1 : decide ((s[k].toNat : Int) < 48) = false := by simpa using hb
          clear hd hb
          go_wp2_with (first | ((with_reducible refine wp_region_ext2 ?_ ?_ ?_); (kernel_rfl); (kernel_rfl)) | ((with_reducible refine wp_region_ext ?_ ?_ ?_); (kernel_rfl); (kernel_rfl)) | go_big_quiet_step (fail) | ((with_reducible refine wpQuiet_nil ?_); intro x1))
          go_ret2
          exact ⟨by simp [hr.out, hr2.out], (by repeat (first | with_reducible exact Below.refl _ _ | with_reducible refine B_ext ?_ _ | with_reducible refine B_alloc ?_ _ | with_reducible refine Below.drew ?_ | with_reducible refine B_set ?_ _ _ _))⟩
      · have hn := hid (show numB (s.data.toList.take (k + 1)) = true by rw [numB_next hlt, hnum.out, hd]; rfl)
        have hv := hid (numV_next hlt)
        simp only [dgB, decide_eq_true_eq] at hd
        have hb1 : decide ((s[k].toNat : Int) < 48) = false := by simp; omega
        have hb2 : decide ((57 : Int) < s[k].toNat) = false := by simp; omega
        have hb3 : (48 : Int) ≤ s[k].toNat := by omega
        have hb4 : (s[k].toNat : Int) ≤ 57 := by omega
        clear hd
        go_wp2_with (first | ((with_reducible refine wp_region_ext2 ?_ ?_ ?_); (kernel_rfl); (kernel_rfl)) | ((with_reducible refine wp_region_ext ?_ ?_ ?_); (kernel_rfl); (kernel_rfl)) | go_big_quiet_step (fail) | ((with_reducible refine wpQuiet_nil ?_); intro x1))
        go_roundw
        case rel => exact ⟨_, rfl, k + 1, by omega, by simp, by rw [hv.out] <;> go_num, hn⟩
        case measure => simp [intOf]; omega
    · obtain rfl : k = s.size := by omega
      replace hnum := hid (show nB s = true by have := hnum.out; unfold nB; rwa [take_all] at this)
      have hr2 := hid (show nI s = numV s.data.toList by simp [nI, hnum.out, nV])
      have ht := hid (take_all s)
      go_wp2_with (first | ((with_reducible refine wp_region_ext2 ?_ ?_ ?_); (kernel_rfl); (kernel_rfl)) | ((with_reducible refine wp_region_ext ?_ ?_ ?_); (kernel_rfl); (kernel_rfl)) | go_big_quiet_step (fail) | ((with_reducible refine wpQuiet_nil ?_); intro x1))
      go_ret2
      exact ⟨by simp [hnum.out, hr2.out, ht.out], (by repeat (first | with_reducible exact Below.refl _ _ | with_reducible refine B_ext ?_ _ | with_reducible refine B_alloc ?_ _ | with_reducible refine Below.drew ?_ | with_reducible refine B_set ?_ _ _ _))⟩

theorem c_ref04_Digits (s : ByteArray) (w : World) (hs : s.size ≤ 18) :
    Calls Tryd.prog 55 #[.string s] w (Ret (.int .i64 (dI s)) w) := by
  go_enter Tryd.func55, Tryd.ntmps55
  go_wp2_with (first | ((with_reducible refine wp_region_ext2 ?_ ?_ ?_); (kernel_rfl); (kernel_rfl)) | ((with_reducible refine wp_region_ext ?_ ?_ ?_); (kernel_rfl); (kernel_rfl)) | go_big_quiet_step (fail) | ((with_reducible refine wpQuiet_nil ?_); intro x1))
  go_loopw [3, 4] (fun n i wr => ∃ x, wr = ext w x ∧ ∃ k : Nat, k ≤ s.size ∧ i = .int .i64 k ∧ n = .int .i64 (numV (s.data.toList.take k)) ∧ Hid (numB (s.data.toList.take k) = true)) (fun _ i _ => (s.size - intOf i).toNat)
  case atStart => exact ⟨_, ext_self _, 0, by omega, rfl, by simp [numV], by simp [numB, Hid]⟩
  case round =>
    obtain ⟨x, rfl, k, hk, rfl, rfl, hnum⟩ := hrel
    by_cases hlt : k < s.size
    · obtain ⟨v0, v1⟩ := numV_take hs hlt hnum.out
      cases hd : dgB s[k]
      · have hr := hid (show nB s = false from numB_bad hlt hd)
        have hr2 := hid (show dI s = -1 by simp [dI, hr.out])
        simp only [dgB, decide_eq_false_iff_not] at hd
        by_cases hb : (s[k].toNat : Int) < 48
        · clear hd
          go_wp2_with (first | ((with_reducible refine wp_region_ext2 ?_ ?_ ?_); (kernel_rfl); (kernel_rfl)) | ((with_reducible refine wp_region_ext ?_ ?_ ?_); (kernel_rfl); (kernel_rfl)) | go_big_quiet_step (fail) | ((with_reducible refine wpQuiet_nil ?_); intro x1))
          go_ret
          exact ⟨by simp [hr.out, hr2.out], (by repeat (first | with_reducible exact Below.refl _ _ | with_reducible refine B_ext ?_ _ | with_reducible refine B_alloc ?_ _ | with_reducible refine Below.drew ?_ | with_reducible refine B_set ?_ _ _ _))⟩
        · have hb2 : (57 : Int) < s[k].toNat := by omega
          have hb1 : decide ((s[k].toNat : Int) < 48) = false := by simpa using hb
          clear hd hb
          go_wp2_with (first | ((with_reducible refine wp_region_ext2 ?_ ?_ ?_); (kernel_rfl); (kernel_rfl)) | ((with_reducible refine wp_region_ext ?_ ?_ ?_); (kernel_rfl); (kernel_rfl)) | go_big_quiet_step (fail) | ((with_reducible refine wpQuiet_nil ?_); intro x1))
          go_ret
          exact ⟨by simp [hr.out, hr2.out], (by repeat (first | with_reducible exact Below.refl _ _ | with_reducible refine B_ext ?_ _ | with_reducible refine B_alloc ?_ _ | with_reducible refine Below.drew ?_ | with_reducible refine B_set ?_ _ _ _))⟩
      · have hn := hid (show numB (s.data.toList.take (k + 1)) = true by rw [numB_next hlt, hnum.out, hd]; rfl)
        have hv := hid (numV_next hlt)
        simp only [dgB, decide_eq_true_eq] at hd
        have hb1 : decide ((s[k].toNat : Int) < 48) = false := by simp; omega
        have hb2 : decide ((57 : Int) < s[k].toNat) = false := by simp; omega
        have hb3 : (48 : Int) ≤ s[k].toNat := by omega
        have hb4 : (s[k].toNat : Int) ≤ 57 := by omega
        clear hd
        go_wp2_with (first | ((with_reducible refine wp_region_ext2 ?_ ?_ ?_); (kernel_rfl); (kernel_rfl)) | ((with_reducible refine wp_region_ext ?_ ?_ ?_); (kernel_rfl); (kernel_rfl)) | go_big_quiet_step (fail) | ((with_reducible refine wpQuiet_nil ?_); intro x1))
        go_roundw
        case rel => exact ⟨_, rfl, k + 1, by omega, by simp, by rw [hv.out] <;> go_num, hn⟩
        case measure => simp [intOf]; omega
    · obtain rfl : k = s.size := by omega
      replace hnum := hid (show nB s = true by have := hnum.out; unfold nB; rwa [take_all] at this)
      have hr2 := hid (show dI s = numV s.data.toList by simp [dI, hnum.out, nV])
      have ht := hid (take_all s)
      go_wp2_with (first | ((with_reducible refine wp_region_ext2 ?_ ?_ ?_); (kernel_rfl); (kernel_rfl)) | ((with_reducible refine wp_region_ext ?_ ?_ ?_); (kernel_rfl); (kernel_rfl)) | go_big_quiet_step (fail) | ((with_reducible refine wpQuiet_nil ?_); intro x1))
      go_ret
      exact ⟨by simp [hnum.out, hr2.out, ht.out], (by repeat (first | with_reducible exact Below.refl _ _ | with_reducible refine B_ext ?_ _ | with_reducible refine B_alloc ?_ _ | with_reducible refine Below.drew ?_ | with_reducible refine B_set ?_ _ _ _))⟩

def fmtR (n : Int) : List UInt8 := if vdB n then padL 4 (Lib.itoa (toY n)) ++ ([45] ++ (padL 2 (Lib.itoa (toM n)) ++ ([45] ++ padL 2 (Lib.itoa (toD n))))) else []
theorem c_date_Format (n : Int) (w : World) (ht : Tab w) : Calls Tryd.prog 45 #[.int .i64 n] w (Ret (bs (fmtR n)) w) := by
  cases hv : vdB n
  · have hr := hid (show fmtR n = [] by simp [fmtR, hv])
    go_enter Tryd.func45, Tryd.ntmps45
    go_wp2_with (first | ((with_reducible refine wp_region_ext2 ?_ ?_ ?_); (kernel_rfl); (kernel_rfl)) | ((with_reducible refine wp_region_ext ?_ ?_ ?_); (kernel_rfl); (kernel_rfl)) | go_big_quiet_step (first | (go_at_call 60; exact quiet_of_ret (c_date_valid _ _))) | ((with_reducible refine wpQuiet_nil ?_); intro x1) | (go_at_call 60; refine (c_date_valid _ _).mono ?_; intro e w' hh; first | obtain ⟨rfl, yw, rfl⟩ := Ret.ext2 hh | obtain ⟨rfl, yw, rfl⟩ := Ret.ext hh))
    go_ret
    exact ⟨by rw [hr.out] <;> simp, (by repeat (first | with_reducible exact Below.refl _ _ | with_reducible refine B_ext ?_ _ | with_reducible refine B_alloc ?_ _ | with_reducible refine Below.drew ?_ | with_reducible refine B_set ?_ _ _ _))⟩
  · have hr := hid (show fmtR n = padL 4 (Lib.itoa (toY n)) ++ ([45] ++ (padL 2 (Lib.itoa (toM n)) ++ ([45] ++ padL 2 (Lib.itoa (toD n))))) by simp [fmtR, hv])
    have e1 : toR n = (toY n, toM n, toD n) := by simp [toR, hv]
    obtain ⟨t1, t2⟩ := to_spec hv
    obtain ⟨g1, g2, g3, g4, g5, g6⟩ := ymd_true t1
    have g7 := dim_nn (toY n) (toM n)
    obtain ⟨-, l1⟩ := itoa_len (n := toY n) (by omega) (by omega)
    obtain ⟨-, l2⟩ := itoa_len (n := toM n) (by omega) (by omega)
    obtain ⟨-, l3⟩ := itoa_len (n := toD n) (by omega) (by omega)
    have p1 : (padL 4 (Lib.itoa (toY n))).length ≤ 20 := by rw [padL_len]; omega
    have p2 : (padL 2 (Lib.itoa (toM n))).length ≤ 20 := by rw [padL_len]; omega
    have p3 : (padL 2 (Lib.itoa (toD n))).length ≤ 20 := by rw [padL_len]; omega
    clear t1 t2 l1 l2 l3
    go_enter Tryd.func45, Tryd.ntmps45
    go_wp2_with (first | ((with_reducible refine wp_region_ext2 ?_ ?_ ?_); (kernel_rfl); (kernel_rfl)) | ((with_reducible refine wp_region_ext ?_ ?_ ?_); (kernel_rfl); (kernel_rfl)) | go_big_quiet_step (first | (go_at_call 60; exact quiet_of_ret (c_date_valid _ _)) | (go_at_call 30; exact quiet_of_ret (c_date_ToYMD _ _)) | (go_at_call 63; exact quiet_of_ret (c_date_pad _ _ _ (by omega) (by omega) (by omega) (by omega) (ht.below (by repeat (first | with_reducible exact Below.refl _ _ | with_reducible refine B_ext ?_ _ | with_reducible refine B_alloc ?_ _ | with_reducible refine Below.drew ?_ | with_reducible refine B_set ?_ _ _ _)))))) | ((with_reducible refine wpQuiet_nil ?_); intro x1) | (go_at_call 60; refine (c_date_valid _ _).mono ?_; intro e w' hh; first | obtain ⟨rfl, yw, rfl⟩ := Ret.ext2 hh | obtain ⟨rfl, yw, rfl⟩ := Ret.ext hh) | (go_at_call 30; refine (c_date_ToYMD _ _).mono ?_; intro e w' hh; first | obtain ⟨rfl, yw, rfl⟩ := Ret.ext2 hh | obtain ⟨rfl, yw, rfl⟩ := Ret.ext hh) | (go_at_call 63; refine (c_date_pad _ _ _ (by omega) (by omega) (by omega) (by omega) (ht.below (by repeat (first | with_reducible exact Below.refl _ _ | with_reducible refine B_ext ?_ _ | with_reducible refine B_alloc ?_ _ | with_reducible refine Below.drew ?_ | with_reducible refine B_set ?_ _ _ _)))).mono ?_; intro e w' hh; first | obtain ⟨rfl, yw, rfl⟩ := Ret.ext2 hh | obtain ⟨rfl, yw, rfl⟩ := Ret.ext hh))
    go_ret
    exact ⟨by rw [hr.out]; simp [ba_append], (by repeat (first | with_reducible exact Below.refl _ _ | with_reducible refine B_ext ?_ _ | with_reducible refine B_alloc ?_ _ | with_reducible refine Below.drew ?_ | with_reducible refine B_set ?_ _ _ _))⟩
theorem c_ref04_Format (n : Int) (w : World) : Calls Tryd.prog 46 #[.int .i64 n] w (Ret (bs (fmtR n)) w) := by
  cases hv : vdB n
  · have hr := hid (show fmtR n = [] by simp [fmtR, hv])
    go_enter Tryd.func46, Tryd.ntmps46
    go_wp2_with (first | ((with_reducible refine wp_region_ext2 ?_ ?_ ?_); (kernel_rfl); (kernel_rfl)) | ((with_reducible refine wp_region_ext ?_ ?_ ?_); (kernel_rfl); (kernel_rfl)) | go_big_quiet_step (first | (go_at_call 61; exact quiet_of_ret (c_ref04_Valid _ _))) | ((with_reducible refine wpQuiet_nil ?_); intro x1) | (go_at_call 61; refine (c_ref04_Valid _ _).mono ?_; intro e w' hh; first | obtain ⟨rfl, yw, rfl⟩ := Ret.ext2 hh | obtain ⟨rfl, yw, rfl⟩ := Ret.ext hh))
    go_ret
    exact ⟨by rw [hr.out] <;> simp, (by repeat (first | with_reducible exact Below.refl _ _ | with_reducible refine B_ext ?_ _ | with_reducible refine B_alloc ?_ _ | with_reducible refine Below.drew ?_ | with_reducible refine B_set ?_ _ _ _))⟩
  · have hr := hid (show fmtR n = padL 4 (Lib.itoa (toY n)) ++ ([45] ++ (padL 2 (Lib.itoa (toM n)) ++ ([45] ++ padL 2 (Lib.itoa (toD n))))) by simp [fmtR, hv])
    have e1 : toR n = (toY n, toM n, toD n) := by simp [toR, hv]
    obtain ⟨t1, t2⟩ := to_spec hv
    obtain ⟨g1, g2, g3, g4, g5, g6⟩ := ymd_true t1
    have g7 := dim_nn (toY n) (toM n)
    obtain ⟨-, l1⟩ := itoa_len (n := toY n) (by omega) (by omega)
    obtain ⟨-, l2⟩ := itoa_len (n := toM n) (by omega) (by omega)
    obtain ⟨-, l3⟩ := itoa_len (n := toD n) (by omega) (by omega)
    have p1 : (padL 4 (Lib.itoa (toY n))).length ≤ 20 := by rw [padL_len]; omega
    have p2 : (padL 2 (Lib.itoa (toM n))).length ≤ 20 := by rw [padL_len]; omega
    have p3 : (padL 2 (Lib.itoa (toD n))).length ≤ 20 := by rw [padL_len]; omega
    clear t1 t2 l1 l2 l3
    go_enter Tryd.func46, Tryd.ntmps46
    go_wp2_with (first | ((with_reducible refine wp_region_ext2 ?_ ?_ ?_); (kernel_rfl); (kernel_rfl)) | ((with_reducible refine wp_region_ext ?_ ?_ ?_); (kernel_rfl); (kernel_rfl)) | go_big_quiet_step (first | (go_at_call 61; exact quiet_of_ret (c_ref04_Valid _ _)) | (go_at_call 31; exact quiet_of_ret (c_ref04_ToYMD _ _)) | (go_at_call 64; exact quiet_of_ret (c_ref04_pad _ _ _ (by omega) (by omega) (by omega) (by omega)))) | ((with_reducible refine wpQuiet_nil ?_); intro x1) | (go_at_call 61; refine (c_ref04_Valid _ _).mono ?_; intro e w' hh; first | obtain ⟨rfl, yw, rfl⟩ := Ret.ext2 hh | obtain ⟨rfl, yw, rfl⟩ := Ret.ext hh) | (go_at_call 31; refine (c_ref04_ToYMD _ _).mono ?_; intro e w' hh; first | obtain ⟨rfl, yw, rfl⟩ := Ret.ext2 hh | obtain ⟨rfl, yw, rfl⟩ := Ret.ext hh) | (go_at_call 64; refine (c_ref04_pad _ _ _ (by omega) (by omega) (by omega) (by omega)).mono ?_; intro e w' hh; first | obtain ⟨rfl, yw, rfl⟩ := Ret.ext2 hh | obtain ⟨rfl, yw, rfl⟩ := Ret.ext hh))
    go_ret
    exact ⟨by rw [hr.out]; simp [ba_append], (by repeat (first | with_reducible exact Below.refl _ _ | with_reducible refine B_ext ?_ _ | with_reducible refine B_alloc ?_ _ | with_reducible refine Below.drew ?_ | with_reducible refine B_set ?_ _ _ _))⟩
-- PARSE
def parR (s : ByteArray) : Int × Int :=
  if ¬ s.size = 10 then (0, 2) else if ¬ bt s 4 = 45 then (0, 2) else if ¬ bt s 7 = 45 then (0, 2) else
  if nB (s.extract 0 4) = false then (0, 2) else if nB (s.extract 5 7) = false then (0, 2) else if nB (s.extract 8 10) = false then (0, 2) else
  fromR (nV (s.extract 0 4)) (nV (s.extract 5 7)) (nV (s.extract 8 10))

set_option maxHeartbeats 1000000 in
theorem c_date_Parse (s : ByteArray) (w : World) : Calls Tryd.prog 43 #[.string s] w (Ret (.tuple #[.int .i64 (parR s).1, .int .i64 (parR s).2]) w) := by
  cases a : decide (s.size = 10)
  · have ap : ¬ (s.size = 10) := by simpa using a
    clear a
    have hr := hid (show parR s = (0, 2) by
      skip
      simp [parR, ap])
    go_enter Tryd.func43, Tryd.ntmps43
    go_wp2_with (first | ((with_reducible refine wp_region_ext2 ?_ ?_ ?_); (kernel_rfl); (kernel_rfl)) | ((with_reducible refine wp_region_ext ?_ ?_ ?_); (kernel_rfl); (kernel_rfl)) | go_big_quiet_step (first | (go_at_call 62; exact quiet_of_ret (c_date_number _ _ (by simp; omega))) | (go_at_call 28; exact quiet_of_ret (c_date_FromYMD _ _ _ _))) | ((with_reducible refine wpQuiet_nil ?_); intro x1) | (go_at_call 62; refine (c_date_number _ _ (by simp; omega)).mono ?_; intro e w' hh; first | obtain ⟨rfl, yw, rfl⟩ := Ret.ext2 hh | obtain ⟨rfl, yw, rfl⟩ := Ret.ext hh) | (go_at_call 28; refine (c_date_FromYMD _ _ _ _).mono ?_; intro e w' hh; first | obtain ⟨rfl, yw, rfl⟩ := Ret.ext2 hh | obtain ⟨rfl, yw, rfl⟩ := Ret.ext hh))
    go_ret2
    exact ⟨by rw [hr.out] <;> simp, (by repeat (first | with_reducible exact Below.refl _ _ | with_reducible refine B_ext ?_ _ | with_reducible refine B_alloc ?_ _ | with_reducible refine Below.drew ?_ | with_reducible refine B_set ?_ _ _ _))⟩
  · have ap : (s.size = 10) := by simpa using a
    clear a
    cases b4 : (((s[4]'(by omega)).toNat : Int) == 45)
    · have b4q : (((s[4]'(by omega)).toNat : Int) != 45) = !(((s[4]'(by omega)).toNat : Int) == 45) := rfl
      rw [b4] at b4q
      have b4h : bt s 4 = ((s[4]'(by omega)).toNat : Int) := bt_eq (by omega)
      have hr := hid (show parR s = (0, 2) by
        simp only [beq_iff_eq, beq_eq_false_iff_ne, ne_eq] at b4
        simp [parR, ap, b4h, b4])
      go_enter Tryd.func43, Tryd.ntmps43
      go_wp2_with (first | ((with_reducible refine wp_region_ext2 ?_ ?_ ?_); (kernel_rfl); (kernel_rfl)) | ((with_reducible refine wp_region_ext ?_ ?_ ?_); (kernel_rfl); (kernel_rfl)) | go_big_quiet_step (first | (go_at_call 62; exact quiet_of_ret (c_date_number _ _ (by simp; omega))) | (go_at_call 28; exact quiet_of_ret (c_date_FromYMD _ _ _ _))) | ((with_reducible refine wpQuiet_nil ?_); intro x1) | (go_at_call 62; refine (c_date_number _ _ (by simp; omega)).mono ?_; intro e w' hh; first | obtain ⟨rfl, yw, rfl⟩ := Ret.ext2 hh | obtain ⟨rfl, yw, rfl⟩ := Ret.ext hh) | (go_at_call 28; refine (c_date_FromYMD _ _ _ _).mono ?_; intro e w' hh; first | obtain ⟨rfl, yw, rfl⟩ := Ret.ext2 hh | obtain ⟨rfl, yw, rfl⟩ := Ret.ext hh))
      go_ret2
      exact ⟨by rw [hr.out] <;> simp, (by repeat (first | with_reducible exact Below.refl _ _ | with_reducible refine B_ext ?_ _ | with_reducible refine B_alloc ?_ _ | with_reducible refine Below.drew ?_ | with_reducible refine B_set ?_ _ _ _))⟩
    · cases b7 : (((s[7]'(by omega)).toNat : Int) == 45)
      · have b4q : (((s[4]'(by omega)).toNat : Int) != 45) = !(((s[4]'(by omega)).toNat : Int) == 45) := rfl
        rw [b4] at b4q
        have b4h : bt s 4 = ((s[4]'(by omega)).toNat : Int) := bt_eq (by omega)
        have b7q : (((s[7]'(by omega)).toNat : Int) != 45) = !(((s[7]'(by omega)).toNat : Int) == 45) := rfl
        rw [b7] at b7q
        have b7h : bt s 7 = ((s[7]'(by omega)).toNat : Int) := bt_eq (by omega)
        have hr := hid (show parR s = (0, 2) by
          simp only [beq_iff_eq, beq_eq_false_iff_ne, ne_eq] at b4 b7
          simp [parR, ap, b4h, b7h, b4, b7])
        go_enter Tryd.func43, Tryd.ntmps43
        go_wp2_with (first | ((with_reducible refine wp_region_ext2 ?_ ?_ ?_); (kernel_rfl); (kernel_rfl)) | ((with_reducible refine wp_region_ext ?_ ?_ ?_); (kernel_rfl); (kernel_rfl)) | go_big_quiet_step (first | (go_at_call 62; exact quiet_of_ret (c_date_number _ _ (by simp; omega))) | (go_at_call 28; exact quiet_of_ret (c_date_FromYMD _ _ _ _))) | ((with_reducible refine wpQuiet_nil ?_); intro x1) | (go_at_call 62; refine (c_date_number _ _ (by simp; omega)).mono ?_; intro e w' hh; first | obtain ⟨rfl, yw, rfl⟩ := Ret.ext2 hh | obtain ⟨rfl, yw, rfl⟩ := Ret.ext hh) | (go_at_call 28; refine (c_date_FromYMD _ _ _ _).mono ?_; intro e w' hh; first | obtain ⟨rfl, yw, rfl⟩ := Ret.ext2 hh | obtain ⟨rfl, yw, rfl⟩ := Ret.ext hh))
        go_ret2
        exact ⟨by rw [hr.out] <;> simp, (by repeat (first | with_reducible exact Below.refl _ _ | with_reducible refine B_ext ?_ _ | with_reducible refine B_alloc ?_ _ | with_reducible refine Below.drew ?_ | with_reducible refine B_set ?_ _ _ _))⟩
      · cases n0 : nB (s.extract 0 4)
        · have b4q : (((s[4]'(by omega)).toNat : Int) != 45) = !(((s[4]'(by omega)).toNat : Int) == 45) := rfl
          rw [b4] at b4q
          have b4h : bt s 4 = ((s[4]'(by omega)).toNat : Int) := bt_eq (by omega)
          have b7q : (((s[7]'(by omega)).toNat : Int) != 45) = !(((s[7]'(by omega)).toNat : Int) == 45) := rfl
          rw [b7] at b7q
          have b7h : bt s 7 = ((s[7]'(by omega)).toNat : Int) := bt_eq (by omega)
          have hr := hid (show parR s = (0, 2) by
            simp only [beq_iff_eq, beq_eq_false_iff_ne, ne_eq] at b4 b7
            simp [parR, ap, n0, b4h, b7h, b4, b7])
          have d0 : nI (s.extract 0 4) = 0 := by simp [nI, n0]
          go_enter Tryd.func43, Tryd.ntmps43
          go_wp2_with (first | ((with_reducible refine wp_region_ext2 ?_ ?_ ?_); (kernel_rfl); (kernel_rfl)) | ((with_reducible refine wp_region_ext ?_ ?_ ?_); (kernel_rfl); (kernel_rfl)) | go_big_quiet_step (first | (go_at_call 62; exact quiet_of_ret (c_date_number _ _ (by simp; omega))) | (go_at_call 28; exact quiet_of_ret (c_date_FromYMD _ _ _ _))) | ((with_reducible refine wpQuiet_nil ?_); intro x1) | (go_at_call 62; refine (c_date_number _ _ (by simp; omega)).mono ?_; intro e w' hh; first | obtain ⟨rfl, yw, rfl⟩ := Ret.ext2 hh | obtain ⟨rfl, yw, rfl⟩ := Ret.ext hh) | (go_at_call 28; refine (c_date_FromYMD _ _ _ _).mono ?_; intro e w' hh; first | obtain ⟨rfl, yw, rfl⟩ := Ret.ext2 hh | obtain ⟨rfl, yw, rfl⟩ := Ret.ext hh))
          go_ret2
          exact ⟨by rw [hr.out] <;> simp, (by repeat (first | with_reducible exact Below.refl _ _ | with_reducible refine B_ext ?_ _ | with_reducible refine B_alloc ?_ _ | with_reducible refine Below.drew ?_ | with_reducible refine B_set ?_ _ _ _))⟩
        · cases n5 : nB (s.extract 5 7)
          · have b4q : (((s[4]'(by omega)).toNat : Int) != 45) = !(((s[4]'(by omega)).toNat : Int) == 45) := rfl
            rw [b4] at b4q
            have b4h : bt s 4 = ((s[4]'(by omega)).toNat : Int) := bt_eq (by omega)
            have b7q : (((s[7]'(by omega)).toNat : Int) != 45) = !(((s[7]'(by omega)).toNat : Int) == 45) := rfl
            rw [b7] at b7q
            have b7h : bt s 7 = ((s[7]'(by omega)).toNat : Int) := bt_eq (by omega)
            have hr := hid (show parR s = (0, 2) by
              simp only [beq_iff_eq, beq_eq_false_iff_ne, ne_eq] at b4 b7
              simp [parR, ap, n0, n5, b4h, b7h, b4, b7])
            have d0 : nI (s.extract 0 4) = nV (s.extract 0 4) := by simp [nI, n0]
            have d5 : nI (s.extract 5 7) = 0 := by simp [nI, n5]
            have v0 := nV_bd 4 (by simp; omega) n0
            simp at v0
            obtain ⟨v0a, v0b⟩ := v0
            go_enter Tryd.func43, Tryd.ntmps43
            go_wp2_with (first | ((with_reducible refine wp_region_ext2 ?_ ?_ ?_); (kernel_rfl); (kernel_rfl)) | ((with_reducible refine wp_region_ext ?_ ?_ ?_); (kernel_rfl); (kernel_rfl)) | go_big_quiet_step (first | (go_at_call 62; exact quiet_of_ret (c_date_number _ _ (by simp; omega))) | (go_at_call 28; exact quiet_of_ret (c_date_FromYMD _ _ _ _))) | ((with_reducible refine wpQuiet_nil ?_); intro x1) | (go_at_call 62; refine (c_date_number _ _ (by simp; omega)).mono ?_; intro e w' hh; first | obtain ⟨rfl, yw, rfl⟩ := Ret.ext2 hh | obtain ⟨rfl, yw, rfl⟩ := Ret.ext hh) | (go_at_call 28; refine (c_date_FromYMD _ _ _ _).mono ?_; intro e w' hh; first | obtain ⟨rfl, yw, rfl⟩ := Ret.ext2 hh | obtain ⟨rfl, yw, rfl⟩ := Ret.ext hh))
            go_ret2
            exact ⟨by rw [hr.out] <;> simp, (by repeat (first | with_reducible exact Below.refl _ _ | with_reducible refine B_ext ?_ _ | with_reducible refine B_alloc ?_ _ | with_reducible refine Below.drew ?_ | with_reducible refine B_set ?_ _ _ _))⟩
          · cases n8 : nB (s.extract 8 10)
            · have b4q : (((s[4]'(by omega)).toNat : Int) != 45) = !(((s[4]'(by omega)).toNat : Int) == 45) := rfl
              rw [b4] at b4q
              have b4h : bt s 4 = ((s[4]'(by omega)).toNat : Int) := bt_eq (by omega)
              have b7q : (((s[7]'(by omega)).toNat : Int) != 45) = !(((s[7]'(by omega)).toNat : Int) == 45) := rfl
              rw [b7] at b7q
              have b7h : bt s 7 = ((s[7]'(by omega)).toNat : Int) := bt_eq (by omega)
              have hr := hid (show parR s = (0, 2) by
                simp only [beq_iff_eq, beq_eq_false_iff_ne, ne_eq] at b4 b7
                simp [parR, ap, n0, n5, n8, b4h, b7h, b4, b7])
              have d0 : nI (s.extract 0 4) = nV (s.extract 0 4) := by simp [nI, n0]
              have d5 : nI (s.extract 5 7) = nV (s.extract 5 7) := by simp [nI, n5]
              have d8 : nI (s.extract 8 10) = 0 := by simp [nI, n8]
              have v0 := nV_bd 4 (by simp; omega) n0
              simp at v0
              obtain ⟨v0a, v0b⟩ := v0
              have v5 := nV_bd 2 (by simp; omega) n5
              simp at v5
              obtain ⟨v5a, v5b⟩ := v5
              go_enter Tryd.func43, Tryd.ntmps43
              go_wp2_with (first | ((with_reducible refine wp_region_ext2 ?_ ?_ ?_); (kernel_rfl); (kernel_rfl)) | ((with_reducible refine wp_region_ext ?_ ?_ ?_); (kernel_rfl); (kernel_rfl)) | go_big_quiet_step (first | (go_at_call 62; exact quiet_of_ret (c_date_number _ _ (by simp; omega))) | (go_at_call 28; exact quiet_of_ret (c_date_FromYMD _ _ _ _))) | ((with_reducible refine wpQuiet_nil ?_); intro x1) | (go_at_call 62; refine (c_date_number _ _ (by simp; omega)).mono ?_; intro e w' hh; first | obtain ⟨rfl, yw, rfl⟩ := Ret.ext2 hh | obtain ⟨rfl, yw, rfl⟩ := Ret.ext hh) | (go_at_call 28; refine (c_date_FromYMD _ _ _ _).mono ?_; intro e w' hh; first | obtain ⟨rfl, yw, rfl⟩ := Ret.ext2 hh | obtain ⟨rfl, yw, rfl⟩ := Ret.ext hh))
              go_ret2
              exact ⟨by rw [hr.out] <;> simp, (by repeat (first | with_reducible exact Below.refl _ _ | with_reducible refine B_ext ?_ _ | with_reducible refine B_alloc ?_ _ | with_reducible refine Below.drew ?_ | with_reducible refine B_set ?_ _ _ _))⟩
            · have b4q : (((s[4]'(by omega)).toNat : Int) != 45) = !(((s[4]'(by omega)).toNat : Int) == 45) := rfl
              rw [b4] at b4q
              have b4h : bt s 4 = ((s[4]'(by omega)).toNat : Int) := bt_eq (by omega)
              have b7q : (((s[7]'(by omega)).toNat : Int) != 45) = !(((s[7]'(by omega)).toNat : Int) == 45) := rfl
              rw [b7] at b7q
              have b7h : bt s 7 = ((s[7]'(by omega)).toNat : Int) := bt_eq (by omega)
              have hr := hid (show parR s = fromR (nV (s.extract 0 4)) (nV (s.extract 5 7)) (nV (s.extract 8 10)) by
                simp only [beq_iff_eq, beq_eq_false_iff_ne, ne_eq] at b4 b7
                simp [parR, ap, n0, n5, n8, b4h, b7h, b4, b7])
              have d0 : nI (s.extract 0 4) = nV (s.extract 0 4) := by simp [nI, n0]
              have d5 : nI (s.extract 5 7) = nV (s.extract 5 7) := by simp [nI, n5]
              have d8 : nI (s.extract 8 10) = nV (s.extract 8 10) := by simp [nI, n8]
              have v0 := nV_bd 4 (by simp; omega) n0
              simp at v0
              obtain ⟨v0a, v0b⟩ := v0
              have v5 := nV_bd 2 (by simp; omega) n5
              simp at v5
              obtain ⟨v5a, v5b⟩ := v5
              have v8 := nV_bd 2 (by simp; omega) n8
              simp at v8
              obtain ⟨v8a, v8b⟩ := v8
              go_enter Tryd.func43, Tryd.ntmps43
              go_wp2_with (first | ((with_reducible refine wp_region_ext2 ?_ ?_ ?_); (kernel_rfl); (kernel_rfl)) | ((with_reducible refine wp_region_ext ?_ ?_ ?_); (kernel_rfl); (kernel_rfl)) | go_big_quiet_step (first | (go_at_call 62; exact quiet_of_ret (c_date_number _ _ (by simp; omega))) | (go_at_call 28; exact quiet_of_ret (c_date_FromYMD _ _ _ _))) | ((with_reducible refine wpQuiet_nil ?_); intro x1) | (go_at_call 62; refine (c_date_number _ _ (by simp; omega)).mono ?_; intro e w' hh; first | obtain ⟨rfl, yw, rfl⟩ := Ret.ext2 hh | obtain ⟨rfl, yw, rfl⟩ := Ret.ext hh) | (go_at_call 28; refine (c_date_FromYMD _ _ _ _).mono ?_; intro e w' hh; first | obtain ⟨rfl, yw, rfl⟩ := Ret.ext2 hh | obtain ⟨rfl, yw, rfl⟩ := Ret.ext hh))
              go_ret2
              exact ⟨by rw [hr.out] <;> simp, (by repeat (first | with_reducible exact Below.refl _ _ | with_reducible refine B_ext ?_ _ | with_reducible refine B_alloc ?_ _ | with_reducible refine Below.drew ?_ | with_reducible refine B_set ?_ _ _ _))⟩

set_option maxHeartbeats 1000000 in
theorem c_ref04_Parse (s : ByteArray) (w : World) : Calls Tryd.prog 44 #[.string s] w (Ret (.tuple #[.int .i64 (parR s).1, .int .i64 (parR s).2]) w) := by
  cases a : decide (s.size = 10)
  · have ap : ¬ (s.size = 10) := by simpa using a
    clear a
    have hr := hid (show parR s = (0, 2) by
      skip
      simp [parR, ap])
    go_enter Tryd.func44, Tryd.ntmps44
    go_wp2_with (first | ((with_reducible refine wp_region_ext2 ?_ ?_ ?_); (kernel_rfl); (kernel_rfl)) | ((with_reducible refine wp_region_ext ?_ ?_ ?_); (kernel_rfl); (kernel_rfl)) | go_big_quiet_step (first | (go_at_call 55; exact quiet_of_ret (c_ref04_Digits _ _ (by simp; omega))) | (go_at_call 29; exact quiet_of_ret (c_ref04_FromYMD _ _ _ _))) | ((with_reducible refine wpQuiet_nil ?_); intro x1) | (go_at_call 55; refine (c_ref04_Digits _ _ (by simp; omega)).mono ?_; intro e w' hh; first | obtain ⟨rfl, yw, rfl⟩ := Ret.ext2 hh | obtain ⟨rfl, yw, rfl⟩ := Ret.ext hh) | (go_at_call 29; refine (c_ref04_FromYMD _ _ _ _).mono ?_; intro e w' hh; first | obtain ⟨rfl, yw, rfl⟩ := Ret.ext2 hh | obtain ⟨rfl, yw, rfl⟩ := Ret.ext hh))
    go_ret2
    exact ⟨by rw [hr.out] <;> simp, (by repeat (first | with_reducible exact Below.refl _ _ | with_reducible refine B_ext ?_ _ | with_reducible refine B_alloc ?_ _ | with_reducible refine Below.drew ?_ | with_reducible refine B_set ?_ _ _ _))⟩
  · have ap : (s.size = 10) := by simpa using a
    clear a
    cases b4 : (((s[4]'(by omega)).toNat : Int) == 45)
    · have b4q : (((s[4]'(by omega)).toNat : Int) != 45) = !(((s[4]'(by omega)).toNat : Int) == 45) := rfl
      rw [b4] at b4q
      have b4h : bt s 4 = ((s[4]'(by omega)).toNat : Int) := bt_eq (by omega)
      have hr := hid (show parR s = (0, 2) by
        simp only [beq_iff_eq, beq_eq_false_iff_ne, ne_eq] at b4
        simp [parR, ap, b4h, b4])
      go_enter Tryd.func44, Tryd.ntmps44
      go_wp2_with (first | ((with_reducible refine wp_region_ext2 ?_ ?_ ?_); (kernel_rfl); (kernel_rfl)) | ((with_reducible refine wp_region_ext ?_ ?_ ?_); (kernel_rfl); (kernel_rfl)) | go_big_quiet_step (first | (go_at_call 55; exact quiet_of_ret (c_ref04_Digits _ _ (by simp; omega))) | (go_at_call 29; exact quiet_of_ret (c_ref04_FromYMD _ _ _ _))) | ((with_reducible refine wpQuiet_nil ?_); intro x1) | (go_at_call 55; refine (c_ref04_Digits _ _ (by simp; omega)).mono ?_; intro e w' hh; first | obtain ⟨rfl, yw, rfl⟩ := Ret.ext2 hh | obtain ⟨rfl, yw, rfl⟩ := Ret.ext hh) | (go_at_call 29; refine (c_ref04_FromYMD _ _ _ _).mono ?_; intro e w' hh; first | obtain ⟨rfl, yw, rfl⟩ := Ret.ext2 hh | obtain ⟨rfl, yw, rfl⟩ := Ret.ext hh))
      go_ret2
      exact ⟨by rw [hr.out] <;> simp, (by repeat (first | with_reducible exact Below.refl _ _ | with_reducible refine B_ext ?_ _ | with_reducible refine B_alloc ?_ _ | with_reducible refine Below.drew ?_ | with_reducible refine B_set ?_ _ _ _))⟩
    · cases b7 : (((s[7]'(by omega)).toNat : Int) == 45)
      · have b4q : (((s[4]'(by omega)).toNat : Int) != 45) = !(((s[4]'(by omega)).toNat : Int) == 45) := rfl
        rw [b4] at b4q
        have b4h : bt s 4 = ((s[4]'(by omega)).toNat : Int) := bt_eq (by omega)
        have b7q : (((s[7]'(by omega)).toNat : Int) != 45) = !(((s[7]'(by omega)).toNat : Int) == 45) := rfl
        rw [b7] at b7q
        have b7h : bt s 7 = ((s[7]'(by omega)).toNat : Int) := bt_eq (by omega)
        have hr := hid (show parR s = (0, 2) by
          simp only [beq_iff_eq, beq_eq_false_iff_ne, ne_eq] at b4 b7
          simp [parR, ap, b4h, b7h, b4, b7])
        go_enter Tryd.func44, Tryd.ntmps44
        go_wp2_with (first | ((with_reducible refine wp_region_ext2 ?_ ?_ ?_); (kernel_rfl); (kernel_rfl)) | ((with_reducible refine wp_region_ext ?_ ?_ ?_); (kernel_rfl); (kernel_rfl)) | go_big_quiet_step (first | (go_at_call 55; exact quiet_of_ret (c_ref04_Digits _ _ (by simp; omega))) | (go_at_call 29; exact quiet_of_ret (c_ref04_FromYMD _ _ _ _))) | ((with_reducible refine wpQuiet_nil ?_); intro x1) | (go_at_call 55; refine (c_ref04_Digits _ _ (by simp; omega)).mono ?_; intro e w' hh; first | obtain ⟨rfl, yw, rfl⟩ := Ret.ext2 hh | obtain ⟨rfl, yw, rfl⟩ := Ret.ext hh) | (go_at_call 29; refine (c_ref04_FromYMD _ _ _ _).mono ?_; intro e w' hh; first | obtain ⟨rfl, yw, rfl⟩ := Ret.ext2 hh | obtain ⟨rfl, yw, rfl⟩ := Ret.ext hh))
        go_ret2
        exact ⟨by rw [hr.out] <;> simp, (by repeat (first | with_reducible exact Below.refl _ _ | with_reducible refine B_ext ?_ _ | with_reducible refine B_alloc ?_ _ | with_reducible refine Below.drew ?_ | with_reducible refine B_set ?_ _ _ _))⟩
      · cases n0 : nB (s.extract 0 4)
        · have b4q : (((s[4]'(by omega)).toNat : Int) != 45) = !(((s[4]'(by omega)).toNat : Int) == 45) := rfl
          rw [b4] at b4q
          have b4h : bt s 4 = ((s[4]'(by omega)).toNat : Int) := bt_eq (by omega)
          have b7q : (((s[7]'(by omega)).toNat : Int) != 45) = !(((s[7]'(by omega)).toNat : Int) == 45) := rfl
          rw [b7] at b7q
          have b7h : bt s 7 = ((s[7]'(by omega)).toNat : Int) := bt_eq (by omega)
          have hr := hid (show parR s = (0, 2) by
            simp only [beq_iff_eq, beq_eq_false_iff_ne, ne_eq] at b4 b7
            simp [parR, ap, n0, b4h, b7h, b4, b7])
          have d0 : dI (s.extract 0 4) = -1 := by simp [dI, n0]
          go_enter Tryd.func44, Tryd.ntmps44
          go_wp2_with (first | ((with_reducible refine wp_region_ext2 ?_ ?_ ?_); (kernel_rfl); (kernel_rfl)) | ((with_reducible refine wp_region_ext ?_ ?_ ?_); (kernel_rfl); (kernel_rfl)) | go_big_quiet_step (first | (go_at_call 55; exact quiet_of_ret (c_ref04_Digits _ _ (by simp; omega))) | (go_at_call 29; exact quiet_of_ret (c_ref04_FromYMD _ _ _ _))) | ((with_reducible refine wpQuiet_nil ?_); intro x1) | (go_at_call 55; refine (c_ref04_Digits _ _ (by simp; omega)).mono ?_; intro e w' hh; first | obtain ⟨rfl, yw, rfl⟩ := Ret.ext2 hh | obtain ⟨rfl, yw, rfl⟩ := Ret.ext hh) | (go_at_call 29; refine (c_ref04_FromYMD _ _ _ _).mono ?_; intro e w' hh; first | obtain ⟨rfl, yw, rfl⟩ := Ret.ext2 hh | obtain ⟨rfl, yw, rfl⟩ := Ret.ext hh))
          go_ret2
          exact ⟨by rw [hr.out] <;> simp, (by repeat (first | with_reducible exact Below.refl _ _ | with_reducible refine B_ext ?_ _ | with_reducible refine B_alloc ?_ _ | with_reducible refine Below.drew ?_ | with_reducible refine B_set ?_ _ _ _))⟩
        · cases n5 : nB (s.extract 5 7)
          · have b4q : (((s[4]'(by omega)).toNat : Int) != 45) = !(((s[4]'(by omega)).toNat : Int) == 45) := rfl
            rw [b4] at b4q
            have b4h : bt s 4 = ((s[4]'(by omega)).toNat : Int) := bt_eq (by omega)
            have b7q : (((s[7]'(by omega)).toNat : Int) != 45) = !(((s[7]'(by omega)).toNat : Int) == 45) := rfl
            rw [b7] at b7q
            have b7h : bt s 7 = ((s[7]'(by omega)).toNat : Int) := bt_eq (by omega)
            have hr := hid (show parR s = (0, 2) by
              simp only [beq_iff_eq, beq_eq_false_iff_ne, ne_eq] at b4 b7
              simp [parR, ap, n0, n5, b4h, b7h, b4, b7])
            have d0 : dI (s.extract 0 4) = nV (s.extract 0 4) := by simp [dI, n0]
            have d5 : dI (s.extract 5 7) = -1 := by simp [dI, n5]
            have v0 := nV_bd 4 (by simp; omega) n0
            simp at v0
            obtain ⟨v0a, v0b⟩ := v0
            go_enter Tryd.func44, Tryd.ntmps44
            go_wp2_with (first | ((with_reducible refine wp_region_ext2 ?_ ?_ ?_); (kernel_rfl); (kernel_rfl)) | ((with_reducible refine wp_region_ext ?_ ?_ ?_); (kernel_rfl); (kernel_rfl)) | go_big_quiet_step (first | (go_at_call 55; exact quiet_of_ret (c_ref04_Digits _ _ (by simp; omega))) | (go_at_call 29; exact quiet_of_ret (c_ref04_FromYMD _ _ _ _))) | ((with_reducible refine wpQuiet_nil ?_); intro x1) | (go_at_call 55; refine (c_ref04_Digits _ _ (by simp; omega)).mono ?_; intro e w' hh; first | obtain ⟨rfl, yw, rfl⟩ := Ret.ext2 hh | obtain ⟨rfl, yw, rfl⟩ := Ret.ext hh) | (go_at_call 29; refine (c_ref04_FromYMD _ _ _ _).mono ?_; intro e w' hh; first | obtain ⟨rfl, yw, rfl⟩ := Ret.ext2 hh | obtain ⟨rfl, yw, rfl⟩ := Ret.ext hh))
            go_ret2
            exact ⟨by rw [hr.out] <;> simp, (by repeat (first | with_reducible exact Below.refl _ _ | with_reducible refine B_ext ?_ _ | with_reducible refine B_alloc ?_ _ | with_reducible refine Below.drew ?_ | with_reducible refine B_set ?_ _ _ _))⟩
          · cases n8 : nB (s.extract 8 10)
            · have b4q : (((s[4]'(by omega)).toNat : Int) != 45) = !(((s[4]'(by omega)).toNat : Int) == 45) := rfl
              rw [b4] at b4q
              have b4h : bt s 4 = ((s[4]'(by omega)).toNat : Int) := bt_eq (by omega)
              have b7q : (((s[7]'(by omega)).toNat : Int) != 45) = !(((s[7]'(by omega)).toNat : Int) == 45) := rfl
              rw [b7] at b7q
              have b7h : bt s 7 = ((s[7]'(by omega)).toNat : Int) := bt_eq (by omega)
              have hr := hid (show parR s = (0, 2) by
                simp only [beq_iff_eq, beq_eq_false_iff_ne, ne_eq] at b4 b7
                simp [parR, ap, n0, n5, n8, b4h, b7h, b4, b7])
              have d0 : dI (s.extract 0 4) = nV (s.extract 0 4) := by simp [dI, n0]
              have d5 : dI (s.extract 5 7) = nV (s.extract 5 7) := by simp [dI, n5]
              have d8 : dI (s.extract 8 10) = -1 := by simp [dI, n8]
              have v0 := nV_bd 4 (by simp; omega) n0
              simp at v0
              obtain ⟨v0a, v0b⟩ := v0
              have v5 := nV_bd 2 (by simp; omega) n5
              simp at v5
              obtain ⟨v5a, v5b⟩ := v5
              go_enter Tryd.func44, Tryd.ntmps44
              go_wp2_with (first | ((with_reducible refine wp_region_ext2 ?_ ?_ ?_); (kernel_rfl); (kernel_rfl)) | ((with_reducible refine wp_region_ext ?_ ?_ ?_); (kernel_rfl); (kernel_rfl)) | go_big_quiet_step (first | (go_at_call 55; exact quiet_of_ret (c_ref04_Digits _ _ (by simp; omega))) | (go_at_call 29; exact quiet_of_ret (c_ref04_FromYMD _ _ _ _))) | ((with_reducible refine wpQuiet_nil ?_); intro x1) | (go_at_call 55; refine (c_ref04_Digits _ _ (by simp; omega)).mono ?_; intro e w' hh; first | obtain ⟨rfl, yw, rfl⟩ := Ret.ext2 hh | obtain ⟨rfl, yw, rfl⟩ := Ret.ext hh) | (go_at_call 29; refine (c_ref04_FromYMD _ _ _ _).mono ?_; intro e w' hh; first | obtain ⟨rfl, yw, rfl⟩ := Ret.ext2 hh | obtain ⟨rfl, yw, rfl⟩ := Ret.ext hh))
              go_ret2
              exact ⟨by rw [hr.out] <;> simp, (by repeat (first | with_reducible exact Below.refl _ _ | with_reducible refine B_ext ?_ _ | with_reducible refine B_alloc ?_ _ | with_reducible refine Below.drew ?_ | with_reducible refine B_set ?_ _ _ _))⟩
            · have b4q : (((s[4]'(by omega)).toNat : Int) != 45) = !(((s[4]'(by omega)).toNat : Int) == 45) := rfl
              rw [b4] at b4q
              have b4h : bt s 4 = ((s[4]'(by omega)).toNat : Int) := bt_eq (by omega)
              have b7q : (((s[7]'(by omega)).toNat : Int) != 45) = !(((s[7]'(by omega)).toNat : Int) == 45) := rfl
              rw [b7] at b7q
              have b7h : bt s 7 = ((s[7]'(by omega)).toNat : Int) := bt_eq (by omega)
              have hr := hid (show parR s = fromR (nV (s.extract 0 4)) (nV (s.extract 5 7)) (nV (s.extract 8 10)) by
                simp only [beq_iff_eq, beq_eq_false_iff_ne, ne_eq] at b4 b7
                simp [parR, ap, n0, n5, n8, b4h, b7h, b4, b7])
              have d0 : dI (s.extract 0 4) = nV (s.extract 0 4) := by simp [dI, n0]
              have d5 : dI (s.extract 5 7) = nV (s.extract 5 7) := by simp [dI, n5]
              have d8 : dI (s.extract 8 10) = nV (s.extract 8 10) := by simp [dI, n8]
              have v0 := nV_bd 4 (by simp; omega) n0
              simp at v0
              obtain ⟨v0a, v0b⟩ := v0
              have v5 := nV_bd 2 (by simp; omega) n5
              simp at v5
              obtain ⟨v5a, v5b⟩ := v5
              have v8 := nV_bd 2 (by simp; omega) n8
              simp at v8
              obtain ⟨v8a, v8b⟩ := v8
              go_enter Tryd.func44, Tryd.ntmps44
              go_wp2_with (first | ((with_reducible refine wp_region_ext2 ?_ ?_ ?_); (kernel_rfl); (kernel_rfl)) | ((with_reducible refine wp_region_ext ?_ ?_ ?_); (kernel_rfl); (kernel_rfl)) | go_big_quiet_step (first | (go_at_call 55; exact quiet_of_ret (c_ref04_Digits _ _ (by simp; omega))) | (go_at_call 29; exact quiet_of_ret (c_ref04_FromYMD _ _ _ _))) | ((with_reducible refine wpQuiet_nil ?_); intro x1) | (go_at_call 55; refine (c_ref04_Digits _ _ (by simp; omega)).mono ?_; intro e w' hh; first | obtain ⟨rfl, yw, rfl⟩ := Ret.ext2 hh | obtain ⟨rfl, yw, rfl⟩ := Ret.ext hh) | (go_at_call 29; refine (c_ref04_FromYMD _ _ _ _).mono ?_; intro e w' hh; first | obtain ⟨rfl, yw, rfl⟩ := Ret.ext2 hh | obtain ⟨rfl, yw, rfl⟩ := Ret.ext hh))
              go_ret2
              exact ⟨by rw [hr.out] <;> simp, (by repeat (first | with_reducible exact Below.refl _ _ | with_reducible refine B_ext ?_ _ | with_reducible refine B_alloc ?_ _ | with_reducible refine Below.drew ?_ | with_reducible refine B_set ?_ _ _ _))⟩

end Go.Proofs.YtfhlignhdnhmlaaDoor
