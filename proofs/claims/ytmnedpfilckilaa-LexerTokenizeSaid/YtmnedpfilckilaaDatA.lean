/- The program's calendar, by its pure reading: what each function of dates computes. -/
import Derived.Test.YtmnedpfilckilaaRd
import Derived.Test.YtmnedpfilckilaaRune
import Derived.Test.YtmnedpfilckilaaDates
set_option linter.unusedSimpArgs false
set_option linter.unusedVariables false
namespace Go.Proofs.Ytmnedpfilckilaa
open Go.RowKit

theorem tmod_beq0 {y k : Int} (hk : 0 < k) : (y.tmod k == 0) = decide (y % k = 0) := tmod_beq y k hk
theorem tmod_bne0 {y k : Int} (hk : 0 < k) : (y.tmod k != 0) = !decide (y % k = 0) := by rw [bne, tmod_beq y k hk]
theorem leap_if (y : Int) : (if decide (y % 4 = 0) = true then (if (!decide (y % 100 = 0)) = true then some true else some (decide (y % 400 = 0))) else some false) = some (leapB y) := by
  unfold leapB
  by_cases h1 : y % 4 = 0 <;> by_cases h2 : y % 100 = 0 <;> by_cases h3 : y % 400 = 0 <;> simp [h1, h2, h3]
theorem F85_d (N : Nat) (y : Int) : F85 N y = some (leapB y) := by
  rw [F85_eq]
  simp only [aIf_if, tmod_beq0 (show (0 : Int) < 4 by decide), tmod_bne0 (show (0 : Int) < 100 by decide), tmod_beq0 (show (0 : Int) < 400 by decide)]
  exact leap_if y
theorem F86_d (N : Nat) (y : Int) : F86 N y = some (leapB y) := by
  rw [F86_eq]
  simp only [aIf_if, tmod_beq0 (show (0 : Int) < 4 by decide), tmod_bne0 (show (0 : Int) < 100 by decide), tmod_beq0 (show (0 : Int) < 400 by decide)]
  exact leap_if y
theorem F77_d (N : Nat) (y : Int) : F77 N y = some (diy y) := by
  rw [F77_eq, F85_d, onSome_ok, aIf_if, diy]
  split <;> rfl
theorem F82_d (N : Nat) (y : Int) : F82 N y = some (diy y) := by
  rw [F82_eq, F86_d, onSome_ok, aIf_if, diy]
  split <;> rfl
theorem F76_d (N : Nat) (y m : Int) : F76 N (y, m) = some (dim y m) := by
  rw [F76_eq]
  simp only [aIf_if, aGd_if, F85_d, onSome_ok]
  by_cases h1 : m < 1
  · simp [h1, dim_out (.inl h1)]
  by_cases h2 : 12 < m
  · simp [h1, h2, dim_out (.inr h2)]
  have hm : m = 1 ∨ m = 2 ∨ m = 3 ∨ m = 4 ∨ m = 5 ∨ m = 6 ∨ m = 7 ∨ m = 8 ∨ m = 9 ∨ m = 10 ∨ m = 11 ∨ m = 12 := by omega
  rcases hm with rfl | rfl | rfl | rfl | rfl | rfl | rfl | rfl | rfl | rfl | rfl | rfl <;> simp [dim, onSome, onInt, aGd]
  cases leapB y <;> simp
theorem F81_d (N : Nat) (y m : Int) : F81 N (y, m) = some (dim y m) := by
  rw [F81_eq]
  simp only [aIf_if, aGd_if, F86_d, onSome_ok]
  by_cases h1 : m < 1
  · rw [dim_out (.inl h1)]
    have : m ≠ 1 ∧ m ≠ 2 ∧ m ≠ 3 ∧ m ≠ 4 ∧ m ≠ 5 ∧ m ≠ 6 ∧ m ≠ 7 ∧ m ≠ 8 ∧ m ≠ 9 ∧ m ≠ 10 ∧ m ≠ 11 ∧ m ≠ 12 := by omega
    simp [this]
  by_cases h2 : 12 < m
  · rw [dim_out (.inr h2)]
    have : m ≠ 1 ∧ m ≠ 2 ∧ m ≠ 3 ∧ m ≠ 4 ∧ m ≠ 5 ∧ m ≠ 6 ∧ m ≠ 7 ∧ m ≠ 8 ∧ m ≠ 9 ∧ m ≠ 10 ∧ m ≠ 11 ∧ m ≠ 12 := by omega
    simp [this]
  have hm : m = 1 ∨ m = 2 ∨ m = 3 ∨ m = 4 ∨ m = 5 ∨ m = 6 ∨ m = 7 ∨ m = 8 ∨ m = 9 ∨ m = 10 ∨ m = 11 ∨ m = 12 := by omega
  rcases hm with rfl | rfl | rfl | rfl | rfl | rfl | rfl | rfl | rfl | rfl | rfl | rfl <;> simp [dim]
  cases leapB y <;> simp

/-! ## FromYMD -/
theorem cum_bd2 {y m : Int} (h1 : 1 ≤ m) (h2 : m ≤ 13) : 0 ≤ cum y m ∧ cum y m ≤ 366 := by
  have a := cum_mono (y := y) (a := 1) (b := m) (by omega) h1 (by omega)
  have b := cum_mono (y := y) (a := m) (b := 13) h1 (by omega) (by omega)
  have c := diy_bd y
  rw [cum_1] at a
  rw [cum_13] at b
  omega
theorem dby_bd2 {y : Int} (h1 : 1900 ≤ y) (h2 : y ≤ 2200) : 0 ≤ dby y ∧ dby y ≤ 109573 := by
  have a := dby_mono h1
  have b := dby_mono h2
  rw [dby_1900] at a
  rw [dby_2200] at b
  omega
theorem L59_m {N : Nat} {y x m : Int} (h2 : m ≤ 12) (h3 : -1000000 ≤ x) (h4 : x ≤ 1000000) : ∀ (k n : Nat) (i : Int), k = (m - 1 - i).toNat → 0 ≤ i → i ≤ m - 1 → k < n →
    L59_10 N n y (x + cum y (i + 1)) (m - 1) i = some (x + cum y m, 0)
  | 0, n + 1, i, hk, h0, h1, _ => by
    have hi : i = m - 1 := by omega
    subst hi
    rw [L59_10_eq, aIf_if, if_neg (by simp)]
    rw [show m - 1 + 1 = m by omega]
  | k + 1, n + 1, i, hk, h0, h1, hn => by
    have hi : i < m - 1 := by omega
    have hc := cum_succ (y := y) (m := i + 1) (by omega) (by omega)
    have hd := dim_nn y (i + 1)
    have hb := cum_bd2 (y := y) (m := i + 1) (by omega) (by omega)
    rw [L59_10_eq, aIf_if, if_pos (by simpa using hi), w64 (x := i + 1) (by omega) (by omega), F76_d, onSome_ok, w64 (by omega) (by omega)]
    have := L59_m (N := N) (y := y) (x := x) h2 h3 h4 k n (i + 1) (by omega) (by omega) (by omega) (by omega)
    rw [← this, hc]
    congr 1; omega
  | k, 0, _, _, _, _, h => by omega
theorem L59_y {N : Nat} {y m d : Int} (hy2 : y ≤ 2199) (h1 : 1 ≤ m) (h2 : m ≤ 12) (h3 : 1 ≤ d) (h4 : d ≤ 31) (hN : 12 < N) : ∀ (k n : Nat) (i : Int), k = (y - 1900 - i).toNat → 0 ≤ i → i ≤ y - 1900 → k < n →
    L59_5 N n y m (d - 1 + dby (1900 + i)) (y - 1900) i = some (dby y + cum y m + d - 1, 0)
  | 0, n + 1, i, hk, h0, hi1, _ => by
    have hi : i = y - 1900 := by omega
    subst hi
    have hb := dby_bd2 (y := y) (by omega) (by omega)
    rw [L59_5_eq, aIf_if, if_neg (by simp), w64 (x := m - 1) (by omega) (by omega)]
    have := L59_m (N := N) (y := y) (m := m) (x := d - 1 + dby y) h2 (by omega) (by omega) (m - 1).toNat N 0 (by omega) (by omega) (by omega) (by omega)
    rw [show (0 : Int) + 1 = 1 by rfl, cum_1, Int.add_zero] at this
    rw [show 1900 + (y - 1900) = y by omega, this]
    simp; omega
  | k + 1, n + 1, i, hk, h0, hi1, hn => by
    have hi : i < y - 1900 := by omega
    have hd := diy_bd (1900 + i)
    have hs := dby_succ (1900 + i)
    have hb := dby_bd2 (y := 1900 + i) (by omega) (by omega)
    rw [L59_5_eq, aIf_if, if_pos (by simpa using hi), w64 (x := 1900 + i) (by omega) (by omega), F77_d, onSome_ok, w64 (x := i + 1) (by omega) (by omega), w64 (by omega) (by omega)]
    have := L59_y (N := N) (d := d) hy2 h1 h2 h3 h4 hN k n (i + 1) (by omega) (by omega) (by omega) (by omega)
    rw [← this]
    congr 1
    rw [show 1900 + (i + 1) = 1900 + i + 1 by omega, hs]; omega
  | k, 0, _, _, _, _, h => by omega
theorem fromR_def (y m d : Int) : fromR y m d = if y < 1900 then (0, 3) else if 2199 < y then (0, 3) else if d < 1 then (0, 3) else if dim y m < d then (0, 3) else (dby y + cum y m + d - 1, 0) := by
  unfold fromR ymdB num
  by_cases h1 : y < 1900
  · simp [h1, show ¬ 1900 ≤ y by omega]
  by_cases h2 : 2199 < y
  · simp [h1, h2, show ¬ y ≤ 2199 by omega]
  by_cases h3 : d < 1
  · simp [h1, h2, h3, show ¬ 1 ≤ d by omega]
  by_cases h4 : dim y m < d
  · simp [h1, h2, h3, h4, show ¬ d ≤ dim y m by omega]
  · simp [h1, h2, h3, h4, show 1900 ≤ y by omega, show y ≤ 2199 by omega, show 1 ≤ d by omega, show d ≤ dim y m by omega]
theorem F59_d {N : Nat} (hN : 300 < N) (y m d : Int) : F59 N (y, m, d) = some (fromR y m d) := by
  rw [F59_eq, fromR_def]
  simp only [aIf_if, F76_d, onSome_ok, decide_eq_true_eq]
  by_cases h1 : y < 1900
  · rw [if_pos h1, if_pos h1]
  by_cases h2 : 2199 < y
  · rw [if_neg h1, if_neg h1, if_pos h2, if_pos h2]
  by_cases h3 : d < 1
  · rw [if_neg h1, if_neg h1, if_neg h2, if_neg h2, if_pos h3, if_pos h3]
  by_cases h4 : dim y m < d
  · rw [if_neg h1, if_neg h1, if_neg h2, if_neg h2, if_neg h3, if_neg h3, if_pos h4, if_pos h4]
  rw [if_neg h1, if_neg h1, if_neg h2, if_neg h2, if_neg h3, if_neg h3, if_neg h4, if_neg h4]
  have hm : 1 ≤ m ∧ m ≤ 12 := by
    by_cases h : m < 1 ∨ 12 < m
    · have := dim_out (y := y) h; omega
    · omega
  have hd := dim_nn y m
  rw [w64 (x := d - 1) (by omega) (by omega), w64 (x := y - 1900) (by omega) (by omega)]
  have := L59_y (N := N) (y := y) (m := m) (d := d) (by omega) hm.1 hm.2 (by omega) (by omega) (by omega) (y - 1900).toNat N 0 (by omega) (by omega) (by omega) (by omega)
  rw [Int.add_zero, dby_1900, Int.add_zero] at this
  exact this
theorem L70_m {N : Nat} {y x m : Int} (h2 : m ≤ 12) (h3 : -1000000 ≤ x) (h4 : x ≤ 1000000) : ∀ (k n : Nat) (i : Int), k = (m - i).toNat → 1 ≤ i → i ≤ m → k < n →
    L70_9 N n y m (x + cum y i) i = some (x + cum y m, 0)
  | 0, n + 1, i, hk, h0, h1, _ => by
    have hi : i = m := by omega
    subst hi
    rw [L70_9_eq, aIf_if, if_neg (by simp)]
  | k + 1, n + 1, i, hk, h0, h1, hn => by
    have hi : i < m := by omega
    have hc := cum_succ (y := y) (m := i) (by omega) (by omega)
    have hd := dim_nn y i
    have hb := cum_bd2 (y := y) (m := i) (by omega) (by omega)
    rw [L70_9_eq, aIf_if, if_pos (by simpa using hi), w64 (x := i + 1) (by omega) (by omega), F81_d, onSome_ok, w64 (by omega) (by omega)]
    have := L70_m (N := N) (y := y) (x := x) h2 h3 h4 k n (i + 1) (by omega) (by omega) (by omega) (by omega)
    rw [← this, hc]
    congr 1; omega
  | k, 0, _, _, _, _, h => by omega
theorem L70_y {N : Nat} {y m d : Int} (hy2 : y ≤ 2199) (h1 : 1 ≤ m) (h2 : m ≤ 12) (h3 : 1 ≤ d) (h4 : d ≤ 31) (hN : 12 < N) : ∀ (k n : Nat) (i : Int), k = (y - i).toNat → 1900 ≤ i → i ≤ y → k < n →
    L70_5 N n y m (d - 1 + dby i) i = some (dby y + cum y m + d - 1, 0)
  | 0, n + 1, i, hk, h0, hi1, _ => by
    have hi : i = y := by omega
    subst hi
    have hb := dby_bd2 (y := i) (by omega) (by omega)
    rw [L70_5_eq, aIf_if, if_neg (by simp)]
    have := L70_m (N := N) (y := i) (m := m) (x := d - 1 + dby i) h2 (by omega) (by omega) (m - 1).toNat N 1 (by omega) (by omega) (by omega) (by omega)
    rw [cum_1, Int.add_zero] at this
    rw [this]
    simp; omega
  | k + 1, n + 1, i, hk, h0, hi1, hn => by
    have hi : i < y := by omega
    have hd := diy_bd i
    have hs := dby_succ i
    have hb := dby_bd2 (y := i) (by omega) (by omega)
    rw [L70_5_eq, aIf_if, if_pos (by simpa using hi), F82_d, onSome_ok, w64 (x := i + 1) (by omega) (by omega), w64 (by omega) (by omega)]
    have := L70_y (N := N) (d := d) hy2 h1 h2 h3 h4 hN k n (i + 1) (by omega) (by omega) (by omega) (by omega)
    rw [← this]
    congr 1
    rw [hs]; omega
  | k, 0, _, _, _, _, h => by omega
theorem F70_d {N : Nat} (hN : 300 < N) (y m d : Int) : F70 N (y, m, d) = some (fromR y m d) := by
  rw [F70_eq, fromR_def]
  simp only [aIf_if, F81_d, onSome_ok, decide_eq_true_eq]
  by_cases h1 : y < 1900
  · rw [if_pos h1, if_pos h1]
  by_cases h2 : 2199 < y
  · rw [if_neg h1, if_neg h1, if_pos h2, if_pos h2]
  by_cases h3 : d < 1
  · rw [if_neg h1, if_neg h1, if_neg h2, if_neg h2, if_pos h3, if_pos h3]
  by_cases h4 : dim y m < d
  · rw [if_neg h1, if_neg h1, if_neg h2, if_neg h2, if_neg h3, if_neg h3, if_pos h4, if_pos h4]
  rw [if_neg h1, if_neg h1, if_neg h2, if_neg h2, if_neg h3, if_neg h3, if_neg h4, if_neg h4]
  have hm : 1 ≤ m ∧ m ≤ 12 := by
    by_cases h : m < 1 ∨ 12 < m
    · have := dim_out (y := y) h; omega
    · omega
  have hd := dim_nn y m
  rw [w64 (x := d - 1) (by omega) (by omega)]
  have := L70_y (N := N) (y := y) (m := m) (d := d) (by omega) hm.1 hm.2 (by omega) (by omega) (by omega) (y - 1900).toNat N 1900 (by omega) (by omega) (by omega) (by omega)
  rw [dby_1900, Int.add_zero] at this
  exact this

/-! ## ToYMD -/
theorem toM_bd {n : Int} (hv : vdB n = true) : dby (toY n) ≤ n ∧ n < dby (toY n + 1) ∧ cum (toY n) (toM n) ≤ n - dby (toY n) ∧ n - dby (toY n) < cum (toY n) (toM n + 1) := by
  obtain ⟨h1, h2⟩ := to_spec hv
  have h3 := num_bd h1
  obtain ⟨_, _, _, _, h4, h5⟩ := ymd_true h1
  have h6 := cum_succ (y := toY n) (m := toM n) (by have := ymd_true h1; omega) (by have := ymd_true h1; omega)
  unfold num at h2 h3
  rw [h2] at h3
  omega
end Go.Proofs.Ytmnedpfilckilaa
