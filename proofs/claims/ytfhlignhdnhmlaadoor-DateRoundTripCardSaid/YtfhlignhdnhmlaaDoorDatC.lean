/- Months added, years between, days of the week, plainly. -/
import Derived.Test.YtfhlignhdnhmlaaDoorDatB
set_option linter.unusedSimpArgs false
set_option linter.unusedVariables false
namespace Go.Proofs.YtfhlignhdnhmlaaDoor
open Go.RowKit

theorem F37_d {N : Nat} (hN : 300 < N) (a k : Int) : F37 N (a, k) = some (addMR a k) := by
  rw [F37_eq, F60_d, onSome_ok, addMR]
  simp only [aIf_if, decide_eq_true_eq]
  cases hv : vdB a with
  | false => rfl
  | true =>
    rw [if_neg (show ¬ ((!true) = true) by simp), if_neg (show ¬ (true = false) by simp)]
    by_cases h1 : k < -3600
    · rw [if_pos h1, if_pos h1]
    by_cases h2 : 3600 < k
    · rw [if_neg h1, if_neg h1, if_pos h2, if_pos h2]
    rw [if_neg h1, if_neg h1, if_neg h2, if_neg h2, F30_d hN, onSome_ok, toR, if_pos hv]
    have hb := toY_bd hv
    dsimp only
    have e : IntKind.i64.wrap (IntKind.i64.wrap (IntKind.i64.wrap (IntKind.i64.wrap (12 * toY a) + toM a) - 1) + k) = addK a k := by
      rw [w64 (x := 12 * toY a) (by omega) (by omega), w64 (x := 12 * toY a + toM a) (by omega) (by omega), w64 (x := 12 * toY a + toM a - 1) (by omega) (by omega), w64 (by omega) (by omega)]; rfl
    have hk : 0 ≤ addK a k ∧ addK a k ≤ 40000 := by unfold addK; omega
    rw [e, Int.tdiv_eq_ediv_of_nonneg hk.1, Int.tmod_eq_emod_of_nonneg hk.1, w64 (x := addK a k / 12) (by omega) (by omega), w64 (x := addK a k % 12 + 1) (by omega) (by omega), F34_d, onSome_ok, F28_d hN, onSome_ok]
theorem F41_d {N : Nat} (hN : 300 < N) (a b : Int) : F41 N (a, b) = some (ybR a b) := by
  rw [F41_eq, F60_d, onSome_ok, ybR]
  simp only [aIf_if, decide_eq_true_eq]
  cases ha : vdB a with
  | false => rfl
  | true =>
    rw [if_neg (show ¬ ((!true) = true) by simp), if_neg (show ¬ (true = false) by simp), F60_d, onSome_ok]
    cases hb : vdB b with
    | false => rfl
    | true =>
      rw [if_neg (show ¬ ((!true) = true) by simp), if_neg (show ¬ (true = false) by simp)]
      by_cases h1 : b < a
      · rw [if_pos h1, if_pos h1]
      have ba := toY_bd ha
      have bb := toY_bd hb
      have hm := toY_mono ha hb (by omega)
      obtain ⟨e, -, -⟩ := addMR_ok ha (n := toY b - toY a) (by omega) (by omega)
      rw [if_neg h1, if_neg h1, F30_d hN, onSome_ok, F30_d hN, onSome_ok, toR, toR, if_pos ha, if_pos hb]
      dsimp only
      rw [w64 (x := toY b - toY a) (by omega) (by omega), w64 (x := 12 * (toY b - toY a)) (by omega) (by omega), F37_d hN, onSome_ok, e]
      dsimp only
      rw [if_neg (by simp), w64 (x := toY b - toY a - 1) (by omega) (by omega)]
      split <;> rfl
theorem F39_d (N : Nat) (a : Int) : F39 N a = some (wdR a) := by
  rw [F39_eq, F60_d, onSome_ok, wdR]
  simp only [aIf_if]
  cases ha : vdB a with
  | false => rfl
  | true =>
    obtain ⟨h0, h1⟩ := vdB_true ha
    rw [if_neg (by simp), if_pos rfl, Int.tmod_eq_emod_of_nonneg h0]
end Go.Proofs.YtfhlignhdnhmlaaDoor
