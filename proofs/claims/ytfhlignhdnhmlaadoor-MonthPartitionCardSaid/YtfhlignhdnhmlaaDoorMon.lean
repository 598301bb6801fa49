/- The month's functions, plainly; the partition of the dates. -/
import Derived.Test.YtfhlignhdnhmlaaDoorNotB
import Derived.Test.YtfhlignhdnhmlaaDoorMonths
set_option linter.unusedSimpArgs false
set_option linter.unusedVariables false
namespace Go.Proofs.YtfhlignhdnhmlaaDoor
open Go.RowKit

theorem mvB'_eq (m : Int) : mvB' m = mvB m := by simp [mvB', mvB]
theorem F17_v (N : Nat) (m : Int) : F17 N m = some (dysR m) := by
  rw [F17_eq, F47_v, onSome_ok, aIf_if, mvB'_eq, dysR]
  cases h : mvB m with
  | false => rfl
  | true =>
    obtain ⟨h0, h1⟩ := mvB_true h
    rw [if_neg (by simp), if_pos rfl, Int.tdiv_eq_ediv_of_nonneg h0, Int.tmod_eq_emod_of_nonneg h0, w64 (x := m / 12) (by omega) (by omega), w64 (x := 1900 + m / 12) (by omega) (by omega), w64 (x := m % 12 + 1) (by omega) (by omega), F34_d, onSome_ok]
    rfl
theorem F13_v {N : Nat} (hN : 300 < N) (m : Int) : F13 N m = some (((rgR m).1, (rgR m).2.1), (rgR m).2.2) := by
  rw [F13_eq, F47_v, onSome_ok, aIf_if, mvB'_eq, rgR]
  cases h : mvB m with
  | false => rfl
  | true =>
    obtain ⟨h0, h1⟩ := mvB_true h
    have hb := m_ymd h
    have hd := m_bd h
    rw [if_neg (by simp), if_pos rfl, Int.tdiv_eq_ediv_of_nonneg h0, Int.tmod_eq_emod_of_nonneg h0, w64 (x := m / 12) (by omega) (by omega), w64 (x := 1900 + m / 12) (by omega) (by omega), w64 (x := m % 12 + 1) (by omega) (by omega), F28_d hN, onSome_ok, F17_v, onSome_ok, fromR, if_pos hb.1, dysR, if_pos h]
    have e : num (1900 + m / 12) (m % 12 + 1) 1 = mFrom m := rfl
    rw [e, w64 (by omega) (by omega)]
    rfl
theorem F15_v {N : Nat} (hN : 300 < N) (d : Int) : F15 N d = some (fdR d) := by
  rw [F15_eq]
  simp only [aIf_if, decide_eq_true_eq]
  unfold fdR
  by_cases h0 : d < 0
  · rw [if_pos h0, if_neg (by simp [vdB]; omega)]
  by_cases h1 : 109572 < d
  · rw [if_neg h0, if_pos h1, if_neg (by simp [vdB]; omega)]
  have hv : vdB d = true := by simp [vdB]; omega
  obtain ⟨t1, t2⟩ := to_spec hv
  obtain ⟨g1, g2, g3, g4, g5, g6⟩ := ymd_true t1
  rw [if_neg h0, if_neg h1, if_pos hv, F30_d hN, onSome_ok, toR, if_pos hv]
  dsimp only
  rw [w64 (x := toY d - 1900) (by omega) (by omega), w64 (x := 12 * (toY d - 1900)) (by omega) (by omega), w64 (x := 12 * (toY d - 1900) + toM d) (by omega) (by omega), w64 (by omega) (by omega)]
theorem F72_v (N : Nat) (a b : Int) : F72 N (a, b) = some (decide (0 ≤ a ∧ a ≤ b ∧ b ≤ 109573)) := by
  rw [F72_eq]
  simp only [aIf_if, decide_eq_true_eq]
  by_cases h0 : 0 ≤ a <;> by_cases h1 : a ≤ b <;> simp [h0, h1]
theorem F65_v (N : Nat) (a b : Int) : F65 N (a, b) = some (decide (0 ≤ a ∧ a < b ∧ b ≤ 109573)) := by
  rw [F65_eq, F72_v, onSome_ok, aIf_if]
  by_cases h : 0 ≤ a ∧ a ≤ b ∧ b ≤ 109573
  · rw [if_pos (by simpa using h)]
    by_cases h2 : a < b
    · simp [h2]; omega
    · simp [h2]
  · rw [if_neg (by simpa using h), decide_eq_false (by omega)]
/-- A day of the month overlaps it once. -/
theorem F19_one {N : Nat} (hN : 300 < N) {m d : Int} (hm : mvB m = true) (h1 : mFrom m ≤ d) (h2 : d < mFrom m + mLen m) : F19 N (m, d, d + 1) = some 1 := by
  have hd := m_bd hm
  rw [F19_eq, F13_v hN, onSome_ok]
  unfold rgR
  rw [if_pos hm]
  simp only [aGd_if, aIf_if]
  rw [if_pos (by simp), if_neg (by simp), F49_eq]
  simp only [F65_v, onSome_ok, aGd_if, aIf_if]
  rw [if_pos (by simp), if_neg (by simp; omega), if_neg (by simp; omega), if_neg (by simp; omega), if_pos (by simp), onSome_ok, if_pos (by simp), if_neg (by simp)]
  dsimp only
  rw [w64 (by omega) (by omega)]
  congr 1
  omega
theorem tail07 (m : Int) : (onSome (F13 400 m) fun y1 => aGd (decide ((0 : Nat) + (2 : Nat) ≤ (2 : Nat))) (aIf (decide (m < (0 : Int))) (aIf (Prod.snd y1 == (3 : Int)) (onSome (F26 400 m) fun y2 => aIf (y2 == []) (onSome (F17 400 m) fun y3 => aIf (y3 == (0 : Int)) (some true) (some false)) (some false)) (some false)) (aIf (decide ((3599 : Int) < m)) (aIf (Prod.snd y1 == (3 : Int)) (onSome (F26 400 m) fun y4 => aIf (y4 == []) (onSome (F17 400 m) fun y5 => aIf (y5 == (0 : Int)) (some true) (some false)) (some false)) (some false)) (onSome (F26 400 m) fun y6 => onSome (F24 400 y6) fun y7 => aIf (Prod.snd y1 != (0 : Int)) (some false) (aIf (Prod.fst y7 != m) (some false) (aIf (Prod.snd y7 != (0 : Int)) (some false) (onSome (F15 400 (Prod.fst (Prod.fst y1))) fun y8 => aIf (y8 != m) (some false) (onSome (F15 400 (IntKind.wrap IntKind.i64 (Prod.snd (Prod.fst y1) - (1 : Int)))) fun y9 => aIf (y9 != m) (some false) (onSome (F13 400 (IntKind.wrap IntKind.i64 (m + (1 : Int)))) fun y10 => aGd (decide ((0 : Nat) + (2 : Nat) ≤ (2 : Nat))) (aIf (m == (3599 : Int)) (aIf (Prod.snd (Prod.fst y1) == (109573 : Int)) (aIf (Prod.snd y10 == (3 : Int)) (some true) (some false)) (some false)) (aIf (Prod.snd y10 == (0 : Int)) (aIf (Prod.fst (Prod.fst y10) == Prod.snd (Prod.fst y1)) (aIf (decide ((0 : Int) < m)) (some true) (aIf (Prod.fst (Prod.fst y1) == (0 : Int)) (some true) (some false))) (some false)) (some false)))))))))))) = some true := by
  rw [F13_v (by decide), onSome_ok]
  simp only [aGd_if, aIf_if, decide_eq_true_eq, F26_v, F17_v, onSome_ok, F24_v (show 20 < 400 by decide)]
  rw [if_pos (by simp)]
  cases hm : mvB m with
  | false =>
    have hr : rgR m = (0, 0, 3) := by simp [rgR, hm]
    have hf : fmtM m = [] := by simp [fmtM, mvB'_eq, hm]
    have hy : dysR m = 0 := by simp [dysR, hm]
    rw [hr, hf, hy]
    rcases mvB_false hm with h | h
    · rw [if_pos h]; simp
    · rw [if_neg (by omega), if_pos h]; simp
  | true =>
    obtain ⟨h0, h1⟩ := mvB_true hm
    have hd := m_bd hm
    have hl := (m_ymd hm).2
    have hr : rgR m = (mFrom m, mFrom m + mLen m, 0) := by simp [rgR, hm]
    have f1 : fdR (mFrom m) = m := (fd_iff (by simp [vdB]; omega) hm).2 ⟨by omega, by omega⟩
    have f2 : fdR (mFrom m + mLen m - 1) = m := (fd_iff (by simp [vdB]; omega) hm).2 ⟨by omega, by omega⟩
    rw [if_neg (by omega), if_neg (by omega), hr, fmtM_parse h0 h1, F15_v (by decide), onSome_ok, f1, w64 (x := mFrom m + mLen m - 1) (by omega) (by omega), F15_v (by decide), onSome_ok, f2, w64 (x := m + 1) (by omega) (by omega), F13_v (by decide), onSome_ok]
    dsimp only
    rw [if_neg (by simp), if_neg (by simp), if_neg (by simp), if_neg (by simp), if_neg (by simp), if_pos (by simp)]
    by_cases h9 : m = 3599
    · subst h9
      have := m_last
      have hr2 : rgR (3599 + 1) = (0, 0, 3) := by decide
      rw [hr2, m_last]
      simp
    · have hm2 : mvB (m + 1) = true := by simp [mvB]; omega
      have hr2 : rgR (m + 1) = (mFrom (m + 1), mFrom (m + 1) + mLen (m + 1), 0) := by simp [rgR, hm2]
      rw [if_neg (by simpa using h9), hr2, m_next hm (by omega)]
      by_cases hz : 0 < m
      · simp [hz]
      · have : m = 0 := by omega
        subst this
        simp [m_first]
theorem F6_true (d m : Int) : F6 400 (d, m) = some true := by
  rw [F6_eq, F15_v (by decide), onSome_ok, tail07]
  simp only [aIf_if, decide_eq_true_eq]
  by_cases h0 : d < 0
  · rw [if_pos h0, if_neg (by simp [fdR, vdB]; omega)]
  by_cases h1 : 109572 < d
  · rw [if_neg h0, if_pos h1, if_neg (by simp [fdR, vdB]; omega)]
  have hv : vdB d = true := by simp [vdB]; omega
  have hm := fd_mv hv
  have hi := (fd_iff hv hm).1 rfl
  have hd := m_bd hm
  have hr : rgR (fdR d) = (mFrom (fdR d), mFrom (fdR d) + mLen (fdR d), 0) := by simp [rgR, hm]
  have hy : dysR (fdR d) = mLen (fdR d) := by simp [dysR, hm]
  rw [if_neg h0, if_neg h1, F13_v (by decide), onSome_ok, hr, F17_v, onSome_ok, hy, w64 (x := d + 1) (by omega) (by omega), F19_one (by decide) hm hi.1 hi.2, onSome_ok]
  simp only [aGd_if]
  rw [if_pos (by simp), if_neg (by simp), if_neg (by omega), if_neg (by omega), w64 (by omega) (by omega), if_neg (by simp; omega), if_neg (by simp)]
end Go.Proofs.YtfhlignhdnhmlaaDoor
