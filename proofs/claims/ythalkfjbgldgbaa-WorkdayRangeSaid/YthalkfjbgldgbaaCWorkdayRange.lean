/- The law guerdonlaw06.WorkdayRange: it returns true for every input, and its arguments read afterwards as before. Conditions: none but those of the given row. -/
import Derived.Test.YthalkfjbgldgbaaLawA
import Derived.Test.YthalkfjbgldgbaaSeat
set_option linter.unusedSimpArgs false
set_option linter.unusedVariables false
namespace Go.Proofs.Ythalkfjbgldgbaa
open Go.ChangeShapes Go.WideShapes Go.ChangeAt Go.RowKit

set_option maxRecDepth 100000 in
theorem workdayRange_lifted (os : Os) (started : os.Started) (H : Type) (enc : TypeId × Value → H) :
    ReturnsInHanded {} Try.checked os 5 .any (Rows.workdayRangeSpec.pre6 enc Try.prog Try.f5 Rows.workdayRangeRow.domain false) (Rows.workdayRangeSpec.post enc Try.prog Try.f5 false true false false) := by
  refine law_lift (C := Try.checked) (tb := 4) Try.own started (by kernel_rfl) Try.func5 Try.laidOut (by kernel_rfl) (by kernel_rfl) Try.underlying4 rfl (fun ds h => ?_)
    (ChangeSpec.witness6 (enc := enc) (C := Try.checked) false ⟨#[], #[.agg #[.int .i64 0, .slice none 0 0], .agg #[.int .i64 0, .int .i64 0]], []⟩ 8 (by kernel_rfl) (by kernel_rfl) (by kernel_rfl) (by kernel_rfl)) ?_
  · rw [Try.params5] at h
    match ds, h with | [d0, d1], _ => rfl
  intro W base args hlen hok
  rw [Try.params5] at hlen hok
  obtain ⟨args⟩ := args
  obtain ⟨a0', a1', rfl⟩ := two_args hlen
  obtain ⟨⟨c0⟩, rfl, r0⟩ := (hok 0 _ _ rfl rfl).agg (.inl ⟨_, Try.underlying24⟩)
  obtain ⟨we0, v0, hs0, e0, i0⟩ := Try.open_cal r0
  simp only at e0; subst e0
  obtain ⟨⟨c1⟩, rfl, r1⟩ := (hok 1 _ _ rfl rfl).agg (.inl ⟨_, Try.underlying34⟩)
  obtain ⟨a1, b1, e1, -, -⟩ := Try.open_rng r1
  simp only at e1; subst e1
  exact c_law06_WorkdayRange we0 v0 hs0 a1 b1 W i0

theorem workdayRange_holds : Rows.WorkdayRangeSaid :=
  OpenClaim.holds_of_wide 5 Try.f5 rfl rfl rfl rfl rfl rfl rfl ⟨rfl, rfl, rfl, rfl, rfl⟩ rfl rfl rfl rfl rfl (by kernel_rfl) Try.func5 (by kernel_rfl)
    (of_decide_eq_true (by kernel_rfl)) (by unfold Func.isWrapper; first | (rw [if_pos (by decide +kernel)]; kernel_rfl) | (rw [if_neg (by decide +kernel)]; exact ⟨rfl, rfl⟩))
    (fun os started H enc _ => workdayRange_lifted os started H enc)

#print axioms workdayRange_holds
end Go.Proofs.Ythalkfjbgldgbaa
