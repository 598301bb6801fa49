/- The law guerdonlaw06.WorkdayAdd: it returns true for every input, and its arguments read afterwards as before. Conditions: none but those of the given row. -/
import Derived.Test.YthalkfjbgldgbaaLawA
import Derived.Test.YthalkfjbgldgbaaSeat
set_option linter.unusedSimpArgs false
set_option linter.unusedVariables false
namespace Go.Proofs.Ythalkfjbgldgbaa
open Go.ChangeShapes Go.WideShapes Go.ChangeAt Go.RowKit

set_option maxRecDepth 100000 in
theorem workdayAdd_lifted (os : Os) (started : os.Started) (H : Type) (enc : TypeId × Value → H) :
    ReturnsInHanded {} Try.checked os 4 .any (Rows.workdayAddSpec.pre6 enc Try.prog Try.f4 Rows.workdayAddRow.domain false) (Rows.workdayAddSpec.post enc Try.prog Try.f4 false true false false) := by
  refine law_lift (C := Try.checked) (tb := 4) Try.own started (by kernel_rfl) Try.func4 Try.laidOut (by kernel_rfl) (by kernel_rfl) Try.underlying4 rfl (fun ds h => ?_)
    (ChangeSpec.witness6 (enc := enc) (C := Try.checked) false ⟨#[], #[.agg #[.int .i64 0, .slice none 0 0], .int .i64 0, .int .i64 0], []⟩ 8 (by kernel_rfl) (by kernel_rfl) (by kernel_rfl) (by kernel_rfl)) ?_
  · rw [Try.params4] at h
    match ds, h with | [d0, d1, d2], _ => rfl
  intro W base args hlen hok
  rw [Try.params4] at hlen hok
  obtain ⟨args⟩ := args
  obtain ⟨a0', a1', a2', rfl⟩ := three_args hlen
  obtain ⟨⟨c0⟩, rfl, r0⟩ := (hok 0 _ _ rfl rfl).agg (.inl ⟨_, Try.underlying24⟩)
  obtain ⟨we0, v0, hs0, e0, i0⟩ := Try.open_cal r0
  simp only at e0; subst e0
  obtain ⟨n1, rfl, w1⟩ := (hok 1 _ _ rfl rfl).int (k := .i64) (by kernel_rfl)
  obtain ⟨n2, rfl, w2⟩ := (hok 2 _ _ rfl rfl).int (k := .i64) (by kernel_rfl)
  exact c_law06_WorkdayAdd we0 v0 hs0 n1 n2 W i0

theorem workdayAdd_holds : Rows.WorkdayAddSaid :=
  OpenClaim.holds_of_wide 4 Try.f4 rfl rfl rfl rfl rfl rfl rfl ⟨rfl, rfl, rfl, rfl, rfl⟩ rfl rfl rfl rfl rfl (by kernel_rfl) Try.func4 (by kernel_rfl)
    (of_decide_eq_true (by kernel_rfl)) (by unfold Func.isWrapper; first | (rw [if_pos (by decide +kernel)]; kernel_rfl) | (rw [if_neg (by decide +kernel)]; exact ⟨rfl, rfl⟩))
    (fun os started H enc _ => workdayAdd_lifted os started H enc)

#print axioms workdayAdd_holds
end Go.Proofs.Ythalkfjbgldgbaa
