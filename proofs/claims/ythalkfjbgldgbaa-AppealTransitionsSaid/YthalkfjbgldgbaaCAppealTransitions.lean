/- The law guerdonlaw41.AppealTransitions: it returns true for every input, and its arguments read afterwards as before. Conditions: none but those of the given row. -/
import Derived.Test.YthalkfjbgldgbaaLawB
import Derived.Test.YthalkfjbgldgbaaSeat
set_option linter.unusedSimpArgs false
set_option linter.unusedVariables false
namespace Go.Proofs.Ythalkfjbgldgbaa
open Go.ChangeShapes Go.WideShapes Go.ChangeAt Go.RowKit

set_option maxRecDepth 100000 in
theorem appealTransitions_lifted (os : Os) (started : os.Started) (H : Type) (enc : TypeId × Value → H) :
    ReturnsInHanded {} Try.checked os 9 .any (Rows.appealTransitionsSpec.pre6 enc Try.prog Try.f9 Rows.appealTransitionsRow.domain false) (Rows.appealTransitionsSpec.post enc Try.prog Try.f9 false true false false) := by
  refine law_lift (C := Try.checked) (tb := 4) Try.own started (by kernel_rfl) Try.func9 Try.laidOut (by kernel_rfl) (by kernel_rfl) Try.underlying4 rfl (fun ds h => ?_)
    (ChangeSpec.witness6 (enc := enc) (C := Try.checked) false ⟨#[], #[.agg #[.int .i64 0, .int .i64 0, .int .i64 0, .int .i64 0, .int .i64 0, .int .i64 0, .int .i64 0], .int .i64 0, .int .i64 0, .int .i64 0], []⟩ 8 (by kernel_rfl) (by kernel_rfl) (by kernel_rfl) (by kernel_rfl)) ?_
  · rw [Try.params9] at h
    match ds, h with | [d0, d1, d2, d3], _ => rfl
  intro W base args hlen hok
  rw [Try.params9] at hlen hok
  obtain ⟨args⟩ := args
  obtain ⟨a0', a1', a2', a3', rfl⟩ := four_args hlen
  obtain ⟨⟨c0⟩, rfl, r0⟩ := (hok 0 _ _ rfl rfl).agg (.inl ⟨_, Try.underlying43⟩)
  obtain ⟨f0a, f0b, f0c, f0d, f0e, f0f, f0g, e0⟩ := Try.open_appeal r0
  simp only at e0; subst e0
  obtain ⟨n1, rfl, w1⟩ := (hok 1 _ _ rfl rfl).int (k := .i64) (by kernel_rfl)
  obtain ⟨n2, rfl, w2⟩ := (hok 2 _ _ rfl rfl).int (k := .i64) (by kernel_rfl)
  obtain ⟨n3, rfl, w3⟩ := (hok 3 _ _ rfl rfl).int (k := .i64) (by kernel_rfl)
  exact c_law41_AppealTransitions ⟨f0a, f0b, f0c, f0d, f0e, f0f, f0g⟩ n1 n2 n3 W 

theorem appealTransitions_holds : Rows.AppealTransitionsSaid :=
  OpenClaim.holds_of_wide 9 Try.f9 rfl rfl rfl rfl rfl rfl rfl ⟨rfl, rfl, rfl, rfl, rfl⟩ rfl rfl rfl rfl rfl (by kernel_rfl) Try.func9 (by kernel_rfl)
    (of_decide_eq_true (by kernel_rfl)) (by unfold Func.isWrapper; first | (rw [if_pos (by decide +kernel)]; kernel_rfl) | (rw [if_neg (by decide +kernel)]; exact ⟨rfl, rfl⟩))
    (fun os started H enc _ => appealTransitions_lifted os started H enc)

#print axioms appealTransitions_holds
end Go.Proofs.Ythalkfjbgldgbaa
