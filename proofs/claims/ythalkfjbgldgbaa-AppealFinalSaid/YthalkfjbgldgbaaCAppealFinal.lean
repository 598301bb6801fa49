/- The law guerdonlaw41.AppealFinal: it returns true for every input, and its arguments read afterwards as before. Conditions: none but those of the given row. -/
import Derived.Test.YthalkfjbgldgbaaAppF
import Derived.Test.YthalkfjbgldgbaaSeat
set_option linter.unusedSimpArgs false
set_option linter.unusedVariables false
namespace Go.Proofs.Ythalkfjbgldgbaa
open Go.ChangeShapes Go.WideShapes Go.ChangeAt Go.RowKit

set_option maxRecDepth 100000 in
theorem appealFinal_lifted (os : Os) (started : os.Started) (H : Type) (enc : TypeId × Value → H) :
    ReturnsInHanded {} Try.checked os 10 .any (Rows.appealFinalSpec.pre6 enc Try.prog Try.f10 Rows.appealFinalRow.domain false) (Rows.appealFinalSpec.post enc Try.prog Try.f10 false true false false) := by
  refine law_lift (C := Try.checked) (tb := 4) Try.own started (by kernel_rfl) Try.func10 Try.laidOut (by kernel_rfl) (by kernel_rfl) Try.underlying4 rfl (fun ds h => ?_)
    (ChangeSpec.witness6 (enc := enc) (C := Try.checked) false ⟨#[], #[.agg #[.int .i64 0, .int .i64 0, .int .i64 0, .int .i64 0, .int .i64 0, .int .i64 0, .int .i64 0], .agg #[.int .i64 0, .int .i64 0, .int .i64 0], .int .i64 0, .int .i64 0], []⟩ 8 (by kernel_rfl) (by kernel_rfl) (by kernel_rfl) (by kernel_rfl)) ?_
  · rw [Try.params10] at h
    match ds, h with | [d0, d1, d2, d3], _ => rfl
  intro W base args hlen hok
  rw [Try.params10] at hlen hok
  obtain ⟨args⟩ := args
  obtain ⟨a0', a1', a2', a3', rfl⟩ := four_args hlen
  obtain ⟨x0, r0, k0⟩ := (hok 0 _ _ rfl rfl).opened 8 (by kernel_rfl)
  obtain ⟨x1, r1, k1⟩ := (hok 1 _ _ rfl rfl).opened 8 (by kernel_rfl)
  obtain ⟨x2, r2, k2⟩ := (hok 2 _ _ rfl rfl).opened 8 (by kernel_rfl)
  obtain ⟨x3, r3, k3⟩ := (hok 3 _ _ rfl rfl).opened 8 (by kernel_rfl)
  exact c_AppealFinal r0 k0 r1 k1 r2 k2 r3 k3

theorem appealFinal_holds : Rows.AppealFinalSaid :=
  OpenClaim.holds_of_wide 10 Try.f10 rfl rfl rfl rfl rfl rfl rfl ⟨rfl, rfl, rfl, rfl, rfl⟩ rfl rfl rfl rfl rfl (by kernel_rfl) Try.func10 (by kernel_rfl)
    (of_decide_eq_true (by kernel_rfl)) (by unfold Func.isWrapper; first | (rw [if_pos (by decide +kernel)]; kernel_rfl) | (rw [if_neg (by decide +kernel)]; exact ⟨rfl, rfl⟩))
    (fun os started H enc _ => appealFinal_lifted os started H enc)

#print axioms appealFinal_holds
end Go.Proofs.Ythalkfjbgldgbaa
