/- The law guerdonlaw41.AppealFresh: it returns true for every input, and its arguments read afterwards as before. Conditions: none but those of the given row. -/
import Derived.Test.YthalkfjbgldgbaaLawB
import Derived.Test.YthalkfjbgldgbaaSeat
set_option linter.unusedSimpArgs false
set_option linter.unusedVariables false
namespace Go.Proofs.Ythalkfjbgldgbaa
open Go.ChangeShapes Go.WideShapes Go.ChangeAt Go.RowKit

set_option maxRecDepth 100000 in
theorem appealFresh_lifted (os : Os) (started : os.Started) (H : Type) (enc : TypeId × Value → H) :
    ReturnsInHanded {} Try.checked os 11 .any (Rows.appealFreshSpec.pre6 enc Try.prog Try.f11 Rows.appealFreshRow.domain false) (Rows.appealFreshSpec.post enc Try.prog Try.f11 false true false false) := by
  refine law_lift (C := Try.checked) (tb := 4) Try.own started (by kernel_rfl) Try.func11 Try.laidOut (by kernel_rfl) (by kernel_rfl) Try.underlying4 rfl (fun ds h => ?_)
    (ChangeSpec.witness6 (enc := enc) (C := Try.checked) false ⟨#[], #[.agg #[.int .i64 0, .int .i64 0, .int .i64 0, .int .i64 0, .int .i64 0], .agg #[.int .i64 0, .int .i64 0, .int .i64 0, .int .i64 0, .int .i64 0, .int .i64 0, .int .i64 0, .int .i64 0, .slice none 0 0]], []⟩ 8 (by kernel_rfl) (by kernel_rfl) (by kernel_rfl) (by kernel_rfl)) ?_
  · rw [Try.params11] at h
    match ds, h with | [d0, d1], _ => rfl
  intro W base args hlen hok
  rw [Try.params11] at hlen hok
  obtain ⟨args⟩ := args
  obtain ⟨a0', a1', rfl⟩ := two_args hlen
  obtain ⟨⟨c0⟩, rfl, r0⟩ := (hok 0 _ _ rfl rfl).agg (.inl ⟨_, Try.underlying39⟩)
  obtain ⟨f0a, f0b, f0c, f0d, f0e, e0⟩ := Try.open_filing r0
  simp only at e0; subst e0
  obtain ⟨⟨c1⟩, rfl, r1⟩ := (hok 1 _ _ rfl rfl).agg (.inl ⟨_, Try.underlying41⟩)
  obtain ⟨p1a, p1b, p1c, p1d, p1e, p1f, p1g, p1h, v1, hs1, e1, i1⟩ := Try.open_conf r1
  simp only at e1; subst e1
  exact c_law41_AppealFresh f0a f0b f0c f0d f0e p1a p1b p1c p1d p1e p1f p1g p1h v1 hs1 W i1

theorem appealFresh_holds : Rows.AppealFreshSaid :=
  OpenClaim.holds_of_wide 11 Try.f11 rfl rfl rfl rfl rfl rfl rfl ⟨rfl, rfl, rfl, rfl, rfl⟩ rfl rfl rfl rfl rfl (by kernel_rfl) Try.func11 (by kernel_rfl)
    (of_decide_eq_true (by kernel_rfl)) (by unfold Func.isWrapper; first | (rw [if_pos (by decide +kernel)]; kernel_rfl) | (rw [if_neg (by decide +kernel)]; exact ⟨rfl, rfl⟩))
    (fun os started H enc _ => appealFresh_lifted os started H enc)

#print axioms appealFresh_holds
end Go.Proofs.Ythalkfjbgldgbaa
