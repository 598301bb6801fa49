/- The law guerdonlaw08.LexerTokenize: it returns true for every input, and its arguments read afterwards as before. Conditions: none but those of the given row. -/
import Derived.Test.YtmnedpfilckilaaLexZ
import Derived.Test.YtmnedpfilckilaaRowS
set_option linter.unusedSimpArgs false
set_option linter.unusedVariables false
namespace Go.Proofs.Ytmnedpfilckilaa
open Go.ChangeShapes Go.WideShapes Go.ChangeAt Go.RowKit

set_option maxRecDepth 100000 in
theorem lexerTokenize_lifted (os : Os) (started : os.Started) (H : Type) (enc : TypeId × Value → H) :
    ReturnsInHanded {} Try.checked os 3 .any (Rows.lexerTokenizeSpec.pre6 enc Try.prog Try.f3 Rows.lexerTokenizeRow.domain false) (Rows.lexerTokenizeSpec.post enc Try.prog Try.f3 false true false false) := by
  refine law_lift_shaped (C := Try.checked) (tb := 4) Try.own started (by kernel_rfl) Try.func3 Try.laidOut (by kernel_rfl) (by kernel_rfl) Try.underlying4 rfl (fun ds h => ?_)
    (ChangeSpec.witness6 (enc := enc) (C := Try.checked) false ⟨#[], #[.string ByteArray.empty], []⟩ 8 (by kernel_rfl) (by kernel_rfl) (by kernel_rfl) (by kernel_rfl)) ?_
  · rw [Try.params3] at h
    match ds, h with | [d0], _ => rfl
  intro W base args hsh hlen hok
  rw [Try.params3] at hlen hok
  obtain ⟨args⟩ := args
  obtain ⟨a0', rfl⟩ := one_args hlen
  obtain ⟨x0, r0, k0⟩ := (hok 0 _ _ rfl rfl).opened 8 (by kernel_rfl)
  exact c_LexerTokenize (gd_of_shape hsh) r0 k0

theorem lexerTokenize_holds : Rows.LexerTokenizeSaid :=
  OpenClaim.holds_of_wide 3 Try.f3 rfl rfl rfl rfl rfl rfl rfl ⟨rfl, rfl, rfl, rfl, rfl⟩ rfl rfl rfl rfl rfl (by kernel_rfl) Try.func3 (by kernel_rfl)
    (of_decide_eq_true (by kernel_rfl)) (by unfold Func.isWrapper; first | (rw [if_pos (by decide +kernel)]; kernel_rfl) | (rw [if_neg (by decide +kernel)]; exact ⟨rfl, rfl⟩))
    (fun os started H enc _ => lexerTokenize_lifted os started H enc)

#print axioms lexerTokenize_holds
end Go.Proofs.Ytmnedpfilckilaa
