/- The lexer's law on tokens, run. -/
import Derived.Test.YtmnedpfilckilaaLexY
import Derived.Test.YtmnedpfilckilaaLexC
import Derived.Test.YtmnedpfilckilaaOpc
set_option linter.unusedSimpArgs false
set_option linter.unusedVariables false
namespace Go.Proofs.Ytmnedpfilckilaa
open Go.RowKit
set_option maxRecDepth 100000
attribute [local irreducible] Calls

section
variable {W : World} {x0 : List PV} {v0 : Value}
theorem c_LexerTokenize (ht : Gd W) (r0 : VRel (fun b => b < W.heap.size) W (mkEl Try.prog 9 x0) v0) (k0 : okL (tys Try.prog 8 9) x0) :
    Calls Try.prog 3 #[v0] W (Ret (.bool true) W) := by
  obtain ⟨s, h0⟩ := open_str k0
  rw [h0] at r0
  have hr : (C3 4000).run [.str s] some = onSome (F3 4000 s) (fun y => some (PV.bool y)) := by kernel_rfl
  rw [F3_true] at hr
  exact call_open1 (S3 4000) hr ht r0
end
end Go.Proofs.Ytmnedpfilckilaa
