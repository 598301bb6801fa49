/- The lexer's law on identifiers, run. -/
import Derived.Test.YtmnedpfilckilaaLexA
import Derived.Test.YtmnedpfilckilaaOpc
set_option linter.unusedSimpArgs false
set_option linter.unusedVariables false
namespace Go.Proofs.Ytmnedpfilckilaa
open Go.RowKit
set_option maxRecDepth 100000
attribute [local irreducible] Calls

theorem open_str {x : List PV} (h : okL (tys Try.prog 8 9) x) : ∃ k, mkEl Try.prog 9 x = .str k := by
  rw [show tys Try.prog 8 9 = [.str] by kernel_rfl] at h
  obtain ⟨_, _, rfl, h0, h⟩ := okL_cons h
  obtain rfl := okL_nil h
  obtain ⟨k, rfl, _⟩ := ok_str h0
  exact ⟨k, by kernel_rfl⟩
section
variable {W : World} {x0 : List PV} {v0 : Value}
theorem c_LexerIdentifier (ht : Gd W) (r0 : VRel (fun b => b < W.heap.size) W (mkEl Try.prog 9 x0) v0) (k0 : okL (tys Try.prog 8 9) x0) :
    Calls Try.prog 4 #[v0] W (Ret (.bool true) W) := by
  obtain ⟨s, h0⟩ := open_str k0
  rw [h0] at r0
  have hr : (C4 4000).run [.str s] some = onSome (F4 4000 s) (fun y => some (PV.bool y)) := by kernel_rfl
  rw [F4_true] at hr
  exact call_open1 (S4 4000) hr ht r0
end
end Go.Proofs.Ytmnedpfilckilaa
