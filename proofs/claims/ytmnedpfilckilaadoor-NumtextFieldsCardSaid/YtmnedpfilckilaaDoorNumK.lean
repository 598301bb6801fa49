/- The laws of words and lines, run. -/
import Derived.Test.YtmnedpfilckilaaDoorNumA
set_option linter.unusedSimpArgs false
set_option linter.unusedVariables false
namespace Go.Proofs.YtmnedpfilckilaaDoor
open Go.RowKit

theorem VRel.str' {S : Nat → Prop} {w : World} (s : ByteArray) : VRel S w (.str s.data.toList) (.string s) := by
  have := VRel.str (S := S) (w := w) s.data.toList
  simpa using this
theorem c_NumtextFields (s : ByteArray) (W : World) (ht : Gd W) : Calls Tryd.prog 5 #[.string s] W (Ret (.bool true) W) := by
  refine law_calls (S := fun _ => False) (args := [.str s.data.toList]) (vs := [.string s]) (S5 6000) ?_ (fun _ h => h.elim) ht rfl ?_
  · show onSome (F5 6000 _) (fun y => some (PV.bool y)) = _
    rw [F5_true]
    rfl
  · intro i c v hc hv
    match i with
    | 0 => simp at hc hv; subst hc hv; exact .str' s
    | i + 1 => simp at hc
end Go.Proofs.YtmnedpfilckilaaDoor
