/- The law of lines, run. -/
import Derived.Test.YtmnedpfilckilaaDoorNumK
import Derived.Test.YtmnedpfilckilaaDoorNumB
set_option linter.unusedSimpArgs false
set_option linter.unusedVariables false
namespace Go.Proofs.YtmnedpfilckilaaDoor
open Go.RowKit
theorem c_NumtextLines (s : ByteArray) (W : World) (ht : Gd W) : Calls Tryd.prog 6 #[.string s] W (Ret (.bool true) W) := by
  have := call_flat (S6 80000) (args := [.str s.data.toList]) (W := W) (by
    show onSome (F6 80000 _) (fun y => some (PV.bool y)) = _
    rw [F6_true]
    rfl) ht (fun x hx => by simp at hx; subst hx; exact .str _)
  rw [str_self]
  exact this
end Go.Proofs.YtmnedpfilckilaaDoor
