/- The law of canonical texts, run. -/
import Derived.Test.YtmnedpfilckilaaDoorNumK
import Derived.Test.YtmnedpfilckilaaDoorNumH
import Derived.Test.YtmnedpfilckilaaDoorRow
set_option linter.unusedSimpArgs false
set_option linter.unusedVariables false
namespace Go.Proofs.YtmnedpfilckilaaDoor
open Go.RowKit
theorem c_NumtextCanonical (s : ByteArray) (p : Int) (W : World) (w : (Lit.int .i64 p).wf = true) (ht : Gd W) : Calls Tryd.prog 8 #[.string s, .int .i64 p] W (Ret (.bool true) W) := by
  have := call_flat (S8 80000) (args := [.str s.data.toList, .int .i64 p]) (W := W) (by
    show onSome (F8 80000 _) (fun y => some (PV.bool y)) = _
    rw [F8_true]
    rfl) ht (fun x hx => by
      simp at hx
      rcases hx with rfl | rfl
      · exact .str _
      · exact .int _ _)
  rw [str_self]
  exact this
end Go.Proofs.YtmnedpfilckilaaDoor
