/- The law of round trips, run. -/
import Derived.Test.YtmnedpfilckilaaDoorNumK
import Derived.Test.YtmnedpfilckilaaDoorNumG
import Derived.Test.YtmnedpfilckilaaDoorRow
set_option linter.unusedSimpArgs false
set_option linter.unusedVariables false
namespace Go.Proofs.YtmnedpfilckilaaDoor
open Go.RowKit
theorem c_NumtextRoundTrip (n p : Int) (W : World) (w : (Lit.int .i64 n).wf = true) (w2 : (Lit.int .i64 p).wf = true) (ht : Gd W) : Calls Tryd.prog 7 #[.int .i64 n, .int .i64 p] W (Ret (.bool true) W) := by
  obtain ⟨h0, h1⟩ := i64_of_wf w
  exact call_flat (S7 100) (args := [.int .i64 n, .int .i64 p]) (W := W) (by
    show onSome (F7 100 _) (fun y => some (PV.bool y)) = _
    rw [F7_true n h0 h1]
    rfl) ht (fun x hx => by
      simp at hx
      rcases hx with rfl | rfl
      · exact .int _ _
      · exact .int _ _)
end Go.Proofs.YtmnedpfilckilaaDoor
