/- The law of fixed-point numbers, run. -/
import Derived.Test.YtmnedpfilckilaaDoorNumK
import Derived.Test.YtmnedpfilckilaaDoorNumF
import Derived.Test.YtmnedpfilckilaaDoorRow
set_option linter.unusedSimpArgs false
set_option linter.unusedVariables false
namespace Go.Proofs.YtmnedpfilckilaaDoor
open Go.RowKit
theorem c_NumtextFixed (n p : Int) (s : ByteArray) (W : World) (w : (Lit.int .i64 n).wf = true) (w2 : (Lit.int .i64 p).wf = true) (ht : Gd W) : Calls Tryd.prog 4 #[.int .i64 n, .int .i64 p, .string s] W (Ret (.bool true) W) := by
  obtain ⟨h0, h1⟩ := i64_of_wf w
  have := call_flat (S4 3000) (args := [.int .i64 n, .int .i64 p, .str s.data.toList]) (W := W) (by
    show onSome (F4 3000 _) (fun y => some (PV.bool y)) = _
    rw [F4_true n h0 h1]
    rfl) ht (fun x hx => by
      simp at hx
      rcases hx with rfl | rfl | rfl
      · exact .int _ _
      · exact .int _ _
      · exact .str _)
  rw [str_self]
  exact this
end Go.Proofs.YtmnedpfilckilaaDoor
