/- The law of integers, run. -/
import Derived.Test.YtmnedpfilckilaaDoorNumK
import Derived.Test.YtmnedpfilckilaaDoorNumD
import Derived.Test.YtmnedpfilckilaaDoorRow
set_option linter.unusedSimpArgs false
set_option linter.unusedVariables false
namespace Go.Proofs.YtmnedpfilckilaaDoor
open Go.RowKit
theorem c_NumtextInts (n : Int) (s : ByteArray) (W : World) (w : (Lit.int .i64 n).wf = true) (ht : Gd W) : Calls Tryd.prog 3 #[.int .i64 n, .string s] W (Ret (.bool true) W) := by
  obtain ⟨h0, h1⟩ := i64_of_wf w
  have := call_flat (S3 3000) (args := [.int .i64 n, .str s.data.toList]) (W := W) (by
    show onSome (F3 3000 _) (fun y => some (PV.bool y)) = _
    rw [F3_true n h0 h1]
    rfl) ht (fun x hx => by
      simp at hx
      rcases hx with rfl | rfl
      · exact .int _ _
      · exact .str _)
  rw [str_self]
  exact this
end Go.Proofs.YtmnedpfilckilaaDoor
