/- The law CasedataEqual, run. -/
import Derived.Test.YtflpiekacionaaaDoorCasD
import Derived.Test.YtflpiekacionaaaDoorCasO
set_option linter.unusedSimpArgs false
set_option linter.unusedVariables false
namespace Go.Proofs.YtflpiekacionaaaDoor
open Go.RowKit
set_option maxRecDepth 100000
attribute [local irreducible] Calls

section
variable {W : World} {x0 x1 x2 : List PV} {v0 v1 v2 : Value}
theorem c_CasedataEqual (ht : Gd W) (r0 : VRel (fun b => b < W.heap.size) W (mkEl Tryd.prog 46 x0) v0) (k0 : okL (tys Tryd.prog 8 46) x0) (r1 : VRel (fun b => b < W.heap.size) W (mkEl Tryd.prog 46 x1) v1) (k1 : okL (tys Tryd.prog 8 46) x1) :
    Calls Tryd.prog 11 #[v0, v1] W (Ret (.bool true) W) := by
  obtain ⟨c0, h0⟩ := open_cas k0
  obtain ⟨c1, h1⟩ := open_cas k1
  rw [h0] at r0
  rw [h1] at r1
  have hr : (C11 4000).run [.agg [.int .i64 c0.1, .sl 3 (c0.2.1.map valPV), .sl 1 (c0.2.2.map memPV)], .agg [.int .i64 c1.1, .sl 3 (c1.2.1.map valPV), .sl 1 (c1.2.2.map memPV)]] some = onSome (F11 4000 ((c0.1, c0.2.1.map valPV, c0.2.2.map memPV), (c1.1, c1.2.1.map valPV, c1.2.2.map memPV))) (fun y => some (PV.bool y)) := by kernel_rfl
  rw [F11_true c0 c1] at hr
  exact call_open2 (S11 4000) hr ht r0 r1
end
end Go.Proofs.YtflpiekacionaaaDoor
