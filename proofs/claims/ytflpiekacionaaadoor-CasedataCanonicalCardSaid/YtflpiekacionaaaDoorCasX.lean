/- The law CasedataCanonical, run. -/
import Derived.Test.YtflpiekacionaaaDoorCasI
import Derived.Test.YtflpiekacionaaaDoorCasO
set_option linter.unusedSimpArgs false
set_option linter.unusedVariables false
namespace Go.Proofs.YtflpiekacionaaaDoor
open Go.RowKit
set_option maxRecDepth 100000
attribute [local irreducible] Calls

section
variable {W : World} {x0 x1 x2 : List PV} {v0 v1 v2 : Value}
theorem c_CasedataCanonical (ht : Gd W) (r0 : VRel (fun b => b < W.heap.size) W (mkEl Tryd.prog 42 x0) v0) (k0 : okL (tys Tryd.prog 8 42) x0) (r1 : VRel (fun b => b < W.heap.size) W (mkEl Tryd.prog 3 x1) v1) (k1 : okL (tys Tryd.prog 8 3) x1) (r2 : VRel (fun b => b < W.heap.size) W (mkEl Tryd.prog 9 x2) v2) (k2 : okL (tys Tryd.prog 8 9) x2) :
    Calls Tryd.prog 10 #[v0, v1, v2] W (Ret (.bool true) W) := by
  obtain ⟨l0, h0⟩ := open_law k0
  obtain ⟨n1, h1, -⟩ := open_int k1
  obtain ⟨s2, h2⟩ := open_str k2
  rw [h0] at r0
  rw [h1] at r1
  rw [h2] at r2
  have hr : (C10 4000).run [.agg [.sl 2 (ensPV l0.1), .sl 6 (l0.2.1.map tabPV), .sl 5 (l0.2.2.map scPV)], .int .i64 n1, .str s2] some = onSome (F10 4000 ((ensPV l0.1, l0.2.1.map tabPV, l0.2.2.map scPV), n1, s2)) (fun y => some (PV.bool y)) := by kernel_rfl
  rw [F10_true l0 n1 s2] at hr
  exact call_open3 (S10 4000) hr ht r0 r1 r2
end
end Go.Proofs.YtflpiekacionaaaDoor
