/- The law of the months' partition, run. -/
import Derived.Test.YtfhlignhdnhmlaaDoorMon
import Derived.Test.YtfhlignhdnhmlaaDoorOpc
set_option linter.unusedSimpArgs false
set_option linter.unusedVariables false
namespace Go.Proofs.YtfhlignhdnhmlaaDoor
open Go.RowKit
set_option maxRecDepth 100000
attribute [local irreducible] Calls

theorem open_int {x : List PV} (h : okL (tys Tryd.prog 8 3) x) : ∃ k, mkEl Tryd.prog 3 x = .int .i64 k ∧ (Lit.int .i64 k).wf = true := by
  rw [show tys Tryd.prog 8 3 = [.int .i64] by kernel_rfl] at h
  obtain ⟨_, _, rfl, h0, h⟩ := okL_cons h
  obtain rfl := okL_nil h
  obtain ⟨k, rfl, hw⟩ := ok_int h0
  exact ⟨k, by kernel_rfl, hw⟩
theorem run_MonthPartition (d m : Int) : (C6 400).run [.int .i64 d, .int .i64 m] some = some (.bool true) := by
  have hr : (C6 400).run [.int .i64 d, .int .i64 m] some = onSome (F6 400 (d, m)) (fun y => some (PV.bool y)) := by kernel_rfl
  rw [hr, F6_true, onSome_ok]
theorem c_MonthPartition {W : World} {x0 x1 : List PV} {v0 v1 : Value} (ht : Gd W) (r0 : VRel (fun b => b < W.heap.size) W (mkEl Tryd.prog 3 x0) v0) (k0 : okL (tys Tryd.prog 8 3) x0) (r1 : VRel (fun b => b < W.heap.size) W (mkEl Tryd.prog 3 x1) v1) (k1 : okL (tys Tryd.prog 8 3) x1) :
    Calls Tryd.prog 6 #[v0, v1] W (Ret (.bool true) W) := by
  obtain ⟨n0, h0, _⟩ := open_int k0
  obtain ⟨n1, h1, _⟩ := open_int k1
  rw [h0] at r0
  rw [h1] at r1
  exact call_open2 (S6 400) (run_MonthPartition n0 n1) ht r0 r1
end Go.Proofs.YtfhlignhdnhmlaaDoor
