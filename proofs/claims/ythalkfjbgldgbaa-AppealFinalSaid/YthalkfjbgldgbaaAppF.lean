/- The law of the appeals' ends, run. -/
import Derived.Test.YthalkfjbgldgbaaAppA
import Derived.Test.YthalkfjbgldgbaaOpc
set_option linter.unusedSimpArgs false
set_option linter.unusedVariables false
namespace Go.Proofs.Ythalkfjbgldgbaa
open Go.RowKit
set_option maxRecDepth 100000
attribute [local irreducible] Calls

theorem open_int {x : List PV} (h : okL (tys Try.prog 8 3) x) : ∃ k, mkEl Try.prog 3 x = .int .i64 k ∧ (Lit.int .i64 k).wf = true := by
  rw [show tys Try.prog 8 3 = [.int .i64] by kernel_rfl] at h
  obtain ⟨_, _, rfl, h0, h⟩ := okL_cons h
  obtain rfl := okL_nil h
  obtain ⟨k, rfl, hw⟩ := ok_int h0
  exact ⟨k, by kernel_rfl, hw⟩
def apPV (A : Apl) : PV := .agg [.int .i64 A.1, .int .i64 A.2.1, .int .i64 A.2.2.1, .int .i64 A.2.2.2.1, .int .i64 A.2.2.2.2.1, .int .i64 A.2.2.2.2.2.1, .int .i64 A.2.2.2.2.2.2]
def trPV (T : Int × Int × Int) : PV := .agg [.int .i64 T.1, .int .i64 T.2.1, .int .i64 T.2.2]
theorem open_app {x : List PV} (h : okL (tys Try.prog 8 43) x) : ∃ A, mkEl Try.prog 43 x = apPV A := by
  rw [show tys Try.prog 8 43 = [.int .i64, .int .i64, .int .i64, .int .i64, .int .i64, .int .i64, .int .i64] by kernel_rfl] at h
  obtain ⟨_, _, rfl, h0, h⟩ := okL_cons h
  obtain ⟨_, _, rfl, h1, h⟩ := okL_cons h
  obtain ⟨_, _, rfl, h2, h⟩ := okL_cons h
  obtain ⟨_, _, rfl, h3, h⟩ := okL_cons h
  obtain ⟨_, _, rfl, h4, h⟩ := okL_cons h
  obtain ⟨_, _, rfl, h5, h⟩ := okL_cons h
  obtain ⟨_, _, rfl, h6, h⟩ := okL_cons h
  obtain rfl := okL_nil h
  obtain ⟨a, rfl, _⟩ := ok_int h0
  obtain ⟨b, rfl, _⟩ := ok_int h1
  obtain ⟨c, rfl, _⟩ := ok_int h2
  obtain ⟨d, rfl, _⟩ := ok_int h3
  obtain ⟨e, rfl, _⟩ := ok_int h4
  obtain ⟨f, rfl, _⟩ := ok_int h5
  obtain ⟨g, rfl, _⟩ := ok_int h6
  exact ⟨(a, b, c, d, e, f, g), by kernel_rfl⟩
theorem open_tri {x : List PV} (h : okL (tys Try.prog 8 50) x) : ∃ T, mkEl Try.prog 50 x = trPV T := by
  rw [show tys Try.prog 8 50 = [.int .i64, .int .i64, .int .i64] by kernel_rfl] at h
  obtain ⟨_, _, rfl, h0, h⟩ := okL_cons h
  obtain ⟨_, _, rfl, h1, h⟩ := okL_cons h
  obtain ⟨_, _, rfl, h2, h⟩ := okL_cons h
  obtain rfl := okL_nil h
  obtain ⟨a, rfl, _⟩ := ok_int h0
  obtain ⟨b, rfl, _⟩ := ok_int h1
  obtain ⟨c, rfl, _⟩ := ok_int h2
  exact ⟨(a, b, c), by kernel_rfl⟩
theorem run_AppealFinal (A : Apl) (T : Int × Int × Int) (c d : Int) : (C10 400).run [apPV A, trPV T, .int .i64 c, .int .i64 d] some = some (.bool true) := by
  have hr : (C10 400).run [apPV A, trPV T, .int .i64 c, .int .i64 d] some = onSome (F10 400 (A, T, c, d)) (fun y => some (PV.bool y)) := by kernel_rfl
  rw [hr, F10_true, onSome_ok]
theorem c_AppealFinal {W : World} {x0 x1 x2 x3 : List PV} {v0 v1 v2 v3 : Value} (r0 : VRel (fun b => b < W.heap.size) W (mkEl Try.prog 43 x0) v0) (k0 : okL (tys Try.prog 8 43) x0) (r1 : VRel (fun b => b < W.heap.size) W (mkEl Try.prog 50 x1) v1) (k1 : okL (tys Try.prog 8 50) x1)
    (r2 : VRel (fun b => b < W.heap.size) W (mkEl Try.prog 3 x2) v2) (k2 : okL (tys Try.prog 8 3) x2) (r3 : VRel (fun b => b < W.heap.size) W (mkEl Try.prog 3 x3) v3) (k3 : okL (tys Try.prog 8 3) x3) :
    Calls Try.prog 10 #[v0, v1, v2, v3] W (Ret (.bool true) W) := by
  obtain ⟨A, h0⟩ := open_app k0
  obtain ⟨T, h1⟩ := open_tri k1
  obtain ⟨c, h2, _⟩ := open_int k2
  obtain ⟨d, h3, _⟩ := open_int k3
  rw [h0] at r0
  rw [h1] at r1
  rw [h2] at r2
  rw [h3] at r3
  exact call_open4 (S10 400) (run_AppealFinal A T c d) trivial r0 r1 r2 r3
end Go.Proofs.Ythalkfjbgldgbaa
