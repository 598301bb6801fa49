/- The laws of package value, run. -/
import Derived.Test.YtaapljpfhgahbaaDoorValD
import Derived.Test.YtaapljpfhgahbaaDoorOpc
set_option linter.unusedSimpArgs false
set_option linter.unusedVariables false
namespace Go.Proofs.YtaapljpfhgahbaaDoor
open Go.RowKit
set_option maxRecDepth 100000
attribute [local irreducible] Calls

theorem open_val {x : List PV} (h : okL (tys Tryd.prog 8 23) x) : ∃ k e n, mkEl Tryd.prog 23 x = .agg [.int .i64 k, .int .i64 e, .int .i64 n] := by
  rw [show tys Tryd.prog 8 23 = [.int .i64, .int .i64, .int .i64] by kernel_rfl] at h
  obtain ⟨_, _, rfl, h0, h⟩ := okL_cons h
  obtain ⟨_, _, rfl, h1, h⟩ := okL_cons h
  obtain ⟨_, _, rfl, h2, h⟩ := okL_cons h
  obtain rfl := okL_nil h
  obtain ⟨k, rfl, _⟩ := ok_int h0
  obtain ⟨e, rfl, _⟩ := ok_int h1
  obtain ⟨n, rfl, _⟩ := ok_int h2
  exact ⟨k, e, n, by kernel_rfl⟩
theorem open_typ {x : List PV} (h : okL (tys Tryd.prog 8 32) x) : ∃ k e, mkEl Tryd.prog 32 x = .agg [.int .i64 k, .int .i64 e] := by
  rw [show tys Tryd.prog 8 32 = [.int .i64, .int .i64] by kernel_rfl] at h
  obtain ⟨_, _, rfl, h0, h⟩ := okL_cons h
  obtain ⟨_, _, rfl, h1, h⟩ := okL_cons h
  obtain rfl := okL_nil h
  obtain ⟨k, rfl, _⟩ := ok_int h0
  obtain ⟨e, rfl, _⟩ := ok_int h1
  exact ⟨k, e, by kernel_rfl⟩
theorem open_pair {x : List PV} (h : okL (tys Tryd.prog 8 40) x) : ∃ k e, mkEl Tryd.prog 40 x = .agg [.int .i64 k, .int .i64 e] := by
  rw [show tys Tryd.prog 8 40 = [.int .i64, .int .i64] by kernel_rfl] at h
  obtain ⟨_, _, rfl, h0, h⟩ := okL_cons h
  obtain ⟨_, _, rfl, h1, h⟩ := okL_cons h
  obtain rfl := okL_nil h
  obtain ⟨k, rfl, _⟩ := ok_int h0
  obtain ⟨e, rfl, _⟩ := ok_int h1
  exact ⟨k, e, by kernel_rfl⟩
theorem open_int {x : List PV} (h : okL (tys Tryd.prog 8 3) x) : ∃ k, mkEl Tryd.prog 3 x = .int .i64 k ∧ (Lit.int .i64 k).wf = true := by
  rw [show tys Tryd.prog 8 3 = [.int .i64] by kernel_rfl] at h
  obtain ⟨_, _, rfl, h0, h⟩ := okL_cons h
  obtain rfl := okL_nil h
  obtain ⟨k, rfl, hw⟩ := ok_int h0
  exact ⟨k, by kernel_rfl, hw⟩
theorem open_str {x : List PV} (h : okL (tys Tryd.prog 8 9) x) : ∃ k, mkEl Tryd.prog 9 x = .str k := by
  rw [show tys Tryd.prog 8 9 = [.str] by kernel_rfl] at h
  obtain ⟨_, _, rfl, h0, h⟩ := okL_cons h
  obtain rfl := okL_nil h
  obtain ⟨k, rfl, _⟩ := ok_str h0
  exact ⟨k, by kernel_rfl⟩
theorem ok_ens {x : PV} (h : TY.ok (.sl 2 true [.str, .sl 1 false [.str]]) x) : ∃ E, x = .sl 2 (ensPV E) := by
  obtain ⟨ys, rfl, _, hy⟩ := ok_sl h
  obtain ⟨E, rfl⟩ := list_form (f := enPV) (ys := ys) (fun y hym => by
    obtain ⟨l, rfl, hl⟩ := hy y hym
    obtain ⟨_, _, rfl, h0, hl⟩ := okL_cons hl
    obtain ⟨_, _, rfl, h1, hl⟩ := okL_cons hl
    obtain rfl := okL_nil hl
    obtain ⟨s, rfl, _⟩ := ok_str h0
    obtain ⟨ls, rfl⟩ := ok_strs h1
    exact ⟨(s, ls), rfl⟩)
  exact ⟨E, rfl⟩
theorem open_ens {x : List PV} (h : okL (tys Tryd.prog 8 24) x) : ∃ E, mkEl Tryd.prog 24 x = .sl 2 (ensPV E) := by
  rw [show tys Tryd.prog 8 24 = [.sl 2 true [.str, .sl 1 false [.str]]] by kernel_rfl] at h
  obtain ⟨_, _, rfl, h0, h⟩ := okL_cons h
  obtain rfl := okL_nil h
  obtain ⟨E, rfl⟩ := ok_ens h0
  exact ⟨E, by kernel_rfl⟩

section
variable {W : World} {x0 x1 x2 : List PV} {v0 v1 v2 : Value}
theorem c_ValueFormat (ht : Gd W) (r0 : VRel (fun b => b < W.heap.size) W (mkEl Tryd.prog 23 x0) v0) (k0 : okL (tys Tryd.prog 8 23) x0) (r1 : VRel (fun b => b < W.heap.size) W (mkEl Tryd.prog 24 x1) v1) (k1 : okL (tys Tryd.prog 8 24) x1) :
    Calls Tryd.prog 3 #[v0, v1] W (Ret (.bool true) W) := by
  obtain ⟨k, e, n, h0⟩ := open_val k0
  obtain ⟨E, h1⟩ := open_ens k1
  rw [h0] at r0
  rw [h1] at r1
  have hr : (C3 400).run [.agg [.int .i64 k, .int .i64 e, .int .i64 n], .sl 2 (ensPV E)] some = onSome (F3 400 ((k, e, n), ensPV E)) (fun y => some (PV.bool y)) := by kernel_rfl
  rw [F3_true] at hr
  exact call_open2 (S3 400) hr ht r0 r1
theorem c_ValueRoundTrip (ht : Gd W) (r0 : VRel (fun b => b < W.heap.size) W (mkEl Tryd.prog 23 x0) v0) (k0 : okL (tys Tryd.prog 8 23) x0) (r1 : VRel (fun b => b < W.heap.size) W (mkEl Tryd.prog 24 x1) v1) (k1 : okL (tys Tryd.prog 8 24) x1) :
    Calls Tryd.prog 5 #[v0, v1] W (Ret (.bool true) W) := by
  obtain ⟨k, e, n, h0⟩ := open_val k0
  obtain ⟨E, h1⟩ := open_ens k1
  rw [h0] at r0
  rw [h1] at r1
  have hr : (C5 400).run [.agg [.int .i64 k, .int .i64 e, .int .i64 n], .sl 2 (ensPV E)] some = onSome (F5 400 ((k, e, n), ensPV E)) (fun y => some (PV.bool y)) := by kernel_rfl
  rw [F5_true] at hr
  exact call_open2 (S5 400) hr ht r0 r1
theorem c_ValueParse (ht : Gd W) (r0 : VRel (fun b => b < W.heap.size) W (mkEl Tryd.prog 9 x0) v0) (k0 : okL (tys Tryd.prog 8 9) x0) (r1 : VRel (fun b => b < W.heap.size) W (mkEl Tryd.prog 32 x1) v1) (k1 : okL (tys Tryd.prog 8 32) x1) (r2 : VRel (fun b => b < W.heap.size) W (mkEl Tryd.prog 24 x2) v2) (k2 : okL (tys Tryd.prog 8 24) x2) :
    Calls Tryd.prog 4 #[v0, v1, v2] W (Ret (.bool true) W) := by
  obtain ⟨s, h0⟩ := open_str k0
  obtain ⟨k, e, h1⟩ := open_typ k1
  obtain ⟨E, h2⟩ := open_ens k2
  rw [h0] at r0
  rw [h1] at r1
  rw [h2] at r2
  have hr : (C4 400).run [.str s, .agg [.int .i64 k, .int .i64 e], .sl 2 (ensPV E)] some = onSome (F4 400 (s, (k, e), ensPV E)) (fun y => some (PV.bool y)) := by kernel_rfl
  rw [F4_true] at hr
  exact call_open3 (S4 400) hr ht r0 r1 r2
theorem c_ValueCanonical (ht : Gd W) (r0 : VRel (fun b => b < W.heap.size) W (mkEl Tryd.prog 9 x0) v0) (k0 : okL (tys Tryd.prog 8 9) x0) (r1 : VRel (fun b => b < W.heap.size) W (mkEl Tryd.prog 32 x1) v1) (k1 : okL (tys Tryd.prog 8 32) x1) (r2 : VRel (fun b => b < W.heap.size) W (mkEl Tryd.prog 24 x2) v2) (k2 : okL (tys Tryd.prog 8 24) x2) :
    Calls Tryd.prog 6 #[v0, v1, v2] W (Ret (.bool true) W) := by
  obtain ⟨s, h0⟩ := open_str k0
  obtain ⟨k, e, h1⟩ := open_typ k1
  obtain ⟨E, h2⟩ := open_ens k2
  rw [h0] at r0
  rw [h1] at r1
  rw [h2] at r2
  have hr : (C6 400).run [.str s, .agg [.int .i64 k, .int .i64 e], .sl 2 (ensPV E)] some = onSome (F6 400 (s, (k, e), ensPV E)) (fun y => some (PV.bool y)) := by kernel_rfl
  rw [F6_true] at hr
  exact call_open3 (S6 400) hr ht r0 r1 r2
theorem c_ValueTypes (ht : Gd W) (r0 : VRel (fun b => b < W.heap.size) W (mkEl Tryd.prog 32 x0) v0) (k0 : okL (tys Tryd.prog 8 32) x0) (r1 : VRel (fun b => b < W.heap.size) W (mkEl Tryd.prog 3 x1) v1) (k1 : okL (tys Tryd.prog 8 3) x1) (r2 : VRel (fun b => b < W.heap.size) W (mkEl Tryd.prog 24 x2) v2) (k2 : okL (tys Tryd.prog 8 24) x2) :
    Calls Tryd.prog 8 #[v0, v1, v2] W (Ret (.bool true) W) := by
  obtain ⟨k, e, h0⟩ := open_typ k0
  obtain ⟨n, h1, _⟩ := open_int k1
  obtain ⟨E, h2⟩ := open_ens k2
  rw [h0] at r0
  rw [h1] at r1
  rw [h2] at r2
  have hr : (C8 400).run [.agg [.int .i64 k, .int .i64 e], .int .i64 n, .sl 2 (ensPV E)] some = onSome (F8 400 ((k, e), n, ensPV E)) (fun y => some (PV.bool y)) := by kernel_rfl
  rw [F8_true] at hr
  exact call_open3 (S8 400) hr ht r0 r1 r2
theorem c_ValueDistinct (ht : Gd W) (r0 : VRel (fun b => b < W.heap.size) W (mkEl Tryd.prog 32 x0) v0) (k0 : okL (tys Tryd.prog 8 32) x0) (r1 : VRel (fun b => b < W.heap.size) W (mkEl Tryd.prog 40 x1) v1) (k1 : okL (tys Tryd.prog 8 40) x1) (r2 : VRel (fun b => b < W.heap.size) W (mkEl Tryd.prog 24 x2) v2) (k2 : okL (tys Tryd.prog 8 24) x2) :
    Calls Tryd.prog 7 #[v0, v1, v2] W (Ret (.bool true) W) := by
  obtain ⟨k, e, h0⟩ := open_typ k0
  obtain ⟨n, m, h1⟩ := open_pair k1
  obtain ⟨E, h2⟩ := open_ens k2
  rw [h0] at r0
  rw [h1] at r1
  rw [h2] at r2
  have hr : (C7 400).run [.agg [.int .i64 k, .int .i64 e], .agg [.int .i64 n, .int .i64 m], .sl 2 (ensPV E)] some = onSome (F7 400 ((k, e), (n, m), ensPV E)) (fun y => some (PV.bool y)) := by kernel_rfl
  rw [F7_true] at hr
  exact call_open3 (S7 400) hr ht r0 r1 r2
end
end Go.Proofs.YtaapljpfhgahbaaDoor
