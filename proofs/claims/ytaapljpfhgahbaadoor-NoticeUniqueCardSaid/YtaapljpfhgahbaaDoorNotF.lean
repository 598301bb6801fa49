/- The laws of package notice, run. -/
import Derived.Test.YtaapljpfhgahbaaDoorNotE
import Derived.Test.YtaapljpfhgahbaaDoorValE
set_option linter.unusedSimpArgs false
set_option linter.unusedVariables false
namespace Go.Proofs.YtaapljpfhgahbaaDoor
open Go.RowKit
set_option maxRecDepth 100000
attribute [local irreducible] Calls

def ntPV (n : Ntc) : PV := .agg [.int .i64 n.1, .int .i64 n.2.1, .int .i64 n.2.2.1, .int .i64 n.2.2.2.1, .int .i64 n.2.2.2.2]
theorem open_not {x : List PV} (h : okL (tys Tryd.prog 8 54) x) : ∃ n, mkEl Tryd.prog 54 x = ntPV n := by
  rw [show tys Tryd.prog 8 54 = [.int .i64, .int .i64, .int .i64, .int .i64, .int .i64] by kernel_rfl] at h
  obtain ⟨_, _, rfl, h0, h⟩ := okL_cons h
  obtain ⟨_, _, rfl, h1, h⟩ := okL_cons h
  obtain ⟨_, _, rfl, h2, h⟩ := okL_cons h
  obtain ⟨_, _, rfl, h3, h⟩ := okL_cons h
  obtain ⟨_, _, rfl, h4, h⟩ := okL_cons h
  obtain rfl := okL_nil h
  obtain ⟨a, rfl, _⟩ := ok_int h0
  obtain ⟨b, rfl, _⟩ := ok_int h1
  obtain ⟨c, rfl, _⟩ := ok_int h2
  obtain ⟨d, rfl, _⟩ := ok_int h3
  obtain ⟨e, rfl, _⟩ := ok_int h4
  exact ⟨(a, b, c, d, e), by kernel_rfl⟩
theorem ok_pos {x : PV} (h : TY.ok (.sl 4 true [.int .i64, .int .i64, .int .i64, .int .i64]) x) : ∃ L : List Po, x = .sl 4 (L.map poPV) := by
  obtain ⟨ys, rfl, _, hy⟩ := ok_sl h
  obtain ⟨E, rfl⟩ := list_form (f := poPV) (ys := ys) (fun y hym => by
    obtain ⟨l, rfl, hl⟩ := hy y hym
    obtain ⟨_, _, rfl, h0, hl⟩ := okL_cons hl
    obtain ⟨_, _, rfl, h1, hl⟩ := okL_cons hl
    obtain ⟨_, _, rfl, h2, hl⟩ := okL_cons hl
    obtain ⟨_, _, rfl, h3, hl⟩ := okL_cons hl
    obtain rfl := okL_nil hl
    obtain ⟨a, rfl, _⟩ := ok_int h0
    obtain ⟨b, rfl, _⟩ := ok_int h1
    obtain ⟨c, rfl, _⟩ := ok_int h2
    obtain ⟨d, rfl, _⟩ := ok_int h3
    exact ⟨(a, b, c, d), rfl⟩)
  exact ⟨E, rfl⟩
theorem open_pos {x : List PV} (h : okL (tys Tryd.prog 8 50) x) : ∃ L : List Po, mkEl Tryd.prog 50 x = .sl 4 (L.map poPV) := by
  rw [show tys Tryd.prog 8 50 = [.sl 4 true [.int .i64, .int .i64, .int .i64, .int .i64]] by kernel_rfl] at h
  obtain ⟨_, _, rfl, h0, h⟩ := okL_cons h
  obtain rfl := okL_nil h
  obtain ⟨E, rfl⟩ := ok_pos h0
  exact ⟨E, by kernel_rfl⟩
theorem run_NoticeId (h m : Int) : (C9 400).run [.int .i64 h, .int .i64 m] some = some (.bool true) := by
  have hr : (C9 400).run [.int .i64 h, .int .i64 m] some = onSome (F9 400 (h, m)) (fun y => some (PV.bool y)) := by kernel_rfl
  rw [hr, F9_true, onSome_ok]
theorem run_NoticeFormat (n : Ntc) : (C11 400).run [ntPV n] some = some (.bool true) := by
  have hr : (C11 400).run [ntPV n] some = onSome (F11 400 n) (fun y => some (PV.bool y)) := by kernel_rfl
  rw [hr, F11_true, onSome_ok]
theorem run_NoticeParse (s : List UInt8) : (C12 400).run [.str s] some = some (.bool true) := by
  have hr : (C12 400).run [.str s] some = onSome (F12 400 s) (fun y => some (PV.bool y)) := by kernel_rfl
  rw [hr, F12_true, onSome_ok]
theorem run_NoticeForPayment (h m due : Int) (L : List Po) : (C10 400).run [.int .i64 h, .int .i64 m, .int .i64 due, .sl 4 (L.map poPV)] some = some (.bool true) := by
  have hr : (C10 400).run [.int .i64 h, .int .i64 m, .int .i64 due, .sl 4 (L.map poPV)] some = onSome (F10 400 (h, m, due, L.map poPV)) (fun y => some (PV.bool y)) := by kernel_rfl
  rw [hr, F10_true, onSome_ok]
theorem run_NoticeUnique (a b : Ntc) (L : List Po) : (C13 400).run [ntPV a, ntPV b, .sl 4 (L.map poPV)] some = some (.bool true) := by
  have hr : (C13 400).run [ntPV a, ntPV b, .sl 4 (L.map poPV)] some = onSome (F13 400 (a, b, L.map poPV)) (fun y => some (PV.bool y)) := by kernel_rfl
  rw [hr, F13_true, onSome_ok]
section
variable {W : World} {x0 x1 x2 x3 : List PV} {v0 v1 v2 v3 : Value}
theorem c_NoticeId (ht : Gd W) (r0 : VRel (fun b => b < W.heap.size) W (mkEl Tryd.prog 3 x0) v0) (k0 : okL (tys Tryd.prog 8 3) x0) (r1 : VRel (fun b => b < W.heap.size) W (mkEl Tryd.prog 3 x1) v1) (k1 : okL (tys Tryd.prog 8 3) x1) :
    Calls Tryd.prog 9 #[v0, v1] W (Ret (.bool true) W) := by
  obtain ⟨n0, h0, _⟩ := open_int k0
  obtain ⟨n1, h1, _⟩ := open_int k1
  rw [h0] at r0
  rw [h1] at r1
  exact call_open2 (S9 400) (run_NoticeId n0 n1) ht r0 r1
theorem c_NoticeFormat (ht : Gd W) (r0 : VRel (fun b => b < W.heap.size) W (mkEl Tryd.prog 54 x0) v0) (k0 : okL (tys Tryd.prog 8 54) x0) :
    Calls Tryd.prog 11 #[v0] W (Ret (.bool true) W) := by
  obtain ⟨n0, h0⟩ := open_not k0
  rw [h0] at r0
  exact call_open1 (S11 400) (run_NoticeFormat n0) ht r0
theorem c_NoticeParse (ht : Gd W) (r0 : VRel (fun b => b < W.heap.size) W (mkEl Tryd.prog 9 x0) v0) (k0 : okL (tys Tryd.prog 8 9) x0) :
    Calls Tryd.prog 12 #[v0] W (Ret (.bool true) W) := by
  obtain ⟨n0, h0⟩ := open_str k0
  rw [h0] at r0
  exact call_open1 (S12 400) (run_NoticeParse n0) ht r0
theorem c_NoticeForPayment (ht : Gd W) (r0 : VRel (fun b => b < W.heap.size) W (mkEl Tryd.prog 3 x0) v0) (k0 : okL (tys Tryd.prog 8 3) x0) (r1 : VRel (fun b => b < W.heap.size) W (mkEl Tryd.prog 3 x1) v1) (k1 : okL (tys Tryd.prog 8 3) x1) (r2 : VRel (fun b => b < W.heap.size) W (mkEl Tryd.prog 3 x2) v2) (k2 : okL (tys Tryd.prog 8 3) x2) (r3 : VRel (fun b => b < W.heap.size) W (mkEl Tryd.prog 50 x3) v3) (k3 : okL (tys Tryd.prog 8 50) x3) :
    Calls Tryd.prog 10 #[v0, v1, v2, v3] W (Ret (.bool true) W) := by
  obtain ⟨n0, h0, _⟩ := open_int k0
  obtain ⟨n1, h1, _⟩ := open_int k1
  obtain ⟨n2, h2, _⟩ := open_int k2
  obtain ⟨n3, h3⟩ := open_pos k3
  rw [h0] at r0
  rw [h1] at r1
  rw [h2] at r2
  rw [h3] at r3
  exact call_open4 (S10 400) (run_NoticeForPayment n0 n1 n2 n3) ht r0 r1 r2 r3
theorem c_NoticeUnique (ht : Gd W) (r0 : VRel (fun b => b < W.heap.size) W (mkEl Tryd.prog 54 x0) v0) (k0 : okL (tys Tryd.prog 8 54) x0) (r1 : VRel (fun b => b < W.heap.size) W (mkEl Tryd.prog 54 x1) v1) (k1 : okL (tys Tryd.prog 8 54) x1) (r2 : VRel (fun b => b < W.heap.size) W (mkEl Tryd.prog 50 x2) v2) (k2 : okL (tys Tryd.prog 8 50) x2) :
    Calls Tryd.prog 13 #[v0, v1, v2] W (Ret (.bool true) W) := by
  obtain ⟨n0, h0⟩ := open_not k0
  obtain ⟨n1, h1⟩ := open_not k1
  obtain ⟨n2, h2⟩ := open_pos k2
  rw [h0] at r0
  rw [h1] at r1
  rw [h2] at r2
  exact call_open3 (S13 400) (run_NoticeUnique n0 n1 n2) ht r0 r1 r2
end
end Go.Proofs.YtaapljpfhgahbaaDoor
