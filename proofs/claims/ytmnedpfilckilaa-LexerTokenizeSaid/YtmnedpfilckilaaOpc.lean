/- From the reading of a law to its run, whatever its arguments' types. -/
import Derived.Test.YtmnedpfilckilaaOpn
import Derived.Test.YtmnedpfilckilaaExq
set_option linter.unusedSimpArgs false
set_option linter.unusedVariables false
namespace Go.Proofs.Ytmnedpfilckilaa
open Go.RowKit

/-- What an argument of type t is at a world: a pure value of this form. -/
def Opened (W : World) (t : TypeId) (x : PV) (v : Value) : Prop := VRel (fun b => b < W.heap.size) W x v
theorem call_open {f : FuncId} {c : Callee} (h : Cok f c) {args : List PV} (hr : c.run args some = some (.bool true)) {W : World} (hG : Gd W) {vs : List Value} (hl : args.length = vs.length)
    (hv : ∀ (i : Nat) c v, args[i]? = some c → vs[i]? = some v → VRel (fun b => b < W.heap.size) W c v) : Calls Try.prog f vs.toArray W (Ret (.bool true) W) :=
  law_calls (S := fun b => b < W.heap.size) h hr (fun _ h => h) hG hl hv
theorem call_open1 {f : FuncId} {c : Callee} (h : Cok f c) {x0 : PV} {v0 : Value} {W : World} (hr : c.run [x0] some = some (.bool true)) (hG : Gd W) (r0 : VRel (fun b => b < W.heap.size) W x0 v0) : Calls Try.prog f #[v0] W (Ret (.bool true) W) :=
  call_open h hr hG (vs := [v0]) rfl (fun i c v hc hv => by
    match i, hc, hv with
    | 0, hc, hv => cases hc; cases hv; exact r0)
theorem call_open2 {f : FuncId} {c : Callee} (h : Cok f c) {x0 x1 : PV} {v0 v1 : Value} {W : World} (hr : c.run [x0, x1] some = some (.bool true)) (hG : Gd W) (r0 : VRel (fun b => b < W.heap.size) W x0 v0) (r1 : VRel (fun b => b < W.heap.size) W x1 v1) : Calls Try.prog f #[v0, v1] W (Ret (.bool true) W) :=
  call_open h hr hG (vs := [v0, v1]) rfl (fun i c v hc hv => by
    match i, hc, hv with
    | 0, hc, hv => cases hc; cases hv; exact r0
    | 1, hc, hv => cases hc; cases hv; exact r1)
theorem call_open3 {f : FuncId} {c : Callee} (h : Cok f c) {x0 x1 x2 : PV} {v0 v1 v2 : Value} {W : World} (hr : c.run [x0, x1, x2] some = some (.bool true)) (hG : Gd W) (r0 : VRel (fun b => b < W.heap.size) W x0 v0) (r1 : VRel (fun b => b < W.heap.size) W x1 v1) (r2 : VRel (fun b => b < W.heap.size) W x2 v2) : Calls Try.prog f #[v0, v1, v2] W (Ret (.bool true) W) :=
  call_open h hr hG (vs := [v0, v1, v2]) rfl (fun i c v hc hv => by
    match i, hc, hv with
    | 0, hc, hv => cases hc; cases hv; exact r0
    | 1, hc, hv => cases hc; cases hv; exact r1
    | 2, hc, hv => cases hc; cases hv; exact r2)
theorem call_open4 {f : FuncId} {c : Callee} (h : Cok f c) {x0 x1 x2 x3 : PV} {v0 v1 v2 v3 : Value} {W : World} (hr : c.run [x0, x1, x2, x3] some = some (.bool true)) (hG : Gd W) (r0 : VRel (fun b => b < W.heap.size) W x0 v0) (r1 : VRel (fun b => b < W.heap.size) W x1 v1) (r2 : VRel (fun b => b < W.heap.size) W x2 v2) (r3 : VRel (fun b => b < W.heap.size) W x3 v3) : Calls Try.prog f #[v0, v1, v2, v3] W (Ret (.bool true) W) :=
  call_open h hr hG (vs := [v0, v1, v2, v3]) rfl (fun i c v hc hv => by
    match i, hc, hv with
    | 0, hc, hv => cases hc; cases hv; exact r0
    | 1, hc, hv => cases hc; cases hv; exact r1
    | 2, hc, hv => cases hc; cases hv; exact r2
    | 3, hc, hv => cases hc; cases hv; exact r3)
/-! ## Forms -/
theorem okL_nil {l : List PV} (h : okL [] l) : l = [] := h
theorem okL_cons {t : TY} {ts : List TY} {l : List PV} (h : okL (t :: ts) l) : ∃ x l', l = x :: l' ∧ TY.ok t x ∧ okL ts l' := h
theorem ok_int {k : IntKind} {x : PV} (h : TY.ok (.int k) x) : ∃ n, x = .int k n ∧ (Lit.int k n).wf = true := h
theorem ok_bool {x : PV} (h : TY.ok .bool x) : ∃ b, x = .bool b := h
theorem ok_str {x : PV} (h : TY.ok .str x) : ∃ l, x = .str l ∧ l.length ≤ maxLen := h
theorem ok_sl {st : Nat} {agg : Bool} {es : List TY} {x : PV} (h : TY.ok (.sl st agg es) x) : ∃ ys, x = .sl st ys ∧ ys.length ≤ maxLen ∧ ∀ y ∈ ys, ∃ l, y = (bif agg then .agg l else l.headD .nilsl) ∧ okL es l := h
theorem ok_strs {x : PV} (h : TY.ok (.sl 1 false [.str]) x) : ∃ ls : List (List UInt8), x = .sl 1 (ls.map .str) := by
  obtain ⟨ys, rfl, _, hy⟩ := ok_sl h
  obtain ⟨E, rfl⟩ := list_form (f := PV.str) (ys := ys) (fun y hym => by
    obtain ⟨l, rfl, hl⟩ := hy y hym
    obtain ⟨x, l', rfl, hx, hl'⟩ := okL_cons hl
    obtain ⟨s, rfl, _⟩ := ok_str hx
    exact ⟨s, rfl⟩)
  exact ⟨E, rfl⟩
end Go.Proofs.Ytmnedpfilckilaa
