/- From the reading of a law of numbers and strings to its run. -/
import Derived.Test.YtmnedpfilckilaaDoorExl
set_option linter.unusedSimpArgs false
set_option linter.unusedVariables false
namespace Go.Proofs.YtmnedpfilckilaaDoor
open Go.RowKit

def toV : PV → Value
  | .int k n => .int k n
  | .bool b => .bool b
  | .str l => .string ⟨l.toArray⟩
  | _ => .bool false
theorem call_flat {f : FuncId} {c : Callee} (h : Cok f c) {args : List PV} (hr : c.run args some = some (.bool true)) {W : World} (ht : Gd W) (hf : ∀ x ∈ args, VRel (fun _ => False) W x (toV x)) :
    Calls Tryd.prog f (args.map toV).toArray W (Ret (.bool true) W) := by
  refine law_calls (S := fun _ => False) (args := args) (vs := args.map toV) h hr (fun _ h => h.elim) ht (by simp) ?_
  intro i c v hc hv
  rw [List.getElem?_map, hc] at hv
  cases hv
  exact hf c (List.mem_of_getElem? hc)
theorem str_self (s : ByteArray) : Value.string s = toV (.str s.data.toList) := by simp [toV]
end Go.Proofs.YtmnedpfilckilaaDoor
