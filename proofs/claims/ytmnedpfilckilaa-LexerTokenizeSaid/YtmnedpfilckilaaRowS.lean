/- From a law's run to its row, where the run asks that the library's own variable MaxLen holds some number: drawn from the world's shape. -/
import Derived.Test.YtmnedpfilckilaaSeat
import Derived.Test.YtmnedpfilckilaaExq
import Derived.HandedShaped
import Derived.Shelf.Vars
set_option linter.unusedSimpArgs false
set_option linter.unusedVariables false
namespace Go.Proofs.Ytmnedpfilckilaa
open Go.ChangeShapes Go.WideShapes Go.ChangeAt Go.RowKit

theorem law_lift_shaped {H : Type} {enc : TypeId × Value → H} {C : Checked} {os : Os} {f : FuncId} {fn : Func} {s : ChangeSpec} {tb : TypeId}
    (own : ownKnob C.prog.godebug = none) (started : os.Started) (noInit : C.prog.inits.idxOf? f = none) (hfn : C.prog.funcs[f]? = some fn)
    (hl : laidOutB C.prog = true) (hr : (fn.params.toList.all fun t => C.prog.readableRec t && decide (t < C.prog.types.size)) = true)
    (hres : fn.resultTypes = #[tb]) (htb : C.prog.underlying tb = some .bool)
    (hvars : s.vars = []) (hs : ∀ ds : List (DataW H), ds.length = fn.params.toList.length → s.fn H ds = { results := [.lit (.bool true)], args := ds })
    (witness : ∃ (w : World) (tape : Tape) (i : Input), w.os = os ∧ (w.forCall tape i).Shaped C.prog ∧ i.vars = [] ∧ Input.okWide C.prog (w.forCall tape i) .any w.heap.size f i ∧
      s.pre6 enc C.prog fn [] false (w.forCall tape i).memory i.args ∧ Assume.holds {} C.prog (lone (Frame.enter C.prog f i.args .normal) [] (w.forCall tape i)))
    (core : ∀ (W : World) (base : Nat) (args : Array Value), W.ShapedOpen C.prog → fn.params.toList.length = args.toList.length →
      (∀ (j : Nat) t v, fn.params.toList[j]? = some t → args.toList[j]? = some v → ArgOk enc C.prog W base t v) → Calls C.prog f args W (Ret (.bool true) W)) :
    ReturnsInHanded {} C os f .any (s.pre6 enc C.prog fn [] false) (s.post enc C.prog fn false true false false) := by
  refine returnsInHanded_of_change_shaped own started noInit hfn witness ?_
  intro W base args ds gs before hval hW _ _ hsh _
  have hW' := hW
  obtain ⟨p, q, hA, hV, rfl, hfz, hnd⟩ := hW
  rw [hvars] at hV
  obtain ⟨rfl, rfl⟩ := trodVars_none hV
  obtain ⟨e1, e2, hrd⟩ := argsOk _ _ _ _ hA
  refine (core W base args hsh e1 (fun j t v ht hv => ⟨hval j t v (by simpa using ht) (by simpa using hv), hrd j t v ht hv⟩)).mono fun e W' ⟨he, hb⟩ => ⟨_, he, ?_⟩
  have hlt : ∀ x ∈ p, x.block < W.heap.size := fun x hx => by simpa using hW'.lt x (by simp [hx])
  refine ⟨ds, [], p ++ [], [], p, [], hW', ?_, ?_, ?_, hb.frame _, fun h => by simp at h⟩
  · rw [List.append_nil, hs ds e2, hres]
    exact trodAll_mk1 (shut_bool htb true)
  · rw [List.append_nil, hs ds e2]
    exact stays hl hb _ _ _ _ hr hA hlt
  · rw [hvars, List.append_nil, hs ds e2]
    rfl
theorem one_args {α : Type} {l : List α} (h : 1 = l.length) : ∃ a, l = [a] := by
  match l, h with | [a], _ => exact ⟨a, rfl⟩
theorem gd_of_shape {W : World} (h : W.ShapedOpen Try.prog) : Gd W :=
  cell_of_shapedOpen_int (P := Try.prog) (g := 0) (t := 3) (zero := #[.int .i64 0]) (k := .i64) h (of_decide_eq_true (by kernel_rfl)) (by kernel_rfl) (by kernel_rfl) (by kernel_rfl) (by kernel_rfl) (by kernel_rfl)
end Go.Proofs.Ytmnedpfilckilaa
