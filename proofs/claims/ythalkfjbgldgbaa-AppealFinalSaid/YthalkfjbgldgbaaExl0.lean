/- What a reading of a function is worth; no tables are asked for. -/
import Derived.Test.YthalkfjbgldgbaaExb
import Derived.Test.YthalkfjbgldgbaaLib
import Derived.Test.YthalkfjbgldgbaaProg
set_option linter.unusedSimpArgs false
set_option linter.unusedVariables false
namespace Go.Proofs.Ythalkfjbgldgbaa
open Go.RowKit

/-- Nothing is asked of the world. -/
def Gd (_ : World) : Prop := True
theorem Gd_keep : ∀ w w', Gd w → Below w.heap.size w w' → Gd w' := fun _ _ _ _ => trivial
theorem Try.mixed : Try.prog.follows .mixedOrders = true := by kernel_rfl
def Cok (f : FuncId) (c : Callee) : Prop := CalleeOk Try.prog Gd f c
theorem cok_cons {f : FuncId} {c : Callee} {l : List (FuncId × Callee)} (h : Cok f c) (hl : ∀ x ∈ l, CalleeOk Try.prog Gd x.1 x.2) : ∀ x ∈ (f, c) :: l, CalleeOk Try.prog Gd x.1 x.2 := fun x hx => by
  cases hx with
  | head => exact h
  | tail _ hx => exact hl x hx
theorem cok_nil : ∀ x ∈ ([] : List (FuncId × Callee)), CalleeOk Try.prog Gd x.1 x.2 := fun _ h => by cases h
theorem cok_of {l : List (FuncId × Callee)} {O : Opts} {f : FuncId} {fn : Func} {α β : Type} {A : Cods α} {R : Cod β} {F : α → Option β} (hl : ∀ x ∈ l, CalleeOk Try.prog Gd x.1 x.2) (hO : O.ok = true) (hf : Try.prog.funcs[f]? = some fn)
    (hF : F = aTyped ⟨Try.prog, l⟩ O fn A R) (hn : (fn.name == "runtime.NumGoroutine") = false) (hb : fn.body.isNone = false) : Cok f (mkCallee A R F) := by
  subst hF
  exact ⟨typed_spec (E := ⟨Try.prog, l⟩) (Env.ok_of Gd_keep hl) Try.mixed hO hf A R, fun _ _ => callee_body hf hn hb _ _⟩
theorem cok_none {f : FuncId} {fn : Func} {α β : Type} {A : Cods α} {R : Cod β} {F : α → Option β} (hF : ∀ a, F a = none) (hf : Try.prog.funcs[f]? = some fn) (hn : (fn.name == "runtime.NumGoroutine") = false) (hb : fn.body.isNone = false) : Cok f (mkCallee A R F) :=
  ⟨callee_spec (fun a y h => by rw [hF] at h; cases h), fun _ _ => callee_body hf hn hb _ _⟩
/-- A function of the library. -/
theorem cok_lib {f : FuncId} {fn : Func} {α β : Type} {A : Cods α} {R : Cod β} {F : α → Option β} (hf : Try.prog.funcs[f]? = some fn) (hn : (fn.name == "runtime.NumGoroutine") = false) (hb : fn.body.isNone = false)
    (h : ∀ a y, F a = some y → ∀ (S : Nat → Prop) (w : World) (vs : List Value), (∀ g, S g → g < w.heap.size) → Gd w → (A.enc a).length = vs.length →
      (∀ (i : Nat) c v, (A.enc a)[i]? = some c → vs[i]? = some v → VRel S w c v) → Calls Try.prog f vs.toArray w (Post w S (R.enc y))) : Cok f (mkCallee A R F) := by
  refine ⟨fun args r hr S w vs hS hG hl hv => ?_, fun _ _ => callee_body hf hn hb _ _⟩
  obtain ⟨a, hr, hal, hle⟩ := A.ok hr
  obtain ⟨y, hy, hr⟩ := onSome_some.1 hr
  cases hr
  refine h a y hy S w vs hS hG (by omega) (fun i c v hc hv' => ?_)
  have hlt : i < args.length := by rw [hal]; exact (List.getElem?_eq_some_iff.1 hc).1
  have hx := List.getElem?_eq_getElem hlt
  exact hle i _ c hx hc S w v (hv i _ v hx hv')
/-- From the reading of a law to its run. -/
theorem law_calls {f : FuncId} {c : Callee} (h : Cok f c) {args : List PV} (hr : c.run args some = some (.bool true)) {vs : List Value} {w : World} {S : Nat → Prop} (hS : ∀ g, S g → g < w.heap.size) (hG : Gd w) (hl : args.length = vs.length)
    (hv : ∀ (i : Nat) c v, args[i]? = some c → vs[i]? = some v → VRel S w c v) : Calls Try.prog f vs.toArray w (Ret (.bool true) w) :=
  (h.1 args _ hr S w vs hS hG hl hv).mono fun e w' hp => by
    obtain ⟨v, S', rfl, hb, -, -, -, hr⟩ := hp
    cases hr
    exact ⟨rfl, hb⟩

end Go.Proofs.Ythalkfjbgldgbaa
