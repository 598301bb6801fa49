/- What a reading of a function is worth, where the library's own variable MaxLen holds some number; the library's functions on strings that the lexer calls. -/
import Derived.Test.YtmnedpfilckilaaExb
import Derived.Test.YtmnedpfilckilaaLib
import Derived.Test.YtmnedpfilckilaaShelf
import Derived.Test.YtmnedpfilckilaaProg
set_option linter.unusedSimpArgs false
set_option linter.unusedVariables false
namespace Go.Proofs.Ytmnedpfilckilaa
open Go.RowKit

/-- MaxLen holds some number. -/
def Gd (w : World) : Prop := ∃ m, w.cell? ⟨0, 0, none⟩ = some (.int .i64 m)
theorem Gd_keep : ∀ w w', Gd w → Below w.heap.size w w' → Gd w' := fun w w' ⟨m, h⟩ hb => by
  have hlt : 0 < w.heap.size := by
    unfold World.cell? at h
    exact Decidable.byContradiction fun hn => by
      rw [Array.getElem?_eq_none (by omega)] at h
      simp at h
  exact ⟨m, (World.cell?_of_block (hb.block _ hlt)).trans h⟩
theorem Try.mixed : Try.prog.follows .mixedOrders = true := by kernel_rfl
def Cok (f : FuncId) (c : Callee) : Prop := CalleeOk Try.prog Gd f c
theorem cok_cons {f : FuncId} {c : Callee} {l : List (FuncId × Callee)} (h : Cok f c) (hl : ∀ x ∈ l, CalleeOk Try.prog Gd x.1 x.2) : ∀ x ∈ (f, c) :: l, CalleeOk Try.prog Gd x.1 x.2 := fun x hx => by
  cases hx with
  | head => exact h
  | tail _ hx => exact hl x hx
theorem cok_nil : ∀ x ∈ ([] : List (FuncId × Callee)), CalleeOk Try.prog Gd x.1 x.2 := fun _ h => by cases h
theorem cok_of {l : List (FuncId × Callee)} {O : Opts} {f : FuncId} {fn : Func} {α β : Type} {A : Cods α} {R : Cod β} {F : α → Option β} (hl : ∀ x ∈ l, CalleeOk Try.prog Gd x.1 x.2) (hO : O.ok = true) (hf : Try.prog.funcs[f]? = some fn)
    (hF : F = aTyped ⟨Try.prog, l⟩ O fn A R) (hn : (fn.name == "runtime.NumGoroutine") = false) (hb : fn.body.isNone = false) : Cok f (mkCallee A R F) := by
  subst hF
  exact ⟨typed_spec (E := ⟨Try.prog, l⟩) (Env.ok_of Gd_keep hl) Try.mixed hO hf A R, fun _ _ => callee_body hf hn hb _ _⟩
theorem cok_none {f : FuncId} {fn : Func} {α β : Type} {A : Cods α} {R : Cod β} {F : α → Option β} (hF : ∀ a, F a = none) (hf : Try.prog.funcs[f]? = some fn) (hn : (fn.name == "runtime.NumGoroutine") = false) (hb : fn.body.isNone = false) : Cok f (mkCallee A R F) :=
  ⟨callee_spec (fun a y h => by rw [hF] at h; cases h), fun _ _ => callee_body hf hn hb _ _⟩
/-- A function of the library. -/
theorem cok_lib {f : FuncId} {fn : Func} {α β : Type} {A : Cods α} {R : Cod β} {F : α → Option β} (hf : Try.prog.funcs[f]? = some fn) (hn : (fn.name == "runtime.NumGoroutine") = false) (hb : fn.body.isNone = false)
    (h : ∀ a y, F a = some y → ∀ (S : Nat → Prop) (w : World) (vs : List Value), (∀ g, S g → g < w.heap.size) → Gd w → (A.enc a).length = vs.length →
      (∀ (i : Nat) c v, (A.enc a)[i]? = some c → vs[i]? = some v → VRel S w c v) → Calls Try.prog f vs.toArray w (Post w S (R.enc y))) : Cok f (mkCallee A R F) := by
  refine ⟨fun args r hr S w vs hS hG hl hv => ?_, fun _ _ => callee_body hf hn hb _ _⟩
  obtain ⟨a, hr, hal, hle⟩ := A.ok hr
  obtain ⟨y, hy, hr⟩ := onSome_some.1 hr
  cases hr
  refine h a y hy S w vs hS hG (by omega) (fun i c v hc hv' => ?_)
  have hlt : i < args.length := by rw [hal]; exact (List.getElem?_eq_some_iff.1 hc).1
  have hx := List.getElem?_eq_getElem hlt
  exact hle i _ c hx hc S w v (hv i _ v hx hv')
/-- From the reading of a law to its run. -/
theorem law_calls {f : FuncId} {c : Callee} (h : Cok f c) {args : List PV} (hr : c.run args some = some (.bool true)) {vs : List Value} {w : World} {S : Nat → Prop} (hS : ∀ g, S g → g < w.heap.size) (hG : Gd w) (hl : args.length = vs.length)
    (hv : ∀ (i : Nat) c v, args[i]? = some c → vs[i]? = some v → VRel S w c v) : Calls Try.prog f vs.toArray w (Ret (.bool true) w) :=
  (h.1 args _ hr S w vs hS hG hl hv).mono fun e w' hp => by
    obtain ⟨v, S', rfl, hb, -, -, -, hr⟩ := hp
    cases hr
    exact ⟨rfl, hb⟩

def decF : Nat → Nat → List UInt8
  | 0, _ => []
  | k + 1, u => match decide (u < 10) with | true => [UInt8.ofNat (48 + u)] | false => decF k (u / 10) ++ [UInt8.ofNat (48 + u % 10)]
def itoaF (n : Int) : List UInt8 := match decide (n < 0) with | true => 45 :: decF 20 n.natAbs | false => decF 20 n.toNat

/-! ## strings.Contains, strings.IndexAny, strings.IndexByte -/
def A23 : Cods ((List UInt8) × List UInt8) := (codsCons codStr (codsOne codStr))
def R23 : Cod Bool := codBool
def F23 (N : Nat) (a : (List UInt8) × List UInt8) : Option Bool := aGd (decide (a.1.length < 4294967281)) (some (Lib.contains a.1 a.2))
def C23 (N : Nat) : Callee := mkCallee A23 R23 (F23 N)
theorem S23 (N : Nat) : Cok 23 (C23 N) := by
  refine cok_lib Try.func23 (by kernel_rfl) (by kernel_rfl) fun a y hy S w vs hS hG hl hv => ?_
  obtain ⟨s, c⟩ := a
  obtain ⟨m, hG⟩ := hG
  simp only [F23, aGd_some, decide_eq_true_eq, Option.some.injEq] at hy
  obtain ⟨h1, rfl⟩ := hy
  match vs, hl with
  | [u, v], _ =>
    have h4 := hv 0 _ u rfl rfl
    have h5 := hv 1 _ v rfl rfl
    cases h4
    cases h5
    refine (Try.strings_Contains ⟨s.toArray⟩ ⟨c.toArray⟩ m w (show s.toArray.size < 4294967281 by simpa using h1) hG).mono fun e w' hh => ?_
    obtain ⟨rfl, rfl⟩ := hh
    exact ⟨_, S, rfl, Below.refl _ _, fun _ h => h, fun _ h => .inl h, hS, .bool _⟩
def A79 : Cods ((List UInt8) × Int) := (codsCons codStr (codsOne (codInt .u8)))
def R79 : Cod Int := codInt .i64
def F79 (N : Nat) (a : (List UInt8) × Int) : Option Int := some (Lib.indexByte a.1 a.2.toNat.toUInt8)
def C79 (N : Nat) : Callee := mkCallee A79 R79 (F79 N)
theorem S79 (N : Nat) : Cok 79 (C79 N) := by
  refine cok_lib Try.func79 (by kernel_rfl) (by kernel_rfl) fun a y hy S w vs hS hG hl hv => ?_
  obtain ⟨s, c⟩ := a
  cases hy
  match vs, hl with
  | [u, v], _ =>
    have h4 := hv 0 _ u rfl rfl
    have h5 := hv 1 _ v rfl rfl
    cases h4
    cases h5
    refine (Try.strings_IndexByte ⟨s.toArray⟩ c w).mono fun e w' hh => ?_
    obtain ⟨rfl, rfl⟩ := hh
    exact ⟨_, S, rfl, Below.refl _ _, fun _ h => h, fun _ h => .inl h, hS, .int _ _⟩
def F48a (N : Nat) (a : (List UInt8) × List UInt8) : Option Int := aGd (a.2 == [34, 10]) (aGd (decide (8 < a.1.length)) (aGd (decide (a.1.length < 4294967281)) (some (Lib.indexAny a.1 a.2))))
def A48a : Cods ((List UInt8) × List UInt8) := (codsCons codStr (codsOne codStr))
def R48a : Cod Int := codInt .i64
theorem set_zero : ∀ w, (zeroValue 75).run Try.prog w = .ok (.agg (Array.replicate 256 (.bool false))) w := (zero_of_info (P := Try.prog) (t := 75) (n := 256) (by kernel_rfl)).1
theorem S48a (N : Nat) : Cok 48 (mkCallee A48a R48a (F48a N)) := by
  refine cok_lib Try.func48 (by kernel_rfl) (by kernel_rfl) fun a y hy S w vs hS hG hl hv => ?_
  obtain ⟨s, c⟩ := a
  simp only [F48a, aGd_some, decide_eq_true_eq, beq_iff_eq, Option.some.injEq] at hy
  obtain ⟨rfl, h1, h2, rfl⟩ := hy
  match vs, hl with
  | [u, v], _ =>
    have h4 := hv 0 _ u rfl rfl
    have h5 := hv 1 _ v rfl rfl
    cases h4
    cases h5
    refine (Try.strings_IndexAny_long set_zero ⟨s.toArray⟩ ⟨([34, 10] : List UInt8).toArray⟩ w (by decide) (show 8 < s.toArray.size by simpa using h1) (show s.toArray.size < 4294967281 by simpa using h2) (by decide) (fun j b hb => ?_)).mono fun e w' hh => ?_
    · match j, hb with
      | 0, hb => cases hb; decide
      | 1, hb => cases hb; decide
    · obtain ⟨rfl, rfl⟩ := hh
      have hbw : Below w.heap.size w ((w.alloc (.cells (Lib.setCells ([34, 10] : List UInt8)) 75)).alloc (.cells (Lib.setCells ([34, 10] : List UInt8)) 75)) := by
        repeat (first | with_reducible exact Below.refl _ _ | with_reducible refine B_alloc ?_ _)
      exact ⟨_, S, rfl, hbw, fun _ h => h, fun _ h => .inl h, fun g hg => Nat.lt_of_lt_of_le (hS g hg) hbw.size, .int _ _⟩
/-- The text is longer than eight bytes. -/
def long8 (a : (List UInt8) × List UInt8) : Bool := decide (8 < a.1.length)
end Go.Proofs.Ytmnedpfilckilaa
