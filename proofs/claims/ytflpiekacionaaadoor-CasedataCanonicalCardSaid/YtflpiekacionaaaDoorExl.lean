/- Go's library functions in the pure reading, by the shelf's contracts. -/
import Derived.Test.YtflpiekacionaaaDoorExb
import Derived.Test.YtflpiekacionaaaDoorShelf
import Derived.Test.YtflpiekacionaaaDoorStrs
set_option linter.unusedSimpArgs false
set_option linter.unusedVariables false
namespace Go.Proofs.YtflpiekacionaaaDoor
open Go.RowKit

/-- What is asked of the world: the library's table lies. -/
def Gd (w : World) : Prop := Lib.TabIs Tryd.prog w "internal/strconv.uint64pow10" .u64 Lib.pow10Tab
theorem Gd_keep : ∀ w w', Gd w → Below w.heap.size w w' → Gd w' := fun w w' h hb => by
  have hg : Tryd.prog.globalNamed "internal/strconv.uint64pow10" = some 3 := by kernel_rfl
  refine var?_below hb hg ?_ h
  unfold Gd Lib.TabIs World.var? at h
  simp only [hg, Option.bind_some] at h
  by_cases hlt : 3 < w.heap.size
  · exact hlt
  · rw [Array.getElem?_eq_none (by omega)] at h
    simp at h
theorem Tryd.mixed : Tryd.prog.follows .mixedOrders = true := by kernel_rfl
def Cok (f : FuncId) (c : Callee) : Prop := CalleeOk Tryd.prog Gd f c
theorem cok_cons {f : FuncId} {c : Callee} {l : List (FuncId × Callee)} (h : Cok f c) (hl : ∀ x ∈ l, CalleeOk Tryd.prog Gd x.1 x.2) : ∀ x ∈ (f, c) :: l, CalleeOk Tryd.prog Gd x.1 x.2 := fun x hx => by
  cases hx with
  | head => exact h
  | tail _ hx => exact hl x hx
theorem cok_nil : ∀ x ∈ ([] : List (FuncId × Callee)), CalleeOk Tryd.prog Gd x.1 x.2 := fun _ h => by cases h
theorem cok_of {l : List (FuncId × Callee)} {O : Opts} {f : FuncId} {fn : Func} {α β : Type} {A : Cods α} {R : Cod β} {F : α → Option β} (hl : ∀ x ∈ l, CalleeOk Tryd.prog Gd x.1 x.2) (hO : O.ok = true) (hf : Tryd.prog.funcs[f]? = some fn)
    (hF : F = aTyped ⟨Tryd.prog, l⟩ O fn A R) (hn : (fn.name == "runtime.NumGoroutine") = false) (hb : fn.body.isNone = false) : Cok f (mkCallee A R F) := by
  subst hF
  exact ⟨typed_spec (E := ⟨Tryd.prog, l⟩) (Env.ok_of Gd_keep hl) Tryd.mixed hO hf A R, fun _ _ => callee_body hf hn hb _ _⟩
theorem cok_none {f : FuncId} {fn : Func} {α β : Type} {A : Cods α} {R : Cod β} {F : α → Option β} (hF : ∀ a, F a = none) (hf : Tryd.prog.funcs[f]? = some fn) (hn : (fn.name == "runtime.NumGoroutine") = false) (hb : fn.body.isNone = false) : Cok f (mkCallee A R F) :=
  ⟨callee_spec (fun a y h => by rw [hF] at h; cases h), fun _ _ => callee_body hf hn hb _ _⟩
/-- A function of the library. -/
theorem cok_lib {f : FuncId} {fn : Func} {α β : Type} {A : Cods α} {R : Cod β} {F : α → Option β} (hf : Tryd.prog.funcs[f]? = some fn) (hn : (fn.name == "runtime.NumGoroutine") = false) (hb : fn.body.isNone = false)
    (h : ∀ a y, F a = some y → ∀ (S : Nat → Prop) (w : World) (vs : List Value), (∀ g, S g → g < w.heap.size) → Gd w → (A.enc a).length = vs.length →
      (∀ (i : Nat) c v, (A.enc a)[i]? = some c → vs[i]? = some v → VRel S w c v) → Calls Tryd.prog f vs.toArray w (Post w S (R.enc y))) : Cok f (mkCallee A R F) := by
  refine ⟨fun args r hr S w vs hS hG hl hv => ?_, fun _ _ => callee_body hf hn hb _ _⟩
  obtain ⟨a, hr, hal, hle⟩ := A.ok hr
  obtain ⟨y, hy, hr⟩ := onSome_some.1 hr
  cases hr
  refine h a y hy S w vs hS hG (by omega) (fun i c v hc hv' => ?_)
  have hlt : i < args.length := by rw [hal]; exact (List.getElem?_eq_some_iff.1 hc).1
  have hx := List.getElem?_eq_getElem hlt
  exact hle i _ c hx hc S w v (hv i _ v hx hv')
/-- From the reading of a law to its run. -/
theorem law_calls {f : FuncId} {c : Callee} (h : Cok f c) {args : List PV} (hr : c.run args some = some (.bool true)) {vs : List Value} {w : World} {S : Nat → Prop} (hS : ∀ g, S g → g < w.heap.size) (hG : Gd w) (hl : args.length = vs.length)
    (hv : ∀ (i : Nat) c v, args[i]? = some c → vs[i]? = some v → VRel S w c v) : Calls Tryd.prog f vs.toArray w (Ret (.bool true) w) :=
  (h.1 args _ hr S w vs hS hG hl hv).mono fun e w' hp => by
    obtain ⟨v, S', rfl, hb, -, -, -, hr⟩ := hp
    cases hr
    exact ⟨rfl, hb⟩

/-! ## Decimal digits -/
def decF : Nat → Nat → List UInt8
  | 0, _ => []
  | k + 1, u => match decide (u < 10) with | true => [UInt8.ofNat (48 + u)] | false => decF k (u / 10) ++ [UInt8.ofNat (48 + u % 10)]
theorem decF_eq : ∀ (k u : Nat), u < 10 ^ k → 0 < k → decF k u = Lib.decDigits u
  | 0, u, _, h => by omega
  | k + 1, u, h, _ => by
    rw [Lib.decDigits, decF]
    by_cases h10 : u < 10
    · rw [dif_pos h10, decide_eq_true h10]
    · rw [dif_neg h10, decide_eq_false h10]
      have hk : 0 < k := by
        rcases Nat.eq_zero_or_pos k with rfl | hk
        · simp at h; omega
        · exact hk
      have : u / 10 < 10 ^ k := by rw [Nat.pow_succ] at h; omega
      dsimp only
      rw [decF_eq k (u / 10) this hk]
def itoaF (n : Int) : List UInt8 := match decide (n < 0) with | true => 45 :: decF 20 n.natAbs | false => decF 20 n.toNat
theorem itoaF_eq (n : Int) (h0 : -9223372036854775808 ≤ n) (h1 : n ≤ 9223372036854775807) : itoaF n = Lib.itoa n := by
  unfold itoaF Lib.itoa
  by_cases h : n < 0
  · rw [decide_eq_true h, if_pos h]; dsimp only; rw [decF_eq 20 _ (by omega) (by omega)]
  · rw [decide_eq_false h, if_neg h]; dsimp only; rw [decF_eq 20 _ (by omega) (by omega)]

/-! ## strconv.Itoa -/
def A78 : Cods Int := codsOne (codInt .i64)
def R78 : Cod (List UInt8) := codStr
def F78 (N : Nat) (a : Int) : Option (List UInt8) := aGd (decide (-9223372036854775808 ≤ a)) (aGd (decide (a ≤ 9223372036854775807)) (some (itoaF a)))
def C78 (N : Nat) : Callee := mkCallee A78 R78 (F78 N)
theorem S78 (N : Nat) : Cok 78 (C78 N) := by
  refine cok_lib Tryd.func78 (by kernel_rfl) (by kernel_rfl) fun a y hy S w vs hS hG hl hv => ?_
  simp only [F78, aGd_some, decide_eq_true_eq, Option.some.injEq] at hy
  obtain ⟨h0, h1, rfl⟩ := hy
  match vs, hl with
  | [v], _ =>
    have h2 := hv 0 _ v rfl rfl
    cases h2
    refine (Tryd.strconv_Itoa a h0 h1 w hG).mono fun e w' hh => ?_
    obtain ⟨rfl, k, os, rfl⟩ := hh
    have hb := Below_grow w k os
    rw [itoaF_eq a h0 h1]
    exact ⟨_, S, rfl, hb, fun _ h => h, fun _ h => .inl h, fun g hg => Nat.lt_of_lt_of_le (hS g hg) hb.size, .str _⟩
/-! ## strings.Repeat -/
def A114 : Cods ((List UInt8) × Int) := (codsCons codStr (codsOne (codInt .i64)))
def R114 : Cod (List UInt8) := codStr
def F114 (N : Nat) (a : (List UInt8) × Int) : Option (List UInt8) := aGd (decide (0 ≤ a.2)) (aGd (decide (a.2 ≤ 4194304)) (aGd (decide (a.1.length ≤ 4194304)) (some (Lib.repeatL a.1 a.2.toNat))))
def C114 (N : Nat) : Callee := mkCallee A114 R114 (F114 N)
theorem S114 (N : Nat) : Cok 114 (C114 N) := by
  refine cok_lib Tryd.func114 (by kernel_rfl) (by kernel_rfl) fun a y hy S w vs hS hG hl hv => ?_
  obtain ⟨s, a⟩ := a
  simp only [F114, aGd_some, decide_eq_true_eq, Option.some.injEq] at hy
  obtain ⟨h0, h1, h2, rfl⟩ := hy
  match vs, hl with
  | [u, v], _ =>
    have h4 := hv 0 _ u rfl rfl
    have h5 := hv 1 _ v rfl rfl
    cases h4
    cases h5
    obtain ⟨n, rfl⟩ := Int.eq_ofNat_of_zero_le h0
    have hm : s.length * n ≤ 4194304 * 4194304 := Nat.mul_le_mul h2 (by omega)
    refine (Tryd.strings_Repeat ⟨s.toArray⟩ n w (by omega) (by show s.toArray.size * n ≤ _; simp; omega)).mono fun e w' hh => ?_
    obtain ⟨rfl, hb⟩ := hh
    exact ⟨_, S, rfl, hb, fun _ h => h, fun _ h => .inl h, fun g hg => Nat.lt_of_lt_of_le (hS g hg) hb.size, .str _⟩
end Go.Proofs.YtflpiekacionaaaDoor
