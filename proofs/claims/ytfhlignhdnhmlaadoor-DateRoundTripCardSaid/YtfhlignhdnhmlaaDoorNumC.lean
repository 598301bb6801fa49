/- Plain laws of numtext: strings of digits and their numbers. -/
import Derived.Test.YtfhlignhdnhmlaaDoorNumA
set_option linter.unusedSimpArgs false
set_option linter.unusedVariables false
namespace Go.Proofs.YtfhlignhdnhmlaaDoor
open Go.RowKit

def dg (b : UInt8) : Bool := decide (48 ≤ b.toNat) && decide (b.toNat ≤ 57)
theorem dg_iff {b : UInt8} : dg b = true ↔ 48 ≤ b.toNat ∧ b.toNat ≤ 57 := by simp [dg]
/-- The number of digits l after v. -/
def vl (v : Nat) (l : List UInt8) : Nat := l.foldl (fun v b => v * 10 + (b.toNat - 48)) v
@[simp] theorem vl_nil (v : Nat) : vl v [] = v := rfl
@[simp] theorem vl_cons (v : Nat) (b : UInt8) (l : List UInt8) : vl v (b :: l) = vl (v * 10 + (b.toNat - 48)) l := by unfold vl; rw [List.foldl_cons]
theorem vl_append (v : Nat) (l m : List UInt8) : vl v (l ++ m) = vl (vl v l) m := by simp [vl, List.foldl_append]
theorem vl_mono : ∀ (l : List UInt8) (v : Nat), v ≤ vl v l
  | [], v => Nat.le_refl _
  | b :: l, v => by have := vl_mono l (v * 10 + (b.toNat - 48)); simp only [vl_cons]; omega
theorem vl_low : ∀ (l : List UInt8) (v : Nat), v * 10 ^ l.length ≤ vl v l
  | [], v => by simp
  | b :: l, v => by
    have := vl_low l (v * 10 + (b.toNat - 48))
    simp only [vl_cons, List.length_cons, Nat.pow_succ]
    refine Nat.le_trans ?_ this
    rw [Nat.add_mul, Nat.mul_comm (10 ^ l.length) 10, ← Nat.mul_assoc]
    omega
theorem vl_high : ∀ (l : List UInt8) (v : Nat), l.all dg = true → vl v l < (v + 1) * 10 ^ l.length
  | [], v, _ => by simp
  | b :: l, v, h => by
    simp only [List.all_cons, Bool.and_eq_true, dg_iff] at h
    have := vl_high l (v * 10 + (b.toNat - 48)) h.2
    simp only [vl_cons, List.length_cons, Nat.pow_succ]
    refine Nat.lt_of_lt_of_le this ?_
    rw [Nat.mul_comm (10 ^ l.length) 10, ← Nat.mul_assoc]
    exact Nat.mul_le_mul_right _ (by omega)
theorem drop_cons {a : List UInt8} {p : Nat} (hp : p < a.length) : a.drop p = a[p] :: a.drop (p + 1) := List.drop_eq_getElem_cons hp

/-! ## isDigits, isNumber, allDigits -/
def isNum (a : List UInt8) : Bool := a.all dg && (a == [48] || (a != [] && a.head? != some 48))
/-! ## Conversion -/
/-- What a conversion of digits answers. -/
def conv (v : Nat) (neg : Bool) : Int × Int := if v ≤ 4611686018427387904 then (if neg then -(v : Int) else v, 0) else (0, 3)
theorem w32 {x : Int} (h0 : -2147483648 ≤ x) (h1 : x ≤ 2147483647) : IntKind.i32.wrap x = x := by
  simp [IntKind.wrap, IntKind.bits, IntKind.signed]; omega
theorem w8 {x : Int} (h0 : 0 ≤ x) (h1 : x ≤ 255) : IntKind.u8.wrap x = x := by
  simp [IntKind.wrap, IntKind.bits, IntKind.signed]; omega
theorem wu64 {x : Int} (h0 : 0 ≤ x) (h1 : x ≤ 18446744073709551615) : IntKind.u64.wrap x = x := by
  simp [IntKind.wrap, IntKind.bits, IntKind.signed]; omega
end Go.Proofs.YtfhlignhdnhmlaaDoor
