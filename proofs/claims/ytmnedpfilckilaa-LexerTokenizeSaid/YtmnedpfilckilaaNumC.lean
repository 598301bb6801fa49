/- Plain laws of numtext: strings of digits and their numbers. -/
import Derived.Test.YtmnedpfilckilaaNumA
set_option linter.unusedSimpArgs false
set_option linter.unusedVariables false
namespace Go.Proofs.Ytmnedpfilckilaa
open Go.RowKit

def dg (b : UInt8) : Bool := decide (48 ≤ b.toNat) && decide (b.toNat ≤ 57)
theorem dg_iff {b : UInt8} : dg b = true ↔ 48 ≤ b.toNat ∧ b.toNat ≤ 57 := by simp [dg]
/-- The number of digits l after v. -/
def vl (v : Nat) (l : List UInt8) : Nat := l.foldl (fun v b => v * 10 + (b.toNat - 48)) v
@[simp] theorem vl_nil (v : Nat) : vl v [] = v := rfl
@[simp] theorem vl_cons (v : Nat) (b : UInt8) (l : List UInt8) : vl v (b :: l) = vl (v * 10 + (b.toNat - 48)) l := by unfold vl; rw [List.foldl_cons]
theorem vl_append (v : Nat) (l m : List UInt8) : vl v (l ++ m) = vl (vl v l) m := by simp [vl, List.foldl_append]
theorem vl_mono : ∀ (l : List UInt8) (v : Nat), v ≤ vl v l
  | [], v => Nat.le_refl _
  | b :: l, v => by have := vl_mono l (v * 10 + (b.toNat - 48)); simp only [vl_cons]; omega
theorem vl_low : ∀ (l : List UInt8) (v : Nat), v * 10 ^ l.length ≤ vl v l
  | [], v => by simp
  | b :: l, v => by
    have := vl_low l (v * 10 + (b.toNat - 48))
    simp only [vl_cons, List.length_cons, Nat.pow_succ]
    refine Nat.le_trans ?_ this
    rw [Nat.add_mul, Nat.mul_comm (10 ^ l.length) 10, ← Nat.mul_assoc]
    omega
theorem vl_high : ∀ (l : List UInt8) (v : Nat), l.all dg = true → vl v l < (v + 1) * 10 ^ l.length
  | [], v, _ => by simp
  | b :: l, v, h => by
    simp only [List.all_cons, Bool.and_eq_true, dg_iff] at h
    have := vl_high l (v * 10 + (b.toNat - 48)) h.2
    simp only [vl_cons, List.length_cons, Nat.pow_succ]
    refine Nat.lt_of_lt_of_le this ?_
    rw [Nat.mul_comm (10 ^ l.length) 10, ← Nat.mul_assoc]
    exact Nat.mul_le_mul_right _ (by omega)
theorem drop_cons {a : List UInt8} {p : Nat} (hp : p < a.length) : a.drop p = a[p] :: a.drop (p + 1) := List.drop_eq_getElem_cons hp

/-! ## isDigits, isNumber, allDigits -/
theorem L63_all {N : Nat} {a : List UInt8} : ∀ (k n p : Nat), a.length - p = k → p ≤ a.length → k < n → L63_2 N n a p = some ((a.drop p).all dg) := by
  intro k
  induction k using Nat.strongRecOn with
  | _ k ih =>
  intro n p hk hp hn
  obtain ⟨n, rfl⟩ : ∃ n', n = n' + 1 := ⟨n - 1, by omega⟩
  rw [L63_2_eq]
  simp only [aIf_if, Int.ofNat_eq_natCast]
  rcases Nat.eq_or_lt_of_le hp with rfl | hlt
  · simp
  · rw [if_pos (by simpa using hlt), drop_cons hlt, List.all_cons]
    rcases Nat.lt_or_ge a[p].toNat 128 with hb | hb
    · rw [dec_low hlt hb]
      have := ih (a.length - (p + 1)) (by omega) n (p + 1) rfl (by omega) (by omega)
      dsimp only
      rw [this]
      by_cases h1 : a[p].toNat < 48
      · have h2 : (a[p].toNat : Int) < 48 := by omega
        have h3 : dg a[p] = false := by simp only [dg]; simp; omega
        simp [h2, h3]
      · have h2 : ¬ (a[p].toNat : Int) < 48 := by omega
        by_cases h4 : 57 < a[p].toNat
        · have h5 : (57 : Int) < a[p].toNat := by omega
          have h3 : dg a[p] = false := by simp only [dg]; simp; omega
          simp [h2, h3, h5]
        · have h5 : ¬ (57 : Int) < a[p].toNat := by omega
          have h3 : dg a[p] = true := by simp only [dg]; simp; omega
          simp [h2, h3, h5]
    · obtain ⟨g1, -⟩ := dec_high hlt hb
      have h3 : dg a[p] = false := by simp only [dg]; simp; omega
      rw [h3]
      have h2 : ¬ (((Utf8.decode ⟨a.toArray⟩ p).1 : Nat) : Int) < 48 := by omega
      have h5 : (57 : Int) < (((Utf8.decode ⟨a.toArray⟩ p).1 : Nat) : Int) := by omega
      simp [h2, h5]
theorem F63_all {N : Nat} {a : List UInt8} (h : a.length < N) : F63 N a = some (a.all dg) := by
  rw [F63_eq, L63_all a.length N 0 rfl (by omega) h]; rfl
def isNum (a : List UInt8) : Bool := a.all dg && (a == [48] || (a != [] && a.head? != some 48))
theorem L62_all {N : Nat} {a : List UInt8} : ∀ (k n p : Nat), a.length - p = k → p ≤ a.length → k < n → L62_2 N n a a p = some ((a.drop p).all dg && (a == [48] || (a != [] && a.head? != some 48))) := by
  intro k
  induction k using Nat.strongRecOn with
  | _ k ih =>
  intro n p hk hp hn
  obtain ⟨n, rfl⟩ : ∃ n', n = n' + 1 := ⟨n - 1, by omega⟩
  rw [L62_2_eq]
  simp only [aIf_if, Int.ofNat_eq_natCast]
  rcases Nat.eq_or_lt_of_le hp with rfl | hlt
  · rw [if_neg (by simp)]
    cases a with
    | nil => simp
    | cons b a =>
      have h0 : 0 < (b :: a).length := by simp
      rw [onGet_ok (by omega) (by simp)]
      by_cases hb : b.toNat = 48
      · have : b = 48 := UInt8.toNat_inj.1 (by simpa using hb)
        subst this
        cases a <;> simp
      · have h2 : ¬ b = 48 := fun e => hb (by rw [e]; rfl)
        have h3 : ¬ ((b.toNat : Int) = 48) := by omega
        have f1 : (b == 48) = false := by simpa using h2
        have f2 : ((b.toNat : Int) != 48) = true := by simpa using h3
        have f4 : (some b != some 48) = true := by simpa using h2
        have f5 : ((b :: a) != []) = true := by simp [bne]
        simp [h2, f1, f2, f4, f5]
  · rw [if_pos (by simpa using hlt), drop_cons hlt, List.all_cons]
    rcases Nat.lt_or_ge a[p].toNat 128 with hb | hb
    · rw [dec_low hlt hb]
      have := ih (a.length - (p + 1)) (by omega) n (p + 1) rfl (by omega) (by omega)
      dsimp only
      rw [this]
      by_cases h1 : a[p].toNat < 48
      · have h2 : (a[p].toNat : Int) < 48 := by omega
        have h3 : dg a[p] = false := by simp only [dg]; simp; omega
        simp [h2, h3]
      · have h2 : ¬ (a[p].toNat : Int) < 48 := by omega
        by_cases h4 : 57 < a[p].toNat
        · have h5 : (57 : Int) < a[p].toNat := by omega
          have h3 : dg a[p] = false := by simp only [dg]; simp; omega
          simp [h2, h3, h5]
        · have h5 : ¬ (57 : Int) < a[p].toNat := by omega
          have h3 : dg a[p] = true := by simp only [dg]; simp; omega
          simp [h2, h3, h5]
    · obtain ⟨g1, -⟩ := dec_high hlt hb
      have h3 : dg a[p] = false := by simp only [dg]; simp; omega
      rw [h3]
      have h2 : ¬ (((Utf8.decode ⟨a.toArray⟩ p).1 : Nat) : Int) < 48 := by omega
      have h5 : (57 : Int) < (((Utf8.decode ⟨a.toArray⟩ p).1 : Nat) : Int) := by omega
      simp [h2, h5]
theorem F62_all {N : Nat} {a : List UInt8} (h : a.length < N) : F62 N a = some (isNum a) := by
  rw [F62_eq, L62_all a.length N 0 rfl (by omega) h]; rfl
/-! ## Conversion -/
/-- What a conversion of digits answers. -/
def conv (v : Nat) (neg : Bool) : Int × Int := if v ≤ 4611686018427387904 then (if neg then -(v : Int) else v, 0) else (0, 3)
theorem w32 {x : Int} (h0 : -2147483648 ≤ x) (h1 : x ≤ 2147483647) : IntKind.i32.wrap x = x := by
  simp [IntKind.wrap, IntKind.bits, IntKind.signed]; omega
theorem w8 {x : Int} (h0 : 0 ≤ x) (h1 : x ≤ 255) : IntKind.u8.wrap x = x := by
  simp [IntKind.wrap, IntKind.bits, IntKind.signed]; omega
theorem wu64 {x : Int} (h0 : 0 ≤ x) (h1 : x ≤ 18446744073709551615) : IntKind.u64.wrap x = x := by
  simp [IntKind.wrap, IntKind.bits, IntKind.signed]; omega
theorem L64_conv {N : Nat} {a : List UInt8} {neg : Bool} : ∀ (k n p v : Nat), a.length - p = k → p ≤ a.length → k < n → v ≤ 4611686018427387904 → (a.drop p).all dg = true → L64_3 N n neg v a p = some (conv (vl v (a.drop p)) neg)
  | 0, n + 1, p, v, hk, hp, hn, hv, hd => by
    obtain rfl : p = a.length := by omega
    have e1 : IntKind.i64.wrap (0 - (v : Int)) = -(v : Int) := by rw [w64] <;> omega
    rw [L64_3_eq]
    simp only [aIf_if, Int.ofNat_eq_natCast, e1]
    cases neg <;> simp [conv, hv]
  | k + 1, n + 1, p, v, hk, hp, hn, hv, hd => by
    have hlt : p < a.length := by omega
    rw [drop_cons hlt, List.all_cons, Bool.and_eq_true, dg_iff] at hd
    obtain ⟨⟨g1, g2⟩, g3⟩ := hd
    rw [L64_3_eq]
    obtain ⟨d, hd⟩ : ∃ d, a[p].toNat - 48 = d := ⟨_, rfl⟩
    have e2 : IntKind.i32.wrap ((a[p].toNat : Int) - 48) = (d : Int) := by rw [w32] <;> omega
    have hd9 : d ≤ 9 := by omega
    have e3 : IntKind.i64.wrap (d : Int) = d := by rw [w64] <;> omega
    have e4 : IntKind.i64.wrap (4611686018427387904 - (d : Int)) = 4611686018427387904 - (d : Int) := by rw [w64] <;> omega
    have e5 : Int.tdiv (4611686018427387904 - (d : Int)) 10 = (4611686018427387904 - (d : Int)) / 10 := Int.tdiv_eq_ediv_of_nonneg (by omega)
    have e6 : IntKind.i64.wrap ((4611686018427387904 - (d : Int)) / 10) = (4611686018427387904 - (d : Int)) / 10 := by rw [w64] <;> omega
    simp only [aIf_if, Int.ofNat_eq_natCast, dec_low hlt (show a[p].toNat < 128 by omega), decide_eq_true_eq, e2, e3, e4, e5, e6, drop_cons hlt, vl_cons, hd]
    rw [if_pos hlt]
    by_cases h : (4611686018427387904 - (d : Int)) / 10 < v
    · rw [if_pos h]
      have : 4611686018427387904 < v * 10 + d := by omega
      have := vl_mono (a.drop (p + 1)) (v * 10 + d)
      simp only [conv]
      rw [if_neg (by omega)]
    · rw [if_neg h]
      have e7 : IntKind.i64.wrap ((v : Int) * 10) = (v : Int) * 10 := by rw [w64] <;> omega
      have e8 : IntKind.i64.wrap ((v : Int) * 10 + (d : Int)) = ((v * 10 + d : Nat) : Int) := by rw [w64] <;> omega
      rw [e7, e8]
      exact L64_conv k n (p + 1) (v * 10 + d) (by omega) (by omega) (by omega) (by omega) g3
theorem F64_conv {N : Nat} {a : List UInt8} {neg : Bool} (hN : a.length < N) (hd : a.all dg = true) : F64 N (a, neg) = some (conv (vl 0 a) neg) := by
  have := L64_conv (N := N) (neg := neg) a.length N 0 0 rfl (by omega) hN (by omega) (by simpa using hd)
  rw [F64_eq]; simpa using this
end Go.Proofs.Ytmnedpfilckilaa
