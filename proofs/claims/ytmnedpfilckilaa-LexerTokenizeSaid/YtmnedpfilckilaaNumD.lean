/- Plain laws of numtext: integers as text. -/
import Derived.Test.YtmnedpfilckilaaNumC
set_option linter.unusedSimpArgs false
set_option linter.unusedVariables false
namespace Go.Proofs.Ytmnedpfilckilaa
open Go.RowKit

/-- A sign split off. -/
def sgn : List UInt8 → List UInt8 × Bool
  | [] => ([], false)
  | b :: t => if b = 45 then (t, true) else (b :: t, false)
theorem sgn_len (l : List UInt8) : (sgn l).1.length ≤ l.length := by
  cases l with
  | nil => simp [sgn]
  | cons b t => simp only [sgn]; split <;> simp
theorem F61_sgn {N : Nat} {l : List UInt8} : F61 N (l, [45]) = some (sgn l) := by
  rw [F61_eq, F78_eq, F75_eq]
  cases l with
  | nil => simp [aIf_if, onSome_ok, sgn]
  | cons b t =>
    have e : (1 : Int) ≤ (t.length : Int) + 1 := by omega
    by_cases h : b = 45
    · subst h; simp [aIf_if, aGd_if, onSome_ok, sgn, e]
    · have : ([b] == [(45 : UInt8)]) = false := by simpa using h
      simp [aIf_if, aGd_if, onSome_ok, sgn, e, h]
/-- What ParseInt answers. -/
def parseS (l : List UInt8) : Int × Int :=
  if isNum (sgn l).1 = true then (if (sgn l).2 = true ∧ (sgn l).1 = [48] then (0, 2) else conv (vl 0 (sgn l).1) (sgn l).2) else (0, 2)
theorem isNum_all {t : List UInt8} (h : isNum t = true) : t.all dg = true := by
  simp only [isNum, Bool.and_eq_true] at h; exact h.1
theorem isNum_head {t : List UInt8} (h : isNum t = true) (h1 : 1 < t.length) : t.head? ≠ some 48 := by
  simp only [isNum, Bool.and_eq_true, Bool.or_eq_true, beq_iff_eq, bne_iff_ne] at h
  rcases h.2 with rfl | ⟨_, h⟩
  · simp at h1
  · exact h
theorem F47_parse {N : Nat} {l : List UInt8} (hN : l.length < N) : F47 N l = some (parseS l) := by
  have hl := sgn_len l
  rw [F47_eq, F61_sgn, onSome_ok, F62_all (by omega), onSome_ok]
  simp only [aIf_if, parseS]
  cases hn : isNum (sgn l).1 with
  | false => simp
  | true =>
    rw [F64_conv (by omega) (isNum_all hn)]
    cases hs : (sgn l).2 with
    | false => simp [onSome_ok]
    | true =>
      by_cases h : (sgn l).1 = [48]
      · simp [h]
      · simp [h, onSome_ok]
/-! ## Decimal digits -/
theorem head_app {α : Type} {s t : List α} (h : s ≠ []) : (s ++ t).head? = s.head? := by cases s <;> simp_all
theorem ofNat_toNat {k : Nat} (h : k < 256) : (UInt8.ofNat k).toNat = k := by simp; omega
theorem decF_all : ∀ (k u : Nat), (decF k u).all dg = true
  | 0, u => rfl
  | k + 1, u => by
    rw [decF]
    by_cases h : u < 10
    · rw [decide_eq_true h]; simp only [List.all_cons, List.all_nil, Bool.and_true, dg_iff]; rw [ofNat_toNat (by omega)]; omega
    · rw [decide_eq_false h]
      dsimp only
      rw [List.all_append, decF_all k, Bool.true_and]
      simp only [List.all_cons, List.all_nil, Bool.and_true, dg_iff]; rw [ofNat_toNat (by omega)]; omega
theorem decF_len : ∀ (k u : Nat), (decF k u).length ≤ k
  | 0, u => by simp [decF]
  | k + 1, u => by
    rw [decF]
    by_cases h : u < 10
    · rw [decide_eq_true h]; simp
    · rw [decide_eq_false h]; have := decF_len k (u / 10); simp; exact this
theorem decF_vl : ∀ (k u : Nat), u < 10 ^ k → vl 0 (decF k u) = u
  | 0, u, h => by simp at h; simp [decF, h]
  | k + 1, u, h => by
    rw [decF]
    by_cases h1 : u < 10
    · rw [decide_eq_true h1]; simp only [vl_cons, vl_nil]; rw [ofNat_toNat (by omega)]; omega
    · rw [decide_eq_false h1]
      dsimp only
      rw [vl_append, decF_vl k (u / 10) (by rw [Nat.pow_succ] at h; omega)]
      simp only [vl_cons, vl_nil]; rw [ofNat_toNat (by omega)]; omega
theorem decF_ne {k u : Nat} (hk : 0 < k) : decF k u ≠ [] := by
  obtain ⟨k, rfl⟩ : ∃ j, k = j + 1 := ⟨k - 1, by omega⟩
  rw [decF]
  split <;> simp
theorem decF_head : ∀ (k u : Nat), u < 10 ^ k → 0 < u → (decF k u).head? ≠ some 48
  | 0, u, h, h0 => by simp at h; omega
  | k + 1, u, h, h0 => by
    rw [decF]
    by_cases h1 : u < 10
    · rw [decide_eq_true h1]
      intro e
      have := congrArg UInt8.toNat (Option.some.inj e)
      rw [ofNat_toNat (by omega)] at this
      simp at this; omega
    · rw [decide_eq_false h1]
      have hk : 0 < k := by
        rcases Nat.eq_zero_or_pos k with rfl | hk
        · simp at h; omega
        · exact hk
      have ih := decF_head k (u / 10) (by rw [Nat.pow_succ] at h; omega) (by omega)
      dsimp only
      rw [head_app (decF_ne hk)]
      exact ih
theorem decF_isNum {k u : Nat} (hk : 0 < k) (h : u < 10 ^ k) : isNum (decF k u) = true := by
  simp only [isNum, decF_all, Bool.true_and, Bool.or_eq_true, Bool.and_eq_true, beq_iff_eq, bne_iff_ne]
  rcases Nat.eq_zero_or_pos u with rfl | hu
  · left
    obtain ⟨k, rfl⟩ : ∃ j, k = j + 1 := ⟨k - 1, by omega⟩
    simp [decF]
  · exact .inr ⟨decF_ne hk, decF_head k u h hu⟩
/-- Digits without a leading zero are the numeral of their number. -/
theorem decF_back : ∀ (k : Nat) (t : List UInt8), t.all dg = true → t ≠ [] → t.head? ≠ some 48 → vl 0 t < 10 ^ k → decF k (vl 0 t) = t := by
  intro k
  induction k with
  | zero =>
    intro t hd h0 h1 hv
    cases t with
    | nil => exact absurd rfl h0
    | cons b t =>
      simp only [List.all_cons, Bool.and_eq_true, dg_iff] at hd
      have := vl_mono t (0 * 10 + (b.toNat - 48))
      simp only [vl_cons] at hv
      have hb : b.toNat = 48 := by rw [Nat.pow_zero] at hv; omega
      exact absurd (show b = 48 from UInt8.toNat_inj.1 (by simpa using hb)) (by simpa using h1)
  | succ k ih =>
    intro t hd h0 h1 hv
    have ht := List.dropLast_concat_getLast h0
    generalize t.dropLast = s at ht
    generalize t.getLast h0 = b at ht
    subst ht
    rw [List.all_append, Bool.and_eq_true] at hd
    simp only [List.all_cons, List.all_nil, Bool.and_true, dg_iff] at hd
    obtain ⟨hs, hb⟩ := hd
    have hb2 : ∀ m, m = b.toNat - 48 → UInt8.ofNat (48 + m) = b := fun m hm => UInt8.toNat_inj.1 (by rw [ofNat_toNat (by omega)]; omega)
    rw [vl_append] at hv ⊢
    simp only [vl_cons, vl_nil] at hv ⊢
    cases hs0 : s with
    | nil =>
      subst hs0
      simp only [vl_nil, Nat.zero_mul, Nat.zero_add, List.nil_append]
      rw [decF, decide_eq_true (show b.toNat - 48 < 10 by omega)]
      dsimp only
      rw [hb2 _ rfl]
    | cons c s' =>
      have hne : s ≠ [] := by rw [hs0]; simp
      have hh : s.head? ≠ some 48 := by
        rw [head_app hne] at h1; exact h1
      rw [← hs0]
      have hpos : 1 ≤ vl 0 s := by
        rw [hs0] at hs hh ⊢
        simp only [List.all_cons, Bool.and_eq_true, dg_iff] at hs
        have := vl_mono s' (0 * 10 + (c.toNat - 48))
        have : c.toNat ≠ 48 := fun e => hh (by simp [show c = 48 from UInt8.toNat_inj.1 (by simpa using e)])
        simp only [vl_cons]; omega
      rw [decF, decide_eq_false (show ¬ vl 0 s * 10 + (b.toNat - 48) < 10 by omega)]
      dsimp only
      rw [show (vl 0 s * 10 + (b.toNat - 48)) / 10 = vl 0 s by omega, show (vl 0 s * 10 + (b.toNat - 48)) % 10 = b.toNat - 48 by omega, hb2 _ rfl]
      rw [ih s hs hne hh (by rw [Nat.pow_succ] at hv; omega)]

/-! ## FormatInt -/
theorem itoaF_nat (k : Nat) : itoaF (k : Int) = decF 20 k := by
  unfold itoaF
  rw [decide_eq_false (by omega)]; rfl
theorem itoaF_neg {k : Nat} (h : 0 < k) : itoaF (-(k : Int)) = 45 :: decF 20 k := by
  unfold itoaF
  rw [decide_eq_true (by omega)]
  show 45 :: decF 20 (-(k : Int)).natAbs = _
  rw [Int.natAbs_neg]; rfl
end Go.Proofs.Ytmnedpfilckilaa
