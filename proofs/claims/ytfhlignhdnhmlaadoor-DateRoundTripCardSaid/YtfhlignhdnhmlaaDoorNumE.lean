/- Plain laws of numtext: fixed-point numbers as text. -/
import Derived.Test.YtfhlignhdnhmlaaDoorNumD
set_option linter.unusedSimpArgs false
set_option linter.unusedVariables false
namespace Go.Proofs.YtfhlignhdnhmlaaDoor
open Go.RowKit

def clampN (a : Int) : Nat := (max 0 (min a 9)).toNat
theorem clampN_le (a : Int) : clampN a ≤ 9 := by unfold clampN; omega
theorem clamp_a (a : Int) : max (0 : Int) (min a 9) = (clampN a : Int) := by unfold clampN; omega
theorem clamp_b (a : Int) : min (max a (0 : Int)) 9 = (clampN a : Int) := by unfold clampN; omega

/-! ## ParseFixed -/
/-- What ParseFixed answers, with K places, at digits t with a sign or none. -/
def parseT (K : Nat) (t : List UInt8) (neg : Bool) : Int × Int :=
  if t.length < K + 2 then (0, 2)
  else if t[t.length - K - 1]? ≠ some 46 then (0, 2)
  else if isNum (t.take (t.length - K - 1)) = false then (0, 2)
  else if (t.drop (t.length - K)).all dg = false then (0, 2)
  else if neg = true ∧ vl 0 (t.take (t.length - K - 1) ++ t.drop (t.length - K)) = 0 then (0, 2)
  else conv (vl 0 (t.take (t.length - K - 1) ++ t.drop (t.length - K))) neg
theorem conv_zero {v : Nat} {neg : Bool} : ((conv v neg).2 = 0 ∧ (conv v neg).1 = 0) ↔ v = 0 := by
  unfold conv
  by_cases h : v ≤ 4611686018427387904
  · rw [if_pos h]; cases neg <;> simp
  · rw [if_neg h]; simp; omega
theorem byte_eq {b : UInt8} {n : Nat} (hn : n < 256) : b.toNat = n ↔ b = UInt8.ofNat n := by
  constructor
  · intro h; exact UInt8.toNat_inj.1 (by rw [h, ofNat_toNat hn])
  · intro h; rw [h, ofNat_toNat hn]
theorem isNum_take {t : List UInt8} {p : Nat} (hp : 0 < p) (hl : p ≤ t.length) (hd1 : (t.take p).all dg = true) (h0 : 0 < t.length) : isNum (t.take p) = true ↔ ¬ (1 < p ∧ t[0] = 48) := by
  simp only [isNum, hd1, Bool.true_and, Bool.or_eq_true, Bool.and_eq_true, beq_iff_eq, bne_iff_ne]
  cases t with
  | nil => simp at h0
  | cons b t' =>
    obtain ⟨q, rfl⟩ : ∃ q, p = q + 1 := ⟨p - 1, by omega⟩
    simp only [List.take_succ_cons, List.getElem_cons_zero, List.head?_cons, ne_eq, Option.some.injEq, List.cons.injEq]
    have hlen : (t'.take q).length = q := by simp at hl; rw [List.length_take]; omega
    constructor
    · rintro (⟨rfl, h⟩ | ⟨_, h⟩) ⟨h3, h4⟩
      · rw [h] at hlen; simp at hlen; omega
      · exact h h4
    · intro h
      by_cases hb : b = 48
      · left
        have : q = 0 := by
          rcases Nat.eq_zero_or_pos q with h3 | h3
          · exact h3
          · exact absurd ⟨by omega, hb⟩ h
        subst this
        exact ⟨hb, by simp⟩
      · exact .inr ⟨by simp, hb⟩
end Go.Proofs.YtfhlignhdnhmlaaDoor
