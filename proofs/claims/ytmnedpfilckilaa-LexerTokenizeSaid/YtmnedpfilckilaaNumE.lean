/- Plain laws of numtext: fixed-point numbers as text. -/
import Derived.Test.YtmnedpfilckilaaNumD
set_option linter.unusedSimpArgs false
set_option linter.unusedVariables false
namespace Go.Proofs.Ytmnedpfilckilaa
open Go.RowKit

def clampN (a : Int) : Nat := (max 0 (min a 9)).toNat
theorem clampN_le (a : Int) : clampN a ≤ 9 := by unfold clampN; omega
theorem clamp_a (a : Int) : max (0 : Int) (min a 9) = (clampN a : Int) := by unfold clampN; omega
theorem clamp_b (a : Int) : min (max a (0 : Int)) 9 = (clampN a : Int) := by unfold clampN; omega

/-! ## ParseFixed -/
/-- What ParseFixed answers, with K places, at digits t with a sign or none. -/
def parseT (K : Nat) (t : List UInt8) (neg : Bool) : Int × Int :=
  if t.length < K + 2 then (0, 2)
  else if t[t.length - K - 1]? ≠ some 46 then (0, 2)
  else if isNum (t.take (t.length - K - 1)) = false then (0, 2)
  else if (t.drop (t.length - K)).all dg = false then (0, 2)
  else if neg = true ∧ vl 0 (t.take (t.length - K - 1) ++ t.drop (t.length - K)) = 0 then (0, 2)
  else conv (vl 0 (t.take (t.length - K - 1) ++ t.drop (t.length - K))) neg
theorem conv_zero {v : Nat} {neg : Bool} : ((conv v neg).2 = 0 ∧ (conv v neg).1 = 0) ↔ v = 0 := by
  unfold conv
  by_cases h : v ≤ 4611686018427387904
  · rw [if_pos h]; cases neg <;> simp
  · rw [if_neg h]; simp; omega
theorem byte_eq {b : UInt8} {n : Nat} (hn : n < 256) : b.toNat = n ↔ b = UInt8.ofNat n := by
  constructor
  · intro h; exact UInt8.toNat_inj.1 (by rw [h, ofNat_toNat hn])
  · intro h; rw [h, ofNat_toNat hn]
theorem F46_parse {N : Nat} {l : List UInt8} {a1 : Int} (hl6 : l.length ≤ 1000000) (hN : l.length < N) :
    F46 N (l, a1) = some (if clampN a1 = 0 then parseS l else parseT (clampN a1) (sgn l).1 (sgn l).2) := by
  have hl := sgn_len l
  have hK := clampN_le a1
  rw [F46_eq, F60_eq, onSome_ok, clamp_a]
  generalize clampN a1 = K at hK
  simp only [aIf_if]
  by_cases h0 : K = 0
  · subst h0
    rw [if_pos (by simp), F47_parse hN, onSome_ok, if_pos rfl]
  · rw [if_neg (by simpa using h0), if_neg h0, F61_sgn, onSome_ok]
    generalize sgn l = r at hl
    obtain ⟨t, neg⟩ := r
    dsimp only at hl ⊢
    have e1 : IntKind.i64.wrap ((t.length : Int) - K) = (t.length : Int) - K := by rw [w64] <;> omega
    have e2 : IntKind.i64.wrap ((t.length : Int) - K - 1) = (t.length : Int) - K - 1 := by rw [w64] <;> omega
    simp only [Int.ofNat_eq_natCast, e1, e2, decide_eq_true_eq]
    unfold parseT
    by_cases h1 : t.length < K + 2
    · rw [if_pos (by omega), if_pos h1]
    · rw [if_neg (by omega), if_neg h1]
      obtain ⟨p, hp⟩ : ∃ p, t.length = p + K + 1 := ⟨t.length - K - 1, by omega⟩
      have hp1 : p < t.length := by omega
      have e3 : (t.length : Int) - K - 1 = (p : Int) := by omega
      have e4 : IntKind.i64.wrap ((p : Int) + 1) = ((p + 1 : Nat) : Int) := by rw [w64] <;> omega
      have e5 : t.length - K - 1 = p := by omega
      have e6 : t.length - K = p + 1 := by omega
      simp only [e3, e4, e5, e6, Nat.add_sub_cancel, onGet_nat hp1, Int.toNat_natCast, List.drop_zero, List.take_length]
      have g1 : (0 : Int) ≤ p := by omega
      have g2 : (p : Int) ≤ (t.length : Int) := by omega
      have g3 : (0 : Int) ≤ ((p + 1 : Nat) : Int) := by omega
      have g4 : ((p + 1 : Nat) : Int) ≤ (t.length : Int) := by omega
      have g5 : (t.take p).length + (t.drop (p + 1)).length ≤ 9223372036854775807 := by simp; omega
      simp only [aGd_if, decide_eq_true_eq, g1, g2, g3, g4, g5, if_true]
      rw [List.getElem?_eq_getElem hp1]
      have k1 : (t.take p).length < N := by rw [List.length_take]; omega
      have k2 : (t.drop (p + 1)).length < N := by rw [List.length_drop]; omega
      have k3 : (t.take p ++ t.drop (p + 1)).length < N := by rw [List.length_append, List.length_take, List.length_drop]; omega
      have k4 : (t.take p).length ≤ 1000000 := by rw [List.length_take]; omega
      have k5 : (t.drop (p + 1)).length ≤ 1000000 := by rw [List.length_drop]; omega
      have k6 : (t.take p ++ t.drop (p + 1)).length ≤ 1000000 := by rw [List.length_append, List.length_take, List.length_drop]; omega
      by_cases h2 : t[p] = 46
      · have h2' : (t[p].toNat : Int) = 46 := by rw [h2]; rfl
        have h2n : ¬ (some t[p] ≠ some 46) := by rw [h2]; simp
        rw [if_neg (by rw [h2']; decide), if_neg h2n, F62_all k1, onSome_ok]
        cases hn : isNum (t.take p) with
        | false => simp
        | true =>
          rw [F63_all k2, onSome_ok]
          cases hd : (t.drop (p + 1)).all dg with
          | false => simp
          | true =>
            have hall : (t.take p ++ t.drop (p + 1)).all dg = true := by rw [List.all_append, hd, isNum_all hn]; rfl
            rw [F64_conv k3 hall, onSome_ok]
            have hc := conv_zero (v := vl 0 (t.take p ++ t.drop (p + 1))) (neg := neg)
            by_cases h3 : vl 0 (t.take p ++ t.drop (p + 1)) = 0
            · obtain ⟨c1, c2⟩ := hc.2 h3
              cases neg <;> simp [h3, c1, c2] at * <;> simp [c1, c2, conv]
            · have : ¬ ((conv (vl 0 (t.take p ++ t.drop (p + 1))) neg).2 = 0 ∧ (conv (vl 0 (t.take p ++ t.drop (p + 1))) neg).1 = 0) := fun h => h3 (hc.1 h)
              generalize conv (vl 0 (t.take p ++ t.drop (p + 1))) neg = r at this
              obtain ⟨r1, r2⟩ := r
              dsimp only at this ⊢
              by_cases c : r2 = 0
              · have : ¬ r1 = 0 := fun h => this ⟨c, h⟩
                simp [c, this, h3]
              · simp [c, h3]
      · have h2' : ¬ (t[p].toNat : Int) = 46 := fun e => h2 (UInt8.toNat_inj.1 (by show t[p].toNat = 46; omega))
        rw [if_pos (by simpa using h2'), if_pos (by simpa using h2)]
theorem isNum_take {t : List UInt8} {p : Nat} (hp : 0 < p) (hl : p ≤ t.length) (hd1 : (t.take p).all dg = true) (h0 : 0 < t.length) : isNum (t.take p) = true ↔ ¬ (1 < p ∧ t[0] = 48) := by
  simp only [isNum, hd1, Bool.true_and, Bool.or_eq_true, Bool.and_eq_true, beq_iff_eq, bne_iff_ne]
  cases t with
  | nil => simp at h0
  | cons b t' =>
    obtain ⟨q, rfl⟩ : ∃ q, p = q + 1 := ⟨p - 1, by omega⟩
    simp only [List.take_succ_cons, List.getElem_cons_zero, List.head?_cons, ne_eq, Option.some.injEq, List.cons.injEq]
    have hlen : (t'.take q).length = q := by simp at hl; rw [List.length_take]; omega
    constructor
    · rintro (⟨rfl, h⟩ | ⟨_, h⟩) ⟨h3, h4⟩
      · rw [h] at hlen; simp at hlen; omega
      · exact h h4
    · intro h
      by_cases hb : b = 48
      · left
        have : q = 0 := by
          rcases Nat.eq_zero_or_pos q with h3 | h3
          · exact h3
          · exact absurd ⟨by omega, hb⟩ h
        subst this
        exact ⟨hb, by simp⟩
      · exact .inr ⟨by simp, hb⟩
end Go.Proofs.Ytmnedpfilckilaa
