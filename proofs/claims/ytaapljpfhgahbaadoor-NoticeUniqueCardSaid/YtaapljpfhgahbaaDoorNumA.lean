/- Plain laws of numtext: words and lines. -/
import Derived.Test.YtaapljpfhgahbaaDoorRd
import Derived.Test.YtaapljpfhgahbaaDoorRune
set_option linter.unusedSimpArgs false
set_option linter.unusedVariables false
namespace Go.Proofs.YtaapljpfhgahbaaDoor
open Go.RowKit

theorem b_eq {b : UInt8} {n : Nat} : (Int.ofNat b.toNat == (n : Int)) = decide (b.toNat = n) := by
  by_cases h : b.toNat = n
  · simp [h]
  · have : ¬ ((b.toNat : Int) = n) := by omega
    simp [h, this]

/-- One step of the reference's Fields. -/
theorem L62_step {N n : Nat} {a : List UInt8} {st : Int} {p : Nat} {out : List PV} (hN : a.length ≤ 5000) (hp : p < a.length) (h0 : -1 ≤ st) (h1 : st ≤ p) (ho : out.length ≤ p) :
    L62_4 N (n + 1) a st p out =
      if a[p].toNat = 32 ∨ a[p].toNat = 9 then (if 0 ≤ st then L62_4 N n a (-1) ((p + 1 : Nat) : Int) (out ++ [.str ((a.take p).drop st.toNat)]) else L62_4 N n a st ((p + 1 : Nat) : Int) out)
      else L62_4 N n a (if st < 0 then (p : Int) else st) ((p + 1 : Nat) : Int) out := by
  have e1 : IntKind.i64.wrap ((p : Int) + 1) = ((p + 1 : Nat) : Int) := by rw [w64] <;> omega
  have e2 : ¬ ((p : Int) = (a.length : Int)) := by omega
  have e3 : ((p : Int) ≤ (a.length : Int)) := by omega
  have e4 : (out.length + 1) * 17 ≤ 140737488355328 := by omega
  rw [L62_4_eq]
  simp only [aIf_if, aGd_if, onGet_nat hp, e1, Int.ofNat_eq_natCast, Int.toNat_natCast]
  by_cases h2 : a[p].toNat = 32
  · by_cases h3 : 0 ≤ st
    · simp [h2, h3, e2, e3, e4, h1]
    · simp [h2, h3, e2, e3, e4, h1]
  · by_cases h4 : a[p].toNat = 9
    · by_cases h3 : 0 ≤ st
      · simp [h2, h4, h3, e2, e3, e4, h1]
      · simp [h2, h4, h3, e2, e3, e4, h1]
    · have h5 : ¬ ((a[p].toNat : Int) = 32) := by omega
      have h6 : ¬ ((a[p].toNat : Int) = 9) := by omega
      by_cases h3 : st < 0
      · simp [h2, h4, h3, h5, h6, e2, e3, e4, h1]
      · simp [h2, h4, h3, h5, h6, e2, e3, e4, h1]
/-- Its end. -/
theorem L62_end {N n : Nat} {a : List UInt8} {st : Int} {out : List PV} (hN : a.length ≤ 5000) (h0 : -1 ≤ st) (h1 : st ≤ a.length) (ho : out.length ≤ a.length) :
    L62_4 N (n + 2) a st a.length out = some (if 0 ≤ st then out ++ [.str (a.drop st.toNat)] else out) := by
  have e1 : IntKind.i64.wrap ((a.length : Int) + 1) = ((a.length + 1 : Nat) : Int) := by rw [w64] <;> omega
  have e4 : (out.length + 1) * 17 ≤ 140737488355328 := by omega
  have last : ∀ st out, L62_4 N (n + 1) a st ((a.length + 1 : Nat) : Int) out = some out := fun st out => by
    rw [L62_4_eq]
    have : ¬ (((a.length + 1 : Nat) : Int) ≤ (a.length : Int)) := by omega
    simp only [aIf_if, Int.ofNat_eq_natCast]
    simp [this]
    omega
  rw [L62_4_eq]
  simp only [aIf_if, aGd_if, e1, Int.ofNat_eq_natCast, Int.toNat_natCast, last]
  by_cases h3 : 0 ≤ st
  · simp [h3, e4, h1]
  · simp [h3]

/-- Bytes of a rune that is not ASCII. -/
theorem L62_skip {N : Nat} {a : List UInt8} {out : List PV} (hN : a.length ≤ 5000) : ∀ (w n : Nat) (st : Int) (p : Nat), p + w ≤ a.length → -1 ≤ st → st ≤ p → out.length ≤ p →
    (∀ j (hj : j < a.length), p ≤ j → j < p + w → 128 ≤ a[j].toNat) → 1 ≤ w →
    L62_4 N (n + w) a st p out = L62_4 N n a (if st < 0 then (p : Int) else st) ((p + w : Nat) : Int) out
  | 0, n, st, p, _, _, _, _, _, h => by omega
  | w + 1, n, st, p, h1, h2, h3, h4, h5, _ => by
    have hb := h5 p (by omega) (by omega) (by omega)
    have hs := L62_step (N := N) (n := n + w) (out := out) hN (show p < a.length by omega) h2 h3 h4
    rw [if_neg (by omega)] at hs
    rw [show n + (w + 1) = n + w + 1 by omega, hs]
    rcases Nat.eq_zero_or_pos w with rfl | hw
    · rfl
    · have ih := L62_skip (N := N) (out := out) hN w n (if st < 0 then (p : Int) else st) (p + 1) (by omega) (by split <;> omega) (by split <;> omega) (by omega) (fun j hj g1 g2 => h5 j hj (by omega) (by omega)) hw
      rw [ih]
      have : (if (if st < 0 then (p : Int) else st) < 0 then ((p + 1 : Nat) : Int) else (if st < 0 then (p : Int) else st)) = if st < 0 then (p : Int) else st := by
        have h9 : ¬ ((p : Int) < 0) := by omega
        by_cases h : st < 0
        · rw [if_pos h, if_neg h9]
        · rw [if_neg h, if_neg h]
      rw [this, show p + 1 + w = p + (w + 1) by omega]

end Go.Proofs.YtaapljpfhgahbaaDoor
