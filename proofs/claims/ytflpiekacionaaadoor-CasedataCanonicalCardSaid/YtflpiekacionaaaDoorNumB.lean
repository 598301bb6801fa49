/- Plain laws of numtext: lines. -/
import Derived.Test.YtflpiekacionaaaDoorNumA
set_option linter.unusedSimpArgs false
set_option linter.unusedVariables false
namespace Go.Proofs.YtflpiekacionaaaDoor
open Go.RowKit

theorem L48_step {N n : Nat} {a : List UInt8} {st : Int} {p : Nat} {out : List PV} (hN : a.length ≤ 65536) (hp : p < a.length) (h0 : 0 ≤ st) (h1 : st ≤ p) (ho : out.length ≤ p) :
    L48_6 N (n + 1) a st a p out =
      if (dec a p).1 = 10 then L48_6 N n a ((p + 1 : Nat) : Int) a (p + (dec a p).2) (out ++ [.str ((a.take p).drop st.toNat)])
      else if (dec a p).1 = 9 ∨ (32 ≤ (dec a p).1 ∧ (dec a p).1 ≤ 126) then L48_6 N n a st a (p + (dec a p).2) out else some ([], 2) := by
  have e1 : IntKind.i64.wrap ((p : Int) + 1) = ((p + 1 : Nat) : Int) := by rw [w64] <;> omega
  have e3 : ((p : Int) ≤ (a.length : Int)) := by omega
  have e4 : (out.length + 1) * 17 ≤ 140737488355328 := by omega
  rw [L48_6_eq]
  simp only [aIf_if, aGd_if, e1, Int.ofNat_eq_natCast, Int.toNat_natCast]
  rw [if_pos (by simpa using hp)]
  change (if ((dec a p).1 : Int) == 10 then (if _ then (if _ then (if _ then (if _ then L48_6 N n a _ a (p + (dec a p).2) _ else _) else _) else _) else _)
    else (if ((dec a p).1 : Int) != 9 then (if decide (((dec a p).1 : Int) < 32) = true then _ else (if decide (126 < ((dec a p).1 : Int)) = true then _ else L48_6 N n a st a (p + (dec a p).2) out)) else L48_6 N n a st a (p + (dec a p).2) out)) = _
  generalize (dec a p).1 = k
  generalize p + (dec a p).2 = q
  by_cases h2 : k = 10
  · subst h2; simp [e3, e4, h0, h1]
  · by_cases h3 : k = 9
    · subst h3; simp
    · have g2 : ¬ ((k : Int) = 10) := by omega
      have g3 : ¬ ((k : Int) = 9) := by omega
      by_cases h4 : k < 32
      · have g4 : (k : Int) < 32 := by omega
        have g5 : ¬ (32 ≤ k) := by omega
        simp [h2, h3, g2, g3, g4, g5]
      · have g4 : ¬ (k : Int) < 32 := by omega
        have g5 : 32 ≤ k := by omega
        by_cases h6 : k ≤ 126
        · have g6 : ¬ (126 : Int) < k := by omega
          simp [h2, h3, g2, g3, g4, g5, h6, g6]
        · have g6 : (126 : Int) < k := by omega
          simp [h2, h3, g2, g3, g4, g5, h6, g6]
theorem L48_end {N n : Nat} {a : List UInt8} {st : Int} {out : List PV} :
    L48_6 N (n + 1) a st a a.length out = some (if st = a.length then (out, 0) else ([], 2)) := by
  rw [L48_6_eq]
  simp only [aIf_if, aGd_if, Int.ofNat_eq_natCast]
  by_cases h : st = a.length
  · subst h; simp
  · simp [h]
end Go.Proofs.YtflpiekacionaaaDoor
