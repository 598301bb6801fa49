/- Plain laws of numtext: words and lines. -/
import Derived.Test.YtflpiekacionaaaDoorRd
import Derived.Test.YtflpiekacionaaaDoorRune
set_option linter.unusedSimpArgs false
set_option linter.unusedVariables false
namespace Go.Proofs.YtflpiekacionaaaDoor
open Go.RowKit

theorem b_eq {b : UInt8} {n : Nat} : (Int.ofNat b.toNat == (n : Int)) = decide (b.toNat = n) := by
  by_cases h : b.toNat = n
  · simp [h]
  · have : ¬ ((b.toNat : Int) = n) := by omega
    simp [h, this]

end Go.Proofs.YtflpiekacionaaaDoor
