/- Plain laws of numtext: words and lines. -/
import Derived.Test.YtmnedpfilckilaaRd
import Derived.Test.YtmnedpfilckilaaRune
set_option linter.unusedSimpArgs false
set_option linter.unusedVariables false
namespace Go.Proofs.Ytmnedpfilckilaa
open Go.RowKit

theorem b_eq {b : UInt8} {n : Nat} : (Int.ofNat b.toNat == (n : Int)) = decide (b.toNat = n) := by
  by_cases h : b.toNat = n
  · simp [h]
  · have : ¬ ((b.toNat : Int) = n) := by omega
    simp [h, this]

end Go.Proofs.Ytmnedpfilckilaa
