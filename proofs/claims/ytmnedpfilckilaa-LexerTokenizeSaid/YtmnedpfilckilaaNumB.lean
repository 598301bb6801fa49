/- Plain laws of numtext: lines. -/
import Derived.Test.YtmnedpfilckilaaNumA
set_option linter.unusedSimpArgs false
set_option linter.unusedVariables false
namespace Go.Proofs.Ytmnedpfilckilaa
open Go.RowKit

end Go.Proofs.Ytmnedpfilckilaa
