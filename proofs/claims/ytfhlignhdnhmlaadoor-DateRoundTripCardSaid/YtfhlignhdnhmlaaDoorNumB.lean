/- Plain laws of numtext: lines. -/
import Derived.Test.YtfhlignhdnhmlaaDoorNumA
set_option linter.unusedSimpArgs false
set_option linter.unusedVariables false
namespace Go.Proofs.YtfhlignhdnhmlaaDoor
open Go.RowKit

end Go.Proofs.YtfhlignhdnhmlaaDoor
