/- Plain laws of numtext: lines. -/
import Derived.Test.YtaapljpfhgahbaaDoorNumA
set_option linter.unusedSimpArgs false
set_option linter.unusedVariables false
namespace Go.Proofs.YtaapljpfhgahbaaDoor
open Go.RowKit

end Go.Proofs.YtaapljpfhgahbaaDoor
