/- Facts of this seat's dump, for its rows that list the library's tables (the pure reading's world). -/
import Derived.Test.YtfhlignhdnhmlaaDoorCards
import Derived.Test.YtfhlignhdnhmlaaDoorTie
import Derived.Test.YtfhlignhdnhmlaaDoorSeat
import Derived.Test.YtfhlignhdnhmlaaDoorLift
import Derived.Test.YtfhlignhdnhmlaaDoorExl
set_option linter.unusedSimpArgs false
set_option linter.unusedVariables false
namespace Go.Proofs.YtfhlignhdnhmlaaDoor
open Go.ChangeShapes Go.WideShapes Go.ChangeAt Go.RowKit

theorem Tryd.gd {W : World} {l : List (String × DataW Unit)} (h : laidMet Tryd.prog l W) (hm : ("internal/strconv.uint64pow10", Rows.laid_internal_strconv_uint64pow10) ∈ l) : Gd W :=
  tab_of_mem (g := 0) (t := 95) (e := 61) (n := 20) (by kernel_rfl) (by kernel_rfl) Tryd.underlying95 Tryd.underlying61 (by kernel_rfl) (by kernel_rfl) h hm
end Go.Proofs.YtfhlignhdnhmlaaDoor
