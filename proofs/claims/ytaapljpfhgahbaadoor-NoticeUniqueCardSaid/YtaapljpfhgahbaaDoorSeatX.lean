/- Facts of this seat's dump, for its rows that list the library's tables (the pure reading's world). -/
import Derived.Test.YtaapljpfhgahbaaDoorCards
import Derived.Test.YtaapljpfhgahbaaDoorTie
import Derived.Test.YtaapljpfhgahbaaDoorSeat
import Derived.Test.YtaapljpfhgahbaaDoorLift
import Derived.Test.YtaapljpfhgahbaaDoorExl
set_option linter.unusedSimpArgs false
set_option linter.unusedVariables false
namespace Go.Proofs.YtaapljpfhgahbaaDoor
open Go.ChangeShapes Go.WideShapes Go.ChangeAt Go.RowKit

theorem Tryd.gd {W : World} {l : List (String × DataW Unit)} (h : laidMet Tryd.prog l W) (hm : ("internal/strconv.uint64pow10", Rows.laid_internal_strconv_uint64pow10) ∈ l) : Gd W :=
  tab_of_mem (g := 1) (t := 130) (e := 83) (n := 20) (by kernel_rfl) (by kernel_rfl) Tryd.underlying130 Tryd.underlying83 (by kernel_rfl) (by kernel_rfl) h hm
end Go.Proofs.YtaapljpfhgahbaaDoor
