/- Facts of this seat's dump, for its rows that list the library's tables (the pure reading's world). -/
import Derived.Test.YtflpiekacionaaaDoorCards
import Derived.Test.YtflpiekacionaaaDoorTie
import Derived.Test.YtflpiekacionaaaDoorSeat
import Derived.Test.YtflpiekacionaaaDoorLift
import Derived.Test.YtflpiekacionaaaDoorExl
set_option linter.unusedSimpArgs false
set_option linter.unusedVariables false
namespace Go.Proofs.YtflpiekacionaaaDoor
open Go.ChangeShapes Go.WideShapes Go.ChangeAt Go.RowKit

theorem Tryd.gd {W : World} {l : List (String × DataW Unit)} (h : laidMet Tryd.prog l W) (hm : ("internal/strconv.uint64pow10", Rows.laid_internal_strconv_uint64pow10) ∈ l) : Gd W :=
  tab_of_mem (g := 3) (t := 200) (e := 128) (n := 20) (by kernel_rfl) (by kernel_rfl) Tryd.underlying200 Tryd.underlying128 (by kernel_rfl) (by kernel_rfl) h hm
end Go.Proofs.YtflpiekacionaaaDoor
