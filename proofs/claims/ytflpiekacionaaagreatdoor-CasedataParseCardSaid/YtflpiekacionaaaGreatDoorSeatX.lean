/- Facts of this seat's dump, for its rows that list the library's tables (the pure reading's world). -/
import Derived.Test.YtflpiekacionaaaGreatDoorCards
import Derived.Test.YtflpiekacionaaaGreatDoorTie
import Derived.Test.YtflpiekacionaaaGreatDoorSeat
import Derived.Test.YtflpiekacionaaaGreatDoorLift
import Derived.Test.YtflpiekacionaaaGreatDoorExl
set_option linter.unusedSimpArgs false
set_option linter.unusedVariables false
namespace Go.Proofs.YtflpiekacionaaaGreatDoor
open Go.ChangeShapes Go.WideShapes Go.ChangeAt Go.RowKit

theorem Tryz.gd {W : World} {l : List (String × DataW Unit)} (h : laidMet Tryz.prog l W) (hm : ("internal/strconv.uint64pow10", Rows.laid_internal_strconv_uint64pow10) ∈ l) : Gd W :=
  tab_of_mem (g := 3) (t := 204) (e := 142) (n := 20) (by kernel_rfl) (by kernel_rfl) Tryz.underlying204 Tryz.underlying142 (by kernel_rfl) (by kernel_rfl) h hm
end Go.Proofs.YtflpiekacionaaaGreatDoor
