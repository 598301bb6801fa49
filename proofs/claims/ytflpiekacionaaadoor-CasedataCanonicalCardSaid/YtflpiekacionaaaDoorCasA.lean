/- The data of cases and laws as pure values; small laws and cases; plainly. -/
import Derived.Test.YtflpiekacionaaaDoorValC
import Derived.Test.YtflpiekacionaaaDoorNotA
set_option linter.unusedSimpArgs false
set_option linter.unusedVariables false
namespace Go.Proofs.YtflpiekacionaaaDoor
open Go.RowKit

abbrev ValT := Int × Int × Int
def valPV (v : ValT) : PV := .agg [.int .i64 v.1, .int .i64 v.2.1, .int .i64 v.2.2]
abbrev FldT := List UInt8 × Int × Int
def fldPV (f : FldT) : PV := .agg [.str f.1, .int .i64 f.2.1, .int .i64 f.2.2]
abbrev RulT := List UInt8 × (Int × Int × Int × Int × Int) × List PV × List PV × List UInt8
def rulPV (r : RulT) : PV := .agg [.str r.1, .int .i64 r.2.1.1, .int .i64 r.2.1.2.1, .int .i64 r.2.1.2.2.1, .int .i64 r.2.1.2.2.2.1, .int .i64 r.2.1.2.2.2.2, .sl 2 r.2.2.1, .sl 2 r.2.2.2.1, .str r.2.2.2.2]
abbrev ScT := List UInt8 × Int × List FldT × List FldT × List RulT
def scPV (s : ScT) : PV := .agg [.str s.1, .int .i64 s.2.1, .sl 3 (s.2.2.1.map fldPV), .sl 3 (s.2.2.2.1.map fldPV), .sl 9 (s.2.2.2.2.map rulPV)]
abbrev TabT := List UInt8 × (Int × Int × Int × Int) × List PV
def tabPV (t : TabT) : PV := .agg [.str t.1, .int .i64 t.2.1.1, .int .i64 t.2.1.2.1, .int .i64 t.2.1.2.2.1, .int .i64 t.2.1.2.2.2, .sl 5 t.2.2]
abbrev LawT := List EnT × List TabT × List ScT
abbrev CasT := Int × List ValT × List (List ValT)
def memPV (l : List ValT) : PV := .sl 3 (l.map valPV)
/-- The law and the case as the functions' arguments. -/
def lawA (l : LawT) : List PV × List PV × List PV := (ensPV l.1, l.2.1.map tabPV, l.2.2.map scPV)
def casA (c : CasT) : Int × List PV × List PV := (c.1, c.2.1.map valPV, c.2.2.map memPV)
end Go.Proofs.YtflpiekacionaaaDoor
