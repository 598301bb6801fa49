/-
  No cell of these rows narrows 'for every input' (looked for: loops, veiled, ifaces, maps, wideKeys, modest, calm, conditions, laid).
  DERIVED. THE GIVEN ROWS OF THIS SEAT. 9 by the template 'for every input the law returns true; each argument reads behind the call as it read before'; 0 by the template 'total and deterministic' (their statements: YthalkfjbgldgbaaTotals.lean).
  GIVEN WITH THE SEED: the statements are not yours to turn. If you find one false, say at which input.
  Laid BY PROGRAM, IN A SANDBOX (cutbox-rows.mjs): the forced cells as the released guide's own fill.sh prints them over the translation ea5a942aef45e55b… (all of the seat's roots in one cut). By AI agents, Wed Nov 11 2026. No macro, syntax, notation, axiom, sorry.
-/
import Derived.Test.YthalkfjbgldgbaaChecked
import GoSem.Claim
import GoSem.ClaimJoined
import GoSem.ClaimMapViews
import Derived.JoinedTies
import Derived.KernelRfl
namespace Go.Proofs.Ythalkfjbgldgbaa
/- THE CELL 'sum', in the pinned program and in every row, IS THE sha256 OF THE DUMP (.gsa) THAT YthalkfjbgldgbaaProg.lean LOADS. Nothing in Lean hashes anything: it is a label: what it is worth is what the hold of that sum in a sandbox is worth. -/
noncomputable def Try.pinned : Pinned := { name := "ythalkfjbgldgbaa", sum := "ea5a942aef45e55b7e93a1632a9aec82e761c510e8541e4f3cfa5c0362b2a416", checked := Try.checked }
namespace Rows
def none {H : Type} : Left H := { results := [], args := [] }

/-- 'guerdonlaw06.WorkdayNext': WHATEVER THE INPUT: true; the input reads as it did. -/
def workdayNextSpec : ChangeSpec := { name := "workdayNext", fn := fun _ => fun
  | [d1, d2] => { results := [.lit (.bool true)], args := [d1, d2] }
  | _ => none }
def workdayNextRow : OpenClaim := { program := "ythalkfjbgldgbaa", sum := "ea5a942aef45e55b7e93a1632a9aec82e761c510e8541e4f3cfa5c0362b2a416", func := "guerdon/guerdonlaw06.WorkdayNext", spec := "workdayNext", apart := false }
def WorkdayNextSaid : Prop := workdayNextRow.holds Try.pinned (OpenSpec.ofChange workdayNextSpec)

/-- ITS FALSE NEIGHBOUR: 'it returns false'. Refute it at one input. -/
def workdayNextWrong : ChangeSpec := { name := "workdayNext", fn := fun _ => fun
  | [d1, d2] => { results := [.lit (.bool false)], args := [d1, d2] }
  | _ => none }
def WorkdayNextWrongFalsely : Prop := workdayNextRow.holds Try.pinned (OpenSpec.ofChange workdayNextWrong)

/-- 'guerdonlaw06.WorkdayAdd': WHATEVER THE INPUT: true; the input reads as it did. -/
def workdayAddSpec : ChangeSpec := { name := "workdayAdd", fn := fun _ => fun
  | [d1, d2, d3] => { results := [.lit (.bool true)], args := [d1, d2, d3] }
  | _ => none }
def workdayAddRow : OpenClaim := { program := "ythalkfjbgldgbaa", sum := "ea5a942aef45e55b7e93a1632a9aec82e761c510e8541e4f3cfa5c0362b2a416", func := "guerdon/guerdonlaw06.WorkdayAdd", spec := "workdayAdd", apart := false }
def WorkdayAddSaid : Prop := workdayAddRow.holds Try.pinned (OpenSpec.ofChange workdayAddSpec)

/-- ITS FALSE NEIGHBOUR: 'it returns false'. Refute it at one input. -/
def workdayAddWrong : ChangeSpec := { name := "workdayAdd", fn := fun _ => fun
  | [d1, d2, d3] => { results := [.lit (.bool false)], args := [d1, d2, d3] }
  | _ => none }
def WorkdayAddWrongFalsely : Prop := workdayAddRow.holds Try.pinned (OpenSpec.ofChange workdayAddWrong)

/-- 'guerdonlaw06.WorkdayRange': WHATEVER THE INPUT: true; the input reads as it did. -/
def workdayRangeSpec : ChangeSpec := { name := "workdayRange", fn := fun _ => fun
  | [d1, d2] => { results := [.lit (.bool true)], args := [d1, d2] }
  | _ => none }
def workdayRangeRow : OpenClaim := { program := "ythalkfjbgldgbaa", sum := "ea5a942aef45e55b7e93a1632a9aec82e761c510e8541e4f3cfa5c0362b2a416", func := "guerdon/guerdonlaw06.WorkdayRange", spec := "workdayRange", apart := false }
def WorkdayRangeSaid : Prop := workdayRangeRow.holds Try.pinned (OpenSpec.ofChange workdayRangeSpec)

/-- ITS FALSE NEIGHBOUR: 'it returns false'. Refute it at one input. -/
def workdayRangeWrong : ChangeSpec := { name := "workdayRange", fn := fun _ => fun
  | [d1, d2] => { results := [.lit (.bool false)], args := [d1, d2] }
  | _ => none }
def WorkdayRangeWrongFalsely : Prop := workdayRangeRow.holds Try.pinned (OpenSpec.ofChange workdayRangeWrong)

/-- 'guerdonlaw06.WorkdayCount': WHATEVER THE INPUT: true; the input reads as it did. -/
def workdayCountSpec : ChangeSpec := { name := "workdayCount", fn := fun _ => fun
  | [d1, d2, d3] => { results := [.lit (.bool true)], args := [d1, d2, d3] }
  | _ => none }
def workdayCountRow : OpenClaim := { program := "ythalkfjbgldgbaa", sum := "ea5a942aef45e55b7e93a1632a9aec82e761c510e8541e4f3cfa5c0362b2a416", func := "guerdon/guerdonlaw06.WorkdayCount", spec := "workdayCount", apart := false }
def WorkdayCountSaid : Prop := workdayCountRow.holds Try.pinned (OpenSpec.ofChange workdayCountSpec)

/-- ITS FALSE NEIGHBOUR: 'it returns false'. Refute it at one input. -/
def workdayCountWrong : ChangeSpec := { name := "workdayCount", fn := fun _ => fun
  | [d1, d2, d3] => { results := [.lit (.bool false)], args := [d1, d2, d3] }
  | _ => none }
def WorkdayCountWrongFalsely : Prop := workdayCountRow.holds Try.pinned (OpenSpec.ofChange workdayCountWrong)

/-- 'guerdonlaw06.WorkdayAdditive': WHATEVER THE INPUT: true; the input reads as it did. -/
def workdayAdditiveSpec : ChangeSpec := { name := "workdayAdditive", fn := fun _ => fun
  | [d1, d2, d3, d4] => { results := [.lit (.bool true)], args := [d1, d2, d3, d4] }
  | _ => none }
def workdayAdditiveRow : OpenClaim := { program := "ythalkfjbgldgbaa", sum := "ea5a942aef45e55b7e93a1632a9aec82e761c510e8541e4f3cfa5c0362b2a416", func := "guerdon/guerdonlaw06.WorkdayAdditive", spec := "workdayAdditive", apart := false }
def WorkdayAdditiveSaid : Prop := workdayAdditiveRow.holds Try.pinned (OpenSpec.ofChange workdayAdditiveSpec)

/-- ITS FALSE NEIGHBOUR: 'it returns false'. Refute it at one input. -/
def workdayAdditiveWrong : ChangeSpec := { name := "workdayAdditive", fn := fun _ => fun
  | [d1, d2, d3, d4] => { results := [.lit (.bool false)], args := [d1, d2, d3, d4] }
  | _ => none }
def WorkdayAdditiveWrongFalsely : Prop := workdayAdditiveRow.holds Try.pinned (OpenSpec.ofChange workdayAdditiveWrong)

/-- 'guerdonlaw41.AppealFiles': WHATEVER THE INPUT: true; the input reads as it did. -/
def appealFilesSpec : ChangeSpec := { name := "appealFiles", fn := fun _ => fun
  | [d1, d2] => { results := [.lit (.bool true)], args := [d1, d2] }
  | _ => none }
def appealFilesRow : OpenClaim := { program := "ythalkfjbgldgbaa", sum := "ea5a942aef45e55b7e93a1632a9aec82e761c510e8541e4f3cfa5c0362b2a416", func := "guerdon/guerdonlaw41.AppealFiles", spec := "appealFiles", apart := false }
def AppealFilesSaid : Prop := appealFilesRow.holds Try.pinned (OpenSpec.ofChange appealFilesSpec)

/-- ITS FALSE NEIGHBOUR: 'it returns false'. Refute it at one input. -/
def appealFilesWrong : ChangeSpec := { name := "appealFiles", fn := fun _ => fun
  | [d1, d2] => { results := [.lit (.bool false)], args := [d1, d2] }
  | _ => none }
def AppealFilesWrongFalsely : Prop := appealFilesRow.holds Try.pinned (OpenSpec.ofChange appealFilesWrong)

/-- 'guerdonlaw41.AppealTransitions': WHATEVER THE INPUT: true; the input reads as it did. -/
def appealTransitionsSpec : ChangeSpec := { name := "appealTransitions", fn := fun _ => fun
  | [d1, d2, d3, d4] => { results := [.lit (.bool true)], args := [d1, d2, d3, d4] }
  | _ => none }
def appealTransitionsRow : OpenClaim := { program := "ythalkfjbgldgbaa", sum := "ea5a942aef45e55b7e93a1632a9aec82e761c510e8541e4f3cfa5c0362b2a416", func := "guerdon/guerdonlaw41.AppealTransitions", spec := "appealTransitions", apart := false }
def AppealTransitionsSaid : Prop := appealTransitionsRow.holds Try.pinned (OpenSpec.ofChange appealTransitionsSpec)

/-- ITS FALSE NEIGHBOUR: 'it returns false'. Refute it at one input. -/
def appealTransitionsWrong : ChangeSpec := { name := "appealTransitions", fn := fun _ => fun
  | [d1, d2, d3, d4] => { results := [.lit (.bool false)], args := [d1, d2, d3, d4] }
  | _ => none }
def AppealTransitionsWrongFalsely : Prop := appealTransitionsRow.holds Try.pinned (OpenSpec.ofChange appealTransitionsWrong)

/-- 'guerdonlaw41.AppealFinal': WHATEVER THE INPUT: true; the input reads as it did. -/
def appealFinalSpec : ChangeSpec := { name := "appealFinal", fn := fun _ => fun
  | [d1, d2, d3, d4] => { results := [.lit (.bool true)], args := [d1, d2, d3, d4] }
  | _ => none }
def appealFinalRow : OpenClaim := { program := "ythalkfjbgldgbaa", sum := "ea5a942aef45e55b7e93a1632a9aec82e761c510e8541e4f3cfa5c0362b2a416", func := "guerdon/guerdonlaw41.AppealFinal", spec := "appealFinal", apart := false }
def AppealFinalSaid : Prop := appealFinalRow.holds Try.pinned (OpenSpec.ofChange appealFinalSpec)

/-- ITS FALSE NEIGHBOUR: 'it returns false'. Refute it at one input. -/
def appealFinalWrong : ChangeSpec := { name := "appealFinal", fn := fun _ => fun
  | [d1, d2, d3, d4] => { results := [.lit (.bool false)], args := [d1, d2, d3, d4] }
  | _ => none }
def AppealFinalWrongFalsely : Prop := appealFinalRow.holds Try.pinned (OpenSpec.ofChange appealFinalWrong)

/-- 'guerdonlaw41.AppealFresh': WHATEVER THE INPUT: true; the input reads as it did. -/
def appealFreshSpec : ChangeSpec := { name := "appealFresh", fn := fun _ => fun
  | [d1, d2] => { results := [.lit (.bool true)], args := [d1, d2] }
  | _ => none }
def appealFreshRow : OpenClaim := { program := "ythalkfjbgldgbaa", sum := "ea5a942aef45e55b7e93a1632a9aec82e761c510e8541e4f3cfa5c0362b2a416", func := "guerdon/guerdonlaw41.AppealFresh", spec := "appealFresh", apart := false }
def AppealFreshSaid : Prop := appealFreshRow.holds Try.pinned (OpenSpec.ofChange appealFreshSpec)

/-- ITS FALSE NEIGHBOUR: 'it returns false'. Refute it at one input. -/
def appealFreshWrong : ChangeSpec := { name := "appealFresh", fn := fun _ => fun
  | [d1, d2] => { results := [.lit (.bool false)], args := [d1, d2] }
  | _ => none }
def AppealFreshWrongFalsely : Prop := appealFreshRow.holds Try.pinned (OpenSpec.ofChange appealFreshWrong)

/- THE SECOND FORM. 'bulk': how many values and letters a reading holds, each counted each time it is reached (what is shared counts as often as it is met; a slice's spare places count too). A statement '..UptoSaid' is the law's where the arguments, and the package variables that the reading takes, are together of bulk at most 1048576: NARROWER than '..Said'. Prove '..Said' where nothing that the law and all that it calls make is longer than what came in: it says more and counts as full. Else prove '..UptoSaid'. A law counts once. -/
mutual
def uptoBulk {H : Type} : DataW H → Nat
  | .lit (.string bytes) => bytes.length + 1
  | .lit _ => 1
  | .nil => 1
  | .ptr d => uptoBulk d + 1
  | .slice elems spare => uptoBulkAll elems + uptoBulkAll spare + 1
  | .agg parts => uptoBulkAll parts + 1
  | .iface _ d => uptoBulk d + 1
  | .map entries => uptoBulkEntries entries + 1
  | .held _ => 1
def uptoBulkAll {H : Type} : List (DataW H) → Nat
  | [] => 0
  | d :: r => uptoBulk d + uptoBulkAll r
def uptoBulkEntries {H : Type} : List (Lit × DataW H) → Nat
  | [] => 0
  | x :: r => uptoBulkEntry x + uptoBulkEntries r
def uptoBulkEntry {H : Type} : Lit × DataW H → Nat
  | (.string bytes, d) => bytes.length + uptoBulk d + 1
  | (_, d) => uptoBulk d + 1
 end
def uptoSmall : (H : Type) → List (DataW H) → Bool := fun _ ds => decide (uptoBulkAll ds ≤ 1048576)
def OpenSpec.upto (s : _root_.Go.ChangeSpec) : _root_.Go.OpenSpec := { _root_.Go.OpenSpec.ofChange s with cond := some uptoSmall }

/-- 'guerdonlaw06.WorkdayNext', WHERE WHAT IT READS IS OF BULK AT MOST 1048576: true; the input reads as it did. -/
def workdayNextUptoRow : OpenClaim := { program := "ythalkfjbgldgbaa", sum := "ea5a942aef45e55b7e93a1632a9aec82e761c510e8541e4f3cfa5c0362b2a416", func := "guerdon/guerdonlaw06.WorkdayNext", spec := "workdayNext", apart := false, narrowed := true }
def WorkdayNextUptoSaid : Prop := workdayNextUptoRow.holds Try.pinned (OpenSpec.upto workdayNextSpec)

/-- 'guerdonlaw06.WorkdayAdd', WHERE WHAT IT READS IS OF BULK AT MOST 1048576: true; the input reads as it did. -/
def workdayAddUptoRow : OpenClaim := { program := "ythalkfjbgldgbaa", sum := "ea5a942aef45e55b7e93a1632a9aec82e761c510e8541e4f3cfa5c0362b2a416", func := "guerdon/guerdonlaw06.WorkdayAdd", spec := "workdayAdd", apart := false, narrowed := true }
def WorkdayAddUptoSaid : Prop := workdayAddUptoRow.holds Try.pinned (OpenSpec.upto workdayAddSpec)

/-- 'guerdonlaw06.WorkdayRange', WHERE WHAT IT READS IS OF BULK AT MOST 1048576: true; the input reads as it did. -/
def workdayRangeUptoRow : OpenClaim := { program := "ythalkfjbgldgbaa", sum := "ea5a942aef45e55b7e93a1632a9aec82e761c510e8541e4f3cfa5c0362b2a416", func := "guerdon/guerdonlaw06.WorkdayRange", spec := "workdayRange", apart := false, narrowed := true }
def WorkdayRangeUptoSaid : Prop := workdayRangeUptoRow.holds Try.pinned (OpenSpec.upto workdayRangeSpec)

/-- 'guerdonlaw06.WorkdayCount', WHERE WHAT IT READS IS OF BULK AT MOST 1048576: true; the input reads as it did. -/
def workdayCountUptoRow : OpenClaim := { program := "ythalkfjbgldgbaa", sum := "ea5a942aef45e55b7e93a1632a9aec82e761c510e8541e4f3cfa5c0362b2a416", func := "guerdon/guerdonlaw06.WorkdayCount", spec := "workdayCount", apart := false, narrowed := true }
def WorkdayCountUptoSaid : Prop := workdayCountUptoRow.holds Try.pinned (OpenSpec.upto workdayCountSpec)

/-- 'guerdonlaw06.WorkdayAdditive', WHERE WHAT IT READS IS OF BULK AT MOST 1048576: true; the input reads as it did. -/
def workdayAdditiveUptoRow : OpenClaim := { program := "ythalkfjbgldgbaa", sum := "ea5a942aef45e55b7e93a1632a9aec82e761c510e8541e4f3cfa5c0362b2a416", func := "guerdon/guerdonlaw06.WorkdayAdditive", spec := "workdayAdditive", apart := false, narrowed := true }
def WorkdayAdditiveUptoSaid : Prop := workdayAdditiveUptoRow.holds Try.pinned (OpenSpec.upto workdayAdditiveSpec)

/-- 'guerdonlaw41.AppealFiles', WHERE WHAT IT READS IS OF BULK AT MOST 1048576: true; the input reads as it did. -/
def appealFilesUptoRow : OpenClaim := { program := "ythalkfjbgldgbaa", sum := "ea5a942aef45e55b7e93a1632a9aec82e761c510e8541e4f3cfa5c0362b2a416", func := "guerdon/guerdonlaw41.AppealFiles", spec := "appealFiles", apart := false, narrowed := true }
def AppealFilesUptoSaid : Prop := appealFilesUptoRow.holds Try.pinned (OpenSpec.upto appealFilesSpec)

/-- 'guerdonlaw41.AppealTransitions', WHERE WHAT IT READS IS OF BULK AT MOST 1048576: true; the input reads as it did. -/
def appealTransitionsUptoRow : OpenClaim := { program := "ythalkfjbgldgbaa", sum := "ea5a942aef45e55b7e93a1632a9aec82e761c510e8541e4f3cfa5c0362b2a416", func := "guerdon/guerdonlaw41.AppealTransitions", spec := "appealTransitions", apart := false, narrowed := true }
def AppealTransitionsUptoSaid : Prop := appealTransitionsUptoRow.holds Try.pinned (OpenSpec.upto appealTransitionsSpec)

/-- 'guerdonlaw41.AppealFinal', WHERE WHAT IT READS IS OF BULK AT MOST 1048576: true; the input reads as it did. -/
def appealFinalUptoRow : OpenClaim := { program := "ythalkfjbgldgbaa", sum := "ea5a942aef45e55b7e93a1632a9aec82e761c510e8541e4f3cfa5c0362b2a416", func := "guerdon/guerdonlaw41.AppealFinal", spec := "appealFinal", apart := false, narrowed := true }
def AppealFinalUptoSaid : Prop := appealFinalUptoRow.holds Try.pinned (OpenSpec.upto appealFinalSpec)

/-- 'guerdonlaw41.AppealFresh', WHERE WHAT IT READS IS OF BULK AT MOST 1048576: true; the input reads as it did. -/
def appealFreshUptoRow : OpenClaim := { program := "ythalkfjbgldgbaa", sum := "ea5a942aef45e55b7e93a1632a9aec82e761c510e8541e4f3cfa5c0362b2a416", func := "guerdon/guerdonlaw41.AppealFresh", spec := "appealFresh", apart := false, narrowed := true }
def AppealFreshUptoSaid : Prop := appealFreshUptoRow.holds Try.pinned (OpenSpec.upto appealFreshSpec)

end Rows
end Go.Proofs.Ythalkfjbgldgbaa
