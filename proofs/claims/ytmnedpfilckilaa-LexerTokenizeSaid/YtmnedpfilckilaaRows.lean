/-
  No cell of these rows narrows 'for every input' (looked for: loops, veiled, ifaces, maps, wideKeys, modest, calm, conditions, laid).
  DERIVED. THE GIVEN ROWS OF THIS SEAT. 5 by the template 'for every input the law returns true; each argument reads behind the call as it read before'; 0 by the template 'total and deterministic' (their statements: YtmnedpfilckilaaTotals.lean).
  GIVEN WITH THE SEED: the statements are not yours to turn. If you find one false, say at which input.
  Laid BY PROGRAM, IN A SANDBOX (cutbox-rows.mjs): the forced cells as the released guide's own fill.sh prints them over the translation c0e5643a65b7698f… (all of the seat's roots in one cut). By AI agents, Wed Nov 11 2026. No macro, syntax, notation, axiom, sorry.
-/
import Derived.Test.YtmnedpfilckilaaChecked
import GoSem.Claim
import GoSem.ClaimJoined
import GoSem.ClaimMapViews
import Derived.JoinedTies
import Derived.KernelRfl
namespace Go.Proofs.Ytmnedpfilckilaa
/- THE CELL 'sum', in the pinned program and in every row, IS THE sha256 OF THE DUMP (.gsa) THAT YtmnedpfilckilaaProg.lean LOADS. Nothing in Lean hashes anything: it is a label: what it is worth is what the hold of that sum in a sandbox is worth. -/
noncomputable def Try.pinned : Pinned := { name := "ytmnedpfilckilaa", sum := "c0e5643a65b7698f5643276a8aaebe0ece26128b6a3dac210c3c7ca19cb31472", checked := Try.checked }
namespace Rows
def none {H : Type} : Left H := { results := [], args := [] }

/-- 'guerdonlaw08.LexerTokenize': WHATEVER THE INPUT: true; the input reads as it did. -/
def lexerTokenizeSpec : ChangeSpec := { name := "lexerTokenize", fn := fun _ => fun
  | [d] => { results := [.lit (.bool true)], args := [d] }
  | _ => none }
def lexerTokenizeRow : OpenClaim := { program := "ytmnedpfilckilaa", sum := "c0e5643a65b7698f5643276a8aaebe0ece26128b6a3dac210c3c7ca19cb31472", func := "guerdon/guerdonlaw08.LexerTokenize", spec := "lexerTokenize", inPlace := ["internal/bytealg.IndexByteString", "internal/bytealg.IndexString"], unfollowed := true, recurses := true, named := ["internal/bytealg.MaxLen"], apart := false }
def LexerTokenizeSaid : Prop := lexerTokenizeRow.holds Try.pinned (OpenSpec.ofChange lexerTokenizeSpec)

/-- ITS FALSE NEIGHBOUR: 'it returns false'. Refute it at one input. -/
def lexerTokenizeWrong : ChangeSpec := { name := "lexerTokenize", fn := fun _ => fun
  | [d] => { results := [.lit (.bool false)], args := [d] }
  | _ => none }
def LexerTokenizeWrongFalsely : Prop := lexerTokenizeRow.holds Try.pinned (OpenSpec.ofChange lexerTokenizeWrong)

/-- 'guerdonlaw08.LexerIdentifier': WHATEVER THE INPUT: true; the input reads as it did. -/
def lexerIdentifierSpec : ChangeSpec := { name := "lexerIdentifier", fn := fun _ => fun
  | [d] => { results := [.lit (.bool true)], args := [d] }
  | _ => none }
def lexerIdentifierRow : OpenClaim := { program := "ytmnedpfilckilaa", sum := "c0e5643a65b7698f5643276a8aaebe0ece26128b6a3dac210c3c7ca19cb31472", func := "guerdon/guerdonlaw08.LexerIdentifier", spec := "lexerIdentifier", inPlace := ["internal/bytealg.IndexByteString", "internal/bytealg.IndexString"], unfollowed := true, recurses := true, named := ["internal/bytealg.MaxLen"], apart := false }
def LexerIdentifierSaid : Prop := lexerIdentifierRow.holds Try.pinned (OpenSpec.ofChange lexerIdentifierSpec)

/-- ITS FALSE NEIGHBOUR: 'it returns false'. Refute it at one input. -/
def lexerIdentifierWrong : ChangeSpec := { name := "lexerIdentifier", fn := fun _ => fun
  | [d] => { results := [.lit (.bool false)], args := [d] }
  | _ => none }
def LexerIdentifierWrongFalsely : Prop := lexerIdentifierRow.holds Try.pinned (OpenSpec.ofChange lexerIdentifierWrong)

/-- 'guerdonlaw08.LexerOffsets': WHATEVER THE INPUT: true; the input reads as it did. -/
def lexerOffsetsSpec : ChangeSpec := { name := "lexerOffsets", fn := fun _ => fun
  | [d] => { results := [.lit (.bool true)], args := [d] }
  | _ => none }
def lexerOffsetsRow : OpenClaim := { program := "ytmnedpfilckilaa", sum := "c0e5643a65b7698f5643276a8aaebe0ece26128b6a3dac210c3c7ca19cb31472", func := "guerdon/guerdonlaw08.LexerOffsets", spec := "lexerOffsets", inPlace := ["internal/bytealg.IndexByteString", "internal/bytealg.IndexString"], unfollowed := true, recurses := true, named := ["internal/bytealg.MaxLen"], apart := false }
def LexerOffsetsSaid : Prop := lexerOffsetsRow.holds Try.pinned (OpenSpec.ofChange lexerOffsetsSpec)

/-- ITS FALSE NEIGHBOUR: 'it returns false'. Refute it at one input. -/
def lexerOffsetsWrong : ChangeSpec := { name := "lexerOffsets", fn := fun _ => fun
  | [d] => { results := [.lit (.bool false)], args := [d] }
  | _ => none }
def LexerOffsetsWrongFalsely : Prop := lexerOffsetsRow.holds Try.pinned (OpenSpec.ofChange lexerOffsetsWrong)

/-- 'guerdonlaw08.LexerFormat': WHATEVER THE INPUT: true; the input reads as it did. -/
def lexerFormatSpec : ChangeSpec := { name := "lexerFormat", fn := fun _ => fun
  | [d] => { results := [.lit (.bool true)], args := [d] }
  | _ => none }
def lexerFormatRow : OpenClaim := { program := "ytmnedpfilckilaa", sum := "c0e5643a65b7698f5643276a8aaebe0ece26128b6a3dac210c3c7ca19cb31472", func := "guerdon/guerdonlaw08.LexerFormat", spec := "lexerFormat", inPlace := ["internal/bytealg.IndexByteString", "internal/bytealg.IndexString", "internal/abi.NoEscape"], unfollowed := true, recurses := true, named := ["internal/bytealg.MaxLen"], apart := false }
def LexerFormatSaid : Prop := lexerFormatRow.holds Try.pinned (OpenSpec.ofChange lexerFormatSpec)

/-- ITS FALSE NEIGHBOUR: 'it returns false'. Refute it at one input. -/
def lexerFormatWrong : ChangeSpec := { name := "lexerFormat", fn := fun _ => fun
  | [d] => { results := [.lit (.bool false)], args := [d] }
  | _ => none }
def LexerFormatWrongFalsely : Prop := lexerFormatRow.holds Try.pinned (OpenSpec.ofChange lexerFormatWrong)

/-- 'guerdonlaw08.LexerRoundTrip': WHATEVER THE INPUT: true; the input reads as it did. -/
def lexerRoundTripSpec : ChangeSpec := { name := "lexerRoundTrip", fn := fun _ => fun
  | [d] => { results := [.lit (.bool true)], args := [d] }
  | _ => none }
def lexerRoundTripRow : OpenClaim := { program := "ytmnedpfilckilaa", sum := "c0e5643a65b7698f5643276a8aaebe0ece26128b6a3dac210c3c7ca19cb31472", func := "guerdon/guerdonlaw08.LexerRoundTrip", spec := "lexerRoundTrip", inPlace := ["internal/bytealg.IndexByteString", "internal/bytealg.IndexString", "internal/abi.NoEscape"], unfollowed := true, recurses := true, named := ["internal/bytealg.MaxLen"], apart := false }
def LexerRoundTripSaid : Prop := lexerRoundTripRow.holds Try.pinned (OpenSpec.ofChange lexerRoundTripSpec)

/-- ITS FALSE NEIGHBOUR: 'it returns false'. Refute it at one input. -/
def lexerRoundTripWrong : ChangeSpec := { name := "lexerRoundTrip", fn := fun _ => fun
  | [d] => { results := [.lit (.bool false)], args := [d] }
  | _ => none }
def LexerRoundTripWrongFalsely : Prop := lexerRoundTripRow.holds Try.pinned (OpenSpec.ofChange lexerRoundTripWrong)

/- THE SECOND FORM. 'bulk': how many values and letters a reading holds, each counted each time it is reached (what is shared counts as often as it is met; a slice's spare places count too). A statement '..UptoSaid' is the law's where the arguments, and the package variables that the reading takes, are together of bulk at most 1048576: NARROWER than '..Said'. Prove '..Said' where nothing that the law and all that it calls make is longer than what came in: it says more and counts as full. Else prove '..UptoSaid'. A law counts once. -/
mutual
def uptoBulk {H : Type} : DataW H → Nat
  | .lit (.string bytes) => bytes.length + 1
  | .lit _ => 1
  | .nil => 1
  | .ptr d => uptoBulk d + 1
  | .slice elems spare => uptoBulkAll elems + uptoBulkAll spare + 1
  | .agg parts => uptoBulkAll parts + 1
  | .iface _ d => uptoBulk d + 1
  | .map entries => uptoBulkEntries entries + 1
  | .held _ => 1
def uptoBulkAll {H : Type} : List (DataW H) → Nat
  | [] => 0
  | d :: r => uptoBulk d + uptoBulkAll r
def uptoBulkEntries {H : Type} : List (Lit × DataW H) → Nat
  | [] => 0
  | x :: r => uptoBulkEntry x + uptoBulkEntries r
def uptoBulkEntry {H : Type} : Lit × DataW H → Nat
  | (.string bytes, d) => bytes.length + uptoBulk d + 1
  | (_, d) => uptoBulk d + 1
 end
def uptoSmall : (H : Type) → List (DataW H) → Bool := fun _ ds => decide (uptoBulkAll ds ≤ 1048576)
def OpenSpec.upto (s : _root_.Go.ChangeSpec) : _root_.Go.OpenSpec := { _root_.Go.OpenSpec.ofChange s with cond := some uptoSmall }

/-- 'guerdonlaw08.LexerTokenize', WHERE WHAT IT READS IS OF BULK AT MOST 1048576: true; the input reads as it did. -/
def lexerTokenizeUptoRow : OpenClaim := { program := "ytmnedpfilckilaa", sum := "c0e5643a65b7698f5643276a8aaebe0ece26128b6a3dac210c3c7ca19cb31472", func := "guerdon/guerdonlaw08.LexerTokenize", spec := "lexerTokenize", inPlace := ["internal/bytealg.IndexByteString", "internal/bytealg.IndexString"], unfollowed := true, recurses := true, named := ["internal/bytealg.MaxLen"], apart := false, narrowed := true }
def LexerTokenizeUptoSaid : Prop := lexerTokenizeUptoRow.holds Try.pinned (OpenSpec.upto lexerTokenizeSpec)

/-- 'guerdonlaw08.LexerIdentifier', WHERE WHAT IT READS IS OF BULK AT MOST 1048576: true; the input reads as it did. -/
def lexerIdentifierUptoRow : OpenClaim := { program := "ytmnedpfilckilaa", sum := "c0e5643a65b7698f5643276a8aaebe0ece26128b6a3dac210c3c7ca19cb31472", func := "guerdon/guerdonlaw08.LexerIdentifier", spec := "lexerIdentifier", inPlace := ["internal/bytealg.IndexByteString", "internal/bytealg.IndexString"], unfollowed := true, recurses := true, named := ["internal/bytealg.MaxLen"], apart := false, narrowed := true }
def LexerIdentifierUptoSaid : Prop := lexerIdentifierUptoRow.holds Try.pinned (OpenSpec.upto lexerIdentifierSpec)

/-- 'guerdonlaw08.LexerOffsets', WHERE WHAT IT READS IS OF BULK AT MOST 1048576: true; the input reads as it did. -/
def lexerOffsetsUptoRow : OpenClaim := { program := "ytmnedpfilckilaa", sum := "c0e5643a65b7698f5643276a8aaebe0ece26128b6a3dac210c3c7ca19cb31472", func := "guerdon/guerdonlaw08.LexerOffsets", spec := "lexerOffsets", inPlace := ["internal/bytealg.IndexByteString", "internal/bytealg.IndexString"], unfollowed := true, recurses := true, named := ["internal/bytealg.MaxLen"], apart := false, narrowed := true }
def LexerOffsetsUptoSaid : Prop := lexerOffsetsUptoRow.holds Try.pinned (OpenSpec.upto lexerOffsetsSpec)

/-- 'guerdonlaw08.LexerFormat', WHERE WHAT IT READS IS OF BULK AT MOST 1048576: true; the input reads as it did. -/
def lexerFormatUptoRow : OpenClaim := { program := "ytmnedpfilckilaa", sum := "c0e5643a65b7698f5643276a8aaebe0ece26128b6a3dac210c3c7ca19cb31472", func := "guerdon/guerdonlaw08.LexerFormat", spec := "lexerFormat", inPlace := ["internal/bytealg.IndexByteString", "internal/bytealg.IndexString", "internal/abi.NoEscape"], unfollowed := true, recurses := true, named := ["internal/bytealg.MaxLen"], apart := false, narrowed := true }
def LexerFormatUptoSaid : Prop := lexerFormatUptoRow.holds Try.pinned (OpenSpec.upto lexerFormatSpec)

/-- 'guerdonlaw08.LexerRoundTrip', WHERE WHAT IT READS IS OF BULK AT MOST 1048576: true; the input reads as it did. -/
def lexerRoundTripUptoRow : OpenClaim := { program := "ytmnedpfilckilaa", sum := "c0e5643a65b7698f5643276a8aaebe0ece26128b6a3dac210c3c7ca19cb31472", func := "guerdon/guerdonlaw08.LexerRoundTrip", spec := "lexerRoundTrip", inPlace := ["internal/bytealg.IndexByteString", "internal/bytealg.IndexString", "internal/abi.NoEscape"], unfollowed := true, recurses := true, named := ["internal/bytealg.MaxLen"], apart := false, narrowed := true }
def LexerRoundTripUptoSaid : Prop := lexerRoundTripUptoRow.holds Try.pinned (OpenSpec.upto lexerRoundTripSpec)

end Rows
end Go.Proofs.Ytmnedpfilckilaa
