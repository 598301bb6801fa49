/-
  DERIVED. GIVEN WITH THE SEED: THE CARDS: each row of YtfhlignhdnhmlaaDoorRows.lean that lists a variable, with what it lists TIED to the program's text (the seventh form; the later family's looks); each row that meets fmt, with fmt's text TOLD by the authors' own Lean function (tested against real Go, not proved from fmt's source: count such statements apart). THE CARD IS WHAT COUNTS. Prove the row's statement (the work); the ties are given (YtfhlignhdnhmlaaDoorTie.lean); close each card by the builder's one call (the guide's Derived/Test/ToyasCard.lean, 'card_holds'). Laid BY PROGRAM, IN A SANDBOX (cutbox-door.mjs). By AI agents, Wed Nov 11 2026. No macro, syntax, notation, axiom, sorry.
-/
import Derived.Test.YtfhlignhdnhmlaaDoorRows
import GoSem.ClaimSeven
namespace Go.Proofs.YtfhlignhdnhmlaaDoor
namespace Rows

/-- THE TIED CARD OF 'guerdonlaw07.MonthRanges'. -/
def monthRangesCard : Claim7 := { stood := { row := monthRangesRow, standIns := [], harness := (true, "1027065e1aa424ca6a8a6e9796b94c56567e63ab8fd08f5f9ad6e9ead3536042"), looks := false }, kinds := [], alts := [], laidByText := true, laidKinds := [.data, .data, .data], laidTests := true, laidLooks := .later }
def MonthRangesCardSaid : Prop := Claim7.holds Tryd.pinned (.plain (OpenSpec.ofChange monthRangesSpec)) monthRangesCard

/-- THE TIED CARD OF 'guerdonlaw07.MonthPayDate'. -/
def monthPayDateCard : Claim7 := { stood := { row := monthPayDateRow, standIns := [], harness := (true, "1027065e1aa424ca6a8a6e9796b94c56567e63ab8fd08f5f9ad6e9ead3536042"), looks := false }, kinds := [], alts := [], laidByText := true, laidKinds := [.data, .data, .data], laidTests := true, laidLooks := .later }
def MonthPayDateCardSaid : Prop := Claim7.holds Tryd.pinned (.plain (OpenSpec.ofChange monthPayDateSpec)) monthPayDateCard

/-- THE TIED CARD OF 'guerdonlaw07.MonthTexts'. -/
def monthTextsCard : Claim7 := { stood := { row := monthTextsRow, standIns := [], harness := (true, "1027065e1aa424ca6a8a6e9796b94c56567e63ab8fd08f5f9ad6e9ead3536042"), looks := false }, kinds := [], alts := [], laidByText := true, laidKinds := [.data, .data, .data], laidTests := true, laidLooks := .later }
def MonthTextsCardSaid : Prop := Claim7.holds Tryd.pinned (.plain (OpenSpec.ofChange monthTextsSpec)) monthTextsCard

/-- THE TIED CARD OF 'guerdonlaw07.MonthPartition'. -/
def monthPartitionCard : Claim7 := { stood := { row := monthPartitionRow, standIns := [], harness := (true, "1027065e1aa424ca6a8a6e9796b94c56567e63ab8fd08f5f9ad6e9ead3536042"), looks := false }, kinds := [], alts := [], laidByText := true, laidKinds := [.data, .data, .data], laidTests := true, laidLooks := .later }
def MonthPartitionCardSaid : Prop := Claim7.holds Tryd.pinned (.plain (OpenSpec.ofChange monthPartitionSpec)) monthPartitionCard

/-- THE TIED CARD OF 'guerdonlaw07.MonthOverlap'. -/
def monthOverlapCard : Claim7 := { stood := { row := monthOverlapRow, standIns := [], harness := (true, "1027065e1aa424ca6a8a6e9796b94c56567e63ab8fd08f5f9ad6e9ead3536042"), looks := false }, kinds := [], alts := [], laidByText := true, laidKinds := [.data, .data, .data], laidTests := true, laidLooks := .later }
def MonthOverlapCardSaid : Prop := Claim7.holds Tryd.pinned (.plain (OpenSpec.ofChange monthOverlapSpec)) monthOverlapCard

/-- THE TIED CARD OF 'guerdonlaw04.DateFields'. -/
def dateFieldsCard : Claim7 := { stood := { row := dateFieldsRow, standIns := [], harness := (true, "1027065e1aa424ca6a8a6e9796b94c56567e63ab8fd08f5f9ad6e9ead3536042"), looks := false }, kinds := [], alts := [], laidByText := true, laidKinds := [.data, .data, .data], laidTests := true, laidLooks := .later }
def DateFieldsCardSaid : Prop := Claim7.holds Tryd.pinned (.plain (OpenSpec.ofChange dateFieldsSpec)) dateFieldsCard

/-- THE TIED CARD OF 'guerdonlaw04.DateMonths'. -/
def dateMonthsCard : Claim7 := { stood := { row := dateMonthsRow, standIns := [], harness := (true, "1027065e1aa424ca6a8a6e9796b94c56567e63ab8fd08f5f9ad6e9ead3536042"), looks := false }, kinds := [], alts := [], laidByText := true, laidKinds := [.data, .data, .data], laidTests := true, laidLooks := .later }
def DateMonthsCardSaid : Prop := Claim7.holds Tryd.pinned (.plain (OpenSpec.ofChange dateMonthsSpec)) dateMonthsCard

/-- THE TIED CARD OF 'guerdonlaw04.DateAnniversary'. -/
def dateAnniversaryCard : Claim7 := { stood := { row := dateAnniversaryRow, standIns := [], harness := (true, "1027065e1aa424ca6a8a6e9796b94c56567e63ab8fd08f5f9ad6e9ead3536042"), looks := false }, kinds := [], alts := [], laidByText := true, laidKinds := [.data, .data, .data], laidTests := true, laidLooks := .later }
def DateAnniversaryCardSaid : Prop := Claim7.holds Tryd.pinned (.plain (OpenSpec.ofChange dateAnniversarySpec)) dateAnniversaryCard

/-- THE TIED CARD OF 'guerdonlaw04.DateTexts'. -/
def dateTextsCard : Claim7 := { stood := { row := dateTextsRow, standIns := [], harness := (true, "1027065e1aa424ca6a8a6e9796b94c56567e63ab8fd08f5f9ad6e9ead3536042"), looks := false }, kinds := [], alts := [], laidByText := true, laidKinds := [.data, .data, .data], laidTests := true, laidLooks := .later }
def DateTextsCardSaid : Prop := Claim7.holds Tryd.pinned (.plain (OpenSpec.ofChange dateTextsSpec)) dateTextsCard

/-- THE TIED CARD OF 'guerdonlaw04.DateRoundTrip'. -/
def dateRoundTripCard : Claim7 := { stood := { row := dateRoundTripRow, standIns := [], harness := (true, "1027065e1aa424ca6a8a6e9796b94c56567e63ab8fd08f5f9ad6e9ead3536042"), looks := false }, kinds := [], alts := [], laidByText := true, laidKinds := [.data, .data, .data], laidTests := true, laidLooks := .later }
def DateRoundTripCardSaid : Prop := Claim7.holds Tryd.pinned (.plain (OpenSpec.ofChange dateRoundTripSpec)) dateRoundTripCard

/-- THE SECOND FORM's CARD OF 'guerdonlaw07.MonthRanges'. -/
def monthRangesUptoCard : Claim7 := { stood := { row := monthRangesUptoRow, standIns := [], harness := (true, "1027065e1aa424ca6a8a6e9796b94c56567e63ab8fd08f5f9ad6e9ead3536042"), looks := false }, kinds := [], alts := [], laidByText := true, laidKinds := [.data, .data, .data], laidTests := true, laidLooks := .later }
def MonthRangesUptoCardSaid : Prop := Claim7.holds Tryd.pinned (.plain (OpenSpec.upto monthRangesSpec)) monthRangesUptoCard

/-- THE SECOND FORM's CARD OF 'guerdonlaw07.MonthPayDate'. -/
def monthPayDateUptoCard : Claim7 := { stood := { row := monthPayDateUptoRow, standIns := [], harness := (true, "1027065e1aa424ca6a8a6e9796b94c56567e63ab8fd08f5f9ad6e9ead3536042"), looks := false }, kinds := [], alts := [], laidByText := true, laidKinds := [.data, .data, .data], laidTests := true, laidLooks := .later }
def MonthPayDateUptoCardSaid : Prop := Claim7.holds Tryd.pinned (.plain (OpenSpec.upto monthPayDateSpec)) monthPayDateUptoCard

/-- THE SECOND FORM's CARD OF 'guerdonlaw07.MonthTexts'. -/
def monthTextsUptoCard : Claim7 := { stood := { row := monthTextsUptoRow, standIns := [], harness := (true, "1027065e1aa424ca6a8a6e9796b94c56567e63ab8fd08f5f9ad6e9ead3536042"), looks := false }, kinds := [], alts := [], laidByText := true, laidKinds := [.data, .data, .data], laidTests := true, laidLooks := .later }
def MonthTextsUptoCardSaid : Prop := Claim7.holds Tryd.pinned (.plain (OpenSpec.upto monthTextsSpec)) monthTextsUptoCard

/-- THE SECOND FORM's CARD OF 'guerdonlaw07.MonthPartition'. -/
def monthPartitionUptoCard : Claim7 := { stood := { row := monthPartitionUptoRow, standIns := [], harness := (true, "1027065e1aa424ca6a8a6e9796b94c56567e63ab8fd08f5f9ad6e9ead3536042"), looks := false }, kinds := [], alts := [], laidByText := true, laidKinds := [.data, .data, .data], laidTests := true, laidLooks := .later }
def MonthPartitionUptoCardSaid : Prop := Claim7.holds Tryd.pinned (.plain (OpenSpec.upto monthPartitionSpec)) monthPartitionUptoCard

/-- THE SECOND FORM's CARD OF 'guerdonlaw07.MonthOverlap'. -/
def monthOverlapUptoCard : Claim7 := { stood := { row := monthOverlapUptoRow, standIns := [], harness := (true, "1027065e1aa424ca6a8a6e9796b94c56567e63ab8fd08f5f9ad6e9ead3536042"), looks := false }, kinds := [], alts := [], laidByText := true, laidKinds := [.data, .data, .data], laidTests := true, laidLooks := .later }
def MonthOverlapUptoCardSaid : Prop := Claim7.holds Tryd.pinned (.plain (OpenSpec.upto monthOverlapSpec)) monthOverlapUptoCard

/-- THE SECOND FORM's CARD OF 'guerdonlaw04.DateFields'. -/
def dateFieldsUptoCard : Claim7 := { stood := { row := dateFieldsUptoRow, standIns := [], harness := (true, "1027065e1aa424ca6a8a6e9796b94c56567e63ab8fd08f5f9ad6e9ead3536042"), looks := false }, kinds := [], alts := [], laidByText := true, laidKinds := [.data, .data, .data], laidTests := true, laidLooks := .later }
def DateFieldsUptoCardSaid : Prop := Claim7.holds Tryd.pinned (.plain (OpenSpec.upto dateFieldsSpec)) dateFieldsUptoCard

/-- THE SECOND FORM's CARD OF 'guerdonlaw04.DateMonths'. -/
def dateMonthsUptoCard : Claim7 := { stood := { row := dateMonthsUptoRow, standIns := [], harness := (true, "1027065e1aa424ca6a8a6e9796b94c56567e63ab8fd08f5f9ad6e9ead3536042"), looks := false }, kinds := [], alts := [], laidByText := true, laidKinds := [.data, .data, .data], laidTests := true, laidLooks := .later }
def DateMonthsUptoCardSaid : Prop := Claim7.holds Tryd.pinned (.plain (OpenSpec.upto dateMonthsSpec)) dateMonthsUptoCard

/-- THE SECOND FORM's CARD OF 'guerdonlaw04.DateAnniversary'. -/
def dateAnniversaryUptoCard : Claim7 := { stood := { row := dateAnniversaryUptoRow, standIns := [], harness := (true, "1027065e1aa424ca6a8a6e9796b94c56567e63ab8fd08f5f9ad6e9ead3536042"), looks := false }, kinds := [], alts := [], laidByText := true, laidKinds := [.data, .data, .data], laidTests := true, laidLooks := .later }
def DateAnniversaryUptoCardSaid : Prop := Claim7.holds Tryd.pinned (.plain (OpenSpec.upto dateAnniversarySpec)) dateAnniversaryUptoCard

/-- THE SECOND FORM's CARD OF 'guerdonlaw04.DateTexts'. -/
def dateTextsUptoCard : Claim7 := { stood := { row := dateTextsUptoRow, standIns := [], harness := (true, "1027065e1aa424ca6a8a6e9796b94c56567e63ab8fd08f5f9ad6e9ead3536042"), looks := false }, kinds := [], alts := [], laidByText := true, laidKinds := [.data, .data, .data], laidTests := true, laidLooks := .later }
def DateTextsUptoCardSaid : Prop := Claim7.holds Tryd.pinned (.plain (OpenSpec.upto dateTextsSpec)) dateTextsUptoCard

/-- THE SECOND FORM's CARD OF 'guerdonlaw04.DateRoundTrip'. -/
def dateRoundTripUptoCard : Claim7 := { stood := { row := dateRoundTripUptoRow, standIns := [], harness := (true, "1027065e1aa424ca6a8a6e9796b94c56567e63ab8fd08f5f9ad6e9ead3536042"), looks := false }, kinds := [], alts := [], laidByText := true, laidKinds := [.data, .data, .data], laidTests := true, laidLooks := .later }
def DateRoundTripUptoCardSaid : Prop := Claim7.holds Tryd.pinned (.plain (OpenSpec.upto dateRoundTripSpec)) dateRoundTripUptoCard
end Rows
end Go.Proofs.YtfhlignhdnhmlaaDoor
