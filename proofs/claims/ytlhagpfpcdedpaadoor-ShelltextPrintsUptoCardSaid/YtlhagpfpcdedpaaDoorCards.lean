/-
  DERIVED. GIVEN WITH THE SEED: THE CARDS: each row of YtlhagpfpcdedpaaDoorRows.lean that lists a variable, with what it lists TIED to the program's text (the seventh form; the later family's looks); each row that meets fmt, with fmt's text TOLD by the authors' own Lean function (tested against real Go, not proved from fmt's source: count such statements apart). THE CARD IS WHAT COUNTS. Prove the row's statement (the work); the ties are given (YtlhagpfpcdedpaaDoorTie.lean); close each card by the builder's one call (the guide's Derived/Test/ToyasCard.lean, 'card_holds'). Laid BY PROGRAM, IN A SANDBOX (cutbox-door.mjs). By AI agents, Wed Nov 11 2026. No macro, syntax, notation, axiom, sorry.
-/
import Derived.Test.YtlhagpfpcdedpaaDoorRows
import GoSem.ClaimSeven
namespace Go.Proofs.YtlhagpfpcdedpaaDoor
namespace Rows

/-- THE TIED CARD OF 'texttoolslaw54.ShelltextParses'. -/
def shelltextParsesCard : Claim7 := { stood := { row := shelltextParsesRow, standIns := [], harness := (true, "0fb793dcd13d45ea88113b529b02572ec04f703ccf2d9dbe506c915a2f016566"), looks := false }, kinds := [], alts := [], laidByText := true, laidKinds := [.data, .pinned], laidTests := true, laidLooks := .later }
def ShelltextParsesCardSaid : Prop := Claim7.holds Tryd.pinned (.plain (OpenSpec.ofChange shelltextParsesSpec)) shelltextParsesCard

/-- THE TIED CARD OF 'texttoolslaw54.ShelltextQuotes'. -/
def shelltextQuotesCard : Claim7 := { stood := { row := shelltextQuotesRow, standIns := [], harness := (true, "0fb793dcd13d45ea88113b529b02572ec04f703ccf2d9dbe506c915a2f016566"), looks := false }, kinds := [], alts := [], laidByText := true, laidKinds := [.data, .pinned], laidTests := true, laidLooks := .later }
def ShelltextQuotesCardSaid : Prop := Claim7.holds Tryd.pinned (.plain (OpenSpec.ofChange shelltextQuotesSpec)) shelltextQuotesCard

/-- THE TIED CARD OF 'texttoolslaw54.ShelltextJoins'. -/
def shelltextJoinsCard : Claim7 := { stood := { row := shelltextJoinsRow, standIns := [], harness := (true, "0fb793dcd13d45ea88113b529b02572ec04f703ccf2d9dbe506c915a2f016566"), looks := false }, kinds := [], alts := [], laidByText := true, laidKinds := [.data, .pinned], laidTests := true, laidLooks := .later }
def ShelltextJoinsCardSaid : Prop := Claim7.holds Tryd.pinned (.plain (OpenSpec.ofChange shelltextJoinsSpec)) shelltextJoinsCard

/-- THE TIED CARD OF 'texttoolslaw54.ShelltextPrints'. -/
def shelltextPrintsCard : Claim7 := { stood := { row := shelltextPrintsRow, standIns := [], harness := (true, "0fb793dcd13d45ea88113b529b02572ec04f703ccf2d9dbe506c915a2f016566"), looks := false }, kinds := [], alts := [], laidByText := true, laidKinds := [.data, .pinned], laidTests := true, laidLooks := .later }
def ShelltextPrintsCardSaid : Prop := Claim7.holds Tryd.pinned (.plain (OpenSpec.ofChange shelltextPrintsSpec)) shelltextPrintsCard

/-- THE TIED CARD OF 'texttoolslaw54.ShelltextRoundTrips'. -/
def shelltextRoundTripsCard : Claim7 := { stood := { row := shelltextRoundTripsRow, standIns := [], harness := (true, "0fb793dcd13d45ea88113b529b02572ec04f703ccf2d9dbe506c915a2f016566"), looks := false }, kinds := [], alts := [], laidByText := true, laidKinds := [.data, .pinned], laidTests := true, laidLooks := .later }
def ShelltextRoundTripsCardSaid : Prop := Claim7.holds Tryd.pinned (.plain (OpenSpec.ofChange shelltextRoundTripsSpec)) shelltextRoundTripsCard

/-- THE TIED CARD OF 'texttoolslaw54.ShelltextReads'. -/
def shelltextReadsCard : Claim7 := { stood := { row := shelltextReadsRow, standIns := [], harness := (true, "0fb793dcd13d45ea88113b529b02572ec04f703ccf2d9dbe506c915a2f016566"), looks := false }, kinds := [], alts := [], laidByText := true, laidKinds := [.data, .pinned], laidTests := true, laidLooks := .later }
def ShelltextReadsCardSaid : Prop := Claim7.holds Tryd.pinned (.plain (OpenSpec.ofChange shelltextReadsSpec)) shelltextReadsCard

/-- THE SECOND FORM's CARD OF 'texttoolslaw54.ShelltextParses'. -/
def shelltextParsesUptoCard : Claim7 := { stood := { row := shelltextParsesUptoRow, standIns := [], harness := (true, "0fb793dcd13d45ea88113b529b02572ec04f703ccf2d9dbe506c915a2f016566"), looks := false }, kinds := [], alts := [], laidByText := true, laidKinds := [.data, .pinned], laidTests := true, laidLooks := .later }
def ShelltextParsesUptoCardSaid : Prop := Claim7.holds Tryd.pinned (.plain (OpenSpec.upto shelltextParsesSpec)) shelltextParsesUptoCard

/-- THE SECOND FORM's CARD OF 'texttoolslaw54.ShelltextQuotes'. -/
def shelltextQuotesUptoCard : Claim7 := { stood := { row := shelltextQuotesUptoRow, standIns := [], harness := (true, "0fb793dcd13d45ea88113b529b02572ec04f703ccf2d9dbe506c915a2f016566"), looks := false }, kinds := [], alts := [], laidByText := true, laidKinds := [.data, .pinned], laidTests := true, laidLooks := .later }
def ShelltextQuotesUptoCardSaid : Prop := Claim7.holds Tryd.pinned (.plain (OpenSpec.upto shelltextQuotesSpec)) shelltextQuotesUptoCard

/-- THE SECOND FORM's CARD OF 'texttoolslaw54.ShelltextJoins'. -/
def shelltextJoinsUptoCard : Claim7 := { stood := { row := shelltextJoinsUptoRow, standIns := [], harness := (true, "0fb793dcd13d45ea88113b529b02572ec04f703ccf2d9dbe506c915a2f016566"), looks := false }, kinds := [], alts := [], laidByText := true, laidKinds := [.data, .pinned], laidTests := true, laidLooks := .later }
def ShelltextJoinsUptoCardSaid : Prop := Claim7.holds Tryd.pinned (.plain (OpenSpec.upto shelltextJoinsSpec)) shelltextJoinsUptoCard

/-- THE SECOND FORM's CARD OF 'texttoolslaw54.ShelltextPrints'. -/
def shelltextPrintsUptoCard : Claim7 := { stood := { row := shelltextPrintsUptoRow, standIns := [], harness := (true, "0fb793dcd13d45ea88113b529b02572ec04f703ccf2d9dbe506c915a2f016566"), looks := false }, kinds := [], alts := [], laidByText := true, laidKinds := [.data, .pinned], laidTests := true, laidLooks := .later }
def ShelltextPrintsUptoCardSaid : Prop := Claim7.holds Tryd.pinned (.plain (OpenSpec.upto shelltextPrintsSpec)) shelltextPrintsUptoCard

/-- THE SECOND FORM's CARD OF 'texttoolslaw54.ShelltextRoundTrips'. -/
def shelltextRoundTripsUptoCard : Claim7 := { stood := { row := shelltextRoundTripsUptoRow, standIns := [], harness := (true, "0fb793dcd13d45ea88113b529b02572ec04f703ccf2d9dbe506c915a2f016566"), looks := false }, kinds := [], alts := [], laidByText := true, laidKinds := [.data, .pinned], laidTests := true, laidLooks := .later }
def ShelltextRoundTripsUptoCardSaid : Prop := Claim7.holds Tryd.pinned (.plain (OpenSpec.upto shelltextRoundTripsSpec)) shelltextRoundTripsUptoCard

/-- THE SECOND FORM's CARD OF 'texttoolslaw54.ShelltextReads'. -/
def shelltextReadsUptoCard : Claim7 := { stood := { row := shelltextReadsUptoRow, standIns := [], harness := (true, "0fb793dcd13d45ea88113b529b02572ec04f703ccf2d9dbe506c915a2f016566"), looks := false }, kinds := [], alts := [], laidByText := true, laidKinds := [.data, .pinned], laidTests := true, laidLooks := .later }
def ShelltextReadsUptoCardSaid : Prop := Claim7.holds Tryd.pinned (.plain (OpenSpec.upto shelltextReadsSpec)) shelltextReadsUptoCard
end Rows
end Go.Proofs.YtlhagpfpcdedpaaDoor
