/-
  DERIVED. GIVEN WITH THE SEED: THE CARDS: each row of YtoohbgjfhchnmaaDoorRows.lean that lists a variable, with what it lists TIED to the program's text (the seventh form; the later family's looks); each row that meets fmt, with fmt's text TOLD by the authors' own Lean function (tested against real Go, not proved from fmt's source: count such statements apart). THE CARD IS WHAT COUNTS. Prove the row's statement (the work); the ties are given (YtoohbgjfhchnmaaDoorTie.lean); close each card by the builder's one call (the guide's Derived/Test/ToyasCard.lean, 'card_holds'). Laid BY PROGRAM, IN A SANDBOX (cutbox-door.mjs). By AI agents, Wed Nov 11 2026. No macro, syntax, notation, axiom, sorry.
-/
import Derived.Test.YtoohbgjfhchnmaaDoorRows
import GoSem.ClaimSeven
namespace Go.Proofs.YtoohbgjfhchnmaaDoor
namespace Rows

/-- THE TIED CARD OF 'texttoolslaw27.UniqLines'. -/
def uniqLinesCard : Claim7 := { stood := { row := uniqLinesRow, standIns := [], harness := (true, "c5644c5a9ae075bf68880757f3c5c304430312644241d666d59ac6162b2d1adf"), looks := false }, kinds := [], alts := [], laidByText := true, laidKinds := [.data, .data, .data], laidTests := true, laidLooks := .later }
def UniqLinesCardSaid : Prop := Claim7.holds Tryd.pinned (.plain (OpenSpec.ofChange uniqLinesSpec)) uniqLinesCard

/-- THE TIED CARD OF 'texttoolslaw27.UniqFeeds'. -/
def uniqFeedsCard : Claim7 := { stood := { row := uniqFeedsRow, standIns := [], harness := (true, "c5644c5a9ae075bf68880757f3c5c304430312644241d666d59ac6162b2d1adf"), looks := false }, kinds := [], alts := [], laidByText := true, laidKinds := [.data, .data, .data], laidTests := true, laidLooks := .later }
def UniqFeedsCardSaid : Prop := Claim7.holds Tryd.pinned (.plain (OpenSpec.ofChange uniqFeedsSpec)) uniqFeedsCard

/-- THE TIED CARD OF 'texttoolslaw27.UniqFilters'. -/
def uniqFiltersCard : Claim7 := { stood := { row := uniqFiltersRow, standIns := [], harness := (true, "c5644c5a9ae075bf68880757f3c5c304430312644241d666d59ac6162b2d1adf"), looks := false }, kinds := [], alts := [], laidByText := true, laidKinds := [.data, .data, .data], laidTests := true, laidLooks := .later }
def UniqFiltersCardSaid : Prop := Claim7.holds Tryd.pinned (.plain (OpenSpec.ofChange uniqFiltersSpec)) uniqFiltersCard

/-- THE TIED CARD OF 'texttoolslaw27.UniqGroups'. -/
def uniqGroupsCard : Claim7 := { stood := { row := uniqGroupsRow, standIns := [], harness := (true, "c5644c5a9ae075bf68880757f3c5c304430312644241d666d59ac6162b2d1adf"), looks := false }, kinds := [], alts := [], laidByText := true, laidKinds := [.data, .data, .data], laidTests := true, laidLooks := .later }
def UniqGroupsCardSaid : Prop := Claim7.holds Tryd.pinned (.plain (OpenSpec.ofChange uniqGroupsSpec)) uniqGroupsCard

/-- THE TIED CARD OF 'texttoolslaw27.UniqSames'. -/
def uniqSamesCard : Claim7 := { stood := { row := uniqSamesRow, standIns := [], harness := (true, "c5644c5a9ae075bf68880757f3c5c304430312644241d666d59ac6162b2d1adf"), looks := false }, kinds := [], alts := [], laidByText := true, laidKinds := [.data, .data, .data], laidTests := true, laidLooks := .later }
def UniqSamesCardSaid : Prop := Claim7.holds Tryd.pinned (.plain (OpenSpec.ofChange uniqSamesSpec)) uniqSamesCard

/-- THE TIED CARD OF 'texttoolslaw27.UniqAgrees'. -/
def uniqAgreesCard : Claim7 := { stood := { row := uniqAgreesRow, standIns := [], harness := (true, "c5644c5a9ae075bf68880757f3c5c304430312644241d666d59ac6162b2d1adf"), looks := false }, kinds := [], alts := [], laidByText := true, laidKinds := [.data, .data, .data], laidTests := true, laidLooks := .later }
def UniqAgreesCardSaid : Prop := Claim7.holds Tryd.pinned (.plain (OpenSpec.ofChange uniqAgreesSpec)) uniqAgreesCard

/-- THE SECOND FORM's CARD OF 'texttoolslaw27.UniqLines'. -/
def uniqLinesUptoCard : Claim7 := { stood := { row := uniqLinesUptoRow, standIns := [], harness := (true, "c5644c5a9ae075bf68880757f3c5c304430312644241d666d59ac6162b2d1adf"), looks := false }, kinds := [], alts := [], laidByText := true, laidKinds := [.data, .data, .data], laidTests := true, laidLooks := .later }
def UniqLinesUptoCardSaid : Prop := Claim7.holds Tryd.pinned (.plain (OpenSpec.upto uniqLinesSpec)) uniqLinesUptoCard

/-- THE SECOND FORM's CARD OF 'texttoolslaw27.UniqFeeds'. -/
def uniqFeedsUptoCard : Claim7 := { stood := { row := uniqFeedsUptoRow, standIns := [], harness := (true, "c5644c5a9ae075bf68880757f3c5c304430312644241d666d59ac6162b2d1adf"), looks := false }, kinds := [], alts := [], laidByText := true, laidKinds := [.data, .data, .data], laidTests := true, laidLooks := .later }
def UniqFeedsUptoCardSaid : Prop := Claim7.holds Tryd.pinned (.plain (OpenSpec.upto uniqFeedsSpec)) uniqFeedsUptoCard

/-- THE SECOND FORM's CARD OF 'texttoolslaw27.UniqFilters'. -/
def uniqFiltersUptoCard : Claim7 := { stood := { row := uniqFiltersUptoRow, standIns := [], harness := (true, "c5644c5a9ae075bf68880757f3c5c304430312644241d666d59ac6162b2d1adf"), looks := false }, kinds := [], alts := [], laidByText := true, laidKinds := [.data, .data, .data], laidTests := true, laidLooks := .later }
def UniqFiltersUptoCardSaid : Prop := Claim7.holds Tryd.pinned (.plain (OpenSpec.upto uniqFiltersSpec)) uniqFiltersUptoCard

/-- THE SECOND FORM's CARD OF 'texttoolslaw27.UniqGroups'. -/
def uniqGroupsUptoCard : Claim7 := { stood := { row := uniqGroupsUptoRow, standIns := [], harness := (true, "c5644c5a9ae075bf68880757f3c5c304430312644241d666d59ac6162b2d1adf"), looks := false }, kinds := [], alts := [], laidByText := true, laidKinds := [.data, .data, .data], laidTests := true, laidLooks := .later }
def UniqGroupsUptoCardSaid : Prop := Claim7.holds Tryd.pinned (.plain (OpenSpec.upto uniqGroupsSpec)) uniqGroupsUptoCard

/-- THE SECOND FORM's CARD OF 'texttoolslaw27.UniqSames'. -/
def uniqSamesUptoCard : Claim7 := { stood := { row := uniqSamesUptoRow, standIns := [], harness := (true, "c5644c5a9ae075bf68880757f3c5c304430312644241d666d59ac6162b2d1adf"), looks := false }, kinds := [], alts := [], laidByText := true, laidKinds := [.data, .data, .data], laidTests := true, laidLooks := .later }
def UniqSamesUptoCardSaid : Prop := Claim7.holds Tryd.pinned (.plain (OpenSpec.upto uniqSamesSpec)) uniqSamesUptoCard

/-- THE SECOND FORM's CARD OF 'texttoolslaw27.UniqAgrees'. -/
def uniqAgreesUptoCard : Claim7 := { stood := { row := uniqAgreesUptoRow, standIns := [], harness := (true, "c5644c5a9ae075bf68880757f3c5c304430312644241d666d59ac6162b2d1adf"), looks := false }, kinds := [], alts := [], laidByText := true, laidKinds := [.data, .data, .data], laidTests := true, laidLooks := .later }
def UniqAgreesUptoCardSaid : Prop := Claim7.holds Tryd.pinned (.plain (OpenSpec.upto uniqAgreesSpec)) uniqAgreesUptoCard
end Rows
end Go.Proofs.YtoohbgjfhchnmaaDoor
