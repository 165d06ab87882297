/-
  DERIVED. GIVEN WITH THE SEED: THE CARDS: each row of YtnkpigibjicmaaaDoorRows.lean that lists a variable, with what it lists TIED to the program's text (the seventh form; the later family's looks); each row that meets fmt, with fmt's text TOLD by the authors' own Lean function (tested against real Go, not proved from fmt's source: count such statements apart). THE CARD IS WHAT COUNTS. Prove the row's statement (the work); the ties are given (YtnkpigibjicmaaaDoorTie.lean); close each card by the builder's one call (the guide's Derived/Test/ToyasCard.lean, 'card_holds'). Laid BY PROGRAM, IN A SANDBOX (cutbox-door.mjs). By AI agents, Wed Nov 11 2026. No macro, syntax, notation, axiom, sorry.
-/
import Derived.Test.YtnkpigibjicmaaaDoorRows
import GoSem.ClaimSeven
namespace Go.Proofs.YtnkpigibjicmaaaDoor
namespace Rows

/-- THE TIED CARD OF 'texttoolslaw34.PatchPlaces'. -/
def patchPlacesCard : Claim7 := { stood := { row := patchPlacesRow, standIns := [], harness := (true, "17cb1241875df0989ad284675b8e450b84d2358abd20306344857b4ffd8ba01a"), looks := false }, kinds := [], alts := [], laidByText := true, laidKinds := [.data, .pinned], laidTests := true, laidLooks := .later }
def PatchPlacesCardSaid : Prop := Claim7.holds Tryd.pinned (.plain (OpenSpec.ofChange patchPlacesSpec)) patchPlacesCard

/-- THE TIED CARD OF 'texttoolslaw34.PatchMoves'. -/
def patchMovesCard : Claim7 := { stood := { row := patchMovesRow, standIns := [], harness := (true, "17cb1241875df0989ad284675b8e450b84d2358abd20306344857b4ffd8ba01a"), looks := false }, kinds := [], alts := [], laidByText := true, laidKinds := [.data, .pinned], laidTests := true, laidLooks := .later }
def PatchMovesCardSaid : Prop := Claim7.holds Tryd.pinned (.plain (OpenSpec.ofChange patchMovesSpec)) patchMovesCard

/-- THE TIED CARD OF 'texttoolslaw34.PatchFiles'. -/
def patchFilesCard : Claim7 := { stood := { row := patchFilesRow, standIns := [], harness := (true, "17cb1241875df0989ad284675b8e450b84d2358abd20306344857b4ffd8ba01a"), looks := false }, kinds := [], alts := [], laidByText := true, laidKinds := [.data, .pinned], laidTests := true, laidLooks := .later }
def PatchFilesCardSaid : Prop := Claim7.holds Tryd.pinned (.plain (OpenSpec.ofChange patchFilesSpec)) patchFilesCard

/-- THE TIED CARD OF 'texttoolslaw34.PatchChecks'. -/
def patchChecksCard : Claim7 := { stood := { row := patchChecksRow, standIns := [], harness := (true, "17cb1241875df0989ad284675b8e450b84d2358abd20306344857b4ffd8ba01a"), looks := false }, kinds := [], alts := [], laidByText := true, laidKinds := [.data, .pinned], laidTests := true, laidLooks := .later }
def PatchChecksCardSaid : Prop := Claim7.holds Tryd.pinned (.plain (OpenSpec.ofChange patchChecksSpec)) patchChecksCard

/-- THE TIED CARD OF 'texttoolslaw34.PatchApplies'. -/
def patchAppliesCard : Claim7 := { stood := { row := patchAppliesRow, standIns := [], harness := (true, "17cb1241875df0989ad284675b8e450b84d2358abd20306344857b4ffd8ba01a"), looks := false }, kinds := [], alts := [], laidByText := true, laidKinds := [.data, .pinned], laidTests := true, laidLooks := .later }
def PatchAppliesCardSaid : Prop := Claim7.holds Tryd.pinned (.plain (OpenSpec.ofChange patchAppliesSpec)) patchAppliesCard

/-- THE TIED CARD OF 'texttoolslaw34.PatchReverses'. -/
def patchReversesCard : Claim7 := { stood := { row := patchReversesRow, standIns := [], harness := (true, "17cb1241875df0989ad284675b8e450b84d2358abd20306344857b4ffd8ba01a"), looks := false }, kinds := [], alts := [], laidByText := true, laidKinds := [.data, .pinned], laidTests := true, laidLooks := .later }
def PatchReversesCardSaid : Prop := Claim7.holds Tryd.pinned (.plain (OpenSpec.ofChange patchReversesSpec)) patchReversesCard

/-- THE SECOND FORM's CARD OF 'texttoolslaw34.PatchPlaces'. -/
def patchPlacesUptoCard : Claim7 := { stood := { row := patchPlacesUptoRow, standIns := [], harness := (true, "17cb1241875df0989ad284675b8e450b84d2358abd20306344857b4ffd8ba01a"), looks := false }, kinds := [], alts := [], laidByText := true, laidKinds := [.data, .pinned], laidTests := true, laidLooks := .later }
def PatchPlacesUptoCardSaid : Prop := Claim7.holds Tryd.pinned (.plain (OpenSpec.upto patchPlacesSpec)) patchPlacesUptoCard

/-- THE SECOND FORM's CARD OF 'texttoolslaw34.PatchMoves'. -/
def patchMovesUptoCard : Claim7 := { stood := { row := patchMovesUptoRow, standIns := [], harness := (true, "17cb1241875df0989ad284675b8e450b84d2358abd20306344857b4ffd8ba01a"), looks := false }, kinds := [], alts := [], laidByText := true, laidKinds := [.data, .pinned], laidTests := true, laidLooks := .later }
def PatchMovesUptoCardSaid : Prop := Claim7.holds Tryd.pinned (.plain (OpenSpec.upto patchMovesSpec)) patchMovesUptoCard

/-- THE SECOND FORM's CARD OF 'texttoolslaw34.PatchFiles'. -/
def patchFilesUptoCard : Claim7 := { stood := { row := patchFilesUptoRow, standIns := [], harness := (true, "17cb1241875df0989ad284675b8e450b84d2358abd20306344857b4ffd8ba01a"), looks := false }, kinds := [], alts := [], laidByText := true, laidKinds := [.data, .pinned], laidTests := true, laidLooks := .later }
def PatchFilesUptoCardSaid : Prop := Claim7.holds Tryd.pinned (.plain (OpenSpec.upto patchFilesSpec)) patchFilesUptoCard

/-- THE SECOND FORM's CARD OF 'texttoolslaw34.PatchChecks'. -/
def patchChecksUptoCard : Claim7 := { stood := { row := patchChecksUptoRow, standIns := [], harness := (true, "17cb1241875df0989ad284675b8e450b84d2358abd20306344857b4ffd8ba01a"), looks := false }, kinds := [], alts := [], laidByText := true, laidKinds := [.data, .pinned], laidTests := true, laidLooks := .later }
def PatchChecksUptoCardSaid : Prop := Claim7.holds Tryd.pinned (.plain (OpenSpec.upto patchChecksSpec)) patchChecksUptoCard

/-- THE SECOND FORM's CARD OF 'texttoolslaw34.PatchApplies'. -/
def patchAppliesUptoCard : Claim7 := { stood := { row := patchAppliesUptoRow, standIns := [], harness := (true, "17cb1241875df0989ad284675b8e450b84d2358abd20306344857b4ffd8ba01a"), looks := false }, kinds := [], alts := [], laidByText := true, laidKinds := [.data, .pinned], laidTests := true, laidLooks := .later }
def PatchAppliesUptoCardSaid : Prop := Claim7.holds Tryd.pinned (.plain (OpenSpec.upto patchAppliesSpec)) patchAppliesUptoCard

/-- THE SECOND FORM's CARD OF 'texttoolslaw34.PatchReverses'. -/
def patchReversesUptoCard : Claim7 := { stood := { row := patchReversesUptoRow, standIns := [], harness := (true, "17cb1241875df0989ad284675b8e450b84d2358abd20306344857b4ffd8ba01a"), looks := false }, kinds := [], alts := [], laidByText := true, laidKinds := [.data, .pinned], laidTests := true, laidLooks := .later }
def PatchReversesUptoCardSaid : Prop := Claim7.holds Tryd.pinned (.plain (OpenSpec.upto patchReversesSpec)) patchReversesUptoCard
end Rows
end Go.Proofs.YtnkpigibjicmaaaDoor
