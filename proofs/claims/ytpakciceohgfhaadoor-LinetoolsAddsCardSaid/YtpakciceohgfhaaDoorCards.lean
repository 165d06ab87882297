/-
  DERIVED. GIVEN WITH THE SEED: THE CARDS: each row of YtpakciceohgfhaaDoorRows.lean that lists a variable, with what it lists TIED to the program's text (the seventh form; the later family's looks); each row that meets fmt, with fmt's text TOLD by the authors' own Lean function (tested against real Go, not proved from fmt's source: count such statements apart). THE CARD IS WHAT COUNTS. Prove the row's statement (the work); the ties are given (YtpakciceohgfhaaDoorTie.lean); close each card by the builder's one call (the guide's Derived/Test/ToyasCard.lean, 'card_holds'). Laid BY PROGRAM, IN A SANDBOX (cutbox-door.mjs). By AI agents, Wed Nov 11 2026. No macro, syntax, notation, axiom, sorry.
-/
import Derived.Test.YtpakciceohgfhaaDoorRows
import GoSem.ClaimSeven
namespace Go.Proofs.YtpakciceohgfhaaDoor
namespace Rows

/-- THE TIED CARD OF 'texttoolslaw31.LinetoolsParts'. -/
def linetoolsPartsCard : Claim7 := { stood := { row := linetoolsPartsRow, standIns := [], harness := (true, "13b8862d6a15896e95195816427f868e615029ec9c113b4aa0a65f469ceeb66c"), looks := false }, kinds := [], alts := [], laidByText := true, laidKinds := [.data, .data, .data, .data, .pinned], laidTests := true, laidLooks := .later }
def LinetoolsPartsCardSaid : Prop := Claim7.holds Tryd.pinned (.plain (OpenSpec.ofChange linetoolsPartsSpec)) linetoolsPartsCard

/-- THE TIED CARD OF 'texttoolslaw31.LinetoolsCounts'. -/
def linetoolsCountsCard : Claim7 := { stood := { row := linetoolsCountsRow, standIns := [], harness := (true, "13b8862d6a15896e95195816427f868e615029ec9c113b4aa0a65f469ceeb66c"), looks := false }, kinds := [], alts := [], laidByText := true, laidKinds := [.data, .data, .data, .data, .pinned], laidTests := true, laidLooks := .later }
def LinetoolsCountsCardSaid : Prop := Claim7.holds Tryd.pinned (.plain (OpenSpec.ofChange linetoolsCountsSpec)) linetoolsCountsCard

/-- THE TIED CARD OF 'texttoolslaw31.LinetoolsNumbers'. -/
def linetoolsNumbersCard : Claim7 := { stood := { row := linetoolsNumbersRow, standIns := [], harness := (true, "13b8862d6a15896e95195816427f868e615029ec9c113b4aa0a65f469ceeb66c"), looks := false }, kinds := [], alts := [], laidByText := true, laidKinds := [.data, .data, .data, .data, .pinned], laidTests := true, laidLooks := .later }
def LinetoolsNumbersCardSaid : Prop := Claim7.holds Tryd.pinned (.plain (OpenSpec.ofChange linetoolsNumbersSpec)) linetoolsNumbersCard

/-- THE TIED CARD OF 'texttoolslaw31.LinetoolsDivide'. -/
def linetoolsDivideCard : Claim7 := { stood := { row := linetoolsDivideRow, standIns := [], harness := (true, "13b8862d6a15896e95195816427f868e615029ec9c113b4aa0a65f469ceeb66c"), looks := false }, kinds := [], alts := [], laidByText := true, laidKinds := [.data, .data, .data, .data, .pinned], laidTests := true, laidLooks := .later }
def LinetoolsDivideCardSaid : Prop := Claim7.holds Tryd.pinned (.plain (OpenSpec.ofChange linetoolsDivideSpec)) linetoolsDivideCard

/-- THE TIED CARD OF 'texttoolslaw31.LinetoolsAdds'. -/
def linetoolsAddsCard : Claim7 := { stood := { row := linetoolsAddsRow, standIns := [], harness := (true, "13b8862d6a15896e95195816427f868e615029ec9c113b4aa0a65f469ceeb66c"), looks := false }, kinds := [], alts := [], laidByText := true, laidKinds := [.data, .data, .data, .data, .pinned], laidTests := true, laidLooks := .later }
def LinetoolsAddsCardSaid : Prop := Claim7.holds Tryd.pinned (.plain (OpenSpec.ofChange linetoolsAddsSpec)) linetoolsAddsCard

/-- THE SECOND FORM's CARD OF 'texttoolslaw31.LinetoolsParts'. -/
def linetoolsPartsUptoCard : Claim7 := { stood := { row := linetoolsPartsUptoRow, standIns := [], harness := (true, "13b8862d6a15896e95195816427f868e615029ec9c113b4aa0a65f469ceeb66c"), looks := false }, kinds := [], alts := [], laidByText := true, laidKinds := [.data, .data, .data, .data, .pinned], laidTests := true, laidLooks := .later }
def LinetoolsPartsUptoCardSaid : Prop := Claim7.holds Tryd.pinned (.plain (OpenSpec.upto linetoolsPartsSpec)) linetoolsPartsUptoCard

/-- THE SECOND FORM's CARD OF 'texttoolslaw31.LinetoolsCounts'. -/
def linetoolsCountsUptoCard : Claim7 := { stood := { row := linetoolsCountsUptoRow, standIns := [], harness := (true, "13b8862d6a15896e95195816427f868e615029ec9c113b4aa0a65f469ceeb66c"), looks := false }, kinds := [], alts := [], laidByText := true, laidKinds := [.data, .data, .data, .data, .pinned], laidTests := true, laidLooks := .later }
def LinetoolsCountsUptoCardSaid : Prop := Claim7.holds Tryd.pinned (.plain (OpenSpec.upto linetoolsCountsSpec)) linetoolsCountsUptoCard

/-- THE SECOND FORM's CARD OF 'texttoolslaw31.LinetoolsNumbers'. -/
def linetoolsNumbersUptoCard : Claim7 := { stood := { row := linetoolsNumbersUptoRow, standIns := [], harness := (true, "13b8862d6a15896e95195816427f868e615029ec9c113b4aa0a65f469ceeb66c"), looks := false }, kinds := [], alts := [], laidByText := true, laidKinds := [.data, .data, .data, .data, .pinned], laidTests := true, laidLooks := .later }
def LinetoolsNumbersUptoCardSaid : Prop := Claim7.holds Tryd.pinned (.plain (OpenSpec.upto linetoolsNumbersSpec)) linetoolsNumbersUptoCard

/-- THE SECOND FORM's CARD OF 'texttoolslaw31.LinetoolsDivide'. -/
def linetoolsDivideUptoCard : Claim7 := { stood := { row := linetoolsDivideUptoRow, standIns := [], harness := (true, "13b8862d6a15896e95195816427f868e615029ec9c113b4aa0a65f469ceeb66c"), looks := false }, kinds := [], alts := [], laidByText := true, laidKinds := [.data, .data, .data, .data, .pinned], laidTests := true, laidLooks := .later }
def LinetoolsDivideUptoCardSaid : Prop := Claim7.holds Tryd.pinned (.plain (OpenSpec.upto linetoolsDivideSpec)) linetoolsDivideUptoCard

/-- THE SECOND FORM's CARD OF 'texttoolslaw31.LinetoolsAdds'. -/
def linetoolsAddsUptoCard : Claim7 := { stood := { row := linetoolsAddsUptoRow, standIns := [], harness := (true, "13b8862d6a15896e95195816427f868e615029ec9c113b4aa0a65f469ceeb66c"), looks := false }, kinds := [], alts := [], laidByText := true, laidKinds := [.data, .data, .data, .data, .pinned], laidTests := true, laidLooks := .later }
def LinetoolsAddsUptoCardSaid : Prop := Claim7.holds Tryd.pinned (.plain (OpenSpec.upto linetoolsAddsSpec)) linetoolsAddsUptoCard
end Rows
end Go.Proofs.YtpakciceohgfhaaDoor
