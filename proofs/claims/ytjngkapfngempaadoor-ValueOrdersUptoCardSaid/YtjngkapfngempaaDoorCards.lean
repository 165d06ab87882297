/-
  DERIVED. GIVEN WITH THE SEED: THE CARDS: each row of YtjngkapfngempaaDoorRows.lean that lists a variable, with what it lists TIED to the program's text (the seventh form; the later family's looks); each row that meets fmt, with fmt's text TOLD by the authors' own Lean function (tested against real Go, not proved from fmt's source: count such statements apart). THE CARD IS WHAT COUNTS. Prove the row's statement (the work); the ties are given (YtjngkapfngempaaDoorTie.lean); close each card by the builder's one call (the guide's Derived/Test/ToyasCard.lean, 'card_holds'). Laid BY PROGRAM, IN A SANDBOX (cutbox-door.mjs). By AI agents, Wed Nov 11 2026. No macro, syntax, notation, axiom, sorry.
-/
import Derived.Test.YtjngkapfngempaaDoorRows
import GoSem.ClaimSeven
namespace Go.Proofs.YtjngkapfngempaaDoor
namespace Rows

/-- THE TIED CARD OF 'texttoolslaw42.ValueCoerces'. -/
def valueCoercesCard : Claim7 := { stood := { row := valueCoercesRow, standIns := [], harness := (true, "628e037ee48ef7ef878e9d95829ef7c2419e0e664223ec9e900820997507f782"), looks := false }, kinds := [], alts := [], laidByText := true, laidKinds := [.data, .data, .data, .data, .pinned], laidTests := true, laidLooks := .later }
def ValueCoercesCardSaid : Prop := Claim7.holds Tryd.pinned (.plain (OpenSpec.ofChange valueCoercesSpec)) valueCoercesCard

/-- THE TIED CARD OF 'texttoolslaw42.ValueInputs'. -/
def valueInputsCard : Claim7 := { stood := { row := valueInputsRow, standIns := [], harness := (true, "628e037ee48ef7ef878e9d95829ef7c2419e0e664223ec9e900820997507f782"), looks := false }, kinds := [], alts := [], laidByText := true, laidKinds := [.data, .data, .data, .data, .pinned], laidTests := true, laidLooks := .later }
def ValueInputsCardSaid : Prop := Claim7.holds Tryd.pinned (.plain (OpenSpec.ofChange valueInputsSpec)) valueInputsCard

/-- THE TIED CARD OF 'texttoolslaw42.ValueComputes'. -/
def valueComputesCard : Claim7 := { stood := { row := valueComputesRow, standIns := [], harness := (true, "628e037ee48ef7ef878e9d95829ef7c2419e0e664223ec9e900820997507f782"), looks := false }, kinds := [], alts := [], laidByText := true, laidKinds := [.data, .data, .data, .data, .pinned], laidTests := true, laidLooks := .later }
def ValueComputesCardSaid : Prop := Claim7.holds Tryd.pinned (.plain (OpenSpec.ofChange valueComputesSpec)) valueComputesCard

/-- THE TIED CARD OF 'texttoolslaw42.ValueReturns'. -/
def valueReturnsCard : Claim7 := { stood := { row := valueReturnsRow, standIns := [], harness := (true, "628e037ee48ef7ef878e9d95829ef7c2419e0e664223ec9e900820997507f782"), looks := false }, kinds := [], alts := [], laidByText := true, laidKinds := [.data, .data, .data, .data, .pinned], laidTests := true, laidLooks := .later }
def ValueReturnsCardSaid : Prop := Claim7.holds Tryd.pinned (.plain (OpenSpec.ofChange valueReturnsSpec)) valueReturnsCard

/-- THE TIED CARD OF 'texttoolslaw42.ValueOrders'. -/
def valueOrdersCard : Claim7 := { stood := { row := valueOrdersRow, standIns := [], harness := (true, "628e037ee48ef7ef878e9d95829ef7c2419e0e664223ec9e900820997507f782"), looks := false }, kinds := [], alts := [], laidByText := true, laidKinds := [.data, .data, .data, .data, .pinned], laidTests := true, laidLooks := .later }
def ValueOrdersCardSaid : Prop := Claim7.holds Tryd.pinned (.plain (OpenSpec.ofChange valueOrdersSpec)) valueOrdersCard

/-- THE TIED CARD OF 'texttoolslaw42.ValueDiffers'. -/
def valueDiffersCard : Claim7 := { stood := { row := valueDiffersRow, standIns := [], harness := (true, "628e037ee48ef7ef878e9d95829ef7c2419e0e664223ec9e900820997507f782"), looks := false }, kinds := [], alts := [], laidByText := true, laidKinds := [.data, .data, .data, .data, .pinned], laidTests := true, laidLooks := .later }
def ValueDiffersCardSaid : Prop := Claim7.holds Tryd.pinned (.plain (OpenSpec.ofChange valueDiffersSpec)) valueDiffersCard

/-- THE SECOND FORM's CARD OF 'texttoolslaw42.ValueCoerces'. -/
def valueCoercesUptoCard : Claim7 := { stood := { row := valueCoercesUptoRow, standIns := [], harness := (true, "628e037ee48ef7ef878e9d95829ef7c2419e0e664223ec9e900820997507f782"), looks := false }, kinds := [], alts := [], laidByText := true, laidKinds := [.data, .data, .data, .data, .pinned], laidTests := true, laidLooks := .later }
def ValueCoercesUptoCardSaid : Prop := Claim7.holds Tryd.pinned (.plain (OpenSpec.upto valueCoercesSpec)) valueCoercesUptoCard

/-- THE SECOND FORM's CARD OF 'texttoolslaw42.ValueInputs'. -/
def valueInputsUptoCard : Claim7 := { stood := { row := valueInputsUptoRow, standIns := [], harness := (true, "628e037ee48ef7ef878e9d95829ef7c2419e0e664223ec9e900820997507f782"), looks := false }, kinds := [], alts := [], laidByText := true, laidKinds := [.data, .data, .data, .data, .pinned], laidTests := true, laidLooks := .later }
def ValueInputsUptoCardSaid : Prop := Claim7.holds Tryd.pinned (.plain (OpenSpec.upto valueInputsSpec)) valueInputsUptoCard

/-- THE SECOND FORM's CARD OF 'texttoolslaw42.ValueComputes'. -/
def valueComputesUptoCard : Claim7 := { stood := { row := valueComputesUptoRow, standIns := [], harness := (true, "628e037ee48ef7ef878e9d95829ef7c2419e0e664223ec9e900820997507f782"), looks := false }, kinds := [], alts := [], laidByText := true, laidKinds := [.data, .data, .data, .data, .pinned], laidTests := true, laidLooks := .later }
def ValueComputesUptoCardSaid : Prop := Claim7.holds Tryd.pinned (.plain (OpenSpec.upto valueComputesSpec)) valueComputesUptoCard

/-- THE SECOND FORM's CARD OF 'texttoolslaw42.ValueReturns'. -/
def valueReturnsUptoCard : Claim7 := { stood := { row := valueReturnsUptoRow, standIns := [], harness := (true, "628e037ee48ef7ef878e9d95829ef7c2419e0e664223ec9e900820997507f782"), looks := false }, kinds := [], alts := [], laidByText := true, laidKinds := [.data, .data, .data, .data, .pinned], laidTests := true, laidLooks := .later }
def ValueReturnsUptoCardSaid : Prop := Claim7.holds Tryd.pinned (.plain (OpenSpec.upto valueReturnsSpec)) valueReturnsUptoCard

/-- THE SECOND FORM's CARD OF 'texttoolslaw42.ValueOrders'. -/
def valueOrdersUptoCard : Claim7 := { stood := { row := valueOrdersUptoRow, standIns := [], harness := (true, "628e037ee48ef7ef878e9d95829ef7c2419e0e664223ec9e900820997507f782"), looks := false }, kinds := [], alts := [], laidByText := true, laidKinds := [.data, .data, .data, .data, .pinned], laidTests := true, laidLooks := .later }
def ValueOrdersUptoCardSaid : Prop := Claim7.holds Tryd.pinned (.plain (OpenSpec.upto valueOrdersSpec)) valueOrdersUptoCard

/-- THE SECOND FORM's CARD OF 'texttoolslaw42.ValueDiffers'. -/
def valueDiffersUptoCard : Claim7 := { stood := { row := valueDiffersUptoRow, standIns := [], harness := (true, "628e037ee48ef7ef878e9d95829ef7c2419e0e664223ec9e900820997507f782"), looks := false }, kinds := [], alts := [], laidByText := true, laidKinds := [.data, .data, .data, .data, .pinned], laidTests := true, laidLooks := .later }
def ValueDiffersUptoCardSaid : Prop := Claim7.holds Tryd.pinned (.plain (OpenSpec.upto valueDiffersSpec)) valueDiffersUptoCard
end Rows
end Go.Proofs.YtjngkapfngempaaDoor
