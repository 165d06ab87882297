/-
  DERIVED. GIVEN WITH THE SEED: THE CARDS: each row of YtpacfinfbcpfnaaDoorRows.lean that lists a variable, with what it lists TIED to the program's text (the seventh form; the later family's looks); each row that meets fmt, with fmt's text TOLD by the authors' own Lean function (tested against real Go, not proved from fmt's source: count such statements apart). THE CARD IS WHAT COUNTS. Prove the row's statement (the work); the ties are given (YtpacfinfbcpfnaaDoorTie.lean); close each card by the builder's one call (the guide's Derived/Test/ToyasCard.lean, 'card_holds'). Laid BY PROGRAM, IN A SANDBOX (cutbox-door.mjs). By AI agents, Wed Nov 11 2026. No macro, syntax, notation, axiom, sorry.
-/
import Derived.Test.YtpacfinfbcpfnaaDoorRows
import GoSem.ClaimSeven
namespace Go.Proofs.YtpacfinfbcpfnaaDoor
namespace Rows

/-- THE TIED CARD OF 'texttoolslaw02.DecimalPowers'. -/
def decimalPowersCard : Claim7 := { stood := { row := decimalPowersRow, standIns := [], harness := (true, "a201e216412075bd64f5cd86906e911911765dd9c0da5d7dfa2e9ae95e6c0867"), looks := false }, kinds := [], alts := [], laidByText := true, laidKinds := [.data, .data, .data, .data], laidTests := true, laidLooks := .later }
def DecimalPowersCardSaid : Prop := Claim7.holds Tryd.pinned (.plain (OpenSpec.ofChange decimalPowersSpec)) decimalPowersCard

/-- THE TIED CARD OF 'texttoolslaw02.DecimalTexts'. -/
def decimalTextsCard : Claim7 := { stood := { row := decimalTextsRow, standIns := [], harness := (true, "a201e216412075bd64f5cd86906e911911765dd9c0da5d7dfa2e9ae95e6c0867"), looks := false }, kinds := [], alts := [], laidByText := true, laidKinds := [.data, .data, .data, .data], laidTests := true, laidLooks := .later }
def DecimalTextsCardSaid : Prop := Claim7.holds Tryd.pinned (.plain (OpenSpec.ofChange decimalTextsSpec)) decimalTextsCard

/-- THE TIED CARD OF 'texttoolslaw02.DecimalRoundTrips'. -/
def decimalRoundTripsCard : Claim7 := { stood := { row := decimalRoundTripsRow, standIns := [], harness := (true, "a201e216412075bd64f5cd86906e911911765dd9c0da5d7dfa2e9ae95e6c0867"), looks := false }, kinds := [], alts := [], laidByText := true, laidKinds := [.data, .data, .data, .data], laidTests := true, laidLooks := .later }
def DecimalRoundTripsCardSaid : Prop := Claim7.holds Tryd.pinned (.plain (OpenSpec.ofChange decimalRoundTripsSpec)) decimalRoundTripsCard

/-- THE TIED CARD OF 'texttoolslaw02.DecimalNearest'. -/
def decimalNearestCard : Claim7 := { stood := { row := decimalNearestRow, standIns := [], harness := (true, "a201e216412075bd64f5cd86906e911911765dd9c0da5d7dfa2e9ae95e6c0867"), looks := false }, kinds := [], alts := [], laidByText := true, laidKinds := [.data, .data, .data, .data], laidTests := true, laidLooks := .later }
def DecimalNearestCardSaid : Prop := Claim7.holds Tryd.pinned (.plain (OpenSpec.ofChange decimalNearestSpec)) decimalNearestCard

/-- THE TIED CARD OF 'texttoolslaw02.DecimalCuts'. -/
def decimalCutsCard : Claim7 := { stood := { row := decimalCutsRow, standIns := [], harness := (true, "a201e216412075bd64f5cd86906e911911765dd9c0da5d7dfa2e9ae95e6c0867"), looks := false }, kinds := [], alts := [], laidByText := true, laidKinds := [.data, .data, .data, .data], laidTests := true, laidLooks := .later }
def DecimalCutsCardSaid : Prop := Claim7.holds Tryd.pinned (.plain (OpenSpec.ofChange decimalCutsSpec)) decimalCutsCard

/-- THE TIED CARD OF 'texttoolslaw02.DecimalConverts'. -/
def decimalConvertsCard : Claim7 := { stood := { row := decimalConvertsRow, standIns := [], harness := (true, "a201e216412075bd64f5cd86906e911911765dd9c0da5d7dfa2e9ae95e6c0867"), looks := false }, kinds := [], alts := [], laidByText := true, laidKinds := [.data, .data, .data, .data], laidTests := true, laidLooks := .later }
def DecimalConvertsCardSaid : Prop := Claim7.holds Tryd.pinned (.plain (OpenSpec.ofChange decimalConvertsSpec)) decimalConvertsCard

/-- THE TIED CARD OF 'texttoolslaw02.DecimalArithmetic'. -/
def decimalArithmeticCard : Claim7 := { stood := { row := decimalArithmeticRow, standIns := [], harness := (true, "a201e216412075bd64f5cd86906e911911765dd9c0da5d7dfa2e9ae95e6c0867"), looks := false }, kinds := [], alts := [], laidByText := true, laidKinds := [.data, .data, .data, .data], laidTests := true, laidLooks := .later }
def DecimalArithmeticCardSaid : Prop := Claim7.holds Tryd.pinned (.plain (OpenSpec.ofChange decimalArithmeticSpec)) decimalArithmeticCard

/-- THE TIED CARD OF 'texttoolslaw02.DecimalField'. -/
def decimalFieldCard : Claim7 := { stood := { row := decimalFieldRow, standIns := [], harness := (true, "a201e216412075bd64f5cd86906e911911765dd9c0da5d7dfa2e9ae95e6c0867"), looks := false }, kinds := [], alts := [], laidByText := true, laidKinds := [.data, .data, .data, .data], laidTests := true, laidLooks := .later }
def DecimalFieldCardSaid : Prop := Claim7.holds Tryd.pinned (.plain (OpenSpec.ofChange decimalFieldSpec)) decimalFieldCard

/-- THE SECOND FORM's CARD OF 'texttoolslaw02.DecimalPowers'. -/
def decimalPowersUptoCard : Claim7 := { stood := { row := decimalPowersUptoRow, standIns := [], harness := (true, "a201e216412075bd64f5cd86906e911911765dd9c0da5d7dfa2e9ae95e6c0867"), looks := false }, kinds := [], alts := [], laidByText := true, laidKinds := [.data, .data, .data, .data], laidTests := true, laidLooks := .later }
def DecimalPowersUptoCardSaid : Prop := Claim7.holds Tryd.pinned (.plain (OpenSpec.upto decimalPowersSpec)) decimalPowersUptoCard

/-- THE SECOND FORM's CARD OF 'texttoolslaw02.DecimalTexts'. -/
def decimalTextsUptoCard : Claim7 := { stood := { row := decimalTextsUptoRow, standIns := [], harness := (true, "a201e216412075bd64f5cd86906e911911765dd9c0da5d7dfa2e9ae95e6c0867"), looks := false }, kinds := [], alts := [], laidByText := true, laidKinds := [.data, .data, .data, .data], laidTests := true, laidLooks := .later }
def DecimalTextsUptoCardSaid : Prop := Claim7.holds Tryd.pinned (.plain (OpenSpec.upto decimalTextsSpec)) decimalTextsUptoCard

/-- THE SECOND FORM's CARD OF 'texttoolslaw02.DecimalRoundTrips'. -/
def decimalRoundTripsUptoCard : Claim7 := { stood := { row := decimalRoundTripsUptoRow, standIns := [], harness := (true, "a201e216412075bd64f5cd86906e911911765dd9c0da5d7dfa2e9ae95e6c0867"), looks := false }, kinds := [], alts := [], laidByText := true, laidKinds := [.data, .data, .data, .data], laidTests := true, laidLooks := .later }
def DecimalRoundTripsUptoCardSaid : Prop := Claim7.holds Tryd.pinned (.plain (OpenSpec.upto decimalRoundTripsSpec)) decimalRoundTripsUptoCard

/-- THE SECOND FORM's CARD OF 'texttoolslaw02.DecimalNearest'. -/
def decimalNearestUptoCard : Claim7 := { stood := { row := decimalNearestUptoRow, standIns := [], harness := (true, "a201e216412075bd64f5cd86906e911911765dd9c0da5d7dfa2e9ae95e6c0867"), looks := false }, kinds := [], alts := [], laidByText := true, laidKinds := [.data, .data, .data, .data], laidTests := true, laidLooks := .later }
def DecimalNearestUptoCardSaid : Prop := Claim7.holds Tryd.pinned (.plain (OpenSpec.upto decimalNearestSpec)) decimalNearestUptoCard

/-- THE SECOND FORM's CARD OF 'texttoolslaw02.DecimalCuts'. -/
def decimalCutsUptoCard : Claim7 := { stood := { row := decimalCutsUptoRow, standIns := [], harness := (true, "a201e216412075bd64f5cd86906e911911765dd9c0da5d7dfa2e9ae95e6c0867"), looks := false }, kinds := [], alts := [], laidByText := true, laidKinds := [.data, .data, .data, .data], laidTests := true, laidLooks := .later }
def DecimalCutsUptoCardSaid : Prop := Claim7.holds Tryd.pinned (.plain (OpenSpec.upto decimalCutsSpec)) decimalCutsUptoCard

/-- THE SECOND FORM's CARD OF 'texttoolslaw02.DecimalConverts'. -/
def decimalConvertsUptoCard : Claim7 := { stood := { row := decimalConvertsUptoRow, standIns := [], harness := (true, "a201e216412075bd64f5cd86906e911911765dd9c0da5d7dfa2e9ae95e6c0867"), looks := false }, kinds := [], alts := [], laidByText := true, laidKinds := [.data, .data, .data, .data], laidTests := true, laidLooks := .later }
def DecimalConvertsUptoCardSaid : Prop := Claim7.holds Tryd.pinned (.plain (OpenSpec.upto decimalConvertsSpec)) decimalConvertsUptoCard

/-- THE SECOND FORM's CARD OF 'texttoolslaw02.DecimalArithmetic'. -/
def decimalArithmeticUptoCard : Claim7 := { stood := { row := decimalArithmeticUptoRow, standIns := [], harness := (true, "a201e216412075bd64f5cd86906e911911765dd9c0da5d7dfa2e9ae95e6c0867"), looks := false }, kinds := [], alts := [], laidByText := true, laidKinds := [.data, .data, .data, .data], laidTests := true, laidLooks := .later }
def DecimalArithmeticUptoCardSaid : Prop := Claim7.holds Tryd.pinned (.plain (OpenSpec.upto decimalArithmeticSpec)) decimalArithmeticUptoCard

/-- THE SECOND FORM's CARD OF 'texttoolslaw02.DecimalField'. -/
def decimalFieldUptoCard : Claim7 := { stood := { row := decimalFieldUptoRow, standIns := [], harness := (true, "a201e216412075bd64f5cd86906e911911765dd9c0da5d7dfa2e9ae95e6c0867"), looks := false }, kinds := [], alts := [], laidByText := true, laidKinds := [.data, .data, .data, .data], laidTests := true, laidLooks := .later }
def DecimalFieldUptoCardSaid : Prop := Claim7.holds Tryd.pinned (.plain (OpenSpec.upto decimalFieldSpec)) decimalFieldUptoCard
end Rows
end Go.Proofs.YtpacfinfbcpfnaaDoor
