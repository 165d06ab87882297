/-
  DERIVED. GIVEN WITH THE SEED: THE CARDS: each row of YtnbellffbbaamaaDoorRows.lean that lists a variable, with what it lists TIED to the program's text (the seventh form; the later family's looks); each row that meets fmt, with fmt's text TOLD by the authors' own Lean function (tested against real Go, not proved from fmt's source: count such statements apart). THE CARD IS WHAT COUNTS. Prove the row's statement (the work); the ties are given (YtnbellffbbaamaaDoorTie.lean); close each card by the builder's one call (the guide's Derived/Test/ToyasCard.lean, 'card_holds'). Laid BY PROGRAM, IN A SANDBOX (cutbox-door.mjs). By AI agents, Wed Nov 11 2026. No macro, syntax, notation, axiom, sorry.
-/
import Derived.Test.YtnbellffbbaamaaDoorRows
import GoSem.ClaimSeven
namespace Go.Proofs.YtnbellffbbaamaaDoor
namespace Rows

/-- THE TIED CARD OF 'texttoolslaw03.TextMakes'. -/
def textMakesCard : Claim7 := { stood := { row := textMakesRow, standIns := [], harness := (true, "e05fd452d7afb0c7240c4c7be8a26adb4f5df087b2d9134c9a124befd216046f"), looks := false }, kinds := [], alts := [], laidByText := true, laidKinds := [.data, .pinned], laidTests := true, laidLooks := .later }
def TextMakesCardSaid : Prop := Claim7.holds Tryd.pinned (.plain (OpenSpec.ofChange textMakesSpec)) textMakesCard

/-- THE TIED CARD OF 'texttoolslaw03.TextJoins'. -/
def textJoinsCard : Claim7 := { stood := { row := textJoinsRow, standIns := [], harness := (true, "e05fd452d7afb0c7240c4c7be8a26adb4f5df087b2d9134c9a124befd216046f"), looks := false }, kinds := [], alts := [], laidByText := true, laidKinds := [.data, .pinned], laidTests := true, laidLooks := .later }
def TextJoinsCardSaid : Prop := Claim7.holds Tryd.pinned (.plain (OpenSpec.ofChange textJoinsSpec)) textJoinsCard

/-- THE TIED CARD OF 'texttoolslaw03.TextPositions'. -/
def textPositionsCard : Claim7 := { stood := { row := textPositionsRow, standIns := [], harness := (true, "e05fd452d7afb0c7240c4c7be8a26adb4f5df087b2d9134c9a124befd216046f"), looks := false }, kinds := [], alts := [], laidByText := true, laidKinds := [.data, .pinned], laidTests := true, laidLooks := .later }
def TextPositionsCardSaid : Prop := Claim7.holds Tryd.pinned (.plain (OpenSpec.ofChange textPositionsSpec)) textPositionsCard

/-- THE TIED CARD OF 'texttoolslaw03.TextCounts'. -/
def textCountsCard : Claim7 := { stood := { row := textCountsRow, standIns := [], harness := (true, "e05fd452d7afb0c7240c4c7be8a26adb4f5df087b2d9134c9a124befd216046f"), looks := false }, kinds := [], alts := [], laidByText := true, laidKinds := [.data, .pinned], laidTests := true, laidLooks := .later }
def TextCountsCardSaid : Prop := Claim7.holds Tryd.pinned (.plain (OpenSpec.ofChange textCountsSpec)) textCountsCard

/-- THE TIED CARD OF 'texttoolslaw03.TextUnescapes'. -/
def textUnescapesCard : Claim7 := { stood := { row := textUnescapesRow, standIns := [], harness := (true, "e05fd452d7afb0c7240c4c7be8a26adb4f5df087b2d9134c9a124befd216046f"), looks := false }, kinds := [], alts := [], laidByText := true, laidKinds := [.data, .pinned], laidTests := true, laidLooks := .later }
def TextUnescapesCardSaid : Prop := Claim7.holds Tryd.pinned (.plain (OpenSpec.ofChange textUnescapesSpec)) textUnescapesCard

/-- THE TIED CARD OF 'texttoolslaw03.TextLines'. -/
def textLinesCard : Claim7 := { stood := { row := textLinesRow, standIns := [], harness := (true, "e05fd452d7afb0c7240c4c7be8a26adb4f5df087b2d9134c9a124befd216046f"), looks := false }, kinds := [], alts := [], laidByText := true, laidKinds := [.data, .pinned], laidTests := true, laidLooks := .later }
def TextLinesCardSaid : Prop := Claim7.holds Tryd.pinned (.plain (OpenSpec.ofChange textLinesSpec)) textLinesCard

/-- THE TIED CARD OF 'texttoolslaw03.TextWords'. -/
def textWordsCard : Claim7 := { stood := { row := textWordsRow, standIns := [], harness := (true, "e05fd452d7afb0c7240c4c7be8a26adb4f5df087b2d9134c9a124befd216046f"), looks := false }, kinds := [], alts := [], laidByText := true, laidKinds := [.data, .pinned], laidTests := true, laidLooks := .later }
def TextWordsCardSaid : Prop := Claim7.holds Tryd.pinned (.plain (OpenSpec.ofChange textWordsSpec)) textWordsCard

/-- THE TIED CARD OF 'texttoolslaw03.TextEscapes'. -/
def textEscapesCard : Claim7 := { stood := { row := textEscapesRow, standIns := [], harness := (true, "e05fd452d7afb0c7240c4c7be8a26adb4f5df087b2d9134c9a124befd216046f"), looks := false }, kinds := [], alts := [], laidByText := true, laidKinds := [.data, .pinned], laidTests := true, laidLooks := .later }
def TextEscapesCardSaid : Prop := Claim7.holds Tryd.pinned (.plain (OpenSpec.ofChange textEscapesSpec)) textEscapesCard

/-- THE SECOND FORM's CARD OF 'texttoolslaw03.TextMakes'. -/
def textMakesUptoCard : Claim7 := { stood := { row := textMakesUptoRow, standIns := [], harness := (true, "e05fd452d7afb0c7240c4c7be8a26adb4f5df087b2d9134c9a124befd216046f"), looks := false }, kinds := [], alts := [], laidByText := true, laidKinds := [.data, .pinned], laidTests := true, laidLooks := .later }
def TextMakesUptoCardSaid : Prop := Claim7.holds Tryd.pinned (.plain (OpenSpec.upto textMakesSpec)) textMakesUptoCard

/-- THE SECOND FORM's CARD OF 'texttoolslaw03.TextJoins'. -/
def textJoinsUptoCard : Claim7 := { stood := { row := textJoinsUptoRow, standIns := [], harness := (true, "e05fd452d7afb0c7240c4c7be8a26adb4f5df087b2d9134c9a124befd216046f"), looks := false }, kinds := [], alts := [], laidByText := true, laidKinds := [.data, .pinned], laidTests := true, laidLooks := .later }
def TextJoinsUptoCardSaid : Prop := Claim7.holds Tryd.pinned (.plain (OpenSpec.upto textJoinsSpec)) textJoinsUptoCard

/-- THE SECOND FORM's CARD OF 'texttoolslaw03.TextPositions'. -/
def textPositionsUptoCard : Claim7 := { stood := { row := textPositionsUptoRow, standIns := [], harness := (true, "e05fd452d7afb0c7240c4c7be8a26adb4f5df087b2d9134c9a124befd216046f"), looks := false }, kinds := [], alts := [], laidByText := true, laidKinds := [.data, .pinned], laidTests := true, laidLooks := .later }
def TextPositionsUptoCardSaid : Prop := Claim7.holds Tryd.pinned (.plain (OpenSpec.upto textPositionsSpec)) textPositionsUptoCard

/-- THE SECOND FORM's CARD OF 'texttoolslaw03.TextCounts'. -/
def textCountsUptoCard : Claim7 := { stood := { row := textCountsUptoRow, standIns := [], harness := (true, "e05fd452d7afb0c7240c4c7be8a26adb4f5df087b2d9134c9a124befd216046f"), looks := false }, kinds := [], alts := [], laidByText := true, laidKinds := [.data, .pinned], laidTests := true, laidLooks := .later }
def TextCountsUptoCardSaid : Prop := Claim7.holds Tryd.pinned (.plain (OpenSpec.upto textCountsSpec)) textCountsUptoCard

/-- THE SECOND FORM's CARD OF 'texttoolslaw03.TextUnescapes'. -/
def textUnescapesUptoCard : Claim7 := { stood := { row := textUnescapesUptoRow, standIns := [], harness := (true, "e05fd452d7afb0c7240c4c7be8a26adb4f5df087b2d9134c9a124befd216046f"), looks := false }, kinds := [], alts := [], laidByText := true, laidKinds := [.data, .pinned], laidTests := true, laidLooks := .later }
def TextUnescapesUptoCardSaid : Prop := Claim7.holds Tryd.pinned (.plain (OpenSpec.upto textUnescapesSpec)) textUnescapesUptoCard

/-- THE SECOND FORM's CARD OF 'texttoolslaw03.TextLines'. -/
def textLinesUptoCard : Claim7 := { stood := { row := textLinesUptoRow, standIns := [], harness := (true, "e05fd452d7afb0c7240c4c7be8a26adb4f5df087b2d9134c9a124befd216046f"), looks := false }, kinds := [], alts := [], laidByText := true, laidKinds := [.data, .pinned], laidTests := true, laidLooks := .later }
def TextLinesUptoCardSaid : Prop := Claim7.holds Tryd.pinned (.plain (OpenSpec.upto textLinesSpec)) textLinesUptoCard

/-- THE SECOND FORM's CARD OF 'texttoolslaw03.TextWords'. -/
def textWordsUptoCard : Claim7 := { stood := { row := textWordsUptoRow, standIns := [], harness := (true, "e05fd452d7afb0c7240c4c7be8a26adb4f5df087b2d9134c9a124befd216046f"), looks := false }, kinds := [], alts := [], laidByText := true, laidKinds := [.data, .pinned], laidTests := true, laidLooks := .later }
def TextWordsUptoCardSaid : Prop := Claim7.holds Tryd.pinned (.plain (OpenSpec.upto textWordsSpec)) textWordsUptoCard

/-- THE SECOND FORM's CARD OF 'texttoolslaw03.TextEscapes'. -/
def textEscapesUptoCard : Claim7 := { stood := { row := textEscapesUptoRow, standIns := [], harness := (true, "e05fd452d7afb0c7240c4c7be8a26adb4f5df087b2d9134c9a124befd216046f"), looks := false }, kinds := [], alts := [], laidByText := true, laidKinds := [.data, .pinned], laidTests := true, laidLooks := .later }
def TextEscapesUptoCardSaid : Prop := Claim7.holds Tryd.pinned (.plain (OpenSpec.upto textEscapesSpec)) textEscapesUptoCard
end Rows
end Go.Proofs.YtnbellffbbaamaaDoor
