/-
  DERIVED. GIVEN WITH THE SEED: THE CARDS: each row of YtbhdhcnbagjmcaaDoorRows.lean that lists a variable, with what it lists TIED to the program's text (the seventh form; the later family's looks); each row that meets fmt, with fmt's text TOLD by the authors' own Lean function (tested against real Go, not proved from fmt's source: count such statements apart). THE CARD IS WHAT COUNTS. Prove the row's statement (the work); the ties are given (YtbhdhcnbagjmcaaDoorTie.lean); close each card by the builder's one call (the guide's Derived/Test/ToyasCard.lean, 'card_holds'). Laid BY PROGRAM, IN A SANDBOX (cutbox-door.mjs). By AI agents, Wed Nov 11 2026. No macro, syntax, notation, axiom, sorry.
-/
import Derived.Test.YtbhdhcnbagjmcaaDoorRows
import GoSem.ClaimSeven
namespace Go.Proofs.YtbhdhcnbagjmcaaDoor
namespace Rows

/-- THE TIED CARD OF 'texttoolslaw29.JoinFields'. -/
def joinFieldsCard : Claim7 := { stood := { row := joinFieldsRow, standIns := [], harness := (true, "fa6927dfb697f49ff9d7fa1cb3c19a145de36c65d9cbce48566a632b6527a185"), looks := false }, kinds := [], alts := [], laidByText := true, laidKinds := [.data, .pinned], laidTests := true, laidLooks := .later }
def JoinFieldsCardSaid : Prop := Claim7.holds Tryd.pinned (.plain (OpenSpec.ofChange joinFieldsSpec)) joinFieldsCard

/-- THE TIED CARD OF 'texttoolslaw29.JoinLines'. -/
def joinLinesCard : Claim7 := { stood := { row := joinLinesRow, standIns := [], harness := (true, "fa6927dfb697f49ff9d7fa1cb3c19a145de36c65d9cbce48566a632b6527a185"), looks := false }, kinds := [], alts := [], laidByText := true, laidKinds := [.data, .pinned], laidTests := true, laidLooks := .later }
def JoinLinesCardSaid : Prop := Claim7.holds Tryd.pinned (.plain (OpenSpec.ofChange joinLinesSpec)) joinLinesCard

/-- THE TIED CARD OF 'texttoolslaw29.JoinPairs'. -/
def joinPairsCard : Claim7 := { stood := { row := joinPairsRow, standIns := [], harness := (true, "fa6927dfb697f49ff9d7fa1cb3c19a145de36c65d9cbce48566a632b6527a185"), looks := false }, kinds := [], alts := [], laidByText := true, laidKinds := [.data, .pinned], laidTests := true, laidLooks := .later }
def JoinPairsCardSaid : Prop := Claim7.holds Tryd.pinned (.plain (OpenSpec.ofChange joinPairsSpec)) joinPairsCard

/-- THE TIED CARD OF 'texttoolslaw29.JoinSwaps'. -/
def joinSwapsCard : Claim7 := { stood := { row := joinSwapsRow, standIns := [], harness := (true, "fa6927dfb697f49ff9d7fa1cb3c19a145de36c65d9cbce48566a632b6527a185"), looks := false }, kinds := [], alts := [], laidByText := true, laidKinds := [.data, .pinned], laidTests := true, laidLooks := .later }
def JoinSwapsCardSaid : Prop := Claim7.holds Tryd.pinned (.plain (OpenSpec.ofChange joinSwapsSpec)) joinSwapsCard

/-- THE TIED CARD OF 'texttoolslaw29.JoinDivides'. -/
def joinDividesCard : Claim7 := { stood := { row := joinDividesRow, standIns := [], harness := (true, "fa6927dfb697f49ff9d7fa1cb3c19a145de36c65d9cbce48566a632b6527a185"), looks := false }, kinds := [], alts := [], laidByText := true, laidKinds := [.data, .pinned], laidTests := true, laidLooks := .later }
def JoinDividesCardSaid : Prop := Claim7.holds Tryd.pinned (.plain (OpenSpec.ofChange joinDividesSpec)) joinDividesCard

/-- THE SECOND FORM's CARD OF 'texttoolslaw29.JoinFields'. -/
def joinFieldsUptoCard : Claim7 := { stood := { row := joinFieldsUptoRow, standIns := [], harness := (true, "fa6927dfb697f49ff9d7fa1cb3c19a145de36c65d9cbce48566a632b6527a185"), looks := false }, kinds := [], alts := [], laidByText := true, laidKinds := [.data, .pinned], laidTests := true, laidLooks := .later }
def JoinFieldsUptoCardSaid : Prop := Claim7.holds Tryd.pinned (.plain (OpenSpec.upto joinFieldsSpec)) joinFieldsUptoCard

/-- THE SECOND FORM's CARD OF 'texttoolslaw29.JoinLines'. -/
def joinLinesUptoCard : Claim7 := { stood := { row := joinLinesUptoRow, standIns := [], harness := (true, "fa6927dfb697f49ff9d7fa1cb3c19a145de36c65d9cbce48566a632b6527a185"), looks := false }, kinds := [], alts := [], laidByText := true, laidKinds := [.data, .pinned], laidTests := true, laidLooks := .later }
def JoinLinesUptoCardSaid : Prop := Claim7.holds Tryd.pinned (.plain (OpenSpec.upto joinLinesSpec)) joinLinesUptoCard

/-- THE SECOND FORM's CARD OF 'texttoolslaw29.JoinPairs'. -/
def joinPairsUptoCard : Claim7 := { stood := { row := joinPairsUptoRow, standIns := [], harness := (true, "fa6927dfb697f49ff9d7fa1cb3c19a145de36c65d9cbce48566a632b6527a185"), looks := false }, kinds := [], alts := [], laidByText := true, laidKinds := [.data, .pinned], laidTests := true, laidLooks := .later }
def JoinPairsUptoCardSaid : Prop := Claim7.holds Tryd.pinned (.plain (OpenSpec.upto joinPairsSpec)) joinPairsUptoCard

/-- THE SECOND FORM's CARD OF 'texttoolslaw29.JoinSwaps'. -/
def joinSwapsUptoCard : Claim7 := { stood := { row := joinSwapsUptoRow, standIns := [], harness := (true, "fa6927dfb697f49ff9d7fa1cb3c19a145de36c65d9cbce48566a632b6527a185"), looks := false }, kinds := [], alts := [], laidByText := true, laidKinds := [.data, .pinned], laidTests := true, laidLooks := .later }
def JoinSwapsUptoCardSaid : Prop := Claim7.holds Tryd.pinned (.plain (OpenSpec.upto joinSwapsSpec)) joinSwapsUptoCard

/-- THE SECOND FORM's CARD OF 'texttoolslaw29.JoinDivides'. -/
def joinDividesUptoCard : Claim7 := { stood := { row := joinDividesUptoRow, standIns := [], harness := (true, "fa6927dfb697f49ff9d7fa1cb3c19a145de36c65d9cbce48566a632b6527a185"), looks := false }, kinds := [], alts := [], laidByText := true, laidKinds := [.data, .pinned], laidTests := true, laidLooks := .later }
def JoinDividesUptoCardSaid : Prop := Claim7.holds Tryd.pinned (.plain (OpenSpec.upto joinDividesSpec)) joinDividesUptoCard
end Rows
end Go.Proofs.YtbhdhcnbagjmcaaDoor
