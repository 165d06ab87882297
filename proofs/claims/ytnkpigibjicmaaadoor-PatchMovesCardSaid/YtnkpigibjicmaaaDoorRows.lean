/-
  NARROWER THAN 'FOR EVERY INPUT', by the rows' own cells (each row's printed sentence says how): PatchPlaces: laid · PatchMoves: laid · PatchFiles: laid · PatchChecks: laid · PatchApplies: laid · PatchReverses: laid.
  DERIVED. THE GIVEN ROWS OF THIS SEAT. 6 by the template 'for every input the law returns true; each argument reads behind the call as it read before'; 0 by the template 'total and deterministic' (their statements: YtnkpigibjicmaaaDoorTotals.lean).
  GIVEN WITH THE SEED: the statements are not yours to turn. If you find one false, say at which input.
  Laid BY PROGRAM, IN A SANDBOX (cutbox-rows.mjs): the forced cells as the released guide's own fill.sh prints them over the translation c6ecba71de55999d… (all of the seat's roots in one cut). By AI agents, Wed Nov 11 2026. No macro, syntax, notation, axiom, sorry.
-/
import Derived.Test.YtnkpigibjicmaaaDoorChecked
import GoSem.PinnedTables
import GoSem.Claim
import GoSem.ClaimJoined
import GoSem.ClaimMapViews
import Derived.JoinedTies
import Derived.KernelRfl
namespace Go.Proofs.YtnkpigibjicmaaaDoor
/- THE CELL 'sum', in the pinned program and in every row, IS THE sha256 OF THE DUMP (.gsa) THAT YtnkpigibjicmaaaDoorProg.lean LOADS. Nothing in Lean hashes anything: it is a label: what it is worth is what the hold of that sum in a sandbox is worth. -/
noncomputable def Tryd.pinned : Pinned := { name := "ytnkpigibjicmaaadoor", sum := "c6ecba71de55999d86c296c46dea5464e2784dfc5b688204c211861bc96a94ee", checked := Tryd.checked }
namespace Rows
def none {H : Type} : Left H := { results := [], args := [] }

/- WHAT THE LISTED PACKAGE-LEVEL VARIABLES READ AS WHEN THE CALL BEGINS. Each datum BY PROGRAM (the guide's laid-datum.mjs) off the statement by which the dump's own 'gosem.cut.vars' lays the variable. In a bare row this is a premise. The card (YtnkpigibjicmaaaDoorCards.lean) ties it to the program's text. -/
def laid_unicode_utf8_acceptRanges {H : Type} : DataW H := .agg [.agg [.lit (.int .u8 128), .lit (.int .u8 191)], .agg [.lit (.int .u8 160), .lit (.int .u8 191)], .agg [.lit (.int .u8 128), .lit (.int .u8 159)], .agg [.lit (.int .u8 144), .lit (.int .u8 191)], .agg [.lit (.int .u8 128), .lit (.int .u8 143)], .agg [.lit (.int .u8 0), .lit (.int .u8 0)], .agg [.lit (.int .u8 0), .lit (.int .u8 0)], .agg [.lit (.int .u8 0), .lit (.int .u8 0)], .agg [.lit (.int .u8 0), .lit (.int .u8 0)], .agg [.lit (.int .u8 0), .lit (.int .u8 0)], .agg [.lit (.int .u8 0), .lit (.int .u8 0)], .agg [.lit (.int .u8 0), .lit (.int .u8 0)], .agg [.lit (.int .u8 0), .lit (.int .u8 0)], .agg [.lit (.int .u8 0), .lit (.int .u8 0)], .agg [.lit (.int .u8 0), .lit (.int .u8 0)], .agg [.lit (.int .u8 0), .lit (.int .u8 0)]]
/-- One of Go's own tables, pinned by name: the form's constant. -/
def laid_unicode_utf8_first : DataW Unit := Go.Pinned.utf8First

/-- 'texttoolslaw34.PatchPlaces': WHATEVER THE INPUT: true; the input reads as it did. -/
def patchPlacesSpec : ChangeSpec := { name := "patchPlaces", fn := fun _ => fun
  | [d1, d2, d3] => { results := [.lit (.bool true)], args := [d1, d2, d3] }
  | _ => none }
def patchPlacesRow : OpenClaim := { program := "ytnkpigibjicmaaadoor", sum := "c6ecba71de55999d86c296c46dea5464e2784dfc5b688204c211861bc96a94ee", func := "texttools/texttoolslaw34.PatchPlaces", spec := "patchPlaces", inPlace := ["internal/bytealg.IndexByteString", "internal/bytealg.IndexString", "internal/bytealg.CountString", "internal/abi.NoEscape"], unfollowed := true, recurses := true, named := ["internal/bytealg.MaxLen", "unicode/utf8.first", "unicode/utf8.acceptRanges"], apart := false, laid := [("unicode/utf8.acceptRanges", laid_unicode_utf8_acceptRanges), ("unicode/utf8.first", laid_unicode_utf8_first)] }
def PatchPlacesSaid : Prop := patchPlacesRow.holds Tryd.pinned (OpenSpec.ofChange patchPlacesSpec)

/-- ITS FALSE NEIGHBOUR: 'it returns false'. Refute it at one input. -/
def patchPlacesWrong : ChangeSpec := { name := "patchPlaces", fn := fun _ => fun
  | [d1, d2, d3] => { results := [.lit (.bool false)], args := [d1, d2, d3] }
  | _ => none }
def PatchPlacesWrongFalsely : Prop := patchPlacesRow.holds Tryd.pinned (OpenSpec.ofChange patchPlacesWrong)

/-- 'texttoolslaw34.PatchMoves': WHATEVER THE INPUT: true; the input reads as it did. -/
def patchMovesSpec : ChangeSpec := { name := "patchMoves", fn := fun _ => fun
  | [d1, d2, d3] => { results := [.lit (.bool true)], args := [d1, d2, d3] }
  | _ => none }
def patchMovesRow : OpenClaim := { program := "ytnkpigibjicmaaadoor", sum := "c6ecba71de55999d86c296c46dea5464e2784dfc5b688204c211861bc96a94ee", func := "texttools/texttoolslaw34.PatchMoves", spec := "patchMoves", inPlace := ["internal/bytealg.IndexByteString", "internal/bytealg.IndexString", "internal/bytealg.CountString", "internal/abi.NoEscape"], unfollowed := true, recurses := true, named := ["internal/bytealg.MaxLen", "unicode/utf8.first", "unicode/utf8.acceptRanges"], apart := false, laid := [("unicode/utf8.acceptRanges", laid_unicode_utf8_acceptRanges), ("unicode/utf8.first", laid_unicode_utf8_first)] }
def PatchMovesSaid : Prop := patchMovesRow.holds Tryd.pinned (OpenSpec.ofChange patchMovesSpec)

/-- ITS FALSE NEIGHBOUR: 'it returns false'. Refute it at one input. -/
def patchMovesWrong : ChangeSpec := { name := "patchMoves", fn := fun _ => fun
  | [d1, d2, d3] => { results := [.lit (.bool false)], args := [d1, d2, d3] }
  | _ => none }
def PatchMovesWrongFalsely : Prop := patchMovesRow.holds Tryd.pinned (OpenSpec.ofChange patchMovesWrong)

/-- 'texttoolslaw34.PatchFiles': WHATEVER THE INPUT: true; the input reads as it did. -/
def patchFilesSpec : ChangeSpec := { name := "patchFiles", fn := fun _ => fun
  | [d1, d2, d3] => { results := [.lit (.bool true)], args := [d1, d2, d3] }
  | _ => none }
def patchFilesRow : OpenClaim := { program := "ytnkpigibjicmaaadoor", sum := "c6ecba71de55999d86c296c46dea5464e2784dfc5b688204c211861bc96a94ee", func := "texttools/texttoolslaw34.PatchFiles", spec := "patchFiles", inPlace := ["internal/bytealg.IndexByteString", "internal/bytealg.IndexString", "internal/bytealg.CountString", "internal/abi.NoEscape"], unfollowed := true, recurses := true, named := ["internal/bytealg.MaxLen", "unicode/utf8.first", "unicode/utf8.acceptRanges"], apart := false, laid := [("unicode/utf8.acceptRanges", laid_unicode_utf8_acceptRanges), ("unicode/utf8.first", laid_unicode_utf8_first)] }
def PatchFilesSaid : Prop := patchFilesRow.holds Tryd.pinned (OpenSpec.ofChange patchFilesSpec)

/-- ITS FALSE NEIGHBOUR: 'it returns false'. Refute it at one input. -/
def patchFilesWrong : ChangeSpec := { name := "patchFiles", fn := fun _ => fun
  | [d1, d2, d3] => { results := [.lit (.bool false)], args := [d1, d2, d3] }
  | _ => none }
def PatchFilesWrongFalsely : Prop := patchFilesRow.holds Tryd.pinned (OpenSpec.ofChange patchFilesWrong)

/-- 'texttoolslaw34.PatchChecks': WHATEVER THE INPUT: true; the input reads as it did. -/
def patchChecksSpec : ChangeSpec := { name := "patchChecks", fn := fun _ => fun
  | [d] => { results := [.lit (.bool true)], args := [d] }
  | _ => none }
def patchChecksRow : OpenClaim := { program := "ytnkpigibjicmaaadoor", sum := "c6ecba71de55999d86c296c46dea5464e2784dfc5b688204c211861bc96a94ee", func := "texttools/texttoolslaw34.PatchChecks", spec := "patchChecks", inPlace := ["internal/bytealg.IndexByteString", "internal/bytealg.IndexString", "internal/bytealg.CountString", "internal/abi.NoEscape"], unfollowed := true, recurses := true, named := ["internal/bytealg.MaxLen", "unicode/utf8.first", "unicode/utf8.acceptRanges"], apart := false, laid := [("unicode/utf8.acceptRanges", laid_unicode_utf8_acceptRanges), ("unicode/utf8.first", laid_unicode_utf8_first)] }
def PatchChecksSaid : Prop := patchChecksRow.holds Tryd.pinned (OpenSpec.ofChange patchChecksSpec)

/-- ITS FALSE NEIGHBOUR: 'it returns false'. Refute it at one input. -/
def patchChecksWrong : ChangeSpec := { name := "patchChecks", fn := fun _ => fun
  | [d] => { results := [.lit (.bool false)], args := [d] }
  | _ => none }
def PatchChecksWrongFalsely : Prop := patchChecksRow.holds Tryd.pinned (OpenSpec.ofChange patchChecksWrong)

/-- 'texttoolslaw34.PatchApplies': WHATEVER THE INPUT: true; the input reads as it did. -/
def patchAppliesSpec : ChangeSpec := { name := "patchApplies", fn := fun _ => fun
  | [d1, d2, d3] => { results := [.lit (.bool true)], args := [d1, d2, d3] }
  | _ => none }
def patchAppliesRow : OpenClaim := { program := "ytnkpigibjicmaaadoor", sum := "c6ecba71de55999d86c296c46dea5464e2784dfc5b688204c211861bc96a94ee", func := "texttools/texttoolslaw34.PatchApplies", spec := "patchApplies", inPlace := ["internal/bytealg.IndexByteString", "internal/bytealg.IndexString", "internal/bytealg.CountString", "internal/abi.NoEscape"], unfollowed := true, recurses := true, named := ["internal/bytealg.MaxLen", "unicode/utf8.first", "unicode/utf8.acceptRanges"], apart := false, laid := [("unicode/utf8.acceptRanges", laid_unicode_utf8_acceptRanges), ("unicode/utf8.first", laid_unicode_utf8_first)] }
def PatchAppliesSaid : Prop := patchAppliesRow.holds Tryd.pinned (OpenSpec.ofChange patchAppliesSpec)

/-- ITS FALSE NEIGHBOUR: 'it returns false'. Refute it at one input. -/
def patchAppliesWrong : ChangeSpec := { name := "patchApplies", fn := fun _ => fun
  | [d1, d2, d3] => { results := [.lit (.bool false)], args := [d1, d2, d3] }
  | _ => none }
def PatchAppliesWrongFalsely : Prop := patchAppliesRow.holds Tryd.pinned (OpenSpec.ofChange patchAppliesWrong)

/-- 'texttoolslaw34.PatchReverses': WHATEVER THE INPUT: true; the input reads as it did. -/
def patchReversesSpec : ChangeSpec := { name := "patchReverses", fn := fun _ => fun
  | [d] => { results := [.lit (.bool true)], args := [d] }
  | _ => none }
def patchReversesRow : OpenClaim := { program := "ytnkpigibjicmaaadoor", sum := "c6ecba71de55999d86c296c46dea5464e2784dfc5b688204c211861bc96a94ee", func := "texttools/texttoolslaw34.PatchReverses", spec := "patchReverses", inPlace := ["internal/bytealg.IndexByteString", "internal/bytealg.IndexString", "internal/bytealg.CountString", "internal/abi.NoEscape"], unfollowed := true, recurses := true, named := ["internal/bytealg.MaxLen", "unicode/utf8.first", "unicode/utf8.acceptRanges"], apart := false, laid := [("unicode/utf8.acceptRanges", laid_unicode_utf8_acceptRanges), ("unicode/utf8.first", laid_unicode_utf8_first)] }
def PatchReversesSaid : Prop := patchReversesRow.holds Tryd.pinned (OpenSpec.ofChange patchReversesSpec)

/-- ITS FALSE NEIGHBOUR: 'it returns false'. Refute it at one input. -/
def patchReversesWrong : ChangeSpec := { name := "patchReverses", fn := fun _ => fun
  | [d] => { results := [.lit (.bool false)], args := [d] }
  | _ => none }
def PatchReversesWrongFalsely : Prop := patchReversesRow.holds Tryd.pinned (OpenSpec.ofChange patchReversesWrong)

/- THE SECOND FORM. 'bulk': how many values and letters a reading holds, each counted each time it is reached (what is shared counts as often as it is met; a slice's spare places count too). A statement '..UptoSaid' is the law's where the arguments, and the package variables that the reading takes, are together of bulk at most 1048576: NARROWER than '..Said'. Prove '..Said' where nothing that the law and all that it calls make is longer than what came in: it says more and counts as full. Else prove '..UptoSaid'. A law counts once. -/
mutual
def uptoBulk {H : Type} : DataW H → Nat
  | .lit (.string bytes) => bytes.length + 1
  | .lit _ => 1
  | .nil => 1
  | .ptr d => uptoBulk d + 1
  | .slice elems spare => uptoBulkAll elems + uptoBulkAll spare + 1
  | .agg parts => uptoBulkAll parts + 1
  | .iface _ d => uptoBulk d + 1
  | .map entries => uptoBulkEntries entries + 1
  | .held _ => 1
def uptoBulkAll {H : Type} : List (DataW H) → Nat
  | [] => 0
  | d :: r => uptoBulk d + uptoBulkAll r
def uptoBulkEntries {H : Type} : List (Lit × DataW H) → Nat
  | [] => 0
  | x :: r => uptoBulkEntry x + uptoBulkEntries r
def uptoBulkEntry {H : Type} : Lit × DataW H → Nat
  | (.string bytes, d) => bytes.length + uptoBulk d + 1
  | (_, d) => uptoBulk d + 1
 end
def uptoSmall : (H : Type) → List (DataW H) → Bool := fun _ ds => decide (uptoBulkAll ds ≤ 1048576)
def OpenSpec.upto (s : _root_.Go.ChangeSpec) : _root_.Go.OpenSpec := { _root_.Go.OpenSpec.ofChange s with cond := some uptoSmall }

/-- 'texttoolslaw34.PatchPlaces', WHERE WHAT IT READS IS OF BULK AT MOST 1048576: true; the input reads as it did. -/
def patchPlacesUptoRow : OpenClaim := { program := "ytnkpigibjicmaaadoor", sum := "c6ecba71de55999d86c296c46dea5464e2784dfc5b688204c211861bc96a94ee", func := "texttools/texttoolslaw34.PatchPlaces", spec := "patchPlaces", inPlace := ["internal/bytealg.IndexByteString", "internal/bytealg.IndexString", "internal/bytealg.CountString", "internal/abi.NoEscape"], unfollowed := true, recurses := true, named := ["internal/bytealg.MaxLen", "unicode/utf8.first", "unicode/utf8.acceptRanges"], apart := false, laid := [("unicode/utf8.acceptRanges", laid_unicode_utf8_acceptRanges), ("unicode/utf8.first", laid_unicode_utf8_first)], narrowed := true }
def PatchPlacesUptoSaid : Prop := patchPlacesUptoRow.holds Tryd.pinned (OpenSpec.upto patchPlacesSpec)

/-- 'texttoolslaw34.PatchMoves', WHERE WHAT IT READS IS OF BULK AT MOST 1048576: true; the input reads as it did. -/
def patchMovesUptoRow : OpenClaim := { program := "ytnkpigibjicmaaadoor", sum := "c6ecba71de55999d86c296c46dea5464e2784dfc5b688204c211861bc96a94ee", func := "texttools/texttoolslaw34.PatchMoves", spec := "patchMoves", inPlace := ["internal/bytealg.IndexByteString", "internal/bytealg.IndexString", "internal/bytealg.CountString", "internal/abi.NoEscape"], unfollowed := true, recurses := true, named := ["internal/bytealg.MaxLen", "unicode/utf8.first", "unicode/utf8.acceptRanges"], apart := false, laid := [("unicode/utf8.acceptRanges", laid_unicode_utf8_acceptRanges), ("unicode/utf8.first", laid_unicode_utf8_first)], narrowed := true }
def PatchMovesUptoSaid : Prop := patchMovesUptoRow.holds Tryd.pinned (OpenSpec.upto patchMovesSpec)

/-- 'texttoolslaw34.PatchFiles', WHERE WHAT IT READS IS OF BULK AT MOST 1048576: true; the input reads as it did. -/
def patchFilesUptoRow : OpenClaim := { program := "ytnkpigibjicmaaadoor", sum := "c6ecba71de55999d86c296c46dea5464e2784dfc5b688204c211861bc96a94ee", func := "texttools/texttoolslaw34.PatchFiles", spec := "patchFiles", inPlace := ["internal/bytealg.IndexByteString", "internal/bytealg.IndexString", "internal/bytealg.CountString", "internal/abi.NoEscape"], unfollowed := true, recurses := true, named := ["internal/bytealg.MaxLen", "unicode/utf8.first", "unicode/utf8.acceptRanges"], apart := false, laid := [("unicode/utf8.acceptRanges", laid_unicode_utf8_acceptRanges), ("unicode/utf8.first", laid_unicode_utf8_first)], narrowed := true }
def PatchFilesUptoSaid : Prop := patchFilesUptoRow.holds Tryd.pinned (OpenSpec.upto patchFilesSpec)

/-- 'texttoolslaw34.PatchChecks', WHERE WHAT IT READS IS OF BULK AT MOST 1048576: true; the input reads as it did. -/
def patchChecksUptoRow : OpenClaim := { program := "ytnkpigibjicmaaadoor", sum := "c6ecba71de55999d86c296c46dea5464e2784dfc5b688204c211861bc96a94ee", func := "texttools/texttoolslaw34.PatchChecks", spec := "patchChecks", inPlace := ["internal/bytealg.IndexByteString", "internal/bytealg.IndexString", "internal/bytealg.CountString", "internal/abi.NoEscape"], unfollowed := true, recurses := true, named := ["internal/bytealg.MaxLen", "unicode/utf8.first", "unicode/utf8.acceptRanges"], apart := false, laid := [("unicode/utf8.acceptRanges", laid_unicode_utf8_acceptRanges), ("unicode/utf8.first", laid_unicode_utf8_first)], narrowed := true }
def PatchChecksUptoSaid : Prop := patchChecksUptoRow.holds Tryd.pinned (OpenSpec.upto patchChecksSpec)

/-- 'texttoolslaw34.PatchApplies', WHERE WHAT IT READS IS OF BULK AT MOST 1048576: true; the input reads as it did. -/
def patchAppliesUptoRow : OpenClaim := { program := "ytnkpigibjicmaaadoor", sum := "c6ecba71de55999d86c296c46dea5464e2784dfc5b688204c211861bc96a94ee", func := "texttools/texttoolslaw34.PatchApplies", spec := "patchApplies", inPlace := ["internal/bytealg.IndexByteString", "internal/bytealg.IndexString", "internal/bytealg.CountString", "internal/abi.NoEscape"], unfollowed := true, recurses := true, named := ["internal/bytealg.MaxLen", "unicode/utf8.first", "unicode/utf8.acceptRanges"], apart := false, laid := [("unicode/utf8.acceptRanges", laid_unicode_utf8_acceptRanges), ("unicode/utf8.first", laid_unicode_utf8_first)], narrowed := true }
def PatchAppliesUptoSaid : Prop := patchAppliesUptoRow.holds Tryd.pinned (OpenSpec.upto patchAppliesSpec)

/-- 'texttoolslaw34.PatchReverses', WHERE WHAT IT READS IS OF BULK AT MOST 1048576: true; the input reads as it did. -/
def patchReversesUptoRow : OpenClaim := { program := "ytnkpigibjicmaaadoor", sum := "c6ecba71de55999d86c296c46dea5464e2784dfc5b688204c211861bc96a94ee", func := "texttools/texttoolslaw34.PatchReverses", spec := "patchReverses", inPlace := ["internal/bytealg.IndexByteString", "internal/bytealg.IndexString", "internal/bytealg.CountString", "internal/abi.NoEscape"], unfollowed := true, recurses := true, named := ["internal/bytealg.MaxLen", "unicode/utf8.first", "unicode/utf8.acceptRanges"], apart := false, laid := [("unicode/utf8.acceptRanges", laid_unicode_utf8_acceptRanges), ("unicode/utf8.first", laid_unicode_utf8_first)], narrowed := true }
def PatchReversesUptoSaid : Prop := patchReversesUptoRow.holds Tryd.pinned (OpenSpec.upto patchReversesSpec)

end Rows
end Go.Proofs.YtnkpigibjicmaaaDoor
