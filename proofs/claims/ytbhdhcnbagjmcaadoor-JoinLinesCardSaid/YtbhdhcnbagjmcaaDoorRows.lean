/-
  NARROWER THAN 'FOR EVERY INPUT', by the rows' own cells (each row's printed sentence says how): JoinFields: laid · JoinLines: laid · JoinPairs: laid · JoinSwaps: laid · JoinDivides: laid.
  DERIVED. THE GIVEN ROWS OF THIS SEAT. 5 by the template 'for every input the law returns true; each argument reads behind the call as it read before'; 0 by the template 'total and deterministic' (their statements: YtbhdhcnbagjmcaaDoorTotals.lean).
  GIVEN WITH THE SEED: the statements are not yours to turn. If you find one false, say at which input.
  Laid BY PROGRAM, IN A SANDBOX (cutbox-rows.mjs): the forced cells as the released guide's own fill.sh prints them over the translation 6e6da9f3afbebf5c… (all of the seat's roots in one cut). By AI agents, Wed Nov 11 2026. No macro, syntax, notation, axiom, sorry.
-/
import Derived.Test.YtbhdhcnbagjmcaaDoorChecked
import GoSem.PinnedTables
import GoSem.Claim
import GoSem.ClaimJoined
import GoSem.ClaimMapViews
import Derived.JoinedTies
import Derived.KernelRfl
namespace Go.Proofs.YtbhdhcnbagjmcaaDoor
/- THE CELL 'sum', in the pinned program and in every row, IS THE sha256 OF THE DUMP (.gsa) THAT YtbhdhcnbagjmcaaDoorProg.lean LOADS. Nothing in Lean hashes anything: it is a label: what it is worth is what the hold of that sum in a sandbox is worth. -/
noncomputable def Tryd.pinned : Pinned := { name := "ytbhdhcnbagjmcaadoor", sum := "6e6da9f3afbebf5c8207d39eaadcd7cce9a2b20bd717ed1a07e412fdf394bf45", checked := Tryd.checked }
namespace Rows
def none {H : Type} : Left H := { results := [], args := [] }

/- WHAT THE LISTED PACKAGE-LEVEL VARIABLES READ AS WHEN THE CALL BEGINS. Each datum BY PROGRAM (the guide's laid-datum.mjs) off the statement by which the dump's own 'gosem.cut.vars' lays the variable. In a bare row this is a premise. The card (YtbhdhcnbagjmcaaDoorCards.lean) ties it to the program's text. -/
def laid_unicode_utf8_acceptRanges {H : Type} : DataW H := .agg [.agg [.lit (.int .u8 128), .lit (.int .u8 191)], .agg [.lit (.int .u8 160), .lit (.int .u8 191)], .agg [.lit (.int .u8 128), .lit (.int .u8 159)], .agg [.lit (.int .u8 144), .lit (.int .u8 191)], .agg [.lit (.int .u8 128), .lit (.int .u8 143)], .agg [.lit (.int .u8 0), .lit (.int .u8 0)], .agg [.lit (.int .u8 0), .lit (.int .u8 0)], .agg [.lit (.int .u8 0), .lit (.int .u8 0)], .agg [.lit (.int .u8 0), .lit (.int .u8 0)], .agg [.lit (.int .u8 0), .lit (.int .u8 0)], .agg [.lit (.int .u8 0), .lit (.int .u8 0)], .agg [.lit (.int .u8 0), .lit (.int .u8 0)], .agg [.lit (.int .u8 0), .lit (.int .u8 0)], .agg [.lit (.int .u8 0), .lit (.int .u8 0)], .agg [.lit (.int .u8 0), .lit (.int .u8 0)], .agg [.lit (.int .u8 0), .lit (.int .u8 0)]]
/-- One of Go's own tables, pinned by name: the form's constant. -/
def laid_unicode_utf8_first : DataW Unit := Go.Pinned.utf8First

/-- 'texttoolslaw29.JoinFields': WHATEVER THE INPUT: true; the input reads as it did. -/
def joinFieldsSpec : ChangeSpec := { name := "joinFields", fn := fun _ => fun
  | [d1, d2, d3] => { results := [.lit (.bool true)], args := [d1, d2, d3] }
  | _ => none }
def joinFieldsRow : OpenClaim := { program := "ytbhdhcnbagjmcaadoor", sum := "6e6da9f3afbebf5c8207d39eaadcd7cce9a2b20bd717ed1a07e412fdf394bf45", func := "texttools/texttoolslaw29.JoinFields", spec := "joinFields", inPlace := ["internal/bytealg.CountString", "internal/bytealg.IndexByteString", "internal/bytealg.IndexString", "internal/bytealg.abigen_runtime_cmpstring", "internal/abi.NoEscape", "internal/bytealg.MakeNoZero"], unfollowed := true, recurses := true, named := ["unicode/utf8.first", "unicode/utf8.acceptRanges", "internal/bytealg.MaxLen"], apart := false, laid := [("unicode/utf8.acceptRanges", laid_unicode_utf8_acceptRanges), ("unicode/utf8.first", laid_unicode_utf8_first)] }
def JoinFieldsSaid : Prop := joinFieldsRow.holds Tryd.pinned (OpenSpec.ofChange joinFieldsSpec)

/-- ITS FALSE NEIGHBOUR: 'it returns false'. Refute it at one input. -/
def joinFieldsWrong : ChangeSpec := { name := "joinFields", fn := fun _ => fun
  | [d1, d2, d3] => { results := [.lit (.bool false)], args := [d1, d2, d3] }
  | _ => none }
def JoinFieldsWrongFalsely : Prop := joinFieldsRow.holds Tryd.pinned (OpenSpec.ofChange joinFieldsWrong)

/-- 'texttoolslaw29.JoinLines': WHATEVER THE INPUT: true; the input reads as it did. -/
def joinLinesSpec : ChangeSpec := { name := "joinLines", fn := fun _ => fun
  | [d1, d2, d3] => { results := [.lit (.bool true)], args := [d1, d2, d3] }
  | _ => none }
def joinLinesRow : OpenClaim := { program := "ytbhdhcnbagjmcaadoor", sum := "6e6da9f3afbebf5c8207d39eaadcd7cce9a2b20bd717ed1a07e412fdf394bf45", func := "texttools/texttoolslaw29.JoinLines", spec := "joinLines", inPlace := ["internal/bytealg.IndexByteString", "internal/bytealg.IndexString", "internal/bytealg.CountString", "internal/bytealg.abigen_runtime_cmpstring", "internal/abi.NoEscape", "internal/bytealg.MakeNoZero"], unfollowed := true, recurses := true, named := ["internal/bytealg.MaxLen", "unicode/utf8.first", "unicode/utf8.acceptRanges"], apart := false, laid := [("unicode/utf8.acceptRanges", laid_unicode_utf8_acceptRanges), ("unicode/utf8.first", laid_unicode_utf8_first)] }
def JoinLinesSaid : Prop := joinLinesRow.holds Tryd.pinned (OpenSpec.ofChange joinLinesSpec)

/-- ITS FALSE NEIGHBOUR: 'it returns false'. Refute it at one input. -/
def joinLinesWrong : ChangeSpec := { name := "joinLines", fn := fun _ => fun
  | [d1, d2, d3] => { results := [.lit (.bool false)], args := [d1, d2, d3] }
  | _ => none }
def JoinLinesWrongFalsely : Prop := joinLinesRow.holds Tryd.pinned (OpenSpec.ofChange joinLinesWrong)

/-- 'texttoolslaw29.JoinPairs': WHATEVER THE INPUT: true; the input reads as it did. -/
def joinPairsSpec : ChangeSpec := { name := "joinPairs", fn := fun _ => fun
  | [d1, d2, d3] => { results := [.lit (.bool true)], args := [d1, d2, d3] }
  | _ => none }
def joinPairsRow : OpenClaim := { program := "ytbhdhcnbagjmcaadoor", sum := "6e6da9f3afbebf5c8207d39eaadcd7cce9a2b20bd717ed1a07e412fdf394bf45", func := "texttools/texttoolslaw29.JoinPairs", spec := "joinPairs", inPlace := ["internal/bytealg.CountString", "internal/bytealg.IndexByteString", "internal/bytealg.IndexString", "internal/bytealg.abigen_runtime_cmpstring", "internal/abi.NoEscape", "internal/bytealg.MakeNoZero"], unfollowed := true, recurses := true, named := ["unicode/utf8.first", "unicode/utf8.acceptRanges", "internal/bytealg.MaxLen"], apart := false, laid := [("unicode/utf8.acceptRanges", laid_unicode_utf8_acceptRanges), ("unicode/utf8.first", laid_unicode_utf8_first)] }
def JoinPairsSaid : Prop := joinPairsRow.holds Tryd.pinned (OpenSpec.ofChange joinPairsSpec)

/-- ITS FALSE NEIGHBOUR: 'it returns false'. Refute it at one input. -/
def joinPairsWrong : ChangeSpec := { name := "joinPairs", fn := fun _ => fun
  | [d1, d2, d3] => { results := [.lit (.bool false)], args := [d1, d2, d3] }
  | _ => none }
def JoinPairsWrongFalsely : Prop := joinPairsRow.holds Tryd.pinned (OpenSpec.ofChange joinPairsWrong)

/-- 'texttoolslaw29.JoinSwaps': WHATEVER THE INPUT: true; the input reads as it did. -/
def joinSwapsSpec : ChangeSpec := { name := "joinSwaps", fn := fun _ => fun
  | [d1, d2, d3] => { results := [.lit (.bool true)], args := [d1, d2, d3] }
  | _ => none }
def joinSwapsRow : OpenClaim := { program := "ytbhdhcnbagjmcaadoor", sum := "6e6da9f3afbebf5c8207d39eaadcd7cce9a2b20bd717ed1a07e412fdf394bf45", func := "texttools/texttoolslaw29.JoinSwaps", spec := "joinSwaps", inPlace := ["internal/bytealg.CountString", "internal/bytealg.IndexByteString", "internal/bytealg.IndexString", "internal/bytealg.abigen_runtime_cmpstring", "internal/abi.NoEscape", "internal/bytealg.MakeNoZero"], unfollowed := true, recurses := true, named := ["unicode/utf8.first", "unicode/utf8.acceptRanges", "internal/bytealg.MaxLen"], apart := false, laid := [("unicode/utf8.acceptRanges", laid_unicode_utf8_acceptRanges), ("unicode/utf8.first", laid_unicode_utf8_first)] }
def JoinSwapsSaid : Prop := joinSwapsRow.holds Tryd.pinned (OpenSpec.ofChange joinSwapsSpec)

/-- ITS FALSE NEIGHBOUR: 'it returns false'. Refute it at one input. -/
def joinSwapsWrong : ChangeSpec := { name := "joinSwaps", fn := fun _ => fun
  | [d1, d2, d3] => { results := [.lit (.bool false)], args := [d1, d2, d3] }
  | _ => none }
def JoinSwapsWrongFalsely : Prop := joinSwapsRow.holds Tryd.pinned (OpenSpec.ofChange joinSwapsWrong)

/-- 'texttoolslaw29.JoinDivides': WHATEVER THE INPUT: true; the input reads as it did. -/
def joinDividesSpec : ChangeSpec := { name := "joinDivides", fn := fun _ => fun
  | [d1, d2] => { results := [.lit (.bool true)], args := [d1, d2] }
  | _ => none }
def joinDividesRow : OpenClaim := { program := "ytbhdhcnbagjmcaadoor", sum := "6e6da9f3afbebf5c8207d39eaadcd7cce9a2b20bd717ed1a07e412fdf394bf45", func := "texttools/texttoolslaw29.JoinDivides", spec := "joinDivides", inPlace := ["internal/bytealg.CountString", "internal/bytealg.IndexByteString", "internal/bytealg.IndexString", "internal/bytealg.abigen_runtime_cmpstring", "internal/abi.NoEscape", "internal/bytealg.MakeNoZero"], unfollowed := true, recurses := true, named := ["unicode/utf8.first", "unicode/utf8.acceptRanges", "internal/bytealg.MaxLen"], apart := false, laid := [("unicode/utf8.acceptRanges", laid_unicode_utf8_acceptRanges), ("unicode/utf8.first", laid_unicode_utf8_first)] }
def JoinDividesSaid : Prop := joinDividesRow.holds Tryd.pinned (OpenSpec.ofChange joinDividesSpec)

/-- ITS FALSE NEIGHBOUR: 'it returns false'. Refute it at one input. -/
def joinDividesWrong : ChangeSpec := { name := "joinDivides", fn := fun _ => fun
  | [d1, d2] => { results := [.lit (.bool false)], args := [d1, d2] }
  | _ => none }
def JoinDividesWrongFalsely : Prop := joinDividesRow.holds Tryd.pinned (OpenSpec.ofChange joinDividesWrong)

/- THE SECOND FORM. 'bulk': how many values and letters a reading holds, each counted each time it is reached (what is shared counts as often as it is met; a slice's spare places count too). A statement '..UptoSaid' is the law's where the arguments, and the package variables that the reading takes, are together of bulk at most 1048576: NARROWER than '..Said'. Prove '..Said' where nothing that the law and all that it calls make is longer than what came in: it says more and counts as full. Else prove '..UptoSaid'. A law counts once. -/
mutual
def uptoBulk {H : Type} : DataW H → Nat
  | .lit (.string bytes) => bytes.length + 1
  | .lit _ => 1
  | .nil => 1
  | .ptr d => uptoBulk d + 1
  | .slice elems spare => uptoBulkAll elems + uptoBulkAll spare + 1
  | .agg parts => uptoBulkAll parts + 1
  | .iface _ d => uptoBulk d + 1
  | .map entries => uptoBulkEntries entries + 1
  | .held _ => 1
def uptoBulkAll {H : Type} : List (DataW H) → Nat
  | [] => 0
  | d :: r => uptoBulk d + uptoBulkAll r
def uptoBulkEntries {H : Type} : List (Lit × DataW H) → Nat
  | [] => 0
  | x :: r => uptoBulkEntry x + uptoBulkEntries r
def uptoBulkEntry {H : Type} : Lit × DataW H → Nat
  | (.string bytes, d) => bytes.length + uptoBulk d + 1
  | (_, d) => uptoBulk d + 1
 end
def uptoSmall : (H : Type) → List (DataW H) → Bool := fun _ ds => decide (uptoBulkAll ds ≤ 1048576)
def OpenSpec.upto (s : _root_.Go.ChangeSpec) : _root_.Go.OpenSpec := { _root_.Go.OpenSpec.ofChange s with cond := some uptoSmall }

/-- 'texttoolslaw29.JoinFields', WHERE WHAT IT READS IS OF BULK AT MOST 1048576: true; the input reads as it did. -/
def joinFieldsUptoRow : OpenClaim := { program := "ytbhdhcnbagjmcaadoor", sum := "6e6da9f3afbebf5c8207d39eaadcd7cce9a2b20bd717ed1a07e412fdf394bf45", func := "texttools/texttoolslaw29.JoinFields", spec := "joinFields", inPlace := ["internal/bytealg.CountString", "internal/bytealg.IndexByteString", "internal/bytealg.IndexString", "internal/bytealg.abigen_runtime_cmpstring", "internal/abi.NoEscape", "internal/bytealg.MakeNoZero"], unfollowed := true, recurses := true, named := ["unicode/utf8.first", "unicode/utf8.acceptRanges", "internal/bytealg.MaxLen"], apart := false, laid := [("unicode/utf8.acceptRanges", laid_unicode_utf8_acceptRanges), ("unicode/utf8.first", laid_unicode_utf8_first)], narrowed := true }
def JoinFieldsUptoSaid : Prop := joinFieldsUptoRow.holds Tryd.pinned (OpenSpec.upto joinFieldsSpec)

/-- 'texttoolslaw29.JoinLines', WHERE WHAT IT READS IS OF BULK AT MOST 1048576: true; the input reads as it did. -/
def joinLinesUptoRow : OpenClaim := { program := "ytbhdhcnbagjmcaadoor", sum := "6e6da9f3afbebf5c8207d39eaadcd7cce9a2b20bd717ed1a07e412fdf394bf45", func := "texttools/texttoolslaw29.JoinLines", spec := "joinLines", inPlace := ["internal/bytealg.IndexByteString", "internal/bytealg.IndexString", "internal/bytealg.CountString", "internal/bytealg.abigen_runtime_cmpstring", "internal/abi.NoEscape", "internal/bytealg.MakeNoZero"], unfollowed := true, recurses := true, named := ["internal/bytealg.MaxLen", "unicode/utf8.first", "unicode/utf8.acceptRanges"], apart := false, laid := [("unicode/utf8.acceptRanges", laid_unicode_utf8_acceptRanges), ("unicode/utf8.first", laid_unicode_utf8_first)], narrowed := true }
def JoinLinesUptoSaid : Prop := joinLinesUptoRow.holds Tryd.pinned (OpenSpec.upto joinLinesSpec)

/-- 'texttoolslaw29.JoinPairs', WHERE WHAT IT READS IS OF BULK AT MOST 1048576: true; the input reads as it did. -/
def joinPairsUptoRow : OpenClaim := { program := "ytbhdhcnbagjmcaadoor", sum := "6e6da9f3afbebf5c8207d39eaadcd7cce9a2b20bd717ed1a07e412fdf394bf45", func := "texttools/texttoolslaw29.JoinPairs", spec := "joinPairs", inPlace := ["internal/bytealg.CountString", "internal/bytealg.IndexByteString", "internal/bytealg.IndexString", "internal/bytealg.abigen_runtime_cmpstring", "internal/abi.NoEscape", "internal/bytealg.MakeNoZero"], unfollowed := true, recurses := true, named := ["unicode/utf8.first", "unicode/utf8.acceptRanges", "internal/bytealg.MaxLen"], apart := false, laid := [("unicode/utf8.acceptRanges", laid_unicode_utf8_acceptRanges), ("unicode/utf8.first", laid_unicode_utf8_first)], narrowed := true }
def JoinPairsUptoSaid : Prop := joinPairsUptoRow.holds Tryd.pinned (OpenSpec.upto joinPairsSpec)

/-- 'texttoolslaw29.JoinSwaps', WHERE WHAT IT READS IS OF BULK AT MOST 1048576: true; the input reads as it did. -/
def joinSwapsUptoRow : OpenClaim := { program := "ytbhdhcnbagjmcaadoor", sum := "6e6da9f3afbebf5c8207d39eaadcd7cce9a2b20bd717ed1a07e412fdf394bf45", func := "texttools/texttoolslaw29.JoinSwaps", spec := "joinSwaps", inPlace := ["internal/bytealg.CountString", "internal/bytealg.IndexByteString", "internal/bytealg.IndexString", "internal/bytealg.abigen_runtime_cmpstring", "internal/abi.NoEscape", "internal/bytealg.MakeNoZero"], unfollowed := true, recurses := true, named := ["unicode/utf8.first", "unicode/utf8.acceptRanges", "internal/bytealg.MaxLen"], apart := false, laid := [("unicode/utf8.acceptRanges", laid_unicode_utf8_acceptRanges), ("unicode/utf8.first", laid_unicode_utf8_first)], narrowed := true }
def JoinSwapsUptoSaid : Prop := joinSwapsUptoRow.holds Tryd.pinned (OpenSpec.upto joinSwapsSpec)

/-- 'texttoolslaw29.JoinDivides', WHERE WHAT IT READS IS OF BULK AT MOST 1048576: true; the input reads as it did. -/
def joinDividesUptoRow : OpenClaim := { program := "ytbhdhcnbagjmcaadoor", sum := "6e6da9f3afbebf5c8207d39eaadcd7cce9a2b20bd717ed1a07e412fdf394bf45", func := "texttools/texttoolslaw29.JoinDivides", spec := "joinDivides", inPlace := ["internal/bytealg.CountString", "internal/bytealg.IndexByteString", "internal/bytealg.IndexString", "internal/bytealg.abigen_runtime_cmpstring", "internal/abi.NoEscape", "internal/bytealg.MakeNoZero"], unfollowed := true, recurses := true, named := ["unicode/utf8.first", "unicode/utf8.acceptRanges", "internal/bytealg.MaxLen"], apart := false, laid := [("unicode/utf8.acceptRanges", laid_unicode_utf8_acceptRanges), ("unicode/utf8.first", laid_unicode_utf8_first)], narrowed := true }
def JoinDividesUptoSaid : Prop := joinDividesUptoRow.holds Tryd.pinned (OpenSpec.upto joinDividesSpec)

end Rows
end Go.Proofs.YtbhdhcnbagjmcaaDoor
