/-
  NARROWER THAN 'FOR EVERY INPUT', by the rows' own cells (each row's printed sentence says how): ShelltextParses: laid · ShelltextQuotes: laid · ShelltextJoins: laid · ShelltextPrints: laid · ShelltextRoundTrips: laid · ShelltextReads: laid.
  DERIVED. THE GIVEN ROWS OF THIS SEAT. 6 by the template 'for every input the law returns true; each argument reads behind the call as it read before'; 0 by the template 'total and deterministic' (their statements: YtlhagpfpcdedpaaDoorTotals.lean).
  GIVEN WITH THE SEED: the statements are not yours to turn. If you find one false, say at which input.
  Laid BY PROGRAM, IN A SANDBOX (cutbox-rows.mjs): the forced cells as the released guide's own fill.sh prints them over the translation 39cb15ab35e7178d… (all of the seat's roots in one cut). By AI agents, Wed Nov 11 2026. No macro, syntax, notation, axiom, sorry.
-/
import Derived.Test.YtlhagpfpcdedpaaDoorChecked
import GoSem.PinnedTables
import GoSem.Claim
import GoSem.ClaimJoined
import GoSem.ClaimMapViews
import Derived.JoinedTies
import Derived.KernelRfl
namespace Go.Proofs.YtlhagpfpcdedpaaDoor
/- THE CELL 'sum', in the pinned program and in every row, IS THE sha256 OF THE DUMP (.gsa) THAT YtlhagpfpcdedpaaDoorProg.lean LOADS. Nothing in Lean hashes anything: it is a label: what it is worth is what the hold of that sum in a sandbox is worth. -/
noncomputable def Tryd.pinned : Pinned := { name := "ytlhagpfpcdedpaadoor", sum := "39cb15ab35e7178d0af098f13d9a689e7b322ca5213e2020fc4892a3f8d86af9", checked := Tryd.checked }
namespace Rows
def none {H : Type} : Left H := { results := [], args := [] }

/- WHAT THE LISTED PACKAGE-LEVEL VARIABLES READ AS WHEN THE CALL BEGINS. Each datum BY PROGRAM (the guide's laid-datum.mjs) off the statement by which the dump's own 'gosem.cut.vars' lays the variable. In a bare row this is a premise. The card (YtlhagpfpcdedpaaDoorCards.lean) ties it to the program's text. -/
def laid_unicode_utf8_acceptRanges {H : Type} : DataW H := .agg [.agg [.lit (.int .u8 128), .lit (.int .u8 191)], .agg [.lit (.int .u8 160), .lit (.int .u8 191)], .agg [.lit (.int .u8 128), .lit (.int .u8 159)], .agg [.lit (.int .u8 144), .lit (.int .u8 191)], .agg [.lit (.int .u8 128), .lit (.int .u8 143)], .agg [.lit (.int .u8 0), .lit (.int .u8 0)], .agg [.lit (.int .u8 0), .lit (.int .u8 0)], .agg [.lit (.int .u8 0), .lit (.int .u8 0)], .agg [.lit (.int .u8 0), .lit (.int .u8 0)], .agg [.lit (.int .u8 0), .lit (.int .u8 0)], .agg [.lit (.int .u8 0), .lit (.int .u8 0)], .agg [.lit (.int .u8 0), .lit (.int .u8 0)], .agg [.lit (.int .u8 0), .lit (.int .u8 0)], .agg [.lit (.int .u8 0), .lit (.int .u8 0)], .agg [.lit (.int .u8 0), .lit (.int .u8 0)], .agg [.lit (.int .u8 0), .lit (.int .u8 0)]]
/-- One of Go's own tables, pinned by name: the form's constant. -/
def laid_unicode_utf8_first : DataW Unit := Go.Pinned.utf8First

/-- 'texttoolslaw54.ShelltextParses': WHATEVER THE INPUT: true; the input reads as it did. -/
def shelltextParsesSpec : ChangeSpec := { name := "shelltextParses", fn := fun _ => fun
  | [d] => { results := [.lit (.bool true)], args := [d] }
  | _ => none }
def shelltextParsesRow : OpenClaim := { program := "ytlhagpfpcdedpaadoor", sum := "39cb15ab35e7178d0af098f13d9a689e7b322ca5213e2020fc4892a3f8d86af9", func := "texttools/texttoolslaw54.ShelltextParses", spec := "shelltextParses", inPlace := ["internal/bytealg.IndexByteString", "internal/abi.NoEscape", "internal/bytealg.CountString", "internal/bytealg.IndexString", "internal/bytealg.MakeNoZero"], named := ["internal/bytealg.MaxLen", "unicode/utf8.first", "unicode/utf8.acceptRanges"], apart := false, laid := [("unicode/utf8.acceptRanges", laid_unicode_utf8_acceptRanges), ("unicode/utf8.first", laid_unicode_utf8_first)] }
def ShelltextParsesSaid : Prop := shelltextParsesRow.holds Tryd.pinned (OpenSpec.ofChange shelltextParsesSpec)

/-- ITS FALSE NEIGHBOUR: 'it returns false'. Refute it at one input. -/
def shelltextParsesWrong : ChangeSpec := { name := "shelltextParses", fn := fun _ => fun
  | [d] => { results := [.lit (.bool false)], args := [d] }
  | _ => none }
def ShelltextParsesWrongFalsely : Prop := shelltextParsesRow.holds Tryd.pinned (OpenSpec.ofChange shelltextParsesWrong)

/-- 'texttoolslaw54.ShelltextQuotes': WHATEVER THE INPUT: true; the input reads as it did. -/
def shelltextQuotesSpec : ChangeSpec := { name := "shelltextQuotes", fn := fun _ => fun
  | [d] => { results := [.lit (.bool true)], args := [d] }
  | _ => none }
def shelltextQuotesRow : OpenClaim := { program := "ytlhagpfpcdedpaadoor", sum := "39cb15ab35e7178d0af098f13d9a689e7b322ca5213e2020fc4892a3f8d86af9", func := "texttools/texttoolslaw54.ShelltextQuotes", spec := "shelltextQuotes", inPlace := ["internal/bytealg.IndexByteString", "internal/abi.NoEscape", "internal/bytealg.CountString", "internal/bytealg.IndexString", "internal/bytealg.MakeNoZero"], named := ["internal/bytealg.MaxLen", "unicode/utf8.first", "unicode/utf8.acceptRanges"], apart := false, laid := [("unicode/utf8.acceptRanges", laid_unicode_utf8_acceptRanges), ("unicode/utf8.first", laid_unicode_utf8_first)] }
def ShelltextQuotesSaid : Prop := shelltextQuotesRow.holds Tryd.pinned (OpenSpec.ofChange shelltextQuotesSpec)

/-- ITS FALSE NEIGHBOUR: 'it returns false'. Refute it at one input. -/
def shelltextQuotesWrong : ChangeSpec := { name := "shelltextQuotes", fn := fun _ => fun
  | [d] => { results := [.lit (.bool false)], args := [d] }
  | _ => none }
def ShelltextQuotesWrongFalsely : Prop := shelltextQuotesRow.holds Tryd.pinned (OpenSpec.ofChange shelltextQuotesWrong)

/-- 'texttoolslaw54.ShelltextJoins': WHATEVER THE INPUT: true; the input reads as it did. -/
def shelltextJoinsSpec : ChangeSpec := { name := "shelltextJoins", fn := fun _ => fun
  | [d1, d2] => { results := [.lit (.bool true)], args := [d1, d2] }
  | _ => none }
def shelltextJoinsRow : OpenClaim := { program := "ytlhagpfpcdedpaadoor", sum := "39cb15ab35e7178d0af098f13d9a689e7b322ca5213e2020fc4892a3f8d86af9", func := "texttools/texttoolslaw54.ShelltextJoins", spec := "shelltextJoins", inPlace := ["internal/bytealg.IndexByteString", "internal/abi.NoEscape", "internal/bytealg.CountString", "internal/bytealg.IndexString", "internal/bytealg.MakeNoZero"], named := ["internal/bytealg.MaxLen", "unicode/utf8.first", "unicode/utf8.acceptRanges"], apart := false, laid := [("unicode/utf8.acceptRanges", laid_unicode_utf8_acceptRanges), ("unicode/utf8.first", laid_unicode_utf8_first)] }
def ShelltextJoinsSaid : Prop := shelltextJoinsRow.holds Tryd.pinned (OpenSpec.ofChange shelltextJoinsSpec)

/-- ITS FALSE NEIGHBOUR: 'it returns false'. Refute it at one input. -/
def shelltextJoinsWrong : ChangeSpec := { name := "shelltextJoins", fn := fun _ => fun
  | [d1, d2] => { results := [.lit (.bool false)], args := [d1, d2] }
  | _ => none }
def ShelltextJoinsWrongFalsely : Prop := shelltextJoinsRow.holds Tryd.pinned (OpenSpec.ofChange shelltextJoinsWrong)

/-- 'texttoolslaw54.ShelltextPrints': WHATEVER THE INPUT: true; the input reads as it did. -/
def shelltextPrintsSpec : ChangeSpec := { name := "shelltextPrints", fn := fun _ => fun
  | [d] => { results := [.lit (.bool true)], args := [d] }
  | _ => none }
def shelltextPrintsRow : OpenClaim := { program := "ytlhagpfpcdedpaadoor", sum := "39cb15ab35e7178d0af098f13d9a689e7b322ca5213e2020fc4892a3f8d86af9", func := "texttools/texttoolslaw54.ShelltextPrints", spec := "shelltextPrints", inPlace := ["internal/abi.NoEscape", "internal/bytealg.IndexByteString", "internal/bytealg.CountString", "internal/bytealg.IndexString", "internal/bytealg.MakeNoZero"], unfollowed := true, recurses := true, named := ["internal/bytealg.MaxLen", "unicode/utf8.first", "unicode/utf8.acceptRanges"], apart := false, laid := [("unicode/utf8.acceptRanges", laid_unicode_utf8_acceptRanges), ("unicode/utf8.first", laid_unicode_utf8_first)] }
def ShelltextPrintsSaid : Prop := shelltextPrintsRow.holds Tryd.pinned (OpenSpec.ofChange shelltextPrintsSpec)

/-- ITS FALSE NEIGHBOUR: 'it returns false'. Refute it at one input. -/
def shelltextPrintsWrong : ChangeSpec := { name := "shelltextPrints", fn := fun _ => fun
  | [d] => { results := [.lit (.bool false)], args := [d] }
  | _ => none }
def ShelltextPrintsWrongFalsely : Prop := shelltextPrintsRow.holds Tryd.pinned (OpenSpec.ofChange shelltextPrintsWrong)

/-- 'texttoolslaw54.ShelltextRoundTrips': WHATEVER THE INPUT: true; the input reads as it did. -/
def shelltextRoundTripsSpec : ChangeSpec := { name := "shelltextRoundTrips", fn := fun _ => fun
  | [d] => { results := [.lit (.bool true)], args := [d] }
  | _ => none }
def shelltextRoundTripsRow : OpenClaim := { program := "ytlhagpfpcdedpaadoor", sum := "39cb15ab35e7178d0af098f13d9a689e7b322ca5213e2020fc4892a3f8d86af9", func := "texttools/texttoolslaw54.ShelltextRoundTrips", spec := "shelltextRoundTrips", inPlace := ["internal/abi.NoEscape", "internal/bytealg.IndexByteString", "internal/bytealg.CountString", "internal/bytealg.IndexString", "internal/bytealg.MakeNoZero"], unfollowed := true, recurses := true, named := ["internal/bytealg.MaxLen", "unicode/utf8.first", "unicode/utf8.acceptRanges"], apart := false, laid := [("unicode/utf8.acceptRanges", laid_unicode_utf8_acceptRanges), ("unicode/utf8.first", laid_unicode_utf8_first)] }
def ShelltextRoundTripsSaid : Prop := shelltextRoundTripsRow.holds Tryd.pinned (OpenSpec.ofChange shelltextRoundTripsSpec)

/-- ITS FALSE NEIGHBOUR: 'it returns false'. Refute it at one input. -/
def shelltextRoundTripsWrong : ChangeSpec := { name := "shelltextRoundTrips", fn := fun _ => fun
  | [d] => { results := [.lit (.bool false)], args := [d] }
  | _ => none }
def ShelltextRoundTripsWrongFalsely : Prop := shelltextRoundTripsRow.holds Tryd.pinned (OpenSpec.ofChange shelltextRoundTripsWrong)

/-- 'texttoolslaw54.ShelltextReads': WHATEVER THE INPUT: true; the input reads as it did. -/
def shelltextReadsSpec : ChangeSpec := { name := "shelltextReads", fn := fun _ => fun
  | [d] => { results := [.lit (.bool true)], args := [d] }
  | _ => none }
def shelltextReadsRow : OpenClaim := { program := "ytlhagpfpcdedpaadoor", sum := "39cb15ab35e7178d0af098f13d9a689e7b322ca5213e2020fc4892a3f8d86af9", func := "texttools/texttoolslaw54.ShelltextReads", spec := "shelltextReads", inPlace := ["internal/bytealg.IndexByteString", "internal/abi.NoEscape", "internal/bytealg.CountString", "internal/bytealg.IndexString", "internal/bytealg.MakeNoZero"], unfollowed := true, recurses := true, named := ["internal/bytealg.MaxLen", "unicode/utf8.first", "unicode/utf8.acceptRanges"], apart := false, laid := [("unicode/utf8.acceptRanges", laid_unicode_utf8_acceptRanges), ("unicode/utf8.first", laid_unicode_utf8_first)] }
def ShelltextReadsSaid : Prop := shelltextReadsRow.holds Tryd.pinned (OpenSpec.ofChange shelltextReadsSpec)

/-- ITS FALSE NEIGHBOUR: 'it returns false'. Refute it at one input. -/
def shelltextReadsWrong : ChangeSpec := { name := "shelltextReads", fn := fun _ => fun
  | [d] => { results := [.lit (.bool false)], args := [d] }
  | _ => none }
def ShelltextReadsWrongFalsely : Prop := shelltextReadsRow.holds Tryd.pinned (OpenSpec.ofChange shelltextReadsWrong)

/- THE SECOND FORM. 'bulk': how many values and letters a reading holds, each counted each time it is reached (what is shared counts as often as it is met; a slice's spare places count too). A statement '..UptoSaid' is the law's where the arguments, and the package variables that the reading takes, are together of bulk at most 1048576: NARROWER than '..Said'. Prove '..Said' where nothing that the law and all that it calls make is longer than what came in: it says more and counts as full. Else prove '..UptoSaid'. A law counts once. -/
mutual
def uptoBulk {H : Type} : DataW H → Nat
  | .lit (.string bytes) => bytes.length + 1
  | .lit _ => 1
  | .nil => 1
  | .ptr d => uptoBulk d + 1
  | .slice elems spare => uptoBulkAll elems + uptoBulkAll spare + 1
  | .agg parts => uptoBulkAll parts + 1
  | .iface _ d => uptoBulk d + 1
  | .map entries => uptoBulkEntries entries + 1
  | .held _ => 1
def uptoBulkAll {H : Type} : List (DataW H) → Nat
  | [] => 0
  | d :: r => uptoBulk d + uptoBulkAll r
def uptoBulkEntries {H : Type} : List (Lit × DataW H) → Nat
  | [] => 0
  | x :: r => uptoBulkEntry x + uptoBulkEntries r
def uptoBulkEntry {H : Type} : Lit × DataW H → Nat
  | (.string bytes, d) => bytes.length + uptoBulk d + 1
  | (_, d) => uptoBulk d + 1
 end
def uptoSmall : (H : Type) → List (DataW H) → Bool := fun _ ds => decide (uptoBulkAll ds ≤ 1048576)
def OpenSpec.upto (s : _root_.Go.ChangeSpec) : _root_.Go.OpenSpec := { _root_.Go.OpenSpec.ofChange s with cond := some uptoSmall }

/-- 'texttoolslaw54.ShelltextParses', WHERE WHAT IT READS IS OF BULK AT MOST 1048576: true; the input reads as it did. -/
def shelltextParsesUptoRow : OpenClaim := { program := "ytlhagpfpcdedpaadoor", sum := "39cb15ab35e7178d0af098f13d9a689e7b322ca5213e2020fc4892a3f8d86af9", func := "texttools/texttoolslaw54.ShelltextParses", spec := "shelltextParses", inPlace := ["internal/bytealg.IndexByteString", "internal/abi.NoEscape", "internal/bytealg.CountString", "internal/bytealg.IndexString", "internal/bytealg.MakeNoZero"], named := ["internal/bytealg.MaxLen", "unicode/utf8.first", "unicode/utf8.acceptRanges"], apart := false, laid := [("unicode/utf8.acceptRanges", laid_unicode_utf8_acceptRanges), ("unicode/utf8.first", laid_unicode_utf8_first)], narrowed := true }
def ShelltextParsesUptoSaid : Prop := shelltextParsesUptoRow.holds Tryd.pinned (OpenSpec.upto shelltextParsesSpec)

/-- 'texttoolslaw54.ShelltextQuotes', WHERE WHAT IT READS IS OF BULK AT MOST 1048576: true; the input reads as it did. -/
def shelltextQuotesUptoRow : OpenClaim := { program := "ytlhagpfpcdedpaadoor", sum := "39cb15ab35e7178d0af098f13d9a689e7b322ca5213e2020fc4892a3f8d86af9", func := "texttools/texttoolslaw54.ShelltextQuotes", spec := "shelltextQuotes", inPlace := ["internal/bytealg.IndexByteString", "internal/abi.NoEscape", "internal/bytealg.CountString", "internal/bytealg.IndexString", "internal/bytealg.MakeNoZero"], named := ["internal/bytealg.MaxLen", "unicode/utf8.first", "unicode/utf8.acceptRanges"], apart := false, laid := [("unicode/utf8.acceptRanges", laid_unicode_utf8_acceptRanges), ("unicode/utf8.first", laid_unicode_utf8_first)], narrowed := true }
def ShelltextQuotesUptoSaid : Prop := shelltextQuotesUptoRow.holds Tryd.pinned (OpenSpec.upto shelltextQuotesSpec)

/-- 'texttoolslaw54.ShelltextJoins', WHERE WHAT IT READS IS OF BULK AT MOST 1048576: true; the input reads as it did. -/
def shelltextJoinsUptoRow : OpenClaim := { program := "ytlhagpfpcdedpaadoor", sum := "39cb15ab35e7178d0af098f13d9a689e7b322ca5213e2020fc4892a3f8d86af9", func := "texttools/texttoolslaw54.ShelltextJoins", spec := "shelltextJoins", inPlace := ["internal/bytealg.IndexByteString", "internal/abi.NoEscape", "internal/bytealg.CountString", "internal/bytealg.IndexString", "internal/bytealg.MakeNoZero"], named := ["internal/bytealg.MaxLen", "unicode/utf8.first", "unicode/utf8.acceptRanges"], apart := false, laid := [("unicode/utf8.acceptRanges", laid_unicode_utf8_acceptRanges), ("unicode/utf8.first", laid_unicode_utf8_first)], narrowed := true }
def ShelltextJoinsUptoSaid : Prop := shelltextJoinsUptoRow.holds Tryd.pinned (OpenSpec.upto shelltextJoinsSpec)

/-- 'texttoolslaw54.ShelltextPrints', WHERE WHAT IT READS IS OF BULK AT MOST 1048576: true; the input reads as it did. -/
def shelltextPrintsUptoRow : OpenClaim := { program := "ytlhagpfpcdedpaadoor", sum := "39cb15ab35e7178d0af098f13d9a689e7b322ca5213e2020fc4892a3f8d86af9", func := "texttools/texttoolslaw54.ShelltextPrints", spec := "shelltextPrints", inPlace := ["internal/abi.NoEscape", "internal/bytealg.IndexByteString", "internal/bytealg.CountString", "internal/bytealg.IndexString", "internal/bytealg.MakeNoZero"], unfollowed := true, recurses := true, named := ["internal/bytealg.MaxLen", "unicode/utf8.first", "unicode/utf8.acceptRanges"], apart := false, laid := [("unicode/utf8.acceptRanges", laid_unicode_utf8_acceptRanges), ("unicode/utf8.first", laid_unicode_utf8_first)], narrowed := true }
def ShelltextPrintsUptoSaid : Prop := shelltextPrintsUptoRow.holds Tryd.pinned (OpenSpec.upto shelltextPrintsSpec)

/-- 'texttoolslaw54.ShelltextRoundTrips', WHERE WHAT IT READS IS OF BULK AT MOST 1048576: true; the input reads as it did. -/
def shelltextRoundTripsUptoRow : OpenClaim := { program := "ytlhagpfpcdedpaadoor", sum := "39cb15ab35e7178d0af098f13d9a689e7b322ca5213e2020fc4892a3f8d86af9", func := "texttools/texttoolslaw54.ShelltextRoundTrips", spec := "shelltextRoundTrips", inPlace := ["internal/abi.NoEscape", "internal/bytealg.IndexByteString", "internal/bytealg.CountString", "internal/bytealg.IndexString", "internal/bytealg.MakeNoZero"], unfollowed := true, recurses := true, named := ["internal/bytealg.MaxLen", "unicode/utf8.first", "unicode/utf8.acceptRanges"], apart := false, laid := [("unicode/utf8.acceptRanges", laid_unicode_utf8_acceptRanges), ("unicode/utf8.first", laid_unicode_utf8_first)], narrowed := true }
def ShelltextRoundTripsUptoSaid : Prop := shelltextRoundTripsUptoRow.holds Tryd.pinned (OpenSpec.upto shelltextRoundTripsSpec)

/-- 'texttoolslaw54.ShelltextReads', WHERE WHAT IT READS IS OF BULK AT MOST 1048576: true; the input reads as it did. -/
def shelltextReadsUptoRow : OpenClaim := { program := "ytlhagpfpcdedpaadoor", sum := "39cb15ab35e7178d0af098f13d9a689e7b322ca5213e2020fc4892a3f8d86af9", func := "texttools/texttoolslaw54.ShelltextReads", spec := "shelltextReads", inPlace := ["internal/bytealg.IndexByteString", "internal/abi.NoEscape", "internal/bytealg.CountString", "internal/bytealg.IndexString", "internal/bytealg.MakeNoZero"], unfollowed := true, recurses := true, named := ["internal/bytealg.MaxLen", "unicode/utf8.first", "unicode/utf8.acceptRanges"], apart := false, laid := [("unicode/utf8.acceptRanges", laid_unicode_utf8_acceptRanges), ("unicode/utf8.first", laid_unicode_utf8_first)], narrowed := true }
def ShelltextReadsUptoSaid : Prop := shelltextReadsUptoRow.holds Tryd.pinned (OpenSpec.upto shelltextReadsSpec)

end Rows
end Go.Proofs.YtlhagpfpcdedpaaDoor
