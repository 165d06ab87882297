/-
  No cell of these rows narrows 'for every input' (looked for: loops, veiled, ifaces, maps, wideKeys, modest, calm, conditions, laid).
  DERIVED. THE GIVEN ROWS OF THIS SEAT. 6 by the template 'for every input the law returns true; each argument reads behind the call as it read before'; 0 by the template 'total and deterministic' (their statements: YtbioflajonafdaaTotals.lean).
  GIVEN WITH THE SEED: the statements are not yours to turn. If you find one false, say at which input.
  Laid BY PROGRAM, IN A SANDBOX (cutbox-rows.mjs): the forced cells as the released guide's own fill.sh prints them over the translation d3cf269d95c6e55d… (all of the seat's roots in one cut). By AI agents, Wed Nov 11 2026. No macro, syntax, notation, axiom, sorry.
-/
import Derived.Test.YtbioflajonafdaaChecked
import GoSem.Claim
import GoSem.ClaimJoined
import GoSem.ClaimMapViews
import Derived.JoinedTies
import Derived.KernelRfl
namespace Go.Proofs.Ytbioflajonafdaa
/- THE CELL 'sum', in the pinned program and in every row, IS THE sha256 OF THE DUMP (.gsa) THAT YtbioflajonafdaaProg.lean LOADS. Nothing in Lean hashes anything: it is a label: what it is worth is what the hold of that sum in a sandbox is worth. -/
noncomputable def Try.pinned : Pinned := { name := "ytbioflajonafdaa", sum := "d3cf269d95c6e55dcc68a53829d3b6c0e6f5ef6c56526d8d10b74c26bef7dada", checked := Try.checked }
namespace Rows
def none {H : Type} : Left H := { results := [], args := [] }

/-- 'texttoolslaw39.ScanlexReads': WHATEVER THE INPUT: true; the input reads as it did. -/
def scanlexReadsSpec : ChangeSpec := { name := "scanlexReads", fn := fun _ => fun
  | [d] => { results := [.lit (.bool true)], args := [d] }
  | _ => none }
def scanlexReadsRow : OpenClaim := { program := "ytbioflajonafdaa", sum := "d3cf269d95c6e55dcc68a53829d3b6c0e6f5ef6c56526d8d10b74c26bef7dada", func := "texttools/texttoolslaw39.ScanlexReads", spec := "scanlexReads", inPlace := ["internal/bytealg.IndexByteString", "internal/abi.NoEscape"], apart := false }
def ScanlexReadsSaid : Prop := scanlexReadsRow.holds Try.pinned (OpenSpec.ofChange scanlexReadsSpec)

/-- ITS FALSE NEIGHBOUR: 'it returns false'. Refute it at one input. -/
def scanlexReadsWrong : ChangeSpec := { name := "scanlexReads", fn := fun _ => fun
  | [d] => { results := [.lit (.bool false)], args := [d] }
  | _ => none }
def ScanlexReadsWrongFalsely : Prop := scanlexReadsRow.holds Try.pinned (OpenSpec.ofChange scanlexReadsWrong)

/-- 'texttoolslaw39.ScanlexJoins': WHATEVER THE INPUT: true; the input reads as it did. -/
def scanlexJoinsSpec : ChangeSpec := { name := "scanlexJoins", fn := fun _ => fun
  | [d1, d2] => { results := [.lit (.bool true)], args := [d1, d2] }
  | _ => none }
def scanlexJoinsRow : OpenClaim := { program := "ytbioflajonafdaa", sum := "d3cf269d95c6e55dcc68a53829d3b6c0e6f5ef6c56526d8d10b74c26bef7dada", func := "texttools/texttoolslaw39.ScanlexJoins", spec := "scanlexJoins", inPlace := ["internal/bytealg.IndexByteString", "internal/abi.NoEscape"], apart := false }
def ScanlexJoinsSaid : Prop := scanlexJoinsRow.holds Try.pinned (OpenSpec.ofChange scanlexJoinsSpec)

/-- ITS FALSE NEIGHBOUR: 'it returns false'. Refute it at one input. -/
def scanlexJoinsWrong : ChangeSpec := { name := "scanlexJoins", fn := fun _ => fun
  | [d1, d2] => { results := [.lit (.bool false)], args := [d1, d2] }
  | _ => none }
def ScanlexJoinsWrongFalsely : Prop := scanlexJoinsRow.holds Try.pinned (OpenSpec.ofChange scanlexJoinsWrong)

/-- 'texttoolslaw39.ScanlexBlanks': WHATEVER THE INPUT: true; the input reads as it did. -/
def scanlexBlanksSpec : ChangeSpec := { name := "scanlexBlanks", fn := fun _ => fun
  | [d1, d2, d3] => { results := [.lit (.bool true)], args := [d1, d2, d3] }
  | _ => none }
def scanlexBlanksRow : OpenClaim := { program := "ytbioflajonafdaa", sum := "d3cf269d95c6e55dcc68a53829d3b6c0e6f5ef6c56526d8d10b74c26bef7dada", func := "texttools/texttoolslaw39.ScanlexBlanks", spec := "scanlexBlanks", inPlace := ["internal/bytealg.IndexByteString", "internal/abi.NoEscape"], apart := false }
def ScanlexBlanksSaid : Prop := scanlexBlanksRow.holds Try.pinned (OpenSpec.ofChange scanlexBlanksSpec)

/-- ITS FALSE NEIGHBOUR: 'it returns false'. Refute it at one input. -/
def scanlexBlanksWrong : ChangeSpec := { name := "scanlexBlanks", fn := fun _ => fun
  | [d1, d2, d3] => { results := [.lit (.bool false)], args := [d1, d2, d3] }
  | _ => none }
def ScanlexBlanksWrongFalsely : Prop := scanlexBlanksRow.holds Try.pinned (OpenSpec.ofChange scanlexBlanksWrong)

/-- 'texttoolslaw39.ScanlexOffsets': WHATEVER THE INPUT: true; the input reads as it did. -/
def scanlexOffsetsSpec : ChangeSpec := { name := "scanlexOffsets", fn := fun _ => fun
  | [d] => { results := [.lit (.bool true)], args := [d] }
  | _ => none }
def scanlexOffsetsRow : OpenClaim := { program := "ytbioflajonafdaa", sum := "d3cf269d95c6e55dcc68a53829d3b6c0e6f5ef6c56526d8d10b74c26bef7dada", func := "texttools/texttoolslaw39.ScanlexOffsets", spec := "scanlexOffsets", inPlace := ["internal/bytealg.IndexByteString", "internal/abi.NoEscape"], apart := false }
def ScanlexOffsetsSaid : Prop := scanlexOffsetsRow.holds Try.pinned (OpenSpec.ofChange scanlexOffsetsSpec)

/-- ITS FALSE NEIGHBOUR: 'it returns false'. Refute it at one input. -/
def scanlexOffsetsWrong : ChangeSpec := { name := "scanlexOffsets", fn := fun _ => fun
  | [d] => { results := [.lit (.bool false)], args := [d] }
  | _ => none }
def ScanlexOffsetsWrongFalsely : Prop := scanlexOffsetsRow.holds Try.pinned (OpenSpec.ofChange scanlexOffsetsWrong)

/-- 'texttoolslaw39.ScanlexLiterals': WHATEVER THE INPUT: true; the input reads as it did. -/
def scanlexLiteralsSpec : ChangeSpec := { name := "scanlexLiterals", fn := fun _ => fun
  | [d1, d2] => { results := [.lit (.bool true)], args := [d1, d2] }
  | _ => none }
def scanlexLiteralsRow : OpenClaim := { program := "ytbioflajonafdaa", sum := "d3cf269d95c6e55dcc68a53829d3b6c0e6f5ef6c56526d8d10b74c26bef7dada", func := "texttools/texttoolslaw39.ScanlexLiterals", spec := "scanlexLiterals", inPlace := ["internal/bytealg.IndexByteString", "internal/abi.NoEscape"], apart := false }
def ScanlexLiteralsSaid : Prop := scanlexLiteralsRow.holds Try.pinned (OpenSpec.ofChange scanlexLiteralsSpec)

/-- ITS FALSE NEIGHBOUR: 'it returns false'. Refute it at one input. -/
def scanlexLiteralsWrong : ChangeSpec := { name := "scanlexLiterals", fn := fun _ => fun
  | [d1, d2] => { results := [.lit (.bool false)], args := [d1, d2] }
  | _ => none }
def ScanlexLiteralsWrongFalsely : Prop := scanlexLiteralsRow.holds Try.pinned (OpenSpec.ofChange scanlexLiteralsWrong)

/-- 'texttoolslaw39.ScanlexKnows': WHATEVER THE INPUT: true; the input reads as it did. -/
def scanlexKnowsSpec : ChangeSpec := { name := "scanlexKnows", fn := fun _ => fun
  | [d] => { results := [.lit (.bool true)], args := [d] }
  | _ => none }
def scanlexKnowsRow : OpenClaim := { program := "ytbioflajonafdaa", sum := "d3cf269d95c6e55dcc68a53829d3b6c0e6f5ef6c56526d8d10b74c26bef7dada", func := "texttools/texttoolslaw39.ScanlexKnows", spec := "scanlexKnows", inPlace := ["internal/bytealg.IndexByteString", "internal/abi.NoEscape"], apart := false }
def ScanlexKnowsSaid : Prop := scanlexKnowsRow.holds Try.pinned (OpenSpec.ofChange scanlexKnowsSpec)

/-- ITS FALSE NEIGHBOUR: 'it returns false'. Refute it at one input. -/
def scanlexKnowsWrong : ChangeSpec := { name := "scanlexKnows", fn := fun _ => fun
  | [d] => { results := [.lit (.bool false)], args := [d] }
  | _ => none }
def ScanlexKnowsWrongFalsely : Prop := scanlexKnowsRow.holds Try.pinned (OpenSpec.ofChange scanlexKnowsWrong)

/- THE SECOND FORM. 'bulk': how many values and letters a reading holds, each counted each time it is reached (what is shared counts as often as it is met; a slice's spare places count too). A statement '..UptoSaid' is the law's where the arguments, and the package variables that the reading takes, are together of bulk at most 1048576: NARROWER than '..Said'. Prove '..Said' where nothing that the law and all that it calls make is longer than what came in: it says more and counts as full. Else prove '..UptoSaid'. A law counts once. -/
mutual
def uptoBulk {H : Type} : DataW H → Nat
  | .lit (.string bytes) => bytes.length + 1
  | .lit _ => 1
  | .nil => 1
  | .ptr d => uptoBulk d + 1
  | .slice elems spare => uptoBulkAll elems + uptoBulkAll spare + 1
  | .agg parts => uptoBulkAll parts + 1
  | .iface _ d => uptoBulk d + 1
  | .map entries => uptoBulkEntries entries + 1
  | .held _ => 1
def uptoBulkAll {H : Type} : List (DataW H) → Nat
  | [] => 0
  | d :: r => uptoBulk d + uptoBulkAll r
def uptoBulkEntries {H : Type} : List (Lit × DataW H) → Nat
  | [] => 0
  | x :: r => uptoBulkEntry x + uptoBulkEntries r
def uptoBulkEntry {H : Type} : Lit × DataW H → Nat
  | (.string bytes, d) => bytes.length + uptoBulk d + 1
  | (_, d) => uptoBulk d + 1
 end
def uptoSmall : (H : Type) → List (DataW H) → Bool := fun _ ds => decide (uptoBulkAll ds ≤ 1048576)
def OpenSpec.upto (s : _root_.Go.ChangeSpec) : _root_.Go.OpenSpec := { _root_.Go.OpenSpec.ofChange s with cond := some uptoSmall }

/-- 'texttoolslaw39.ScanlexReads', WHERE WHAT IT READS IS OF BULK AT MOST 1048576: true; the input reads as it did. -/
def scanlexReadsUptoRow : OpenClaim := { program := "ytbioflajonafdaa", sum := "d3cf269d95c6e55dcc68a53829d3b6c0e6f5ef6c56526d8d10b74c26bef7dada", func := "texttools/texttoolslaw39.ScanlexReads", spec := "scanlexReads", inPlace := ["internal/bytealg.IndexByteString", "internal/abi.NoEscape"], apart := false, narrowed := true }
def ScanlexReadsUptoSaid : Prop := scanlexReadsUptoRow.holds Try.pinned (OpenSpec.upto scanlexReadsSpec)

/-- 'texttoolslaw39.ScanlexJoins', WHERE WHAT IT READS IS OF BULK AT MOST 1048576: true; the input reads as it did. -/
def scanlexJoinsUptoRow : OpenClaim := { program := "ytbioflajonafdaa", sum := "d3cf269d95c6e55dcc68a53829d3b6c0e6f5ef6c56526d8d10b74c26bef7dada", func := "texttools/texttoolslaw39.ScanlexJoins", spec := "scanlexJoins", inPlace := ["internal/bytealg.IndexByteString", "internal/abi.NoEscape"], apart := false, narrowed := true }
def ScanlexJoinsUptoSaid : Prop := scanlexJoinsUptoRow.holds Try.pinned (OpenSpec.upto scanlexJoinsSpec)

/-- 'texttoolslaw39.ScanlexBlanks', WHERE WHAT IT READS IS OF BULK AT MOST 1048576: true; the input reads as it did. -/
def scanlexBlanksUptoRow : OpenClaim := { program := "ytbioflajonafdaa", sum := "d3cf269d95c6e55dcc68a53829d3b6c0e6f5ef6c56526d8d10b74c26bef7dada", func := "texttools/texttoolslaw39.ScanlexBlanks", spec := "scanlexBlanks", inPlace := ["internal/bytealg.IndexByteString", "internal/abi.NoEscape"], apart := false, narrowed := true }
def ScanlexBlanksUptoSaid : Prop := scanlexBlanksUptoRow.holds Try.pinned (OpenSpec.upto scanlexBlanksSpec)

/-- 'texttoolslaw39.ScanlexOffsets', WHERE WHAT IT READS IS OF BULK AT MOST 1048576: true; the input reads as it did. -/
def scanlexOffsetsUptoRow : OpenClaim := { program := "ytbioflajonafdaa", sum := "d3cf269d95c6e55dcc68a53829d3b6c0e6f5ef6c56526d8d10b74c26bef7dada", func := "texttools/texttoolslaw39.ScanlexOffsets", spec := "scanlexOffsets", inPlace := ["internal/bytealg.IndexByteString", "internal/abi.NoEscape"], apart := false, narrowed := true }
def ScanlexOffsetsUptoSaid : Prop := scanlexOffsetsUptoRow.holds Try.pinned (OpenSpec.upto scanlexOffsetsSpec)

/-- 'texttoolslaw39.ScanlexLiterals', WHERE WHAT IT READS IS OF BULK AT MOST 1048576: true; the input reads as it did. -/
def scanlexLiteralsUptoRow : OpenClaim := { program := "ytbioflajonafdaa", sum := "d3cf269d95c6e55dcc68a53829d3b6c0e6f5ef6c56526d8d10b74c26bef7dada", func := "texttools/texttoolslaw39.ScanlexLiterals", spec := "scanlexLiterals", inPlace := ["internal/bytealg.IndexByteString", "internal/abi.NoEscape"], apart := false, narrowed := true }
def ScanlexLiteralsUptoSaid : Prop := scanlexLiteralsUptoRow.holds Try.pinned (OpenSpec.upto scanlexLiteralsSpec)

/-- 'texttoolslaw39.ScanlexKnows', WHERE WHAT IT READS IS OF BULK AT MOST 1048576: true; the input reads as it did. -/
def scanlexKnowsUptoRow : OpenClaim := { program := "ytbioflajonafdaa", sum := "d3cf269d95c6e55dcc68a53829d3b6c0e6f5ef6c56526d8d10b74c26bef7dada", func := "texttools/texttoolslaw39.ScanlexKnows", spec := "scanlexKnows", inPlace := ["internal/bytealg.IndexByteString", "internal/abi.NoEscape"], apart := false, narrowed := true }
def ScanlexKnowsUptoSaid : Prop := scanlexKnowsUptoRow.holds Try.pinned (OpenSpec.upto scanlexKnowsSpec)

end Rows
end Go.Proofs.Ytbioflajonafdaa
