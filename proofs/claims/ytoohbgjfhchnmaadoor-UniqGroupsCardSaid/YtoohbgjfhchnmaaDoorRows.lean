/-
  NARROWER THAN 'FOR EVERY INPUT', by the rows' own cells (each row's printed sentence says how): UniqLines: laid · UniqFeeds: laid · UniqFilters: laid · UniqGroups: laid · UniqSames: laid · UniqAgrees: laid.
  DERIVED. THE GIVEN ROWS OF THIS SEAT. 6 by the template 'for every input the law returns true; each argument reads behind the call as it read before'; 0 by the template 'total and deterministic' (their statements: YtoohbgjfhchnmaaDoorTotals.lean).
  GIVEN WITH THE SEED: the statements are not yours to turn. If you find one false, say at which input.
  Laid BY PROGRAM, IN A SANDBOX (cutbox-rows.mjs): the forced cells as the released guide's own fill.sh prints them over the translation ecb2692fbec7b853… (all of the seat's roots in one cut). By AI agents, Wed Nov 11 2026. No macro, syntax, notation, axiom, sorry.
-/
import Derived.Test.YtoohbgjfhchnmaaDoorChecked
import GoSem.Claim
import GoSem.ClaimJoined
import GoSem.ClaimMapViews
import Derived.JoinedTies
import Derived.KernelRfl
namespace Go.Proofs.YtoohbgjfhchnmaaDoor
/- THE CELL 'sum', in the pinned program and in every row, IS THE sha256 OF THE DUMP (.gsa) THAT YtoohbgjfhchnmaaDoorProg.lean LOADS. Nothing in Lean hashes anything: it is a label: what it is worth is what the hold of that sum in a sandbox is worth. -/
noncomputable def Tryd.pinned : Pinned := { name := "ytoohbgjfhchnmaadoor", sum := "ecb2692fbec7b85371a05ef7e1c80a674c32382f0765e5bb3196c1a26fe6b408", checked := Tryd.checked }
namespace Rows
def none {H : Type} : Left H := { results := [], args := [] }

/- WHAT THE LISTED PACKAGE-LEVEL VARIABLES READ AS WHEN THE CALL BEGINS. Each datum BY PROGRAM (the guide's laid-datum.mjs) off the statement by which the dump's own 'gosem.cut.vars' lays the variable. In a bare row this is a premise. The card (YtoohbgjfhchnmaaDoorCards.lean) ties it to the program's text. -/
def laid_math_bits_deBruijn32tab {H : Type} : DataW H := .agg [.lit (.int .u8 0), .lit (.int .u8 1), .lit (.int .u8 28), .lit (.int .u8 2), .lit (.int .u8 29), .lit (.int .u8 14), .lit (.int .u8 24), .lit (.int .u8 3), .lit (.int .u8 30), .lit (.int .u8 22), .lit (.int .u8 20), .lit (.int .u8 15), .lit (.int .u8 25), .lit (.int .u8 17), .lit (.int .u8 4), .lit (.int .u8 8), .lit (.int .u8 31), .lit (.int .u8 27), .lit (.int .u8 13), .lit (.int .u8 23), .lit (.int .u8 21), .lit (.int .u8 19), .lit (.int .u8 16), .lit (.int .u8 7), .lit (.int .u8 26), .lit (.int .u8 12), .lit (.int .u8 18), .lit (.int .u8 6), .lit (.int .u8 11), .lit (.int .u8 5), .lit (.int .u8 10), .lit (.int .u8 9)]
def laid_math_bits_deBruijn64tab {H : Type} : DataW H := .agg [.lit (.int .u8 0), .lit (.int .u8 1), .lit (.int .u8 56), .lit (.int .u8 2), .lit (.int .u8 57), .lit (.int .u8 49), .lit (.int .u8 28), .lit (.int .u8 3), .lit (.int .u8 61), .lit (.int .u8 58), .lit (.int .u8 42), .lit (.int .u8 50), .lit (.int .u8 38), .lit (.int .u8 29), .lit (.int .u8 17), .lit (.int .u8 4), .lit (.int .u8 62), .lit (.int .u8 47), .lit (.int .u8 59), .lit (.int .u8 36), .lit (.int .u8 45), .lit (.int .u8 43), .lit (.int .u8 51), .lit (.int .u8 22), .lit (.int .u8 53), .lit (.int .u8 39), .lit (.int .u8 33), .lit (.int .u8 30), .lit (.int .u8 24), .lit (.int .u8 18), .lit (.int .u8 12), .lit (.int .u8 5), .lit (.int .u8 63), .lit (.int .u8 55), .lit (.int .u8 48), .lit (.int .u8 27), .lit (.int .u8 60), .lit (.int .u8 41), .lit (.int .u8 37), .lit (.int .u8 16), .lit (.int .u8 46), .lit (.int .u8 35), .lit (.int .u8 44), .lit (.int .u8 21), .lit (.int .u8 52), .lit (.int .u8 32), .lit (.int .u8 23), .lit (.int .u8 11), .lit (.int .u8 54), .lit (.int .u8 26), .lit (.int .u8 40), .lit (.int .u8 15), .lit (.int .u8 34), .lit (.int .u8 20), .lit (.int .u8 31), .lit (.int .u8 10), .lit (.int .u8 25), .lit (.int .u8 14), .lit (.int .u8 19), .lit (.int .u8 9), .lit (.int .u8 13), .lit (.int .u8 8), .lit (.int .u8 7), .lit (.int .u8 6)]
def laid_internal_strconv_uint64pow10 {H : Type} : DataW H := .agg [.lit (.int .u64 1), .lit (.int .u64 10), .lit (.int .u64 100), .lit (.int .u64 1000), .lit (.int .u64 10000), .lit (.int .u64 100000), .lit (.int .u64 1000000), .lit (.int .u64 10000000), .lit (.int .u64 100000000), .lit (.int .u64 1000000000), .lit (.int .u64 10000000000), .lit (.int .u64 100000000000), .lit (.int .u64 1000000000000), .lit (.int .u64 10000000000000), .lit (.int .u64 100000000000000), .lit (.int .u64 1000000000000000), .lit (.int .u64 10000000000000000), .lit (.int .u64 100000000000000000), .lit (.int .u64 1000000000000000000), .lit (.int .u64 10000000000000000000)]

/-- 'texttoolslaw27.UniqLines': WHATEVER THE INPUT: true; the input reads as it did. -/
def uniqLinesSpec : ChangeSpec := { name := "uniqLines", fn := fun _ => fun
  | [d1, d2, d3] => { results := [.lit (.bool true)], args := [d1, d2, d3] }
  | _ => none }
def uniqLinesRow : OpenClaim := { program := "ytoohbgjfhchnmaadoor", sum := "ecb2692fbec7b85371a05ef7e1c80a674c32382f0765e5bb3196c1a26fe6b408", func := "texttools/texttoolslaw27.UniqLines", spec := "uniqLines", unfollowed := true, recurses := true, named := ["internal/strconv.uint64pow10", "math/bits.deBruijn32tab", "math/bits.deBruijn64tab"], apart := false, laid := [("math/bits.deBruijn32tab", laid_math_bits_deBruijn32tab), ("math/bits.deBruijn64tab", laid_math_bits_deBruijn64tab), ("internal/strconv.uint64pow10", laid_internal_strconv_uint64pow10)] }
def UniqLinesSaid : Prop := uniqLinesRow.holds Tryd.pinned (OpenSpec.ofChange uniqLinesSpec)

/-- ITS FALSE NEIGHBOUR: 'it returns false'. Refute it at one input. -/
def uniqLinesWrong : ChangeSpec := { name := "uniqLines", fn := fun _ => fun
  | [d1, d2, d3] => { results := [.lit (.bool false)], args := [d1, d2, d3] }
  | _ => none }
def UniqLinesWrongFalsely : Prop := uniqLinesRow.holds Tryd.pinned (OpenSpec.ofChange uniqLinesWrong)

/-- 'texttoolslaw27.UniqFeeds': WHATEVER THE INPUT: true; the input reads as it did. -/
def uniqFeedsSpec : ChangeSpec := { name := "uniqFeeds", fn := fun _ => fun
  | [d1, d2, d3, d4] => { results := [.lit (.bool true)], args := [d1, d2, d3, d4] }
  | _ => none }
def uniqFeedsRow : OpenClaim := { program := "ytoohbgjfhchnmaadoor", sum := "ecb2692fbec7b85371a05ef7e1c80a674c32382f0765e5bb3196c1a26fe6b408", func := "texttools/texttoolslaw27.UniqFeeds", spec := "uniqFeeds", unfollowed := true, recurses := true, named := ["internal/strconv.uint64pow10", "math/bits.deBruijn32tab", "math/bits.deBruijn64tab"], apart := false, laid := [("math/bits.deBruijn32tab", laid_math_bits_deBruijn32tab), ("math/bits.deBruijn64tab", laid_math_bits_deBruijn64tab), ("internal/strconv.uint64pow10", laid_internal_strconv_uint64pow10)] }
def UniqFeedsSaid : Prop := uniqFeedsRow.holds Tryd.pinned (OpenSpec.ofChange uniqFeedsSpec)

/-- ITS FALSE NEIGHBOUR: 'it returns false'. Refute it at one input. -/
def uniqFeedsWrong : ChangeSpec := { name := "uniqFeeds", fn := fun _ => fun
  | [d1, d2, d3, d4] => { results := [.lit (.bool false)], args := [d1, d2, d3, d4] }
  | _ => none }
def UniqFeedsWrongFalsely : Prop := uniqFeedsRow.holds Tryd.pinned (OpenSpec.ofChange uniqFeedsWrong)

/-- 'texttoolslaw27.UniqFilters': WHATEVER THE INPUT: true; the input reads as it did. -/
def uniqFiltersSpec : ChangeSpec := { name := "uniqFilters", fn := fun _ => fun
  | [d1, d2, d3, d4] => { results := [.lit (.bool true)], args := [d1, d2, d3, d4] }
  | _ => none }
def uniqFiltersRow : OpenClaim := { program := "ytoohbgjfhchnmaadoor", sum := "ecb2692fbec7b85371a05ef7e1c80a674c32382f0765e5bb3196c1a26fe6b408", func := "texttools/texttoolslaw27.UniqFilters", spec := "uniqFilters", unfollowed := true, recurses := true, named := ["internal/strconv.uint64pow10", "math/bits.deBruijn32tab", "math/bits.deBruijn64tab"], apart := false, laid := [("math/bits.deBruijn32tab", laid_math_bits_deBruijn32tab), ("math/bits.deBruijn64tab", laid_math_bits_deBruijn64tab), ("internal/strconv.uint64pow10", laid_internal_strconv_uint64pow10)] }
def UniqFiltersSaid : Prop := uniqFiltersRow.holds Tryd.pinned (OpenSpec.ofChange uniqFiltersSpec)

/-- ITS FALSE NEIGHBOUR: 'it returns false'. Refute it at one input. -/
def uniqFiltersWrong : ChangeSpec := { name := "uniqFilters", fn := fun _ => fun
  | [d1, d2, d3, d4] => { results := [.lit (.bool false)], args := [d1, d2, d3, d4] }
  | _ => none }
def UniqFiltersWrongFalsely : Prop := uniqFiltersRow.holds Tryd.pinned (OpenSpec.ofChange uniqFiltersWrong)

/-- 'texttoolslaw27.UniqGroups': WHATEVER THE INPUT: true; the input reads as it did. -/
def uniqGroupsSpec : ChangeSpec := { name := "uniqGroups", fn := fun _ => fun
  | [d1, d2, d3] => { results := [.lit (.bool true)], args := [d1, d2, d3] }
  | _ => none }
def uniqGroupsRow : OpenClaim := { program := "ytoohbgjfhchnmaadoor", sum := "ecb2692fbec7b85371a05ef7e1c80a674c32382f0765e5bb3196c1a26fe6b408", func := "texttools/texttoolslaw27.UniqGroups", spec := "uniqGroups", unfollowed := true, recurses := true, named := ["internal/strconv.uint64pow10", "math/bits.deBruijn32tab", "math/bits.deBruijn64tab"], apart := false, laid := [("math/bits.deBruijn32tab", laid_math_bits_deBruijn32tab), ("math/bits.deBruijn64tab", laid_math_bits_deBruijn64tab), ("internal/strconv.uint64pow10", laid_internal_strconv_uint64pow10)] }
def UniqGroupsSaid : Prop := uniqGroupsRow.holds Tryd.pinned (OpenSpec.ofChange uniqGroupsSpec)

/-- ITS FALSE NEIGHBOUR: 'it returns false'. Refute it at one input. -/
def uniqGroupsWrong : ChangeSpec := { name := "uniqGroups", fn := fun _ => fun
  | [d1, d2, d3] => { results := [.lit (.bool false)], args := [d1, d2, d3] }
  | _ => none }
def UniqGroupsWrongFalsely : Prop := uniqGroupsRow.holds Tryd.pinned (OpenSpec.ofChange uniqGroupsWrong)

/-- 'texttoolslaw27.UniqSames': WHATEVER THE INPUT: true; the input reads as it did. -/
def uniqSamesSpec : ChangeSpec := { name := "uniqSames", fn := fun _ => fun
  | [d1, d2, d3, d4] => { results := [.lit (.bool true)], args := [d1, d2, d3, d4] }
  | _ => none }
def uniqSamesRow : OpenClaim := { program := "ytoohbgjfhchnmaadoor", sum := "ecb2692fbec7b85371a05ef7e1c80a674c32382f0765e5bb3196c1a26fe6b408", func := "texttools/texttoolslaw27.UniqSames", spec := "uniqSames", unfollowed := true, recurses := true, named := ["internal/strconv.uint64pow10", "math/bits.deBruijn32tab", "math/bits.deBruijn64tab"], apart := false, laid := [("math/bits.deBruijn32tab", laid_math_bits_deBruijn32tab), ("math/bits.deBruijn64tab", laid_math_bits_deBruijn64tab), ("internal/strconv.uint64pow10", laid_internal_strconv_uint64pow10)] }
def UniqSamesSaid : Prop := uniqSamesRow.holds Tryd.pinned (OpenSpec.ofChange uniqSamesSpec)

/-- ITS FALSE NEIGHBOUR: 'it returns false'. Refute it at one input. -/
def uniqSamesWrong : ChangeSpec := { name := "uniqSames", fn := fun _ => fun
  | [d1, d2, d3, d4] => { results := [.lit (.bool false)], args := [d1, d2, d3, d4] }
  | _ => none }
def UniqSamesWrongFalsely : Prop := uniqSamesRow.holds Tryd.pinned (OpenSpec.ofChange uniqSamesWrong)

/-- 'texttoolslaw27.UniqAgrees': WHATEVER THE INPUT: true; the input reads as it did. -/
def uniqAgreesSpec : ChangeSpec := { name := "uniqAgrees", fn := fun _ => fun
  | [d1, d2, d3, d4, d5] => { results := [.lit (.bool true)], args := [d1, d2, d3, d4, d5] }
  | _ => none }
def uniqAgreesRow : OpenClaim := { program := "ytoohbgjfhchnmaadoor", sum := "ecb2692fbec7b85371a05ef7e1c80a674c32382f0765e5bb3196c1a26fe6b408", func := "texttools/texttoolslaw27.UniqAgrees", spec := "uniqAgrees", unfollowed := true, recurses := true, named := ["internal/strconv.uint64pow10", "math/bits.deBruijn32tab", "math/bits.deBruijn64tab"], apart := false, laid := [("math/bits.deBruijn32tab", laid_math_bits_deBruijn32tab), ("math/bits.deBruijn64tab", laid_math_bits_deBruijn64tab), ("internal/strconv.uint64pow10", laid_internal_strconv_uint64pow10)] }
def UniqAgreesSaid : Prop := uniqAgreesRow.holds Tryd.pinned (OpenSpec.ofChange uniqAgreesSpec)

/-- ITS FALSE NEIGHBOUR: 'it returns false'. Refute it at one input. -/
def uniqAgreesWrong : ChangeSpec := { name := "uniqAgrees", fn := fun _ => fun
  | [d1, d2, d3, d4, d5] => { results := [.lit (.bool false)], args := [d1, d2, d3, d4, d5] }
  | _ => none }
def UniqAgreesWrongFalsely : Prop := uniqAgreesRow.holds Tryd.pinned (OpenSpec.ofChange uniqAgreesWrong)

/- THE SECOND FORM. 'bulk': how many values and letters a reading holds, each counted each time it is reached (what is shared counts as often as it is met; a slice's spare places count too). A statement '..UptoSaid' is the law's where the arguments, and the package variables that the reading takes, are together of bulk at most 1048576: NARROWER than '..Said'. Prove '..Said' where nothing that the law and all that it calls make is longer than what came in: it says more and counts as full. Else prove '..UptoSaid'. A law counts once. -/
mutual
def uptoBulk {H : Type} : DataW H → Nat
  | .lit (.string bytes) => bytes.length + 1
  | .lit _ => 1
  | .nil => 1
  | .ptr d => uptoBulk d + 1
  | .slice elems spare => uptoBulkAll elems + uptoBulkAll spare + 1
  | .agg parts => uptoBulkAll parts + 1
  | .iface _ d => uptoBulk d + 1
  | .map entries => uptoBulkEntries entries + 1
  | .held _ => 1
def uptoBulkAll {H : Type} : List (DataW H) → Nat
  | [] => 0
  | d :: r => uptoBulk d + uptoBulkAll r
def uptoBulkEntries {H : Type} : List (Lit × DataW H) → Nat
  | [] => 0
  | x :: r => uptoBulkEntry x + uptoBulkEntries r
def uptoBulkEntry {H : Type} : Lit × DataW H → Nat
  | (.string bytes, d) => bytes.length + uptoBulk d + 1
  | (_, d) => uptoBulk d + 1
 end
def uptoSmall : (H : Type) → List (DataW H) → Bool := fun _ ds => decide (uptoBulkAll ds ≤ 1048576)
def OpenSpec.upto (s : _root_.Go.ChangeSpec) : _root_.Go.OpenSpec := { _root_.Go.OpenSpec.ofChange s with cond := some uptoSmall }

/-- 'texttoolslaw27.UniqLines', WHERE WHAT IT READS IS OF BULK AT MOST 1048576: true; the input reads as it did. -/
def uniqLinesUptoRow : OpenClaim := { program := "ytoohbgjfhchnmaadoor", sum := "ecb2692fbec7b85371a05ef7e1c80a674c32382f0765e5bb3196c1a26fe6b408", func := "texttools/texttoolslaw27.UniqLines", spec := "uniqLines", unfollowed := true, recurses := true, named := ["internal/strconv.uint64pow10", "math/bits.deBruijn32tab", "math/bits.deBruijn64tab"], apart := false, laid := [("math/bits.deBruijn32tab", laid_math_bits_deBruijn32tab), ("math/bits.deBruijn64tab", laid_math_bits_deBruijn64tab), ("internal/strconv.uint64pow10", laid_internal_strconv_uint64pow10)], narrowed := true }
def UniqLinesUptoSaid : Prop := uniqLinesUptoRow.holds Tryd.pinned (OpenSpec.upto uniqLinesSpec)

/-- 'texttoolslaw27.UniqFeeds', WHERE WHAT IT READS IS OF BULK AT MOST 1048576: true; the input reads as it did. -/
def uniqFeedsUptoRow : OpenClaim := { program := "ytoohbgjfhchnmaadoor", sum := "ecb2692fbec7b85371a05ef7e1c80a674c32382f0765e5bb3196c1a26fe6b408", func := "texttools/texttoolslaw27.UniqFeeds", spec := "uniqFeeds", unfollowed := true, recurses := true, named := ["internal/strconv.uint64pow10", "math/bits.deBruijn32tab", "math/bits.deBruijn64tab"], apart := false, laid := [("math/bits.deBruijn32tab", laid_math_bits_deBruijn32tab), ("math/bits.deBruijn64tab", laid_math_bits_deBruijn64tab), ("internal/strconv.uint64pow10", laid_internal_strconv_uint64pow10)], narrowed := true }
def UniqFeedsUptoSaid : Prop := uniqFeedsUptoRow.holds Tryd.pinned (OpenSpec.upto uniqFeedsSpec)

/-- 'texttoolslaw27.UniqFilters', WHERE WHAT IT READS IS OF BULK AT MOST 1048576: true; the input reads as it did. -/
def uniqFiltersUptoRow : OpenClaim := { program := "ytoohbgjfhchnmaadoor", sum := "ecb2692fbec7b85371a05ef7e1c80a674c32382f0765e5bb3196c1a26fe6b408", func := "texttools/texttoolslaw27.UniqFilters", spec := "uniqFilters", unfollowed := true, recurses := true, named := ["internal/strconv.uint64pow10", "math/bits.deBruijn32tab", "math/bits.deBruijn64tab"], apart := false, laid := [("math/bits.deBruijn32tab", laid_math_bits_deBruijn32tab), ("math/bits.deBruijn64tab", laid_math_bits_deBruijn64tab), ("internal/strconv.uint64pow10", laid_internal_strconv_uint64pow10)], narrowed := true }
def UniqFiltersUptoSaid : Prop := uniqFiltersUptoRow.holds Tryd.pinned (OpenSpec.upto uniqFiltersSpec)

/-- 'texttoolslaw27.UniqGroups', WHERE WHAT IT READS IS OF BULK AT MOST 1048576: true; the input reads as it did. -/
def uniqGroupsUptoRow : OpenClaim := { program := "ytoohbgjfhchnmaadoor", sum := "ecb2692fbec7b85371a05ef7e1c80a674c32382f0765e5bb3196c1a26fe6b408", func := "texttools/texttoolslaw27.UniqGroups", spec := "uniqGroups", unfollowed := true, recurses := true, named := ["internal/strconv.uint64pow10", "math/bits.deBruijn32tab", "math/bits.deBruijn64tab"], apart := false, laid := [("math/bits.deBruijn32tab", laid_math_bits_deBruijn32tab), ("math/bits.deBruijn64tab", laid_math_bits_deBruijn64tab), ("internal/strconv.uint64pow10", laid_internal_strconv_uint64pow10)], narrowed := true }
def UniqGroupsUptoSaid : Prop := uniqGroupsUptoRow.holds Tryd.pinned (OpenSpec.upto uniqGroupsSpec)

/-- 'texttoolslaw27.UniqSames', WHERE WHAT IT READS IS OF BULK AT MOST 1048576: true; the input reads as it did. -/
def uniqSamesUptoRow : OpenClaim := { program := "ytoohbgjfhchnmaadoor", sum := "ecb2692fbec7b85371a05ef7e1c80a674c32382f0765e5bb3196c1a26fe6b408", func := "texttools/texttoolslaw27.UniqSames", spec := "uniqSames", unfollowed := true, recurses := true, named := ["internal/strconv.uint64pow10", "math/bits.deBruijn32tab", "math/bits.deBruijn64tab"], apart := false, laid := [("math/bits.deBruijn32tab", laid_math_bits_deBruijn32tab), ("math/bits.deBruijn64tab", laid_math_bits_deBruijn64tab), ("internal/strconv.uint64pow10", laid_internal_strconv_uint64pow10)], narrowed := true }
def UniqSamesUptoSaid : Prop := uniqSamesUptoRow.holds Tryd.pinned (OpenSpec.upto uniqSamesSpec)

/-- 'texttoolslaw27.UniqAgrees', WHERE WHAT IT READS IS OF BULK AT MOST 1048576: true; the input reads as it did. -/
def uniqAgreesUptoRow : OpenClaim := { program := "ytoohbgjfhchnmaadoor", sum := "ecb2692fbec7b85371a05ef7e1c80a674c32382f0765e5bb3196c1a26fe6b408", func := "texttools/texttoolslaw27.UniqAgrees", spec := "uniqAgrees", unfollowed := true, recurses := true, named := ["internal/strconv.uint64pow10", "math/bits.deBruijn32tab", "math/bits.deBruijn64tab"], apart := false, laid := [("math/bits.deBruijn32tab", laid_math_bits_deBruijn32tab), ("math/bits.deBruijn64tab", laid_math_bits_deBruijn64tab), ("internal/strconv.uint64pow10", laid_internal_strconv_uint64pow10)], narrowed := true }
def UniqAgreesUptoSaid : Prop := uniqAgreesUptoRow.holds Tryd.pinned (OpenSpec.upto uniqAgreesSpec)

end Rows
end Go.Proofs.YtoohbgjfhchnmaaDoor
