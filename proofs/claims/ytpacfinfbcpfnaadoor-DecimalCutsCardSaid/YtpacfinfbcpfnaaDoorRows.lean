/-
  NARROWER THAN 'FOR EVERY INPUT', by the rows' own cells (each row's printed sentence says how): DecimalPowers: laid · DecimalTexts: laid · DecimalRoundTrips: laid · DecimalNearest: laid · DecimalCuts: laid · DecimalConverts: laid · DecimalArithmetic: laid · DecimalField: laid.
  DERIVED. THE GIVEN ROWS OF THIS SEAT. 8 by the template 'for every input the law returns true; each argument reads behind the call as it read before'; 0 by the template 'total and deterministic' (their statements: YtpacfinfbcpfnaaDoorTotals.lean).
  GIVEN WITH THE SEED: the statements are not yours to turn. If you find one false, say at which input.
  Laid BY PROGRAM, IN A SANDBOX (cutbox-rows.mjs): the forced cells as the released guide's own fill.sh prints them over the translation c8f571b02b73f06f… (all of the seat's roots in one cut). By AI agents, Wed Nov 11 2026. No macro, syntax, notation, axiom, sorry.
-/
import Derived.Test.YtpacfinfbcpfnaaDoorChecked
import GoSem.Claim
import GoSem.ClaimJoined
import GoSem.ClaimMapViews
import Derived.JoinedTies
import Derived.KernelRfl
namespace Go.Proofs.YtpacfinfbcpfnaaDoor
/- THE CELL 'sum', in the pinned program and in every row, IS THE sha256 OF THE DUMP (.gsa) THAT YtpacfinfbcpfnaaDoorProg.lean LOADS. Nothing in Lean hashes anything: it is a label: what it is worth is what the hold of that sum in a sandbox is worth. -/
noncomputable def Tryd.pinned : Pinned := { name := "ytpacfinfbcpfnaadoor", sum := "c8f571b02b73f06f9e4936cb5d5aae7854622848553c7d46d5efa311514f7dda", checked := Tryd.checked }
namespace Rows
def none {H : Type} : Left H := { results := [], args := [] }

/- WHAT THE LISTED PACKAGE-LEVEL VARIABLES READ AS WHEN THE CALL BEGINS. Each datum BY PROGRAM (the guide's laid-datum.mjs) off the statement by which the dump's own 'gosem.cut.vars' lays the variable. In a bare row this is a premise. The card (YtpacfinfbcpfnaaDoorCards.lean) ties it to the program's text. -/
def laid_math_bits_deBruijn32tab {H : Type} : DataW H := .agg [.lit (.int .u8 0), .lit (.int .u8 1), .lit (.int .u8 28), .lit (.int .u8 2), .lit (.int .u8 29), .lit (.int .u8 14), .lit (.int .u8 24), .lit (.int .u8 3), .lit (.int .u8 30), .lit (.int .u8 22), .lit (.int .u8 20), .lit (.int .u8 15), .lit (.int .u8 25), .lit (.int .u8 17), .lit (.int .u8 4), .lit (.int .u8 8), .lit (.int .u8 31), .lit (.int .u8 27), .lit (.int .u8 13), .lit (.int .u8 23), .lit (.int .u8 21), .lit (.int .u8 19), .lit (.int .u8 16), .lit (.int .u8 7), .lit (.int .u8 26), .lit (.int .u8 12), .lit (.int .u8 18), .lit (.int .u8 6), .lit (.int .u8 11), .lit (.int .u8 5), .lit (.int .u8 10), .lit (.int .u8 9)]
def laid_math_bits_deBruijn64tab {H : Type} : DataW H := .agg [.lit (.int .u8 0), .lit (.int .u8 1), .lit (.int .u8 56), .lit (.int .u8 2), .lit (.int .u8 57), .lit (.int .u8 49), .lit (.int .u8 28), .lit (.int .u8 3), .lit (.int .u8 61), .lit (.int .u8 58), .lit (.int .u8 42), .lit (.int .u8 50), .lit (.int .u8 38), .lit (.int .u8 29), .lit (.int .u8 17), .lit (.int .u8 4), .lit (.int .u8 62), .lit (.int .u8 47), .lit (.int .u8 59), .lit (.int .u8 36), .lit (.int .u8 45), .lit (.int .u8 43), .lit (.int .u8 51), .lit (.int .u8 22), .lit (.int .u8 53), .lit (.int .u8 39), .lit (.int .u8 33), .lit (.int .u8 30), .lit (.int .u8 24), .lit (.int .u8 18), .lit (.int .u8 12), .lit (.int .u8 5), .lit (.int .u8 63), .lit (.int .u8 55), .lit (.int .u8 48), .lit (.int .u8 27), .lit (.int .u8 60), .lit (.int .u8 41), .lit (.int .u8 37), .lit (.int .u8 16), .lit (.int .u8 46), .lit (.int .u8 35), .lit (.int .u8 44), .lit (.int .u8 21), .lit (.int .u8 52), .lit (.int .u8 32), .lit (.int .u8 23), .lit (.int .u8 11), .lit (.int .u8 54), .lit (.int .u8 26), .lit (.int .u8 40), .lit (.int .u8 15), .lit (.int .u8 34), .lit (.int .u8 20), .lit (.int .u8 31), .lit (.int .u8 10), .lit (.int .u8 25), .lit (.int .u8 14), .lit (.int .u8 19), .lit (.int .u8 9), .lit (.int .u8 13), .lit (.int .u8 8), .lit (.int .u8 7), .lit (.int .u8 6)]
def laid_internal_strconv_uint64pow10 {H : Type} : DataW H := .agg [.lit (.int .u64 1), .lit (.int .u64 10), .lit (.int .u64 100), .lit (.int .u64 1000), .lit (.int .u64 10000), .lit (.int .u64 100000), .lit (.int .u64 1000000), .lit (.int .u64 10000000), .lit (.int .u64 100000000), .lit (.int .u64 1000000000), .lit (.int .u64 10000000000), .lit (.int .u64 100000000000), .lit (.int .u64 1000000000000), .lit (.int .u64 10000000000000), .lit (.int .u64 100000000000000), .lit (.int .u64 1000000000000000), .lit (.int .u64 10000000000000000), .lit (.int .u64 100000000000000000), .lit (.int .u64 1000000000000000000), .lit (.int .u64 10000000000000000000)]
def laid_texttools_decimal_units {H : Type} : DataW H := .agg [.lit (.int .i64 10000), .lit (.int .i64 1000), .lit (.int .i64 100), .lit (.int .i64 10), .lit (.int .i64 1)]

/-- 'texttoolslaw02.DecimalPowers': WHATEVER THE INPUT: true; the input reads as it did. -/
def decimalPowersSpec : ChangeSpec := { name := "decimalPowers", fn := fun _ => fun
  | [d1, d2] => { results := [.lit (.bool true)], args := [d1, d2] }
  | _ => none }
def decimalPowersRow : OpenClaim := { program := "ytpacfinfbcpfnaadoor", sum := "c8f571b02b73f06f9e4936cb5d5aae7854622848553c7d46d5efa311514f7dda", func := "texttools/texttoolslaw02.DecimalPowers", spec := "decimalPowers", named := ["math/bits.divideError", "math/bits.overflowError", "texttools/decimal.units", "internal/strconv.uint64pow10", "math/bits.deBruijn32tab", "math/bits.deBruijn64tab"], apart := false, laid := [("math/bits.deBruijn32tab", laid_math_bits_deBruijn32tab), ("math/bits.deBruijn64tab", laid_math_bits_deBruijn64tab), ("internal/strconv.uint64pow10", laid_internal_strconv_uint64pow10), ("texttools/decimal.units", laid_texttools_decimal_units)] }
def DecimalPowersSaid : Prop := decimalPowersRow.holds Tryd.pinned (OpenSpec.ofChange decimalPowersSpec)

/-- ITS FALSE NEIGHBOUR: 'it returns false'. Refute it at one input. -/
def decimalPowersWrong : ChangeSpec := { name := "decimalPowers", fn := fun _ => fun
  | [d1, d2] => { results := [.lit (.bool false)], args := [d1, d2] }
  | _ => none }
def DecimalPowersWrongFalsely : Prop := decimalPowersRow.holds Tryd.pinned (OpenSpec.ofChange decimalPowersWrong)

/-- 'texttoolslaw02.DecimalTexts': WHATEVER THE INPUT: true; the input reads as it did. -/
def decimalTextsSpec : ChangeSpec := { name := "decimalTexts", fn := fun _ => fun
  | [d1, d2] => { results := [.lit (.bool true)], args := [d1, d2] }
  | _ => none }
def decimalTextsRow : OpenClaim := { program := "ytpacfinfbcpfnaadoor", sum := "c8f571b02b73f06f9e4936cb5d5aae7854622848553c7d46d5efa311514f7dda", func := "texttools/texttoolslaw02.DecimalTexts", spec := "decimalTexts", named := ["internal/strconv.uint64pow10", "math/bits.deBruijn32tab", "math/bits.deBruijn64tab", "math/bits.divideError", "math/bits.overflowError", "texttools/decimal.units"], apart := false, laid := [("math/bits.deBruijn32tab", laid_math_bits_deBruijn32tab), ("math/bits.deBruijn64tab", laid_math_bits_deBruijn64tab), ("internal/strconv.uint64pow10", laid_internal_strconv_uint64pow10), ("texttools/decimal.units", laid_texttools_decimal_units)] }
def DecimalTextsSaid : Prop := decimalTextsRow.holds Tryd.pinned (OpenSpec.ofChange decimalTextsSpec)

/-- ITS FALSE NEIGHBOUR: 'it returns false'. Refute it at one input. -/
def decimalTextsWrong : ChangeSpec := { name := "decimalTexts", fn := fun _ => fun
  | [d1, d2] => { results := [.lit (.bool false)], args := [d1, d2] }
  | _ => none }
def DecimalTextsWrongFalsely : Prop := decimalTextsRow.holds Tryd.pinned (OpenSpec.ofChange decimalTextsWrong)

/-- 'texttoolslaw02.DecimalRoundTrips': WHATEVER THE INPUT: true; the input reads as it did. -/
def decimalRoundTripsSpec : ChangeSpec := { name := "decimalRoundTrips", fn := fun _ => fun
  | [d1, d2] => { results := [.lit (.bool true)], args := [d1, d2] }
  | _ => none }
def decimalRoundTripsRow : OpenClaim := { program := "ytpacfinfbcpfnaadoor", sum := "c8f571b02b73f06f9e4936cb5d5aae7854622848553c7d46d5efa311514f7dda", func := "texttools/texttoolslaw02.DecimalRoundTrips", spec := "decimalRoundTrips", named := ["internal/strconv.uint64pow10", "math/bits.deBruijn32tab", "math/bits.deBruijn64tab", "math/bits.divideError", "math/bits.overflowError", "texttools/decimal.units"], apart := false, laid := [("math/bits.deBruijn32tab", laid_math_bits_deBruijn32tab), ("math/bits.deBruijn64tab", laid_math_bits_deBruijn64tab), ("internal/strconv.uint64pow10", laid_internal_strconv_uint64pow10), ("texttools/decimal.units", laid_texttools_decimal_units)] }
def DecimalRoundTripsSaid : Prop := decimalRoundTripsRow.holds Tryd.pinned (OpenSpec.ofChange decimalRoundTripsSpec)

/-- ITS FALSE NEIGHBOUR: 'it returns false'. Refute it at one input. -/
def decimalRoundTripsWrong : ChangeSpec := { name := "decimalRoundTrips", fn := fun _ => fun
  | [d1, d2] => { results := [.lit (.bool false)], args := [d1, d2] }
  | _ => none }
def DecimalRoundTripsWrongFalsely : Prop := decimalRoundTripsRow.holds Tryd.pinned (OpenSpec.ofChange decimalRoundTripsWrong)

/-- 'texttoolslaw02.DecimalNearest': WHATEVER THE INPUT: true; the input reads as it did. -/
def decimalNearestSpec : ChangeSpec := { name := "decimalNearest", fn := fun _ => fun
  | [d1, d2] => { results := [.lit (.bool true)], args := [d1, d2] }
  | _ => none }
def decimalNearestRow : OpenClaim := { program := "ytpacfinfbcpfnaadoor", sum := "c8f571b02b73f06f9e4936cb5d5aae7854622848553c7d46d5efa311514f7dda", func := "texttools/texttoolslaw02.DecimalNearest", spec := "decimalNearest", named := ["math/bits.divideError", "math/bits.overflowError", "texttools/decimal.units", "internal/strconv.uint64pow10", "math/bits.deBruijn32tab", "math/bits.deBruijn64tab"], apart := false, laid := [("math/bits.deBruijn32tab", laid_math_bits_deBruijn32tab), ("math/bits.deBruijn64tab", laid_math_bits_deBruijn64tab), ("internal/strconv.uint64pow10", laid_internal_strconv_uint64pow10), ("texttools/decimal.units", laid_texttools_decimal_units)] }
def DecimalNearestSaid : Prop := decimalNearestRow.holds Tryd.pinned (OpenSpec.ofChange decimalNearestSpec)

/-- ITS FALSE NEIGHBOUR: 'it returns false'. Refute it at one input. -/
def decimalNearestWrong : ChangeSpec := { name := "decimalNearest", fn := fun _ => fun
  | [d1, d2] => { results := [.lit (.bool false)], args := [d1, d2] }
  | _ => none }
def DecimalNearestWrongFalsely : Prop := decimalNearestRow.holds Tryd.pinned (OpenSpec.ofChange decimalNearestWrong)

/-- 'texttoolslaw02.DecimalCuts': WHATEVER THE INPUT: true; the input reads as it did. -/
def decimalCutsSpec : ChangeSpec := { name := "decimalCuts", fn := fun _ => fun
  | [d1, d2] => { results := [.lit (.bool true)], args := [d1, d2] }
  | _ => none }
def decimalCutsRow : OpenClaim := { program := "ytpacfinfbcpfnaadoor", sum := "c8f571b02b73f06f9e4936cb5d5aae7854622848553c7d46d5efa311514f7dda", func := "texttools/texttoolslaw02.DecimalCuts", spec := "decimalCuts", named := ["math/bits.divideError", "math/bits.overflowError", "texttools/decimal.units", "internal/strconv.uint64pow10", "math/bits.deBruijn32tab", "math/bits.deBruijn64tab"], apart := false, laid := [("math/bits.deBruijn32tab", laid_math_bits_deBruijn32tab), ("math/bits.deBruijn64tab", laid_math_bits_deBruijn64tab), ("internal/strconv.uint64pow10", laid_internal_strconv_uint64pow10), ("texttools/decimal.units", laid_texttools_decimal_units)] }
def DecimalCutsSaid : Prop := decimalCutsRow.holds Tryd.pinned (OpenSpec.ofChange decimalCutsSpec)

/-- ITS FALSE NEIGHBOUR: 'it returns false'. Refute it at one input. -/
def decimalCutsWrong : ChangeSpec := { name := "decimalCuts", fn := fun _ => fun
  | [d1, d2] => { results := [.lit (.bool false)], args := [d1, d2] }
  | _ => none }
def DecimalCutsWrongFalsely : Prop := decimalCutsRow.holds Tryd.pinned (OpenSpec.ofChange decimalCutsWrong)

/-- 'texttoolslaw02.DecimalConverts': WHATEVER THE INPUT: true; the input reads as it did. -/
def decimalConvertsSpec : ChangeSpec := { name := "decimalConverts", fn := fun _ => fun
  | [d1, d2] => { results := [.lit (.bool true)], args := [d1, d2] }
  | _ => none }
def decimalConvertsRow : OpenClaim := { program := "ytpacfinfbcpfnaadoor", sum := "c8f571b02b73f06f9e4936cb5d5aae7854622848553c7d46d5efa311514f7dda", func := "texttools/texttoolslaw02.DecimalConverts", spec := "decimalConverts", named := ["texttools/decimal.units", "math/bits.divideError", "math/bits.overflowError", "internal/strconv.uint64pow10", "math/bits.deBruijn32tab", "math/bits.deBruijn64tab"], apart := false, laid := [("math/bits.deBruijn32tab", laid_math_bits_deBruijn32tab), ("math/bits.deBruijn64tab", laid_math_bits_deBruijn64tab), ("internal/strconv.uint64pow10", laid_internal_strconv_uint64pow10), ("texttools/decimal.units", laid_texttools_decimal_units)] }
def DecimalConvertsSaid : Prop := decimalConvertsRow.holds Tryd.pinned (OpenSpec.ofChange decimalConvertsSpec)

/-- ITS FALSE NEIGHBOUR: 'it returns false'. Refute it at one input. -/
def decimalConvertsWrong : ChangeSpec := { name := "decimalConverts", fn := fun _ => fun
  | [d1, d2] => { results := [.lit (.bool false)], args := [d1, d2] }
  | _ => none }
def DecimalConvertsWrongFalsely : Prop := decimalConvertsRow.holds Tryd.pinned (OpenSpec.ofChange decimalConvertsWrong)

/-- 'texttoolslaw02.DecimalArithmetic': WHATEVER THE INPUT: true; the input reads as it did. -/
def decimalArithmeticSpec : ChangeSpec := { name := "decimalArithmetic", fn := fun _ => fun
  | [d1, d2] => { results := [.lit (.bool true)], args := [d1, d2] }
  | _ => none }
def decimalArithmeticRow : OpenClaim := { program := "ytpacfinfbcpfnaadoor", sum := "c8f571b02b73f06f9e4936cb5d5aae7854622848553c7d46d5efa311514f7dda", func := "texttools/texttoolslaw02.DecimalArithmetic", spec := "decimalArithmetic", named := ["math/bits.divideError", "math/bits.overflowError", "texttools/decimal.units", "internal/strconv.uint64pow10", "math/bits.deBruijn32tab", "math/bits.deBruijn64tab"], apart := false, laid := [("math/bits.deBruijn32tab", laid_math_bits_deBruijn32tab), ("math/bits.deBruijn64tab", laid_math_bits_deBruijn64tab), ("internal/strconv.uint64pow10", laid_internal_strconv_uint64pow10), ("texttools/decimal.units", laid_texttools_decimal_units)] }
def DecimalArithmeticSaid : Prop := decimalArithmeticRow.holds Tryd.pinned (OpenSpec.ofChange decimalArithmeticSpec)

/-- ITS FALSE NEIGHBOUR: 'it returns false'. Refute it at one input. -/
def decimalArithmeticWrong : ChangeSpec := { name := "decimalArithmetic", fn := fun _ => fun
  | [d1, d2] => { results := [.lit (.bool false)], args := [d1, d2] }
  | _ => none }
def DecimalArithmeticWrongFalsely : Prop := decimalArithmeticRow.holds Tryd.pinned (OpenSpec.ofChange decimalArithmeticWrong)

/-- 'texttoolslaw02.DecimalField': WHATEVER THE INPUT: true; the input reads as it did. -/
def decimalFieldSpec : ChangeSpec := { name := "decimalField", fn := fun _ => fun
  | [d1, d2, d3] => { results := [.lit (.bool true)], args := [d1, d2, d3] }
  | _ => none }
def decimalFieldRow : OpenClaim := { program := "ytpacfinfbcpfnaadoor", sum := "c8f571b02b73f06f9e4936cb5d5aae7854622848553c7d46d5efa311514f7dda", func := "texttools/texttoolslaw02.DecimalField", spec := "decimalField", named := ["math/bits.divideError", "math/bits.overflowError", "texttools/decimal.units", "internal/strconv.uint64pow10", "math/bits.deBruijn32tab", "math/bits.deBruijn64tab"], apart := false, laid := [("math/bits.deBruijn32tab", laid_math_bits_deBruijn32tab), ("math/bits.deBruijn64tab", laid_math_bits_deBruijn64tab), ("internal/strconv.uint64pow10", laid_internal_strconv_uint64pow10), ("texttools/decimal.units", laid_texttools_decimal_units)] }
def DecimalFieldSaid : Prop := decimalFieldRow.holds Tryd.pinned (OpenSpec.ofChange decimalFieldSpec)

/-- ITS FALSE NEIGHBOUR: 'it returns false'. Refute it at one input. -/
def decimalFieldWrong : ChangeSpec := { name := "decimalField", fn := fun _ => fun
  | [d1, d2, d3] => { results := [.lit (.bool false)], args := [d1, d2, d3] }
  | _ => none }
def DecimalFieldWrongFalsely : Prop := decimalFieldRow.holds Tryd.pinned (OpenSpec.ofChange decimalFieldWrong)

/- THE SECOND FORM. 'bulk': how many values and letters a reading holds, each counted each time it is reached (what is shared counts as often as it is met; a slice's spare places count too). A statement '..UptoSaid' is the law's where the arguments, and the package variables that the reading takes, are together of bulk at most 1048576: NARROWER than '..Said'. Prove '..Said' where nothing that the law and all that it calls make is longer than what came in: it says more and counts as full. Else prove '..UptoSaid'. A law counts once. -/
mutual
def uptoBulk {H : Type} : DataW H → Nat
  | .lit (.string bytes) => bytes.length + 1
  | .lit _ => 1
  | .nil => 1
  | .ptr d => uptoBulk d + 1
  | .slice elems spare => uptoBulkAll elems + uptoBulkAll spare + 1
  | .agg parts => uptoBulkAll parts + 1
  | .iface _ d => uptoBulk d + 1
  | .map entries => uptoBulkEntries entries + 1
  | .held _ => 1
def uptoBulkAll {H : Type} : List (DataW H) → Nat
  | [] => 0
  | d :: r => uptoBulk d + uptoBulkAll r
def uptoBulkEntries {H : Type} : List (Lit × DataW H) → Nat
  | [] => 0
  | x :: r => uptoBulkEntry x + uptoBulkEntries r
def uptoBulkEntry {H : Type} : Lit × DataW H → Nat
  | (.string bytes, d) => bytes.length + uptoBulk d + 1
  | (_, d) => uptoBulk d + 1
 end
def uptoSmall : (H : Type) → List (DataW H) → Bool := fun _ ds => decide (uptoBulkAll ds ≤ 1048576)
def OpenSpec.upto (s : _root_.Go.ChangeSpec) : _root_.Go.OpenSpec := { _root_.Go.OpenSpec.ofChange s with cond := some uptoSmall }

/-- 'texttoolslaw02.DecimalPowers', WHERE WHAT IT READS IS OF BULK AT MOST 1048576: true; the input reads as it did. -/
def decimalPowersUptoRow : OpenClaim := { program := "ytpacfinfbcpfnaadoor", sum := "c8f571b02b73f06f9e4936cb5d5aae7854622848553c7d46d5efa311514f7dda", func := "texttools/texttoolslaw02.DecimalPowers", spec := "decimalPowers", named := ["math/bits.divideError", "math/bits.overflowError", "texttools/decimal.units", "internal/strconv.uint64pow10", "math/bits.deBruijn32tab", "math/bits.deBruijn64tab"], apart := false, laid := [("math/bits.deBruijn32tab", laid_math_bits_deBruijn32tab), ("math/bits.deBruijn64tab", laid_math_bits_deBruijn64tab), ("internal/strconv.uint64pow10", laid_internal_strconv_uint64pow10), ("texttools/decimal.units", laid_texttools_decimal_units)], narrowed := true }
def DecimalPowersUptoSaid : Prop := decimalPowersUptoRow.holds Tryd.pinned (OpenSpec.upto decimalPowersSpec)

/-- 'texttoolslaw02.DecimalTexts', WHERE WHAT IT READS IS OF BULK AT MOST 1048576: true; the input reads as it did. -/
def decimalTextsUptoRow : OpenClaim := { program := "ytpacfinfbcpfnaadoor", sum := "c8f571b02b73f06f9e4936cb5d5aae7854622848553c7d46d5efa311514f7dda", func := "texttools/texttoolslaw02.DecimalTexts", spec := "decimalTexts", named := ["internal/strconv.uint64pow10", "math/bits.deBruijn32tab", "math/bits.deBruijn64tab", "math/bits.divideError", "math/bits.overflowError", "texttools/decimal.units"], apart := false, laid := [("math/bits.deBruijn32tab", laid_math_bits_deBruijn32tab), ("math/bits.deBruijn64tab", laid_math_bits_deBruijn64tab), ("internal/strconv.uint64pow10", laid_internal_strconv_uint64pow10), ("texttools/decimal.units", laid_texttools_decimal_units)], narrowed := true }
def DecimalTextsUptoSaid : Prop := decimalTextsUptoRow.holds Tryd.pinned (OpenSpec.upto decimalTextsSpec)

/-- 'texttoolslaw02.DecimalRoundTrips', WHERE WHAT IT READS IS OF BULK AT MOST 1048576: true; the input reads as it did. -/
def decimalRoundTripsUptoRow : OpenClaim := { program := "ytpacfinfbcpfnaadoor", sum := "c8f571b02b73f06f9e4936cb5d5aae7854622848553c7d46d5efa311514f7dda", func := "texttools/texttoolslaw02.DecimalRoundTrips", spec := "decimalRoundTrips", named := ["internal/strconv.uint64pow10", "math/bits.deBruijn32tab", "math/bits.deBruijn64tab", "math/bits.divideError", "math/bits.overflowError", "texttools/decimal.units"], apart := false, laid := [("math/bits.deBruijn32tab", laid_math_bits_deBruijn32tab), ("math/bits.deBruijn64tab", laid_math_bits_deBruijn64tab), ("internal/strconv.uint64pow10", laid_internal_strconv_uint64pow10), ("texttools/decimal.units", laid_texttools_decimal_units)], narrowed := true }
def DecimalRoundTripsUptoSaid : Prop := decimalRoundTripsUptoRow.holds Tryd.pinned (OpenSpec.upto decimalRoundTripsSpec)

/-- 'texttoolslaw02.DecimalNearest', WHERE WHAT IT READS IS OF BULK AT MOST 1048576: true; the input reads as it did. -/
def decimalNearestUptoRow : OpenClaim := { program := "ytpacfinfbcpfnaadoor", sum := "c8f571b02b73f06f9e4936cb5d5aae7854622848553c7d46d5efa311514f7dda", func := "texttools/texttoolslaw02.DecimalNearest", spec := "decimalNearest", named := ["math/bits.divideError", "math/bits.overflowError", "texttools/decimal.units", "internal/strconv.uint64pow10", "math/bits.deBruijn32tab", "math/bits.deBruijn64tab"], apart := false, laid := [("math/bits.deBruijn32tab", laid_math_bits_deBruijn32tab), ("math/bits.deBruijn64tab", laid_math_bits_deBruijn64tab), ("internal/strconv.uint64pow10", laid_internal_strconv_uint64pow10), ("texttools/decimal.units", laid_texttools_decimal_units)], narrowed := true }
def DecimalNearestUptoSaid : Prop := decimalNearestUptoRow.holds Tryd.pinned (OpenSpec.upto decimalNearestSpec)

/-- 'texttoolslaw02.DecimalCuts', WHERE WHAT IT READS IS OF BULK AT MOST 1048576: true; the input reads as it did. -/
def decimalCutsUptoRow : OpenClaim := { program := "ytpacfinfbcpfnaadoor", sum := "c8f571b02b73f06f9e4936cb5d5aae7854622848553c7d46d5efa311514f7dda", func := "texttools/texttoolslaw02.DecimalCuts", spec := "decimalCuts", named := ["math/bits.divideError", "math/bits.overflowError", "texttools/decimal.units", "internal/strconv.uint64pow10", "math/bits.deBruijn32tab", "math/bits.deBruijn64tab"], apart := false, laid := [("math/bits.deBruijn32tab", laid_math_bits_deBruijn32tab), ("math/bits.deBruijn64tab", laid_math_bits_deBruijn64tab), ("internal/strconv.uint64pow10", laid_internal_strconv_uint64pow10), ("texttools/decimal.units", laid_texttools_decimal_units)], narrowed := true }
def DecimalCutsUptoSaid : Prop := decimalCutsUptoRow.holds Tryd.pinned (OpenSpec.upto decimalCutsSpec)

/-- 'texttoolslaw02.DecimalConverts', WHERE WHAT IT READS IS OF BULK AT MOST 1048576: true; the input reads as it did. -/
def decimalConvertsUptoRow : OpenClaim := { program := "ytpacfinfbcpfnaadoor", sum := "c8f571b02b73f06f9e4936cb5d5aae7854622848553c7d46d5efa311514f7dda", func := "texttools/texttoolslaw02.DecimalConverts", spec := "decimalConverts", named := ["texttools/decimal.units", "math/bits.divideError", "math/bits.overflowError", "internal/strconv.uint64pow10", "math/bits.deBruijn32tab", "math/bits.deBruijn64tab"], apart := false, laid := [("math/bits.deBruijn32tab", laid_math_bits_deBruijn32tab), ("math/bits.deBruijn64tab", laid_math_bits_deBruijn64tab), ("internal/strconv.uint64pow10", laid_internal_strconv_uint64pow10), ("texttools/decimal.units", laid_texttools_decimal_units)], narrowed := true }
def DecimalConvertsUptoSaid : Prop := decimalConvertsUptoRow.holds Tryd.pinned (OpenSpec.upto decimalConvertsSpec)

/-- 'texttoolslaw02.DecimalArithmetic', WHERE WHAT IT READS IS OF BULK AT MOST 1048576: true; the input reads as it did. -/
def decimalArithmeticUptoRow : OpenClaim := { program := "ytpacfinfbcpfnaadoor", sum := "c8f571b02b73f06f9e4936cb5d5aae7854622848553c7d46d5efa311514f7dda", func := "texttools/texttoolslaw02.DecimalArithmetic", spec := "decimalArithmetic", named := ["math/bits.divideError", "math/bits.overflowError", "texttools/decimal.units", "internal/strconv.uint64pow10", "math/bits.deBruijn32tab", "math/bits.deBruijn64tab"], apart := false, laid := [("math/bits.deBruijn32tab", laid_math_bits_deBruijn32tab), ("math/bits.deBruijn64tab", laid_math_bits_deBruijn64tab), ("internal/strconv.uint64pow10", laid_internal_strconv_uint64pow10), ("texttools/decimal.units", laid_texttools_decimal_units)], narrowed := true }
def DecimalArithmeticUptoSaid : Prop := decimalArithmeticUptoRow.holds Tryd.pinned (OpenSpec.upto decimalArithmeticSpec)

/-- 'texttoolslaw02.DecimalField', WHERE WHAT IT READS IS OF BULK AT MOST 1048576: true; the input reads as it did. -/
def decimalFieldUptoRow : OpenClaim := { program := "ytpacfinfbcpfnaadoor", sum := "c8f571b02b73f06f9e4936cb5d5aae7854622848553c7d46d5efa311514f7dda", func := "texttools/texttoolslaw02.DecimalField", spec := "decimalField", named := ["math/bits.divideError", "math/bits.overflowError", "texttools/decimal.units", "internal/strconv.uint64pow10", "math/bits.deBruijn32tab", "math/bits.deBruijn64tab"], apart := false, laid := [("math/bits.deBruijn32tab", laid_math_bits_deBruijn32tab), ("math/bits.deBruijn64tab", laid_math_bits_deBruijn64tab), ("internal/strconv.uint64pow10", laid_internal_strconv_uint64pow10), ("texttools/decimal.units", laid_texttools_decimal_units)], narrowed := true }
def DecimalFieldUptoSaid : Prop := decimalFieldUptoRow.holds Tryd.pinned (OpenSpec.upto decimalFieldSpec)

end Rows
end Go.Proofs.YtpacfinfbcpfnaaDoor
