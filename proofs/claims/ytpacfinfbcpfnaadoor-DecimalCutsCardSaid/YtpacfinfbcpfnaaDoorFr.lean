/- the frame that all laws of this seat share: what the listed variables hold -/
import Derived.Test.YtpacfinfbcpfnaaDoorCards
import Derived.Test.YtpacfinfbcpfnaaDoorTie
import Derived.Test.YtpacfinfbcpfnaaDoorWq
import Derived.ProofKit
import Derived.OpenShut
import Derived.ShutString
import Derived.ChangeOld
import Derived.Deep.DeepHandedRow
import Derived.Lib.LaidTab
import Derived.Stop.LaidErr
namespace Go.Proofs.YtpacfinfbcpfnaaDoor
open Go.ChangeShapes Go.WideShapes Go.ChangeAt Go.RowKit
theorem own : ownKnob Tryd.prog.godebug = none := by kernel_rfl
theorem laidOut : laidOutB Tryd.prog = true := by kernel_rfl
theorem gUnits : Tryd.prog.globalNamed "texttools/decimal.units" = some 0 := by kernel_rfl
theorem gUnitsType : (Tryd.prog.globals[0]?).map (·.type) = some 52 := by kernel_rfl
theorem gPowType : (Tryd.prog.globals[3]?).map (·.type) = some 72 := by kernel_rfl
theorem cells52 : Tryd.prog.cellsOf 52 = 5 := by kernel_rfl
theorem cells72 : Tryd.prog.cellsOf 72 = 20 := by kernel_rfl
theorem cells3 : Tryd.prog.cellsOf 3 = 1 := by kernel_rfl
theorem cells53 : Tryd.prog.cellsOf 53 = 1 := by kernel_rfl
theorem env_of {W : World} (h : laidMet Tryd.prog Rows.decimalPowersRow.laid W) : Env W := by
  have h3 := h.tail.tail
  have h4 := h3.tail
  have hp : Lib.TabIs Tryd.prog W "internal/strconv.uint64pow10" .u64 Lib.pow10Tab :=
    Lib.tabIs_of_head gPow gPowType Tryd.underlying72 Tryd.underlying53 cells53 cells72 h3
  have hu : Lib.TabIs Tryd.prog W "texttools/decimal.units" .i64 [10000, 1000, 100, 10, 1] :=
    Lib.tabIs_of_head gUnits gUnitsType Tryd.underlying52 Tryd.underlying3 cells3 cells52 h4
  exact ⟨⟨hu.cell gUnits 0 (by decide), hu.cell gUnits 1 (by decide), hu.cell gUnits 2 (by decide), hu.cell gUnits 3 (by decide), hu.cell gUnits 4 (by decide)⟩, hp⟩
/-- a block with other cells -/
def setBlk (xs : Array Value) : Obj → Obj
  | .cells _ t frozen => .cells xs t frozen
  | o => o
def tabU : Array Value := #[.int .i64 10000, .int .i64 1000, .int .i64 100, .int .i64 10, .int .i64 1]
def tabP : Array Value := (Lib.pow10Tab.map fun z => Value.int .u64 z).toArray
def tab32 : Array Value := #[.int .u8 0, .int .u8 1, .int .u8 28, .int .u8 2, .int .u8 29, .int .u8 14, .int .u8 24, .int .u8 3, .int .u8 30, .int .u8 22, .int .u8 20, .int .u8 15, .int .u8 25, .int .u8 17, .int .u8 4, .int .u8 8, .int .u8 31, .int .u8 27, .int .u8 13, .int .u8 23, .int .u8 21, .int .u8 19, .int .u8 16, .int .u8 7, .int .u8 26, .int .u8 12, .int .u8 18, .int .u8 6, .int .u8 11, .int .u8 5, .int .u8 10, .int .u8 9]
def tab64 : Array Value := #[.int .u8 0, .int .u8 1, .int .u8 56, .int .u8 2, .int .u8 57, .int .u8 49, .int .u8 28, .int .u8 3, .int .u8 61, .int .u8 58, .int .u8 42, .int .u8 50, .int .u8 38, .int .u8 29, .int .u8 17, .int .u8 4, .int .u8 62, .int .u8 47, .int .u8 59, .int .u8 36, .int .u8 45, .int .u8 43, .int .u8 51, .int .u8 22, .int .u8 53, .int .u8 39, .int .u8 33, .int .u8 30, .int .u8 24, .int .u8 18, .int .u8 12, .int .u8 5, .int .u8 63, .int .u8 55, .int .u8 48, .int .u8 27, .int .u8 60, .int .u8 41, .int .u8 37, .int .u8 16, .int .u8 46, .int .u8 35, .int .u8 44, .int .u8 21, .int .u8 52, .int .u8 32, .int .u8 23, .int .u8 11, .int .u8 54, .int .u8 26, .int .u8 40, .int .u8 15, .int .u8 34, .int .u8 20, .int .u8 31, .int .u8 10, .int .u8 25, .int .u8 14, .int .u8 19, .int .u8 9, .int .u8 13, .int .u8 8, .int .u8 7, .int .u8 6]
theorem rng {n : Int} (h : (Lit.int .i64 n).wf = true) : -9223372036854775808 ≤ n ∧ n ≤ 9223372036854775807 := by
  simpa [Lit.wf, IntKind.min, IntKind.max, IntKind.signed, IntKind.bits] using h
end Go.Proofs.YtpacfinfbcpfnaaDoor
