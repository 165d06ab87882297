/- the frame that the laws of this seat share -/
import Derived.Test.YtoohbgjfhchnmaaDoorCards
import Derived.Test.YtoohbgjfhchnmaaDoorTie
import Derived.Test.YtoohbgjfhchnmaaDoorRd
import Derived.ProofKit
import Derived.OpenShut
import Derived.ShutString
import Derived.ChangeOld
import Derived.WideKeyArgs
import Derived.SizedLaws
import Derived.Carry
import Derived.Deep.DeepHandedRow
import Derived.Lib.LaidTab
import Derived.Stop.LaidErr
namespace Go.Proofs.YtoohbgjfhchnmaaDoor
open Go.ChangeShapes Go.WideShapes Go.ChangeAt Go.RowKit
theorem own : ownKnob Tryd.prog.godebug = none := by kernel_rfl
theorem laidOut : laidOutB Tryd.prog = true := by kernel_rfl
theorem gPowType : (Tryd.prog.globals[0]?).map (·.type) = some 91 := by kernel_rfl
theorem cells91 : Tryd.prog.cellsOf 91 = 20 := by kernel_rfl
theorem cells76 : Tryd.prog.cellsOf 76 = 1 := by kernel_rfl
set_option maxRecDepth 100000 in
theorem env_of {W : World} (h : laidMet Tryd.prog Rows.uniqAgreesRow.laid W) : Tab W := by
  have h3 := h.tail.tail
  have hp : Lib.TabIs Tryd.prog W "internal/strconv.uint64pow10" .u64 Lib.pow10Tab :=
    Lib.tabIs_of_head gPow gPowType Tryd.underlying91 Tryd.underlying76 cells76 cells91 h3
  exact hp
/-- a block with other cells -/
def setBlk (xs : Array Value) : Obj → Obj
  | .cells _ t frozen => .cells xs t frozen
  | o => o
def tabP : Array Value := (Lib.pow10Tab.map fun z => Value.int .u64 z).toArray
def litOf : DataW Unit → Value
  | .lit (.int k n) => .int k n
  | _ => undef
def tabOf : DataW Unit → Array Value
  | .agg ds => (ds.map litOf).toArray
  | _ => #[]
end Go.Proofs.YtoohbgjfhchnmaaDoor
