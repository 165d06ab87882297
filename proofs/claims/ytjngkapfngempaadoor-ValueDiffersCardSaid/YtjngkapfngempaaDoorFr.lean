/- the frame that the laws of this seat share: what the listed variables hold; a value among the arguments -/
import Derived.Test.YtjngkapfngempaaDoorCards
import Derived.Test.YtjngkapfngempaaDoorTie
import Derived.Test.YtjngkapfngempaaDoorVa
import Derived.ProofKit
import Derived.OpenShut
import Derived.ShutString
import Derived.ChangeOld
import Derived.WideKeyArgs
import Derived.Deep.Strs
import Derived.Deep.DeepHandedRow
import Derived.Lib.LaidTab
import Derived.Stop.LaidErr
namespace Go.Proofs.YtjngkapfngempaaDoor
open Go.ChangeShapes Go.WideShapes Go.ChangeAt Go.RowKit
theorem own : ownKnob Tryd.prog.godebug = none := by kernel_rfl
theorem laidOut : laidOutB Tryd.prog = true := by kernel_rfl
theorem gPowType : (Tryd.prog.globals[5]?).map (·.type) = some 121 := by kernel_rfl
theorem cells121 : Tryd.prog.cellsOf 121 = 20 := by kernel_rfl
theorem cells72 : Tryd.prog.cellsOf 72 = 1 := by kernel_rfl
set_option maxRecDepth 100000 in
theorem env_of {W : World} (h : laidMet Tryd.prog Rows.valueCoercesRow.laid W) : Tab W := by
  have h3 := h.tail.tail
  have hp : Lib.TabIs Tryd.prog W "internal/strconv.uint64pow10" .u64 Lib.pow10Tab :=
    Lib.tabIs_of_head gPow gPowType Tryd.underlying121 Tryd.underlying72 cells72 cells121 h3
  exact hp
theorem cells24 : Tryd.prog.cellsOf 24 = 3 := by kernel_rfl
theorem cells3 : Tryd.prog.cellsOf 3 = 1 := by kernel_rfl
theorem cells22 : Tryd.prog.cellsOf 22 = 1 := by kernel_rfl
theorem cells9 : Tryd.prog.cellsOf 9 = 1 := by kernel_rfl
theorem rec24 : Tryd.prog.readableRec 24 = true := by kernel_rfl
theorem row24 : (24 : TypeId) < Tryd.prog.types.size := of_decide_eq_true (by kernel_rfl)
set_option maxRecDepth 100000 in
/-- a value among the arguments: its kind, its number, its string; it reads so in every world -/
theorem open_val {H : Type} {enc : TypeId × Value → H} {W : World} {base : Nat} {v : Value} {d : DataW H} {p : List MemPlace} (hval : Value.okWide Tryd.prog W .any base 24 v) (h : DataW.Trod enc Tryd.prog W 0 (fun _ => true) true 24 v d p) :
    ∃ (k n : Int) (s : ByteArray), v = vval k n s ∧ p = [] ∧ s.size ≤ maxLen ∧ ∀ (W' : World) (sp : Nat → Bool), DataW.Trod enc Tryd.prog W' 0 sp true 24 (vval k n s) d [] := by
  obtain ⟨⟨l⟩, rfl, hsz⟩ := okWide_struct Tryd.underlying24 hval
  have h' := h
  obtain ⟨fuel, hf⟩ := h'
  obtain ⟨y0, y1, y2, n, hx, hl, h0, h1, h2⟩ := Go.Deep.trod_struct3 Tryd.underlying24 hf
  rw [cells24] at hsz
  match l, hsz with
  | [a, b, c], _ =>
    rw [cells3] at h0
    rw [cells22] at h1
    rw [cells9] at h2
    obtain ⟨k, e0, x0, _⟩ := DataW.trod_int Tryd.underlying3 h0
    obtain ⟨m, e1, x1, _⟩ := DataW.trod_int Tryd.underlying22 h1
    obtain ⟨s, e2, x2, hs⟩ := DataW.trod_string Tryd.underlying9 h2
    have e0' : a = .int .i64 k := by simpa [Value.cells] using e0
    have e1' : b = .int .i64 m := by simpa [Value.cells] using e1
    have e2' : c = .string s := by simpa [Value.cells] using e2
    subst e0' e1' e2' x0 x1 x2
    have hp : p = [] := by have := congrArg Prod.snd hx; simpa using this
    subst hp
    exact ⟨k, m, s, rfl, rfl, hs, fun W' sp => Go.WideElems.Trod_stays laidOut rec24 row24 h (fun _ hq => by cases hq) (fun _ hq => by cases hq)⟩
/-- a block with other cells -/
def setBlk (xs : Array Value) : Obj → Obj
  | .cells _ t frozen => .cells xs t frozen
  | o => o
def tabP : Array Value := (Lib.pow10Tab.map fun z => Value.int .u64 z).toArray
def tab32 : Array Value := #[.int .u8 0, .int .u8 1, .int .u8 28, .int .u8 2, .int .u8 29, .int .u8 14, .int .u8 24, .int .u8 3, .int .u8 30, .int .u8 22, .int .u8 20, .int .u8 15, .int .u8 25, .int .u8 17, .int .u8 4, .int .u8 8, .int .u8 31, .int .u8 27, .int .u8 13, .int .u8 23, .int .u8 21, .int .u8 19, .int .u8 16, .int .u8 7, .int .u8 26, .int .u8 12, .int .u8 18, .int .u8 6, .int .u8 11, .int .u8 5, .int .u8 10, .int .u8 9]
def tab64 : Array Value := #[.int .u8 0, .int .u8 1, .int .u8 56, .int .u8 2, .int .u8 57, .int .u8 49, .int .u8 28, .int .u8 3, .int .u8 61, .int .u8 58, .int .u8 42, .int .u8 50, .int .u8 38, .int .u8 29, .int .u8 17, .int .u8 4, .int .u8 62, .int .u8 47, .int .u8 59, .int .u8 36, .int .u8 45, .int .u8 43, .int .u8 51, .int .u8 22, .int .u8 53, .int .u8 39, .int .u8 33, .int .u8 30, .int .u8 24, .int .u8 18, .int .u8 12, .int .u8 5, .int .u8 63, .int .u8 55, .int .u8 48, .int .u8 27, .int .u8 60, .int .u8 41, .int .u8 37, .int .u8 16, .int .u8 46, .int .u8 35, .int .u8 44, .int .u8 21, .int .u8 52, .int .u8 32, .int .u8 23, .int .u8 11, .int .u8 54, .int .u8 26, .int .u8 40, .int .u8 15, .int .u8 34, .int .u8 20, .int .u8 31, .int .u8 10, .int .u8 25, .int .u8 14, .int .u8 19, .int .u8 9, .int .u8 13, .int .u8 8, .int .u8 7, .int .u8 6]
def tabA : Array Value := #[.int .u8 128, .int .u8 191, .int .u8 160, .int .u8 191, .int .u8 128, .int .u8 159, .int .u8 144, .int .u8 191, .int .u8 128, .int .u8 143, .int .u8 0, .int .u8 0, .int .u8 0, .int .u8 0, .int .u8 0, .int .u8 0, .int .u8 0, .int .u8 0, .int .u8 0, .int .u8 0, .int .u8 0, .int .u8 0, .int .u8 0, .int .u8 0, .int .u8 0, .int .u8 0, .int .u8 0, .int .u8 0, .int .u8 0, .int .u8 0, .int .u8 0, .int .u8 0]
def litOf : DataW Unit → Value
  | .lit (.int k n) => .int k n
  | _ => undef
def tabF : Array Value := match Go.Pinned.utf8First with
  | .agg ds => (ds.map litOf).toArray
  | _ => #[]
end Go.Proofs.YtjngkapfngempaaDoor
