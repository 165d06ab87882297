/- walks: parse -/
import Derived.Test.YtjngkapfngempaaDoorWh
import Derived.Test.YtjngkapfngempaaDoorByt2
namespace Go.Proofs.YtjngkapfngempaaDoor
open Go.RowKit
open Dcm Byt
set_option linter.unusedVariables false
def PartsPost (l : List UInt8) (w : World) (e : Ending) (w' : World) : Prop :=
  (∃ a f : ByteArray, e = .returned (.tuple #[.string a, .string f, .bool (okP l)]) ∧ (okP l = true → a.data.toList = wholeP l ∧ f.data.toList = fracP l)) ∧ w = w'
theorem parts_no (l : List UInt8) (w : World) (a f : ByteArray) (b : Bool) (hb : b = false) (h : okP l = false) : PartsPost l w (.returned (.tuple #[.string a, .string f, .bool b])) w :=
  ⟨⟨a, f, by rw [h, hb], fun h' => by rw [h] at h'; cases h'⟩, rfl⟩
theorem parts_yes (l : List UInt8) (w : World) (a f : ByteArray) (b : Bool) (hb : b = true) (h : okP l = true) (ha : a.data.toList = wholeP l) (hf : f.data.toList = fracP l) : PartsPost l w (.returned (.tuple #[.string a, .string f, .bool b])) w :=
  ⟨⟨a, f, by rw [h, hb], fun _ => ⟨ha, hf⟩⟩, rfl⟩
theorem digits_is (s : ByteArray) (n : Nat) (w : World) (hs : s.size ≤ 9223372036854775807) (hn : run dg s.data.toList = n) :
    Calls Tryd.prog 50 #[.string s] w fun e w' => e = .returned (.int .i64 (n : Int)) ∧ w = w' := by rw [← hn]; exact digits_any s w hs
theorem and_one {n : Nat} (h : ¬ 1 < n) (b : Bool) : (decide (1 < n) && b) = false := by simp [h]
end Go.Proofs.YtjngkapfngempaaDoor
