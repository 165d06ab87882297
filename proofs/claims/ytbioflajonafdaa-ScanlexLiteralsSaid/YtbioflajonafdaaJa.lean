/- walks: Join, both; the law on Join -/
import Derived.Test.YtbioflajonafdaaLa
import Derived.Test.YtbioflajonafdaaPb
import Derived.Test.YtbioflajonafdaaUb
import Derived.Lib.AppendStr
namespace Go.Proofs.Ytbioflajonafdaa
open Go.RowKit
open Tx
theorem append_str {ops : Array Oper} {rest : List Oper} {o : Oper} {a : Act} {Q : Exit → Act → World → Prop} (hgd : o.guard = none) (s x : Operand)
    (ho : o.op = .call { callee := .builtin .append, args := #[s, x], argTypes := #[51, 9] }) (v : Value) (out : List UInt8) (t : ByteArray) (B : Nat) (w wr : World)
    (own : Own wr B v out) (bel : Below B w wr) (hB : B ≤ wr.heap.size) (len : out.length + t.size ≤ 140737488355328) (hs : a.eval s = v) (hx : a.eval x = .string t)
    (h : ∀ v' w', Hid (Own w' B v' (out ++ t.data.toList)) → Hid (Below B w w') → wpList Try.prog ops Q rest (a.put o.dst v') w') : wpList Try.prog ops Q (o :: rest) a wr := by
  obtain ⟨i0, hi, hz0, hz1, hz2⟩ := info_parts info5
  refine Lib.wpList_append_own_string _ hgd s x 51 9 ho B 5 i0 Try.underlying51 Try.underlying9 hi hz0 hz1 hz2 v out.length (Lib.byteCells out) hs own t hx ?_ len hB ?_
  · unfold maxLen; omega
  · intro v' w' h1 h2 _
    refine h v' w' (Lib.hid ?_) (Lib.hid ?_)
    · have e : Lib.byteCells out ++ Lib.strCells t = Lib.byteCells (out ++ t.data.toList) := by rw [Lib.strCells_eq]; simp [Lib.byteCells]
      rw [e] at h1
      show w'.ownsRow B 5 1 v' (out ++ t.data.toList).length (Lib.byteCells (out ++ t.data.toList))
      rw [List.length_append, ← size_len]; exact h1
    · exact bel.grown h2 hB (fun k hk => (own.lt k hk).1)
end Go.Proofs.Ytbioflajonafdaa
