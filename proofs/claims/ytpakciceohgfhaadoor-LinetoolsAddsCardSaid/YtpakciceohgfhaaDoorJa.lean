/- walks: Join, both; the law on Join -/
import Derived.Test.YtpakciceohgfhaaDoorLa
import Derived.Test.YtpakciceohgfhaaDoorJplain
import Derived.Test.YtpakciceohgfhaaDoorUb
import Derived.Lib.AppendStr
namespace Go.Proofs.YtpakciceohgfhaaDoor
open Go.RowKit
open Tx
theorem append_str {ops : Array Oper} {rest : List Oper} {o : Oper} {a : Act} {Q : Exit → Act → World → Prop} (hgd : o.guard = none) (s x : Operand)
    (ho : o.op = .call { callee := .builtin .append, args := #[s, x], argTypes := #[37, 9] }) (v : Value) (out : List UInt8) (t : ByteArray) (B : Nat) (w wr : World)
    (own : Own wr B v out) (bel : Below B w wr) (hB : B ≤ wr.heap.size) (len : out.length + t.size ≤ 140737488355328) (hs : a.eval s = v) (hx : a.eval x = .string t)
    (h : ∀ v' w', Hid (Own w' B v' (out ++ t.data.toList)) → Hid (Below B w w') → wpList Tryd.prog ops Q rest (a.put o.dst v') w') : wpList Tryd.prog ops Q (o :: rest) a wr := by
  obtain ⟨i0, hi, hz0, hz1, hz2⟩ := info_parts info5
  refine Lib.wpList_append_own_string _ hgd s x 37 9 ho B 5 i0 Tryd.underlying37 Tryd.underlying9 hi hz0 hz1 hz2 v out.length (Lib.byteCells out) hs own t hx ?_ len hB ?_
  · unfold maxLen; omega
  · intro v' w' h1 h2 _
    refine h v' w' (Lib.hid ?_) (Lib.hid ?_)
    · have e : Lib.byteCells out ++ Lib.strCells t = Lib.byteCells (out ++ t.data.toList) := by rw [Lib.strCells_eq]; simp [Lib.byteCells]
      rw [e] at h1
      show w'.ownsRow B 5 1 v' (out ++ t.data.toList).length (Lib.byteCells (out ++ t.data.toList))
      rw [List.length_append, ← size_len]; exact h1
    · exact bel.grown h2 hB (fun k hk => (own.lt k hk).1)
theorem sjoin_is (g o cap : Nat) (L : List ByteArray) (t : ByteArray) (w : World) (ht : t = ⟨(Lib.join (L.map (·.data.toList)) [10]).toArray⟩) (hg : g < w.heap.size) (h1 : L.length ≤ cap) (hc : ∀ (j : Nat) x, L[j]? = some x → w.cell? ⟨g, o + j, none⟩ = some (.string x)) (hs : fullB L ≤ 1048576) :
    Calls Tryd.prog 21 #[.slice (some ⟨g, o, none⟩) L.length cap, .string ⟨#[10]⟩] w fun e w' => e = .returned (.string t) ∧ Below w.heap.size w w' := by
  have a := join_le L
  have b := fullB_ge L
  rw [ht]
  exact Tryd.strings_Join g o cap L ⟨#[10]⟩ w hc hg (by omega) h1 (by show (Lib.join (L.map (·.data.toList)) [10]).length ≤ 140737488355328; omega)
end Go.Proofs.YtpakciceohgfhaaDoor
