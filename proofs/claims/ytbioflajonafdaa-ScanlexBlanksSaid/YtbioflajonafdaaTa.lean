/- walks: positions -/
import Derived.Test.YtbioflajonafdaaRows
import Derived.Test.YtbioflajonafdaaShelf
import Derived.Test.YtbioflajonafdaaPb
import Derived.WalkKit
import Derived.WalkSpells
import Derived.WalkLawsBesides
import Derived.Lib.Hide
import Derived.Deep.RegionHeld3
import Derived.Deep.QuietTactic
namespace Go.Proofs.Ytbioflajonafdaa
open Go.RowKit
open Tx
theorem tx_ret_int {k : IntKind} {a b : Int} (h : a = b) : Ending.returned (.int k a) = .returned (.int k b) := by rw [h]
theorem below_step {w w1 : World} {o : Obj} (hb : Below (w.alloc o).heap.size (w.alloc o) w1) : Below w.heap.size w w1 :=
  ((Below.refl w.heap.size w).alloc (Nat.le_refl _) o).trans (hb.mono ((Below.refl w.heap.size w).alloc (Nat.le_refl _) o).size)
abbrev vpos (a b : Int) : Value := .agg #[.int .i64 a, .int .i64 b]
theorem ext_take (s : ByteArray) (n : Nat) : (s.extract 0 n).data.toList = s.data.toList.take n := by
  rw [Lib.extract_data]; simp
theorem line_hit (s : ByteArray) (j : Nat) (h : j < s.size) (hc : (s[j].toNat : Int) = 10) : pLine (s.data.toList.take (j + 1)) = pLine (s.data.toList.take j) + 1 ∧ pCol (s.data.toList.take (j + 1)) 1 = 1 := by
  have hc' := (is_nl _).2 hc
  refine ⟨?_, ?_⟩
  · unfold pLine; rw [count_snoc s j h, if_pos hc']; omega
  · rw [take_snoc s j h, pCol_app, if_pos hc']
theorem line_miss (s : ByteArray) (j : Nat) (h : j < s.size) (hc : ¬ (s[j].toNat : Int) = 10) : pLine (s.data.toList.take (j + 1)) = pLine (s.data.toList.take j) ∧ pCol (s.data.toList.take (j + 1)) 1 = pCol (s.data.toList.take j) 1 + 1 := by
  have hc' : ¬ s[j] = 10 := fun e => hc ((is_nl _).1 e)
  refine ⟨?_, ?_⟩
  · unfold pLine; rw [count_snoc s j h, if_neg hc']; omega
  · rw [take_snoc s j h, pCol_app, if_neg hc']
theorem line_bd (s : ByteArray) (j : Nat) (h : j ≤ s.size) : (1 ≤ pLine (s.data.toList.take j) ∧ pLine (s.data.toList.take j) ≤ 1 + j) ∧ 1 ≤ pCol (s.data.toList.take j) 1 ∧ pCol (s.data.toList.take j) 1 ≤ 1 + j := by
  have hl : (s.data.toList.take j).length = j := by rw [List.length_take, ← size_len]; omega
  have h1 := pCol_bd (s.data.toList.take j) 1 (by omega)
  have h2 : (s.data.toList.take j).count 10 ≤ (s.data.toList.take j).length := List.count_le_length
  unfold pLine
  omega
end Go.Proofs.Ytbioflajonafdaa
