/- what the bound of the statement gives -/
import Derived.Test.YtbhdhcnbagjmcaaDoorRows
import Derived.Test.YtbhdhcnbagjmcaaDoorStrs
import Derived.Test.YtbhdhcnbagjmcaaDoorLplain2
namespace Go.Proofs.YtbhdhcnbagjmcaaDoor
open Go.ChangeShapes
theorem bulk_one {H : Type} (d : DataW H) : 1 ≤ Rows.uptoBulk d := by
  cases d with
  | lit l => cases l <;> simp [Rows.uptoBulk]
  | _ => simp [Rows.uptoBulk]
theorem bulk_strs {H : Type} (L : List ByteArray) : Tx.fullB L = Rows.uptoBulkAll (strs (H := H) L) := by
  induction L with
  | nil => rfl
  | cons x r ih =>
    have e1 : Rows.uptoBulkAll (strs (H := H) (x :: r)) = Rows.uptoBulk (DataW.lit (H := H) (.string x.data.toList)) + Rows.uptoBulkAll (strs (H := H) r) := by
      simp only [strs, List.map_cons, Rows.uptoBulkAll]
    have e2 : Rows.uptoBulk (DataW.lit (H := H) (.string x.data.toList)) = x.size + 1 := by rw [Tx.size_len]; simp [Rows.uptoBulk]
    rw [e1, e2, ← ih]; simp [Tx.fullB]
theorem strl_bulk {H : Type} {d : DataW H} {L R : List ByteArray} (h : d = .nil ∧ L = [] ∨ d = .slice (strs L) (strs R)) : Tx.fullB L ≤ Rows.uptoBulk d := by
  rcases h with ⟨rfl, rfl⟩ | rfl
  · simp [Tx.fullB]
  · rw [bulk_strs (H := H)]; simp only [Rows.uptoBulk]; omega
end Go.Proofs.YtbhdhcnbagjmcaaDoor
