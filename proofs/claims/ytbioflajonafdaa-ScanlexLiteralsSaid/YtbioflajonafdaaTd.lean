/- walks: awake, and the law on positions -/
import Derived.Lib.SplitLaws
import Derived.Lib.Join
import Derived.Test.YtbioflajonafdaaTc
import Derived.Laws.BytesArg
import Derived.Lib.SmallJoins
namespace Go.Proofs.Ytbioflajonafdaa
open Go.RowKit
open Tx
theorem lit_count : Lib.countB ⟨#[97, 10, 10, 98]⟩ ⟨#[10]⟩ = 2 := by kernel_rfl
theorem lit_split : Lib.splitB ⟨#[10]⟩ 0 2 ⟨#[97, 10, 10, 98]⟩ = [⟨#[97]⟩, ⟨#[]⟩, ⟨#[98]⟩] := by kernel_rfl
theorem lit_join : Lib.join [(ByteArray.mk #[97]).data.toList, (ByteArray.mk #[]).data.toList, (ByteArray.mk #[98]).data.toList] (ByteArray.mk #[10]).data.toList = (ByteArray.mk #[97, 10, 10, 98]).data.toList := by kernel_rfl
theorem lit_unesc : unesc [97, 92, 49, 48, 49, 57] = .ok [97, 65, 57] := by kernel_rfl
theorem unescape_lit (w : World) :
    Calls Try.prog 59 #[.string ⟨#[97, 92, 49, 48, 49, 57]⟩] w fun e w' => e = .returned (.tuple #[.string ⟨#[97, 65, 57]⟩, .int .i64 0, .int .i64 0]) ∧ Below w.heap.size w w' := by
  have h := unescape_any ⟨#[97, 92, 49, 48, 49, 57]⟩ w (by show 6 ≤ 140737488351232; omega)
  have e : unesc (ByteArray.mk #[97, 92, 49, 48, 49, 57]).data.toList = .ok [97, 65, 57] := lit_unesc
  rw [e] at h; exact h
theorem tx_conv_one (c : Int) (W : World) : (convert 51 9 (.slice (some ⟨W.heap.size, 0, none⟩) 1 1)).run Try.prog (W.alloc (.cells #[.int .u8 c] 5)) = .ok (.string (strOfNums [c])) (W.alloc (.cells #[.int .u8 c] 5)) :=
  run_convert_bytes_arg (W.alloc (.cells #[.int .u8 c] 5)) 51 5 Try.underlying51 Try.underlying5 W.heap.size 0 1 1 [c] rfl (fun i hi => by
    obtain rfl : i = 0 := by omega
    exact cell_one_new _ _ _ 0 _ rfl) 9 Try.underlying9
theorem own3 {w w' : World} {x y z : Value} {T : TypeId} (hb : Below (w.alloc (.cells #[x, y, z] T)).heap.size (w.alloc (.cells #[x, y, z] T)) w') :
    w'.cell? ⟨w.heap.size, 0, none⟩ = some x ∧ w'.cell? ⟨w.heap.size, 1, none⟩ = some y ∧ w'.cell? ⟨w.heap.size, 2, none⟩ = some z ∧ w.heap.size < w'.heap.size := by
  have h1 := heap_alloc_new w (.cells #[x, y, z] T)
  have hlt : w.heap.size < (w.alloc (.cells #[x, y, z] T)).heap.size := (Array.getElem?_eq_some_iff.1 h1).1
  have h : w'.heap[w.heap.size]? = some (.cells #[x, y, z] T (0, 0)) := by rw [hb.block _ hlt]; exact h1
  refine ⟨?_, ?_, ?_, Nat.lt_of_lt_of_le hlt hb.size⟩
  all_goals simp [World.cell?, h]
theorem lit_92 : strOfNums [92] = ⟨#[92]⟩ := by kernel_rfl
theorem lit_cat : (ByteArray.mk #[97] ++ ByteArray.mk #[92]) ++ ByteArray.mk #[49, 48, 49, 57] = ByteArray.mk #[97, 92, 49, 48, 49, 57] := by kernel_rfl
theorem unescape_cat (w : World) :
    Calls Try.prog 59 #[.string ((ByteArray.mk #[97] ++ ByteArray.mk #[92]) ++ ByteArray.mk #[49, 48, 49, 57])] w fun e w' => e = .returned (.tuple #[.string ⟨#[97, 65, 57]⟩, .int .i64 0, .int .i64 0]) ∧ Below w.heap.size w w' := by
  rw [lit_cat]; exact unescape_lit w
theorem max_below {m : Int} {w w' : World} (hm : w.cell? ⟨0, 0, none⟩ = some (.int .i64 m)) (hb : Below w.heap.size w w') : w'.cell? ⟨0, 0, none⟩ = some (.int .i64 m) := by
  have hlt : 0 < w.heap.size := by
    apply Decidable.byContradiction
    intro hn
    have h0 : w.heap[(0 : Nat)]? = none := Array.getElem?_eq_none (by omega)
    simp [World.cell?, h0] at hm
  exact (hb.cell (p := ⟨0, 0, none⟩) hlt).trans hm
end Go.Proofs.Ytbioflajonafdaa
