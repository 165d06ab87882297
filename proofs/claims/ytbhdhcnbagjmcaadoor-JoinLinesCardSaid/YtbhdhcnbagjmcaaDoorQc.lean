/- rows of structs in memory; a set of strings in a map of the call's own -/
import Derived.Test.YtbhdhcnbagjmcaaDoorQb
import Derived.Maps.OwnOps
import Derived.Maps.OwnSet
import Derived.StringKeys
import Derived.Deep.RegionHeld3
import Derived.Deep.QuietTactic
import Derived.BigQuiet
namespace Go.Proofs.YtbhdhcnbagjmcaaDoor
open Go.RowKit Go.Maps Go.WideMaps
open Lcl
/-- a list of rows of k cells each that lies in memory behind a slice -/
def RowsAt (w : World) (v : Value) (k : Nat) (l : List (List Value)) : Prop :=
  ∃ (a : Option Addr) (cap : Nat), v = .slice a l.length cap ∧ l.length ≤ cap ∧ cap ≤ maxLen ∧
    (l = [] ∨ ∃ g o, a = some ⟨g, o, none⟩ ∧ g < w.heap.size ∧ ∀ (j : Nat) x, l[j]? = some x → ∀ (i : Nat) y, x[i]? = some y → w.cell? ⟨g, o + j * k + i, none⟩ = some y)
theorem RowsAt.below {w w' : World} {v : Value} {k : Nat} {l : List (List Value)} (h : RowsAt w v k l) (hb : Below w.heap.size w w') : RowsAt w' v k l := by
  obtain ⟨a, cap, rfl, h1, h2, h3⟩ := h
  refine ⟨a, cap, rfl, h1, h2, ?_⟩
  rcases h3 with h3 | ⟨g, o, rfl, hg, hc⟩
  · exact .inl h3
  · exact .inr ⟨g, o, rfl, Nat.lt_of_lt_of_le hg hb.size, fun j x hj i y hi => (hb.cell (p := ⟨g, o + j * k + i, none⟩) hg).trans (hc j x hj i y hi)⟩
theorem RowsAt.cons {w : World} {v : Value} {k : Nat} {l : List (List Value)} (h : RowsAt w v k l) (hl : l ≠ []) : ∃ g o cap, v = .slice (some ⟨g, o, none⟩) l.length cap ∧ l.length ≤ cap ∧ cap ≤ maxLen ∧ g < w.heap.size ∧ ∀ (j : Nat) x, l[j]? = some x → ∀ (i : Nat) y, x[i]? = some y → w.cell? ⟨g, o + j * k + i, none⟩ = some y := by
  obtain ⟨a, cap, rfl, h1, h2, h3 | ⟨g, o, rfl, hg, hc⟩⟩ := h
  · exact absurd h3 hl
  · exact ⟨g, o, cap, rfl, h1, h2, hg, hc⟩
theorem RowsAt.nil {w : World} {v : Value} {k : Nat} (h : RowsAt w v k []) : ∃ a cap, v = .slice a 0 cap := by
  obtain ⟨a, cap, rfl, _⟩ := h; exact ⟨a, cap, rfl⟩
theorem RowsAt.len {w : World} {v : Value} {k : Nat} {l : List (List Value)} (h : RowsAt w v k l) : l.length ≤ maxLen := by
  obtain ⟨a, cap, rfl, h1, h2, _⟩ := h; omega
theorem law9 : Keyed Tryd.prog 9 := string_keyed Tryd.underlying9
theorem zero4 (w : World) : (zeroValue 4).run Tryd.prog w = .ok (.bool false) w := by kernel_rfl
/-- block b is a map of the call's own that holds just these strings -/
def Seen (w : World) (b n : Nat) (l : List (List UInt8)) : Prop :=
  ∃ D : DataW Unit, w.ownsMap Tryd.prog 9 (plainElem Tryd.prog 4) b n D ∧ IsMap D ∧ ∀ x, D.atKey (.string x) (.lit (.bool false)) = .lit (.bool (decide (x ∈ l)))
theorem Seen.made (w : World) : Seen (w.alloc (.map #[] 0)) w.heap.size 0 [] :=
  ⟨.map [], World.ownsMap_made _ _ _ _, isMap_empty, fun x => by simp; rfl⟩
theorem Seen.alloc {w : World} {b n : Nat} {l : List (List UInt8)} (h : Seen w b n l) (o : Obj) : Seen (w.alloc o) b n l := by
  obtain ⟨D, h1, h2, h3⟩ := h
  exact ⟨D, h1.alloc o, h2, h3⟩
set_option maxRecDepth 100000 in
theorem Seen.lookup {w : World} {b n : Nat} {l : List (List UInt8)} (h : Seen w b n l) (s : ByteArray) (hs : s.size ≤ maxLen) :
    (Instr.lookup 111 (.map (some b)) (.string s) false).run Tryd.prog w = .ok (.bool (decide (s.data.toList ∈ l))) w := by
  obtain ⟨D, h1, h2, h3⟩ := h
  obtain ⟨v, ps, hrun, hv⟩ := h1.lookup law9 Tryd.underlying111 (zero4 w) (plainElem_bool Tryd.underlying4 false) (keyOf_string_mk Tryd.underlying9 hs)
  rw [h3] at hv
  rw [hrun]
  unfold plainElem at hv
  rw [Tryd.underlying4] at hv
  cases v <;> simp at hv
  rw [hv.1]
theorem Seen.update {w : World} {b n : Nat} {l : List (List UInt8)} (h : Seen w b n l) (s : ByteArray) (hs : s.size ≤ maxLen) (hn : n < maxLen) :
    ∃ w', (Instr.mapUpdate 111 (.map (some b)) (.string s) (.bool true)).run Tryd.prog w = .ok () w' ∧ Seen w' b (n + 1) (l ++ [s.data.toList]) ∧ w.grownBy w' (some b) := by
  obtain ⟨D, h1, h2, h3⟩ := h
  obtain ⟨w', hrun, hown, hg⟩ := h1.update law9 Tryd.underlying111 hn (keyOf_string_mk Tryd.underlying9 hs) (plainElem_bool Tryd.underlying4 true)
  refine ⟨w', hrun, ⟨_, hown, h2.put _ _, fun x => ?_⟩, hg⟩
  by_cases e : x = s.data.toList
  · subst e
    rw [atKey_put_same h2 (law9.key (keyOf_string_mk Tryd.underlying9 hs))]
    simp
  · rw [atKey_put_other (by simpa using e), h3]
    simp [e]
theorem wp_lookup_seen (w : World) {ops : Array Oper} {rest : List Oper} {o : Oper} {a : Act} {Q : Exit → Act → World → Prop} (hg : o.guard = none) (m x : Operand) (hop : o.op = Op.lookup 111 m x false)
    (b n : Nat) (l : List (List UInt8)) (hm : a.eval m = .map (some b)) (h : Seen w b n l) (s : ByteArray) (hs : s.size ≤ maxLen) (hx : a.eval x = .string s) (r : Bool) (hr : Hid (decide (s.data.toList ∈ l) = r))
    (hK : wpList Tryd.prog ops Q rest (a.put o.dst (.bool r)) w) : wpList Tryd.prog ops Q (o :: rest) a w := by
  refine wpList_plain hg fun K' hK' => ?_
  have hrun := h.lookup s hs
  rw [hr.out] at hrun
  unfold Oper.wp
  simp [execOp, hop, hm, hx, hrun, Result.andThen]
  exact hK' _ _ hK
theorem wp_update_seen (w : World) {ops : Array Oper} {rest : List Oper} {o : Oper} {a : Act} {Q : Exit → Act → World → Prop} (hg : o.guard = none) (m x v : Operand) (hop : o.op = Op.mapUpdate 111 m x v)
    (b n : Nat) (l : List (List UInt8)) (hm : a.eval m = .map (some b)) (h : Seen w b n l) (s : ByteArray) (hs : s.size ≤ maxLen) (hx : a.eval x = .string s) (hv : a.eval v = .bool true) (hn : n < maxLen)
    (hK : ∀ w', Hid (Seen w' b (n + 1) (l ++ [s.data.toList])) → Hid (w.grownBy w' (some b)) → wpList Tryd.prog ops Q rest (a.put o.dst undef) w') : wpList Tryd.prog ops Q (o :: rest) a w := by
  refine wpList_plain hg fun K' hK' => ?_
  obtain ⟨w', hrun, h1, h2⟩ := h.update s hs hn
  unfold Oper.wp
  simp [execOp, hop, hm, hx, hv, hrun, Result.andThen]
  exact hK' _ _ (hK w' (Lib.hid h1) (Lib.hid h2))
/-- an error, or none -/
def Errs (b : Bool) (w : World) (e : Ending) (w' : World) : Prop := ∃ x : Int, e = .returned (.int .i64 x) ∧ (x == 0) = b ∧ Below w.heap.size w w'
end Go.Proofs.YtbhdhcnbagjmcaaDoor
