/- walks: the closure of Words -/
import Derived.Test.YtbioflajonafdaaJa
import Derived.Deep.AppendLies
import Derived.Deep.RegionLaw
namespace Go.Proofs.Ytbioflajonafdaa
open Go.RowKit
open Tx
abbrev OwnS (w : World) (B : Nat) (v : Value) (L : List ByteArray) : Prop := w.ownsRow B 9 1 v L.length (L.map Value.string)
theorem infoS : (Try.prog.info? 9).map (fun i => (i.zero, i.size, i.bytes)) = some (some (.string ⟨#[]⟩), 1, 16) := by kernel_rfl
theorem OwnS.strs {w : World} {B : Nat} {v : Value} {L : List ByteArray} (h : OwnS w B v L) : Strs w v L := by
  rcases h.2 with ⟨rfl, hx⟩ | ⟨g, cap, cur, rfl, hb, hg, hn, hc, hs, ht⟩
  · obtain rfl := List.eq_nil_of_length_eq_zero hx
    exact Strs.empty w
  · refine ⟨_, cap, rfl, hn, hc, .inr ⟨g, 0, rfl, (Array.getElem?_eq_some_iff.1 hg).1, fun j x hj => ?_⟩⟩
    have := h.cells (g := g) rfl j (.string x) (by simp [hj])
    rw [Go.WideShapes.add_plain] at this; exact this
/-- what Words holds while it runs: its text, the words so far, where the word at hand begins -/
structure WI (p : Nat) (s : ByteArray) (f : Int) (v : Value) (L : List ByteArray) (w : World) : Prop where
  bs : w.heap[p]? = some (.cells #[.string s] 9 (0, 0))
  bo : w.heap[p + 1]? = some (.cells #[v] 62 (0, 0))
  bf : w.heap[p + 2]? = some (.cells #[.int .i64 f] 3 (0, 0))
  own : OwnS w (p + 3) v L
  size : p + 3 ≤ w.heap.size
theorem step_app {ops : Array Oper} {o : Oper} {a : Act} {K : Act → World → Prop} {Q : Exit → Act → World → Prop} {E : Prop} (hgd : o.guard = none) (s x : Operand)
    (ho : o.op = .call { callee := .builtin .append, args := #[s, x], argTypes := #[62, 62] }) (v : Value) (L : List ByteArray) (u : ByteArray) (B : Nat) (wr : World)
    (own : OwnS wr B v L) (hB : B ≤ wr.heap.size) (len : L.length ≤ 1048576) (hs : a.eval s = v) (hx : a.eval x = .slice (some ⟨wr.heap.size, 0, none⟩) 1 1)
    (h : ∀ g cap w', OwnS w' B (.slice (some ⟨g, 0, none⟩) (L.length + 1) cap) (L ++ [u]) → Below B wr w' → K (a.put o.dst (.slice (some ⟨g, 0, none⟩) (L.length + 1) cap)) w') :
    if Region.wanted o (yielded ops a.tmps) = true then Oper.wp Try.prog o a (wr.alloc (.cells #[.string u] 9)) K Q else E := by
  obtain ⟨i0, hi, hz0, hz1, hz2⟩ := info_parts infoS
  refine step_append_lies _ hgd s x 62 ho B 9 i0 (.string ⟨#[]⟩) 1 16 Try.underlying62 hi hz0 hz1 hz2 rfl (by decide) v L.length (L.map Value.string) hs (own.alloc _) ⟨wr.heap.size, 0, none⟩ 1 1 [.string u] hx rfl ?_ ?_ (by omega) ?_ ?_ ?_ _ rfl ?_
  · intro j y hj
    match j, hj with
    | 0, hj => simp at hj; subst hj; simp [Addr.add]
  · intro y hy; simp at hy; subst hy; rfl
  · unfold maxLen; omega
  · omega
  · simp; omega
  · intro g cap w' h1 h2 _ _
    refine h g cap w' ?_ (((Below.refl B wr).alloc hB _).grown h2 (by simp; omega) (fun k hk => (own.lt k hk).1))
    have e : L.map Value.string ++ [.string u] = (L ++ [u]).map Value.string := by simp
    rw [e] at h1
    show w'.ownsRow B 9 1 _ (L ++ [u]).length ((L ++ [u]).map Value.string)
    rw [List.length_append]; exact h1
theorem cell_blk {w : World} {b : Nat} {x : Value} {T : TypeId} (h : w.heap[b]? = some (.cells #[x] T (0, 0))) : w.cell? ⟨b, 0, none⟩ = some x ∧ w.frozen? ⟨b, 0, none⟩ = false := by
  constructor
  · simp [World.cell?, h]
  · simp [World.frozen?, h]
theorem set_blk {w : World} {b : Nat} {x y : Value} {T : TypeId} (h : w.heap[b]? = some (.cells #[x] T (0, 0))) : (w.setCell ⟨b, 0, none⟩ y).heap[b]? = some (.cells #[y] T (0, 0)) := by
  simp only [World.setCell, Array.getElem?_modify, h, if_pos, Option.map_some]
  rfl
theorem own_of {w w' : World} {B : Nat} {v : Value} {L : List ByteArray} (h : OwnS w B v L) (hb : ∀ g, B ≤ g → w'.heap[g]? = w.heap[g]?) : OwnS w' B v L := by
  obtain ⟨h1, h2⟩ := h
  refine ⟨h1, ?_⟩
  rcases h2 with h2 | ⟨g, cap, cur, rfl, hB, hg, r⟩
  · exact .inl h2
  · exact .inr ⟨g, cap, cur, rfl, hB, by rw [hb g hB]; exact hg, r⟩
theorem WI.after {p : Nat} {s u : ByteArray} {f : Int} {v v' : Value} {L : List ByteArray} {w w0 w1 : World} (h : WI p s f v L w) (e : w0.heap = w.heap) (hb : Below p w w0) (hown : OwnS w1 (p + 3) v' (L ++ [u])) (hbel : Below (p + 3) w0 w1) :
    Below p w ((w1.setCell ⟨p + 1, 0, none⟩ v').setCell ⟨p + 2, 0, none⟩ (.int .i64 (-1))) ∧ WI p s (-1) v' (L ++ [u]) ((w1.setCell ⟨p + 1, 0, none⟩ v').setCell ⟨p + 2, 0, none⟩ (.int .i64 (-1))) := by
  have b0 : w1.heap[p]? = some (.cells #[.string s] 9 (0, 0)) := by rw [hbel.block p (by omega), e]; exact h.bs
  have b1 : w1.heap[p + 1]? = some (.cells #[v] 62 (0, 0)) := by rw [hbel.block (p + 1) (by omega), e]; exact h.bo
  have b2 : w1.heap[p + 2]? = some (.cells #[.int .i64 f] 3 (0, 0)) := by rw [hbel.block (p + 2) (by omega), e]; exact h.bf
  refine ⟨((hb.trans (hbel.mono (by omega))).setCell (by show p ≤ p + 1; omega) _).setCell (by show p ≤ p + 2; omega) _, ?_, ?_, ?_, ?_, ?_⟩
  · rw [Below.heap_setCell _ _ _ _ (by show p ≠ p + 2; omega), Below.heap_setCell _ _ _ _ (by show p ≠ p + 1; omega)]; exact b0
  · rw [Below.heap_setCell _ _ _ _ (by show p + 1 ≠ p + 2; omega)]; exact set_blk b1
  · exact set_blk (by rw [Below.heap_setCell _ _ _ _ (by show p + 2 ≠ p + 1; omega)]; exact b2)
  · refine own_of hown fun g hg => ?_
    rw [Below.heap_setCell _ _ _ _ (by show g ≠ p + 2; omega), Below.heap_setCell _ _ _ _ (by show g ≠ p + 1; omega)]
  · have := hbel.size
    rw [e] at this
    have := h.size
    simp only [World.size_setCell]; omega
end Go.Proofs.Ytbioflajonafdaa
