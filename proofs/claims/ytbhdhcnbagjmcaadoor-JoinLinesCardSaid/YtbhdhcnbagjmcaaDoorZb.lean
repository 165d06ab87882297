/- walks: each of the program's locale, with the closure that gathers the weights of a string -/
import Derived.Test.YtbhdhcnbagjmcaaDoorZa
namespace Go.Proofs.YtbhdhcnbagjmcaaDoor
open Go.RowKit Go.Maps Go.WideMaps
open Lcl
theorem irow_below {w w' : World} {B : Nat} {v : Value} {L : List Int} (h : IRow w B v L) (hb : Below w.heap.size w w') : IRow w' B v L := by
  obtain ⟨h1, h2⟩ := h
  refine ⟨h1, ?_⟩
  rcases h2 with h2 | ⟨g, cap, cur, rfl, hB, hg, r⟩
  · exact .inl h2
  · exact .inr ⟨g, cap, cur, rfl, hB, by rw [hb.block g (Array.getElem?_eq_some_iff.1 hg).1]; exact hg, r⟩
theorem OutC.later {w0 w w' : World} {B : Nat} {v : Value} {L : List Int} (h : OutC w0 w B v L) (hb : Below w.heap.size w w') : OutC w0 w' B v L :=
  ⟨by rw [hb.block B h.lt]; exact h.blk, irow_below h.row hb, h.bel.trans (hb.mono (Nat.le_of_lt h.lt))⟩
/-- after k elements -/
structure E1 (w wr : World) (n lo up : ByteArray) (v1 v4 v5 : Value) (E : List El) (k : Nat) : Prop where
  loc : wr.heap[w.heap.size]? = some (.cells #[.string n, v1, .string lo, .string up, v4, v5] 30 (0, 0))
  map : Prs wr (w.heap.size + 1) k ((E.take k).map El.pr)
  bel : Below w.heap.size w wr
theorem E1.start (w : World) (n lo up : ByteArray) (v1 v4 v5 : Value) (E : List El) : E1 w ((w.alloc (.cells #[.string n, v1, .string lo, .string up, v4, v5] 30)).alloc (.map #[] 0)) n lo up v1 v4 v5 E 0 := by
  have s1 : (w.alloc (.cells #[.string n, v1, .string lo, .string up, v4, v5] 30)).heap.size = w.heap.size + 1 := World.size_alloc _ _
  refine ⟨?_, ?_, ?_⟩
  · rw [Below.heap_alloc _ _ _ (by omega)]; exact heap_alloc_new _ _
  · have := Prs.made (w.alloc (.cells #[.string n, v1, .string lo, .string up, v4, v5] 30))
    rw [s1] at this; exact this
  · exact ((Below.refl _ _).alloc (Nat.le_refl _) _).alloc (by omega) _
theorem E1.next {w wr w1 : World} {n lo up : ByteArray} {v1 v4 v5 : Value} {E : List El} {k : Nat} {x : El} {o : Obj} (h : E1 w wr n lo up v1 v4 v5 E k) (hx : E[k]? = some x)
    (hs : Prs w1 (w.heap.size + 1) (k + 1) ((E.take k).map El.pr ++ [(x.n, x.w)])) (hg : (wr.alloc o).grownBy w1 (some (w.heap.size + 1))) : E1 w w1 n lo up v1 v4 v5 E (k + 1) := by
  have hlt := (Array.getElem?_eq_some_iff.1 h.loc).1
  refine ⟨?_, ?_, ?_⟩
  · rw [hg.block _ (by simp; omega) (by simp), Below.heap_alloc _ _ _ (by omega)]; exact h.loc
  · have ht : E.take (k + 1) = E.take k ++ [x] := by rw [List.take_add_one, hx]; rfl
    rw [ht, List.map_append]; exact hs
  · exact (h.bel.alloc h.bel.size o).grown hg (by have := h.bel.size; simp; omega) (fun j hj => by cases hj; omega)
/-- after k bytes: the weights so far are L -/
structure E2 (w0 w wr : World) (n lo up : ByteArray) (v1 v4 v5 : Value) (W : List Int) (E : List El) (s : ByteArray) (k : Nat) (v : Value) (L : List Int) : Prop where
  out : OutC w0 wr w0.heap.size v L
  loc : wr.heap[w.heap.size]? = some (.cells #[.string n, v1, .string lo, .string up, v4, v5] 30 (0, 0))
  map : Prs wr (w.heap.size + 1) E.length (E.map El.pr)
  far : v.ownBlock ≠ some w.heap.size ∧ v.ownBlock ≠ some (w.heap.size + 1) ∧ w0.heap.size < w.heap.size
  sum : L ++ wts W (fstE (E.map El.pr)) (s.data.toList.drop k) = wts W (fstE (E.map El.pr)) s.data.toList
  len : L.length ≤ k
theorem E2.start {w0 w wr : World} {n lo up : ByteArray} {v1 v4 v5 : Value} {W : List Int} {E : List El} {s : ByteArray} (h : E1 w wr n lo up v1 v4 v5 E E.length) (ho : OutC w0 w w0.heap.size (.slice none 0 0) []) :
    E2 w0 w wr n lo up v1 v4 v5 W E s 0 (.slice none 0 0) [] :=
  ⟨ho.later h.bel, h.loc, by have := h.map; rw [List.take_length] at this; exact this, ⟨by simp [Value.ownBlock], by simp [Value.ownBlock], ho.lt⟩, rfl, Nat.le_refl _⟩
theorem E2.next {w0 w wr w1 w2 : World} {n lo up : ByteArray} {v1 v4 v5 : Value} {W : List Int} {E : List El} {s : ByteArray} {k m : Nat} {v v' : Value} {L : List Int} {c : Int} (h : E2 w0 w wr n lo up v1 v4 v5 W E s k v L)
    (e : w1.heap = wr.heap) (ho : OutC w0 w2 w0.heap.size v' (L ++ [c])) (ht : Turn w1 w2 w0.heap.size v v') (hm : k < m)
    (hs : wts W (fstE (E.map El.pr)) (s.data.toList.drop k) = c :: wts W (fstE (E.map El.pr)) (s.data.toList.drop m)) : E2 w0 w w2 n lo up v1 v4 v5 W E s m v' (L ++ [c]) := by
  have hl := (Array.getElem?_eq_some_iff.1 h.loc).1
  have hp := h.map.lt
  have hz := ht.size
  obtain ⟨f1, f2, f3⟩ := h.far
  have sz : w1.heap.size = wr.heap.size := by rw [e]
  refine ⟨ho, ?_, ?_, ⟨?_, ?_, f3⟩, ?_, ?_⟩
  · rw [ht.same _ (by omega) (by omega) f1, e]; exact h.loc
  · exact h.map.kept (by rw [ht.same _ (by omega) (by omega) f2, e])
  · rcases ht.own with e1 | ⟨j, hj, e1⟩
    · rw [e1]; exact f1
    · rw [e1]; intro e2; cases e2; omega
  · rcases ht.own with e1 | ⟨j, hj, e1⟩
    · rw [e1]; exact f2
    · rw [e1]; intro e2; cases e2; omega
  · rw [← h.sum, hs, List.append_assoc]; rfl
  · have := h.len
    rw [List.length_append, List.length_singleton]; omega
end Go.Proofs.YtbhdhcnbagjmcaaDoor
