/- the joined lines' specification, whose flags are stored between calls -/
import Derived.Test.YtbhdhcnbagjmcaaDoorPB0
namespace Go.Proofs.YtbhdhcnbagjmcaaDoor
open Go.RowKit Go.Maps
open Jn Lcl
abbrev jP (f1 f2 sep : Int) (l r q : Bool) : Sp := ⟨f1, f2, sep, l, r, q, [], []⟩
/-- a cell that holds no bool is as it was when a cell with a bool is written -/
theorem cell_kept {w : World} {p q : Addr} {u v : Value} {b : Bool} (h : w.cell? p = some v) (hq : w.cell? q = some (.bool b)) (hv : ∀ c, v ≠ .bool c) : (w.setCell q u).cell? p = some v := by
  rw [World.cell?_setCell_other]
  · exact h
  · intro e
    subst e
    rw [hq] at h
    exact hv b (Option.some.inj h).symm
theorem Strs.setb {w : World} {q : Addr} {u v : Value} {b : Bool} {L : List ByteArray} (h : Strs w v L) (hq : w.cell? q = some (.bool b)) : Strs (w.setCell q u) v L := by
  obtain ⟨a, cap, rfl, h1, h2, h3⟩ := h
  refine ⟨a, cap, rfl, h1, h2, ?_⟩
  rcases h3 with h3 | ⟨g, o, rfl, hg, hc⟩
  · exact .inl h3
  · exact .inr ⟨g, o, rfl, by simpa [World.setCell] using hg, fun j x hj => cell_kept (hc j x hj) hq (fun c e => by cases e)⟩
theorem rows_setb {w : World} {q : Addr} {u v : Value} {b : Bool} {k : Nat} {l : List (List Value)} (h : RowsAt w v k l) (hq : w.cell? q = some (.bool b)) (hv : ∀ x ∈ l, ∀ y ∈ x, ∀ c, y ≠ .bool c) : RowsAt (w.setCell q u) v k l := by
  obtain ⟨a, cap, rfl, h1, h2, h3⟩ := h
  refine ⟨a, cap, rfl, h1, h2, ?_⟩
  rcases h3 with h3 | ⟨g, o, rfl, hg, hc⟩
  · exact .inl h3
  · exact .inr ⟨g, o, rfl, by simpa [World.setCell] using hg, fun j x hj i y hi => cell_kept (hc j x hj i y hi) hq (hv x (List.mem_of_getElem? hj) y (List.mem_of_getElem? hi))⟩
theorem DLoc.setb {w : World} {q : Addr} {u v : Value} {b : Bool} (h : DLoc w v) (hq : w.cell? q = some (.bool b)) : DLoc (w.setCell q u) v := by
  obtain ⟨v1, rfl, hL⟩ := h
  refine ⟨v1, rfl, rows_setb hL.r1 hq ?_, rows_setb hL.r4 hq (fun x hx => by cases hx), rows_setb hL.r5 hq (fun x hx => by cases hx), hL.z4, hL.z5⟩
  intro x hx y hy c e
  obtain ⟨n, -, rfl⟩ := List.mem_map.1 hx
  rw [List.mem_singleton] at hy
  subst hy
  cases e
abbrev pcells (f1 f2 sep : Int) (l r q : Bool) : Array Value := #[.int .i64 f1, .int .i64 f2, .int .i64 sep, .bool l, .bool r, .bool q, .string ⟨#[]⟩, .slice none 0 0]
/-- the specification in its block, the locale in another one -/
structure PS (w0 : World) (pb lb : Nat) (f1 f2 sep : Int) (lc : Array Value) (vl : Value) (l r q : Bool) (W : World) : Prop where
  pc : W.heap[pb]? = some (.cells (pcells f1 f2 sep l r q) 36 (0, 0))
  lo : W.heap[lb]? = some (.cells lc 30 (0, 0))
  dl : DLoc W vl
  bel : Below w0.heap.size w0 W
theorem PS.below {w0 W W' : World} {pb lb : Nat} {f1 f2 sep : Int} {lc : Array Value} {vl : Value} {l r q : Bool} (h : PS w0 pb lb f1 f2 sep lc vl l r q W) (hb : Below W.heap.size W W') : PS w0 pb lb f1 f2 sep lc vl l r q W' :=
  ⟨(hb.block _ (Array.getElem?_eq_some_iff.1 h.pc).1).trans h.pc, (hb.block _ (Array.getElem?_eq_some_iff.1 h.lo).1).trans h.lo, h.dl.below hb, h.bel.trans (hb.mono h.bel.size)⟩
theorem PS.b3 {w0 W : World} {pb lb : Nat} {f1 f2 sep : Int} {lc : Array Value} {vl : Value} {l r q : Bool} (h : PS w0 pb lb f1 f2 sep lc vl l r q W) : W.cell? ⟨pb, 3, none⟩ = some (.bool l) ∧ W.cell? ⟨pb, 4, none⟩ = some (.bool r) ∧ W.cell? ⟨pb, 5, none⟩ = some (.bool q) ∧ W.frozen? ⟨pb, 3, none⟩ = false ∧ W.frozen? ⟨pb, 4, none⟩ = false ∧ W.frozen? ⟨pb, 5, none⟩ = false :=
  ⟨blk_cellx h.pc 3 _ rfl, blk_cellx h.pc 4 _ rfl, blk_cellx h.pc 5 _ rfl, by simp [World.frozen?, h.pc], by simp [World.frozen?, h.pc], by simp [World.frozen?, h.pc]⟩
theorem PS.set3 {w0 W : World} {pb lb : Nat} {f1 f2 sep : Int} {lc : Array Value} {vl : Value} {l r q : Bool} (h : PS w0 pb lb f1 f2 sep lc vl l r q W) (hp : w0.heap.size ≤ pb) (hn : pb ≠ lb) (b : Bool) : PS w0 pb lb f1 f2 sep lc vl b r q (W.setCell ⟨pb, 3, none⟩ (.bool b)) :=
  ⟨by simp only [World.setCell, Array.getElem?_modify, h.pc, if_pos, Option.map_some]; rfl, by simp only [World.setCell, Array.getElem?_modify, if_neg hn]; exact h.lo, h.dl.setb h.b3.1, h.bel.setCell hp _⟩
theorem PS.set4 {w0 W : World} {pb lb : Nat} {f1 f2 sep : Int} {lc : Array Value} {vl : Value} {l r q : Bool} (h : PS w0 pb lb f1 f2 sep lc vl l r q W) (hp : w0.heap.size ≤ pb) (hn : pb ≠ lb) (b : Bool) : PS w0 pb lb f1 f2 sep lc vl l b q (W.setCell ⟨pb, 4, none⟩ (.bool b)) :=
  ⟨by simp only [World.setCell, Array.getElem?_modify, h.pc, if_pos, Option.map_some]; rfl, by simp only [World.setCell, Array.getElem?_modify, if_neg hn]; exact h.lo, h.dl.setb h.b3.2.1, h.bel.setCell hp _⟩
theorem PS.set5 {w0 W : World} {pb lb : Nat} {f1 f2 sep : Int} {lc : Array Value} {vl : Value} {l r q : Bool} (h : PS w0 pb lb f1 f2 sep lc vl l r q W) (hp : w0.heap.size ≤ pb) (hn : pb ≠ lb) (b : Bool) : PS w0 pb lb f1 f2 sep lc vl l r b (W.setCell ⟨pb, 5, none⟩ (.bool b)) :=
  ⟨by simp only [World.setCell, Array.getElem?_modify, h.pc, if_pos, Option.map_some]; rfl, by simp only [World.setCell, Array.getElem?_modify, if_neg hn]; exact h.lo, h.dl.setb h.b3.2.2.1, h.bel.setCell hp _⟩
theorem allP_flags (f1 f2 sep : Int) (l r q l' r' q' : Bool) (a b : List (List UInt8)) : allP (jP f1 f2 sep l r q) a b = allP (jP f1 f2 sep l' r' q') a b := rfl
theorem allL_flags (f1 f2 sep : Int) (l r q l' r' q' : Bool) (a b : List (List UInt8)) : allL (jP f1 f2 sep l r q) a b = allL (jP f1 f2 sep l' r' q') a b := rfl
theorem allR_flags (f1 f2 sep : Int) (l r q l' r' q' : Bool) (a b : List (List UInt8)) : allR (jP f1 f2 sep l r q) a b = allR (jP f1 f2 sep l' r' q') a b := rfl
theorem chk_flags (f1 f2 sep : Int) (l r q l' r' q' : Bool) : chkJ (jP f1 f2 sep l r q) = chkJ (jP f1 f2 sep l' r' q') := rfl
theorem ordE : Ord cmpD := ⟨cmpD_refl, fun _ _ h => cmpD_eq h, cmpD_swap, fun _ _ _ h1 h2 => cmpD_trans h1 h2⟩
/-- what the four calls of Join return -/
theorem join_four (f1 f2 sep : Int) (a b : List (List UInt8)) (ha : Srt cmpD (keyL sep f1) a) (hb : Srt cmpD (keyL sep f2) b) (l r q : Bool) :
    joinL (jP f1 f2 sep false false true) cmpD a b = allP (jP f1 f2 sep l r q) a b ∧ joinL (jP f1 f2 sep true false false) cmpD a b = allL (jP f1 f2 sep l r q) a b ∧ joinL (jP f1 f2 sep false true false) cmpD a b = allR (jP f1 f2 sep l r q) a b ∧
    (joinL (jP f1 f2 sep true true true) cmpD a b).length = (allP (jP f1 f2 sep l r q) a b).length + (allL (jP f1 f2 sep l r q) a b).length + (allR (jP f1 f2 sep l r q) a b).length :=
  ⟨(joinF_all ordE (jP f1 f2 sep false false true) _ a b (Nat.le_refl _) ha hb).1 rfl rfl rfl, (joinF_all ordE (jP f1 f2 sep true false false) _ a b (Nat.le_refl _) ha hb).2.1 rfl rfl rfl, (joinF_all ordE (jP f1 f2 sep false true false) _ a b (Nat.le_refl _) ha hb).2.2.1 rfl rfl rfl, (joinF_all ordE (jP f1 f2 sep true true true) _ a b (Nat.le_refl _) ha hb).2.2.2 rfl rfl rfl⟩
end Go.Proofs.YtbhdhcnbagjmcaaDoor
