/- walks: classes and collating elements, the reference -/
import Derived.Test.YtjngkapfngempaaDoorQe
namespace Go.Proofs.YtjngkapfngempaaDoor
open Go.RowKit Go.Maps
open Lcl
theorem qbelow_drewN {B : Nat} {a w : World} (h : Below B a w) (n : Nat) : Below B a (w.drewN n) := ⟨h.os, h.tape, h.output, h.size, h.block⟩
theorem str_beq (a b : ByteArray) : (a.toList == b.toList) = decide (a.data.toList = b.data.toList) := by
  rw [Bool.eq_iff_iff, beq_iff_eq, decide_eq_true_eq, Lib.toList_data, Lib.toList_data]
/-- none of the first j strings is this one -/
def NoneOf (l : List (List UInt8)) (j : Nat) (s : List UInt8) : Prop := ¬ s ∈ l.take j
theorem NoneOf.zero (l : List (List UInt8)) (s : List UInt8) : NoneOf l 0 s := by unfold NoneOf; simp
theorem NoneOf.next {l : List (List UInt8)} {j : Nat} {s t : List UInt8} (h : NoneOf l j s) (ht : l[j]? = some t) (hne : decide (t = s) = false) : NoneOf l (j + 1) s := by
  unfold NoneOf at *
  rw [List.take_add_one, ht, List.mem_append]
  rintro (e | e)
  · exact h e
  · simp at e; subst e; simp at hne
theorem none_all {l : List (List UInt8)} {k : Nat} {s : List UInt8} (h : NoneOf l k s) : decide (s ∈ l.take k) = false := decide_eq_false h
theorem none_hit {l : List (List UInt8)} {j k : Nat} {s t : List UInt8} (ht : l[j]? = some t) (hjk : j < k) (he : decide (t = s) = true) : decide (s ∈ l.take k) = true := by
  have e := of_decide_eq_true he
  subst e
  apply decide_eq_true
  exact List.mem_of_getElem? (i := j) (by rw [List.getElem?_take, if_pos hjk]; exact ht)
/-- where the loop stands -/
structure CRR (w wr : World) (l : List Cl) (k : Nat) : Prop where
  rest : clsB [] (l.map (·.n)) = clsB ((l.map (·.n.data.toList)).take k) ((l.drop k).map (·.n))
  bel : Below w.heap.size w wr
theorem CRR.start (w : World) (l : List Cl) : CRR w w l 0 := ⟨rfl, Below.refl _ _⟩
theorem CRR.step {w wr : World} {l : List Cl} {k : Nat} {x : Cl} (h : CRR w wr l k) (hx : l[k]? = some x) :
    clsB [] (l.map (·.n)) = (nameB x.n.data.toList && !decide (x.n.data.toList ∈ (l.map (·.n.data.toList)).take k) && clsB ((l.map (·.n.data.toList)).take (k + 1)) ((l.drop (k + 1)).map (·.n))) := by
  rw [h.rest]
  have hd : l.drop k = x :: l.drop (k + 1) := by
    obtain ⟨hlt, e⟩ := List.getElem?_eq_some_iff.1 hx
    rw [List.drop_eq_getElem_cons hlt, e]
  have ht : (l.map (·.n.data.toList)).take (k + 1) = (l.map (·.n.data.toList)).take k ++ [x.n.data.toList] := by
    rw [List.take_add_one, List.getElem?_map, hx]; rfl
  rw [hd, ht, List.map_cons]
  rfl
theorem CRR.next {w wr w1 : World} {l : List Cl} {k : Nat} {x : Cl} (h : CRR w wr l k) (hx : l[k]? = some x) (hn : nameB x.n.data.toList = true) (hm : decide (x.n.data.toList ∈ (l.map (·.n.data.toList)).take k) = false)
    (hb : Below w.heap.size w w1) : CRR w w1 l (k + 1) := ⟨by rw [h.step hx, hn, hm]; rfl, hb⟩
theorem CRR.bad {w wr : World} {l : List Cl} {k : Nat} {x : Cl} (h : CRR w wr l k) (hx : l[k]? = some x) (hn : nameB x.n.data.toList = false) : clsB [] (l.map (·.n)) = false := by
  rw [h.step hx, hn]; rfl
theorem CRR.twice {w wr : World} {l : List Cl} {k : Nat} {x : Cl} (h : CRR w wr l k) (hx : l[k]? = some x) (hm : decide (x.n.data.toList ∈ (l.map (·.n.data.toList)).take k) = true) : clsB [] (l.map (·.n)) = false := by
  rw [h.step hx, hm, Bool.not_true, Bool.and_false]; rfl
theorem CRR.good {w wr : World} {l : List Cl} {k : Nat} (h : CRR w wr l k) (hk : l.length ≤ k) : clsB [] (l.map (·.n)) = true := by
  rw [h.rest, List.drop_of_length_le hk]; rfl
/-- where the loop stands -/
structure ERR (w wr : World) (l : List El) (k : Nat) : Prop where
  rest : elsB [] (l.map El.pr) = elsB ((l.map (·.n.data.toList)).take k) ((l.drop k).map El.pr)
  bel : Below w.heap.size w wr
theorem ERR.start (w : World) (l : List El) : ERR w w l 0 := ⟨rfl, Below.refl _ _⟩
theorem ERR.step {w wr : World} {l : List El} {k : Nat} {x : El} (h : ERR w wr l k) (hx : l[k]? = some x) :
    elsB [] (l.map El.pr) = (elB (x.n, x.w) && !decide (x.n.data.toList ∈ (l.map (·.n.data.toList)).take k) && elsB ((l.map (·.n.data.toList)).take (k + 1)) ((l.drop (k + 1)).map El.pr)) := by
  rw [h.rest]
  have hd : l.drop k = x :: l.drop (k + 1) := by
    obtain ⟨hlt, e⟩ := List.getElem?_eq_some_iff.1 hx
    rw [List.drop_eq_getElem_cons hlt, e]
  have ht : (l.map (·.n.data.toList)).take (k + 1) = (l.map (·.n.data.toList)).take k ++ [x.n.data.toList] := by
    rw [List.take_add_one, List.getElem?_map, hx]; rfl
  rw [hd, ht, List.map_cons]
  rfl
theorem ERR.next {w wr w1 : World} {l : List El} {k : Nat} {x : El} (h : ERR w wr l k) (hx : l[k]? = some x) (hn : elB (x.n, x.w) = true) (hm : decide (x.n.data.toList ∈ (l.map (·.n.data.toList)).take k) = false)
    (hb : Below w.heap.size w w1) : ERR w w1 l (k + 1) := ⟨by rw [h.step hx, hn, hm]; rfl, hb⟩
theorem ERR.bad {w wr : World} {l : List El} {k : Nat} {x : El} (h : ERR w wr l k) (hx : l[k]? = some x) (hn : elB (x.n, x.w) = false) : elsB [] (l.map El.pr) = false := by
  rw [h.step hx, hn]; rfl
theorem ERR.twice {w wr : World} {l : List El} {k : Nat} {x : El} (h : ERR w wr l k) (hx : l[k]? = some x) (hm : decide (x.n.data.toList ∈ (l.map (·.n.data.toList)).take k) = true) : elsB [] (l.map El.pr) = false := by
  rw [h.step hx, hm, Bool.not_true, Bool.and_false]; rfl
theorem ERR.good {w wr : World} {l : List El} {k : Nat} (h : ERR w wr l k) (hk : l.length ≤ k) : elsB [] (l.map El.pr) = true := by
  rw [h.rest, List.drop_of_length_le hk]; rfl
end Go.Proofs.YtjngkapfngempaaDoor
