/- walks: the parser's state; fail, skip -/
import Derived.Test.YtlhagpfpcdedpaaDoorRows
import Derived.Test.YtlhagpfpcdedpaaDoorShelf
import Derived.Test.YtlhagpfpcdedpaaDoorHplain
import Derived.WalkSpells
import Derived.WalkLawsBesides
import Derived.Deep.RegionHeld3
import Derived.Deep.QuietTactic
import Derived.BigQuiet
import Derived.OwnWalk
import Derived.IntWalk
import Derived.Shelf.Strings.BuilderK
namespace Go.Proofs.YtlhagpfpcdedpaaDoor
open Go.RowKit
open Shp
/-- the parser in block p -/
def RX (p : Nat) (s : ByteArray) (a : Int) (tx : ByteArray) (wd bg : Bool) (ta er po : Int) (w : World) : Prop :=
  w.heap[p]? = some (.cells #[.string s, .int .i64 a, .string tx, .bool wd, .bool bg, .int .i64 ta, .int .i64 er, .int .i64 po] 50 (0, 0))
theorem blk_cell {w : World} {b : Nat} {xs : Array Value} {T : TypeId} (h : w.heap[b]? = some (.cells xs T (0, 0))) (i : Nat) : w.cell? ⟨b, i, none⟩ = xs[i]? := by simp [World.cell?, h]
theorem blk_frozen {w : World} {b : Nat} {xs : Array Value} {T : TypeId} (h : w.heap[b]? = some (.cells xs T (0, 0))) (i : Nat) : w.frozen? ⟨b, i, none⟩ = false := by simp [World.frozen?, h]
theorem set_at {w : World} {b i : Nat} {xs : Array Value} {y : Value} {T : TypeId} (h : w.heap[b]? = some (.cells xs T (0, 0))) : (w.setCell ⟨b, i, none⟩ y).heap[b]? = some (.cells (xs.setIfInBounds i y) T (0, 0)) := by
  simp only [World.setCell, Array.getElem?_modify, h, if_pos, Option.map_some]
  rfl
section
variable {p : Nat} {s : ByteArray} {a : Int} {tx : ByteArray} {wd bg : Bool} {ta er po : Int} {w w' : World}
theorem RX.lt (h : RX p s a tx wd bg ta er po w) : p < w.heap.size := (Array.getElem?_eq_some_iff.1 h).1
theorem RX.cells (h : RX p s a tx wd bg ta er po w) :
    w.cell? ⟨p, 0, none⟩ = some (.string s) ∧ w.cell? ⟨p, 1, none⟩ = some (.int .i64 a) ∧ w.cell? ⟨p, 2, none⟩ = some (.string tx) ∧ w.cell? ⟨p, 3, none⟩ = some (.bool wd) ∧ w.cell? ⟨p, 4, none⟩ = some (.bool bg) ∧ w.cell? ⟨p, 5, none⟩ = some (.int .i64 ta) ∧ w.cell? ⟨p, 6, none⟩ = some (.int .i64 er) ∧ w.cell? ⟨p, 7, none⟩ = some (.int .i64 po) :=
  ⟨blk_cell h 0, blk_cell h 1, blk_cell h 2, blk_cell h 3, blk_cell h 4, blk_cell h 5, blk_cell h 6, blk_cell h 7⟩
theorem RX.fr (h : RX p s a tx wd bg ta er po w) (i : Nat) : w.frozen? ⟨p, i, none⟩ = false := blk_frozen h i
theorem RX.keep (h : RX p s a tx wd bg ta er po w) (hb : w'.heap[p]? = w.heap[p]?) : RX p s a tx wd bg ta er po w' := by unfold RX at *; rw [hb]; exact h
theorem RX.below (h : RX p s a tx wd bg ta er po w) (hb : Below w.heap.size w w') : RX p s a tx wd bg ta er po w' := h.keep (hb.block p h.lt)
theorem RX.set1 (h : RX p s a tx wd bg ta er po w) (x : Int) : RX p s x tx wd bg ta er po (w.setCell ⟨p, 1, none⟩ (.int .i64 x)) := by unfold RX at *; rw [set_at h]; rfl
theorem RX.set2 (h : RX p s a tx wd bg ta er po w) (x : ByteArray) : RX p s a x wd bg ta er po (w.setCell ⟨p, 2, none⟩ (.string x)) := by unfold RX at *; rw [set_at h]; rfl
theorem RX.set3 (h : RX p s a tx wd bg ta er po w) (x : Bool) : RX p s a tx x bg ta er po (w.setCell ⟨p, 3, none⟩ (.bool x)) := by unfold RX at *; rw [set_at h]; rfl
theorem RX.set4 (h : RX p s a tx wd bg ta er po w) (x : Bool) : RX p s a tx wd x ta er po (w.setCell ⟨p, 4, none⟩ (.bool x)) := by unfold RX at *; rw [set_at h]; rfl
theorem RX.set5 (h : RX p s a tx wd bg ta er po w) (x : Int) : RX p s a tx wd bg x er po (w.setCell ⟨p, 5, none⟩ (.int .i64 x)) := by unfold RX at *; rw [set_at h]; rfl
theorem RX.set6 (h : RX p s a tx wd bg ta er po w) (x : Int) : RX p s a tx wd bg ta x po (w.setCell ⟨p, 6, none⟩ (.int .i64 x)) := by unfold RX at *; rw [set_at h]; rfl
theorem RX.set7 (h : RX p s a tx wd bg ta er po w) (x : Int) : RX p s a tx wd bg ta er x (w.setCell ⟨p, 7, none⟩ (.int .i64 x)) := by unfold RX at *; rw [set_at h]; rfl
end
/-- but for block p and new blocks all is as it was -/
abbrev Gr (p : Nat) (w w' : World) : Prop := w.grownBy w' (some p)
theorem gr_set (w : World) (p j : Nat) (u : Value) : Gr p w (w.setCell ⟨p, j, none⟩ u) :=
  ⟨rfl, rfl, rfl, by simp [World.setCell], fun i _ hi => Below.heap_setCell _ _ _ _ (fun e => hi (by rw [e]))⟩
theorem gr_refl (p : Nat) (w : World) : Gr p w w := ⟨rfl, rfl, rfl, Nat.le_refl _, fun _ _ _ => rfl⟩
theorem gr_below {p : Nat} {w w' : World} (h : Below w.heap.size w w') : Gr p w w' := ⟨h.os, h.tape, h.output, h.size, fun i hi _ => h.block i hi⟩
theorem gr_trans {p : Nat} {w w1 w2 : World} (h1 : Gr p w w1) (h2 : Gr p w1 w2) : Gr p w w2 := h1.trans h2
/-- below its own block all is as it was -/
theorem gr_to {p : Nat} {w w' : World} (h : Gr p w w') (hp : p ≤ w.heap.size) : Below p w w' := (Below.refl p w).grown h hp (fun j hj => by cases hj; exact Nat.le_refl _)
theorem sh_drewN {B : Nat} {a w : World} (h : Below B a w) (n : Nat) : Below B a (w.drewN n) := ⟨h.os, h.tape, h.output, h.size, h.block⟩
theorem dr_bel (w : World) (n : Nat) : Below w.heap.size w (w.drewN n) := sh_drewN (Below.refl _ _) n
def atOf (w : World) (p : Nat) : Nat := match w.cell? ⟨p, 1, none⟩ with
  | some (.int _ x) => x.toNat
  | _ => 0
theorem RX.atOf {p : Nat} {s : ByteArray} {a : Int} {tx : ByteArray} {wd bg : Bool} {ta er po : Int} {w : World} (h : RX p s a tx wd bg ta er po w) : Go.Proofs.YtlhagpfpcdedpaaDoor.atOf w p = a.toNat := by
  unfold Go.Proofs.YtlhagpfpcdedpaaDoor.atOf; rw [h.cells.2.1]
set_option maxHeartbeats 1000000 in
theorem fail_run (p : Nat) (s : ByteArray) (a : Int) (tx : ByteArray) (wd bg : Bool) (ta po e1 q1 : Int) (w : World) (h : RX p s a tx wd bg ta 0 po w) :
    Calls Tryd.prog 45 #[.pointer (some ⟨p, 0, none⟩), .int .i64 e1, .int .i64 q1] w fun e w' => e = .returned (.tuple #[]) ∧ Hid (RX p s a tx wd bg ta e1 q1 w') ∧ Hid (Gr p w w') := by
  obtain ⟨-, -, -, -, -, -, c6, c7⟩ := h.cells
  have f6 := h.fr 6
  have f7 := h.fr 7
  have H := Lib.hid h
  clear h
  go_enter Tryd.func45, Tryd.ntmps45
  go_wp2_with fail
  go_end0
  exact ⟨rfl, Lib.hid ((H.out.set6 e1).set7 q1), Lib.hid (gr_trans (gr_set _ _ _ _) (gr_set _ _ _ _))⟩
theorem fail_bad (p : Nat) (s : ByteArray) (a : Int) (tx : ByteArray) (wd bg : Bool) (ta er po e1 q1 : Int) (w : World) (h : RX p s a tx wd bg ta er po w) (he : er ≠ 0) :
    Calls Tryd.prog 45 #[.pointer (some ⟨p, 0, none⟩), .int .i64 e1, .int .i64 q1] w fun e w' => e = .returned (.tuple #[]) ∧ w = w' := by
  obtain ⟨-, -, -, -, -, -, c6, -⟩ := h.cells
  have t : (er == 0) = false := by rw [beq_eq_false_iff_ne]; exact he
  clear h he
  go_enter Tryd.func45, Tryd.ntmps45
  go_wp2_with fail
  go_end0
  exact ⟨rfl, rfl⟩
/-- the rest of the text from an offset on begins with these bytes -/
def pfx (s : ByteArray) (j : Nat) (o : List UInt8) : Bool := decide (o <+: s.data.toList.drop j)
theorem pfx1 (s : ByteArray) (j : Nat) (c : UInt8) : pfx s j [c] = decide (at? s j = some c) := by
  unfold pfx at?
  rw [decide_eq_decide]
  constructor
  · rintro ⟨t, ht⟩
    rw [← List.head?_drop, ← ht]; rfl
  · intro h
    obtain ⟨hj, e⟩ := List.getElem?_eq_some_iff.1 h
    rw [List.drop_eq_getElem_cons hj, e]
    exact ⟨_, rfl⟩
theorem pfx2 (s : ByteArray) (j : Nat) (c d : UInt8) : pfx s j [c, d] = (decide (at? s j = some c) && decide (at? s (j + 1) = some d)) := by
  unfold pfx at?
  rw [Bool.eq_iff_iff, Bool.and_eq_true, decide_eq_true_iff, decide_eq_true_iff, decide_eq_true_iff]
  constructor
  · rintro ⟨t, ht⟩
    have h1 : s.data.toList[j]? = some c := by rw [← List.head?_drop, ← ht]; rfl
    have h2 : s.data.toList[j + 1]? = some d := by
      have : (s.data.toList.drop j)[1]? = some d := by rw [← ht]; rfl
      rw [List.getElem?_drop] at this; exact this
    exact ⟨h1, h2⟩
  · rintro ⟨h1, h2⟩
    obtain ⟨hj, e⟩ := List.getElem?_eq_some_iff.1 h1
    obtain ⟨hj2, e2⟩ := List.getElem?_eq_some_iff.1 h2
    rw [List.drop_eq_getElem_cons hj, e, List.drop_eq_getElem_cons hj2, e2]
    exact ⟨_, rfl⟩
end Go.Proofs.YtlhagpfpcdedpaaDoor
