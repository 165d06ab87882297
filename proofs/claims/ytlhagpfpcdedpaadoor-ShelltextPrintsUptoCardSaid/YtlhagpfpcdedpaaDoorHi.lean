/- walks: the parser's command (written by gen_hi.py) -/
import Derived.Test.YtlhagpfpcdedpaaDoorHh
import Derived.Deep.RegionLaw
namespace Go.Proofs.YtlhagpfpcdedpaaDoor
open Go.RowKit
open Shp
abbrev strC (l : List (List UInt8)) : List Value := l.map fun x => Value.string ⟨x.toArray⟩
abbrev redC (l : List (Int × List UInt8)) : List Value := l.flatMap fun r => [Value.int .i64 r.1, Value.string ⟨r.2.toArray⟩]
/-- a command in block g, its rows in blocks from B on -/
structure CO (g B : Nat) (c : Cm) (va vr : Value) (w : World) : Prop where
  blk : w.heap[g]? = some (.cells #[.string ⟨c.name.toArray⟩, va, vr, .int .i64 c.at_] 40 (0, 0))
  args : w.ownsRow B 9 1 va c.args.length (strC c.args)
  red : w.ownsRow B 77 2 vr c.red.length (redC c.red)
theorem SM.blk {p : Nat} {s : ByteArray} {w : World} {x : St} (h : SM p s w x) : ∃ cs, w.heap[p]? = some (.cells cs 50 (0, 0)) := by
  obtain ⟨h, -⟩ := h
  cases x with
  | run t a => exact ⟨_, h⟩
  | bad e q => obtain ⟨a, tx, wd, bg, ta, h⟩ := h; exact ⟨_, h⟩
theorem SM.lt {p : Nat} {s : ByteArray} {w : World} {x : St} (h : SM p s w x) : p < w.heap.size := by obtain ⟨cs, hb⟩ := h.blk; exact (Array.getElem?_eq_some_iff.1 hb).1
theorem CO.gr {g B p : Nat} {c : Cm} {va vr : Value} {w w' : World} {s : ByteArray} {x : St} (h : CO g B c va vr w) (m : SM p s w x) (hg : Gr p w w') (hne : g ≠ p) : CO g B c va vr w' := by
  obtain ⟨cs, hb⟩ := m.blk
  refine ⟨?_, own_gr h.args hg hb (by decide), own_gr h.red hg hb (by decide)⟩
  obtain ⟨q1, q2, q3, q4, q5⟩ := hg
  rw [q5 g (Array.getElem?_eq_some_iff.1 h.blk).1 (fun e => hne (by cases e; rfl))]
  exact h.blk
theorem CO.same {g B : Nat} {c : Cm} {va vr : Value} {w w' : World} (h : CO g B c va vr w) (e : w'.heap = w.heap) : CO g B c va vr w' :=
  ⟨by rw [e]; exact h.blk, own_ty h.args (fun i _ _ _ => by rw [e]), own_ty h.red (fun i _ _ _ => by rw [e])⟩
theorem set_other {w : World} {g i j : Nat} {y : Value} (h : i ≠ g) : (w.setCell ⟨g, j, none⟩ y).heap[i]? = w.heap[i]? := Below.heap_setCell _ _ _ _ h
theorem own_setc {w : World} {g j B : Nat} {e T : TypeId} {k : Nat} {v : Value} {n : Nat} {xs : List Value} {y : Value} {cs : Array Value} {z : Nat × Nat} (h : w.ownsRow B e k v n xs) (hg : w.heap[g]? = some (.cells cs T z)) (hne : T ≠ e) : (w.setCell ⟨g, j, none⟩ y).ownsRow B e k v n xs :=
  own_ty h fun i cs' z' hi => set_other (fun e1 => by subst e1; rw [hg] at hi; cases hi; exact hne rfl)
theorem SM.setc {p g j : Nat} {s : ByteArray} {w : World} {x : St} {y : Value} (h : SM p s w x) (hne : g ≠ p) : SM p s (w.setCell ⟨g, j, none⟩ y) x := h.same (set_other (Ne.symm hne))
theorem gr_setc {p g j : Nat} {w w' : World} {y : Value} (h : Gr p w w') (hg : w.heap.size ≤ g) : Gr p w (w'.setCell ⟨g, j, none⟩ y) := by
  obtain ⟨q1, q2, q3, q4, q5⟩ := h
  exact ⟨q1, q2, q3, by simpa [World.setCell] using q4, fun i hi hp => (set_other (by omega)).trans (q5 i hi hp)⟩
theorem gr_grown {p B : Nat} {w wr w' : World} {e : TypeId} {k : Nat} {v : Value} {n : Nat} {xs : List Value} (h : Gr p w wr) (g : wr.grownBy w' v.ownBlock) (own : wr.ownsRow B e k v n xs) (hB : w.heap.size ≤ B) : Gr p w w' := by
  obtain ⟨q1, q2, q3, q4, q5⟩ := h
  obtain ⟨r1, r2, r3, r4, r5⟩ := g
  refine ⟨r1.trans q1, r2.trans q2, r3.trans q3, Nat.le_trans q4 r4, fun i hi hp => ?_⟩
  rw [r5 i (by omega) (fun e1 => ?_)]
  · exact q5 i hi hp
  · obtain ⟨_, h2⟩ := own
    rcases h2 with ⟨rfl, _⟩ | ⟨g, cap, cur, rfl, hB2, _⟩
    · cases e1
    · cases e1; have h1 : g < w.heap.size := hi; have h2 : B ≤ g := hB2; omega
theorem SM.grown {p B : Nat} {s : ByteArray} {wr w' : World} {x : St} {e : TypeId} {k : Nat} {v : Value} {n : Nat} {xs : List Value} (h : SM p s wr x) (g : wr.grownBy w' v.ownBlock) (own : wr.ownsRow B e k v n xs) (hne : 50 ≠ e) : SM p s w' x := by
  obtain ⟨cs, hb⟩ := h.blk
  exact h.same (grown_keep g own hb hne)
/-- a redirection more -/
theorem CO.red1 {g B : Nat} {c : Cm} {va vr : Value} {wr w' : World} (h : CO g B c va vr wr) {g2 cap : Nat} {kd : Int} {u : List UInt8} (o : w'.ownsRow B 77 2 (.slice (some ⟨g2, 0, none⟩) (c.red.length + 1) cap) (c.red.length + 1) (redC c.red ++ [.int .i64 kd, .string ⟨u.toArray⟩])) (gw : wr.grownBy w' vr.ownBlock) :
    CO g B { c with red := c.red ++ [(kd, u)] } va (.slice (some ⟨g2, 0, none⟩) (c.red.length + 1) cap) (w'.setCell ⟨g, 2, none⟩ (.slice (some ⟨g2, 0, none⟩) (c.red.length + 1) cap)) := by
  have b := grown_keep gw h.red h.blk (by decide)
  rw [h.blk] at b
  refine ⟨by rw [set_at b]; rfl, own_setc (own_grown gw h.red h.args (by decide)) b (by decide), own_setc ?_ b (by decide)⟩
  have e : redC (c.red ++ [(kd, u)]) = redC c.red ++ [.int .i64 kd, .string ⟨u.toArray⟩] := by simp [redC]
  simp only [List.length_append, List.length_singleton]
  rw [e]; exact o
/-- an argument more -/
theorem CO.arg1 {g B : Nat} {c : Cm} {va vr : Value} {wr w' : World} (h : CO g B c va vr wr) {g2 cap : Nat} {u : List UInt8} (o : w'.ownsRow B 9 1 (.slice (some ⟨g2, 0, none⟩) (c.args.length + 1) cap) (c.args.length + 1) (strC c.args ++ [.string ⟨u.toArray⟩])) (gw : wr.grownBy w' va.ownBlock) :
    CO g B { c with args := c.args ++ [u] } (.slice (some ⟨g2, 0, none⟩) (c.args.length + 1) cap) vr (w'.setCell ⟨g, 1, none⟩ (.slice (some ⟨g2, 0, none⟩) (c.args.length + 1) cap)) := by
  have b := grown_keep gw h.args h.blk (by decide)
  rw [h.blk] at b
  refine ⟨by rw [set_at b]; rfl, own_setc ?_ b (by decide), own_setc (own_grown gw h.args h.red (by decide)) b (by decide)⟩
  have e : strC (c.args ++ [u]) = strC c.args ++ [.string ⟨u.toArray⟩] := by simp [strC]
  simp only [List.length_append, List.length_singleton]
  rw [e]; exact o
theorem CO.name1 {g B : Nat} {c : Cm} {va vr : Value} {wr : World} (h : CO g B c va vr wr) (u : List UInt8) : CO g B { c with name := u } va vr (wr.setCell ⟨g, 0, none⟩ (.string ⟨u.toArray⟩)) :=
  ⟨by rw [set_at h.blk]; rfl, own_setc h.args h.blk (by decide), own_setc h.red h.blk (by decide)⟩
/-- what a command returns -/
def CmR (B : Nat) (c : Cm) (va vr : Value) (w : World) : Prop := w.ownsRow B 9 1 va c.args.length (strC c.args) ∧ w.ownsRow B 77 2 vr c.red.length (redC c.red)
end Go.Proofs.YtlhagpfpcdedpaaDoor
