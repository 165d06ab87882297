/- walks: rows of commands (written by gen_hk.py) -/
import Derived.Test.YtlhagpfpcdedpaaDoorHj
namespace Go.Proofs.YtlhagpfpcdedpaaDoor
open Go.RowKit
open Shp
/-- a command with the values of its two rows -/
abbrev CmV := Cm × Value × Value
abbrev cmCells (x : CmV) : List Value := [.string ⟨x.1.name.toArray⟩, x.2.1, x.2.2, .int .i64 x.1.at_]
abbrev cmC (l : List CmV) : List Value := l.flatMap cmCells
/-- commands behind a slice -/
def CmdsV (B : Nat) (v : Value) (l : List CmV) (w : World) : Prop := w.ownsRow B 40 4 v l.length (cmC l) ∧ ∀ x ∈ l, CmR B x.1 x.2.1 x.2.2 w
theorem own_low {w : World} {b b' : Nat} {e : TypeId} {k : Nat} {v : Value} {n : Nat} {xs : List Value} (h : w.ownsRow b e k v n xs) (hb : b' ≤ b) : w.ownsRow b' e k v n xs := by
  obtain ⟨h1, h2⟩ := h
  refine ⟨h1, ?_⟩
  rcases h2 with h2 | ⟨g, cap, cur, hv, hg, r⟩
  · exact .inl h2
  · exact .inr ⟨g, cap, cur, hv, by omega, r⟩
theorem CmR.ty {B : Nat} {c : Cm} {va vr : Value} {w w' : World} (h : CmR B c va vr w) (hk : ∀ (i : Nat) (cs : Array Value) (e : TypeId) (z : Nat × Nat), e = 9 ∨ e = 77 → w.heap[i]? = some (Obj.cells cs e z) → w'.heap[i]? = w.heap[i]?) : CmR B c va vr w' :=
  ⟨own_ty h.1 (fun i cs z hi => hk i cs _ z (.inl rfl) hi), own_ty h.2 (fun i cs z hi => hk i cs _ z (.inr rfl) hi)⟩
theorem CmR.mono {B B' : Nat} {c : Cm} {va vr : Value} {w : World} (h : CmR B c va vr w) (hb : B' ≤ B) : CmR B' c va vr w := ⟨own_low h.1 hb, own_low h.2 hb⟩
theorem CmdsV.gr {B p : Nat} {v : Value} {l : List CmV} {s : ByteArray} {x : St} {w w' : World} (h : CmdsV B v l w) (m : SM p s w x) (g : Gr p w w') : CmdsV B v l w' := by
  obtain ⟨cs, hb⟩ := m.blk
  exact ⟨own_gr h.1 g hb (by decide), fun x hx => ⟨own_gr (h.2 x hx).1 g hb (by decide), own_gr (h.2 x hx).2 g hb (by decide)⟩⟩
theorem CmdsV.same {B : Nat} {v : Value} {l : List CmV} {w w' : World} (h : CmdsV B v l w) (e : w'.heap = w.heap) : CmdsV B v l w' :=
  ⟨own_ty h.1 (fun i _ _ _ => by rw [e]), fun x hx => (h.2 x hx).ty (fun i _ _ _ _ _ => by rw [e])⟩
theorem CmdsV.setc {B g j : Nat} {v : Value} {l : List CmV} {w : World} {y : Value} (h : CmdsV B v l w) {cs : Array Value} {T : TypeId} {z : Nat × Nat} (hg : w.heap[g]? = some (.cells cs T z)) (h1 : T ≠ 40) (h2 : T ≠ 9) (h3 : T ≠ 77) : CmdsV B v l (w.setCell ⟨g, j, none⟩ y) :=
  ⟨own_setc h.1 hg h1, fun x hx => ⟨own_setc (h.2 x hx).1 hg h2, own_setc (h.2 x hx).2 hg h3⟩⟩
/-- a command more -/
theorem CmdsV.app {B : Nat} {v : Value} {l : List CmV} {w w' : World} {c : Cm} {va vr : Value} (h : CmdsV B v l w) (hc : CmR B c va vr w) (hg : w.grownBy w' v.ownBlock) {g cap : Nat}
    (o : w'.ownsRow B 40 4 (.slice (some ⟨g, 0, none⟩) (l.length + 1) cap) (l.length + 1) (cmC l ++ [.string ⟨c.name.toArray⟩, va, vr, .int .i64 c.at_])) : CmdsV B (.slice (some ⟨g, 0, none⟩) (l.length + 1) cap) (l ++ [(c, va, vr)]) w' := by
  refine ⟨?_, fun x hx => ?_⟩
  · have e : cmC (l ++ [(c, va, vr)]) = cmC l ++ [.string ⟨c.name.toArray⟩, va, vr, .int .i64 c.at_] := by simp [cmC]
    rw [e, List.length_append]; exact o
  · have k : ∀ (i : Nat) (cs : Array Value) (e : TypeId) (z : Nat × Nat), e = 9 ∨ e = 77 → w.heap[i]? = some (Obj.cells cs e z) → w'.heap[i]? = w.heap[i]? := fun i cs e z he hi => grown_keep hg h.1 hi (by rcases he with rfl | rfl <;> decide)
    rcases List.mem_append.1 hx with hx | hx
    · exact (h.2 x hx).ty k
    · rw [List.mem_singleton] at hx
      subst hx
      exact hc.ty k
/-- a pipeline in block g -/
structure PO (g B : Nat) (l : List CmV) (vc : Value) (no : Bool) (cn : Int) (w : World) : Prop where
  blk : w.heap[g]? = some (.cells #[vc, .bool no, .int .i64 cn] 34 (0, 0))
  cmds : CmdsV B vc l w
theorem PO.cells {g B : Nat} {l : List CmV} {vc : Value} {no : Bool} {cn : Int} {w : World} (h : PO g B l vc no cn w) : w.cell? ⟨g, 0, none⟩ = some vc ∧ w.cell? ⟨g, 1, none⟩ = some (.bool no) ∧ w.cell? ⟨g, 2, none⟩ = some (.int .i64 cn) := ⟨blk_cell h.blk 0, blk_cell h.blk 1, blk_cell h.blk 2⟩
theorem PO.gr {g B p : Nat} {l : List CmV} {vc : Value} {no : Bool} {cn : Int} {w w' : World} {s : ByteArray} {x : St} (h : PO g B l vc no cn w) (m : SM p s w x) (hg : Gr p w w') (hne : g ≠ p) : PO g B l vc no cn w' := by
  refine ⟨?_, h.cmds.gr m hg⟩
  obtain ⟨q1, q2, q3, q4, q5⟩ := hg
  rw [q5 g (Array.getElem?_eq_some_iff.1 h.blk).1 (fun e => hne (by cases e; rfl))]
  exact h.blk
theorem PO.same {g B : Nat} {l : List CmV} {vc : Value} {no : Bool} {cn : Int} {w w' : World} (h : PO g B l vc no cn w) (e : w'.heap = w.heap) : PO g B l vc no cn w' := ⟨by rw [e]; exact h.blk, h.cmds.same e⟩
theorem PO.not1 {g B : Nat} {l : List CmV} {vc : Value} {no : Bool} {cn : Int} {w : World} (h : PO g B l vc no cn w) (b : Bool) : PO g B l vc b cn (w.setCell ⟨g, 1, none⟩ (.bool b)) :=
  ⟨by rw [set_at h.blk]; rfl, h.cmds.setc h.blk (by decide) (by decide) (by decide)⟩
theorem PO.cmd1 {g B : Nat} {l : List CmV} {vc : Value} {no : Bool} {cn : Int} {w w' : World} {c : Cm} {va vr : Value} (h : PO g B l vc no cn w) (hc : CmR B c va vr w) (hg : w.grownBy w' vc.ownBlock) {g2 cap : Nat}
    (o : w'.ownsRow B 40 4 (.slice (some ⟨g2, 0, none⟩) (l.length + 1) cap) (l.length + 1) (cmC l ++ [.string ⟨c.name.toArray⟩, va, vr, .int .i64 c.at_])) :
    PO g B (l ++ [(c, va, vr)]) (.slice (some ⟨g2, 0, none⟩) (l.length + 1) cap) no cn (w'.setCell ⟨g, 0, none⟩ (.slice (some ⟨g2, 0, none⟩) (l.length + 1) cap)) := by
  have b := grown_keep hg h.cmds.1 h.blk (by decide)
  rw [h.blk] at b
  exact ⟨by rw [set_at b]; rfl, (h.cmds.app hc hg o).setc b (by decide) (by decide) (by decide)⟩
end Go.Proofs.YtlhagpfpcdedpaaDoor
