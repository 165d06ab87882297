/- rows in memory, read: pipelines, commands, arguments, redirections -/
import Derived.Test.YtlhagpfpcdedpaaDoorHm
namespace Go.Proofs.YtlhagpfpcdedpaaDoor
open Go.RowKit
open Shp
/-- a list of rows of k cells each that lies in memory behind a slice -/
def RowsAt (w : World) (v : Value) (k : Nat) (l : List (List Value)) : Prop :=
  ∃ (a : Option Addr) (cap : Nat), v = .slice a l.length cap ∧ l.length ≤ cap ∧ cap ≤ maxLen ∧
    (l = [] ∨ ∃ g o, a = some ⟨g, o, none⟩ ∧ g < w.heap.size ∧ ∀ (j : Nat) x, l[j]? = some x → ∀ (i : Nat) y, x[i]? = some y → w.cell? ⟨g, o + j * k + i, none⟩ = some y)
theorem RowsAt.below {w w' : World} {v : Value} {k : Nat} {l : List (List Value)} (h : RowsAt w v k l) (hb : Below w.heap.size w w') : RowsAt w' v k l := by
  obtain ⟨a, cap, rfl, h1, h2, h3⟩ := h
  refine ⟨a, cap, rfl, h1, h2, ?_⟩
  rcases h3 with h3 | ⟨g, o, rfl, hg, hc⟩
  · exact .inl h3
  · exact .inr ⟨g, o, rfl, Nat.lt_of_lt_of_le hg hb.size, fun j x hj i y hi => (hb.cell (p := ⟨g, o + j * k + i, none⟩) hg).trans (hc j x hj i y hi)⟩
theorem RowsAt.cons {w : World} {v : Value} {k : Nat} {l : List (List Value)} (h : RowsAt w v k l) (hl : l ≠ []) : ∃ g o cap, v = .slice (some ⟨g, o, none⟩) l.length cap ∧ l.length ≤ cap ∧ cap ≤ maxLen ∧ g < w.heap.size ∧ ∀ (j : Nat) x, l[j]? = some x → ∀ (i : Nat) y, x[i]? = some y → w.cell? ⟨g, o + j * k + i, none⟩ = some y := by
  obtain ⟨a, cap, rfl, h1, h2, h3 | ⟨g, o, rfl, hg, hc⟩⟩ := h
  · exact absurd h3 hl
  · exact ⟨g, o, cap, rfl, h1, h2, hg, hc⟩
theorem RowsAt.nil {w : World} {v : Value} {k : Nat} (h : RowsAt w v k []) : ∃ a cap, v = .slice a 0 cap := by
  obtain ⟨a, cap, rfl, _⟩ := h; exact ⟨a, cap, rfl⟩
theorem RowsAt.len {w : World} {v : Value} {k : Nat} {l : List (List Value)} (h : RowsAt w v k l) : l.length ≤ maxLen := by
  obtain ⟨a, cap, rfl, h1, h2, _⟩ := h; omega
/-- where a list of cells parts into rows of k -/
theorem flat_at {k : Nat} : ∀ (l : List (List Value)), (∀ x ∈ l, x.length = k) → ∀ (j : Nat) x, l[j]? = some x → ∀ (i : Nat) y, x[i]? = some y → (l.flatMap id)[j * k + i]? = some y
  | [], _, j, x, hj, _, _, _ => by simp at hj
  | r :: l, hk, 0, x, hj, i, y, hi => by
    obtain rfl : r = x := by simpa using hj
    have hlt := (List.getElem?_eq_some_iff.1 hi).1
    rw [List.flatMap_cons, Nat.zero_mul, Nat.zero_add, List.getElem?_append_left (by simpa using hlt)]; exact hi
  | r :: l, hk, j + 1, x, hj, i, y, hi => by
    have hr : r.length = k := hk r (by simp)
    have ih := flat_at l (fun x hx => hk x (by simp [hx])) j x (by simpa using hj) i y hi
    have e : (j + 1) * k + i = r.length + (j * k + i) := by rw [hr, Nat.succ_mul]; omega
    rw [List.flatMap_cons, e, show (id r : List Value) = r from rfl, List.getElem?_append_right (by omega), Nat.add_sub_cancel_left]; exact ih
/-- rows of the call's own are rows in memory -/
theorem rows_own {w : World} {B : Nat} {e : TypeId} {k : Nat} {v : Value} {n : Nat} {xs : List Value} (h : w.ownsRow B e k v n xs) (l : List (List Value)) (hl : l.length = n) (hx : l.flatMap id = xs) (hk : ∀ x ∈ l, x.length = k) : RowsAt w v k l := by
  obtain ⟨h1, h2⟩ := h
  rcases h2 with ⟨rfl, rfl⟩ | ⟨g, cap, cur, rfl, hB, hg, hcap, hmax, hs, ht⟩
  · exact ⟨none, 0, by rw [hl], by omega, by unfold maxLen; omega, .inl (List.length_eq_zero_iff.1 hl)⟩
  · refine ⟨some ⟨g, 0, none⟩, cap, by rw [hl], by omega, hmax, .inr ⟨g, 0, rfl, (Array.getElem?_eq_some_iff.1 hg).1, fun j x hj i y hi => ?_⟩⟩
    have e1 := flat_at l hk j x hj i y hi
    rw [hx, ← ht, List.getElem?_take] at e1
    split at e1
    · rw [Nat.zero_add]
      simp only [World.cell?, hg]
      simpa using e1
    · cases e1
/-- a command's row -/
def CmD (w : World) (c : Cm) (r : List Value) : Prop :=
  ∃ va vr, r = [.string ⟨c.name.toArray⟩, va, vr, .int .i64 c.at_] ∧ RowsAt w va 1 (c.args.map fun a => [.string ⟨a.toArray⟩]) ∧ RowsAt w vr 2 (c.red.map fun r => [.int .i64 r.1, .string ⟨r.2.toArray⟩])
/-- rows that stand for the elements of a list -/
def RowsD {α : Type} (D : World → α → List Value → Prop) (k : Nat) (w : World) (v : Value) (l : List α) : Prop :=
  ∃ rows, RowsAt w v k rows ∧ rows.length = l.length ∧ ∀ (i : Nat) x r, l[i]? = some x → rows[i]? = some r → D w x r
/-- a pipeline's row -/
def PlD (w : World) (p : Pl) (r : List Value) : Prop := ∃ vc, r = [vc, .bool p.no, .int .i64 p.conn] ∧ RowsD CmD 4 w vc p.cmds
abbrev PlsD (w : World) (v : Value) (l : List Pl) : Prop := RowsD PlD 3 w v l
theorem CmD.below {w w' : World} {c : Cm} {r : List Value} (h : CmD w c r) (hb : Below w.heap.size w w') : CmD w' c r := by
  obtain ⟨va, vr, e, h1, h2⟩ := h
  exact ⟨va, vr, e, h1.below hb, h2.below hb⟩
theorem RowsD.below {α : Type} {D : World → α → List Value → Prop} (hD : ∀ (w w' : World) (x : α) (r : List Value), D w x r → Below w.heap.size w w' → D w' x r) {k : Nat} {w w' : World} {v : Value} {l : List α} (h : RowsD D k w v l) (hb : Below w.heap.size w w') : RowsD D k w' v l := by
  obtain ⟨rows, h1, h2, h3⟩ := h
  exact ⟨rows, h1.below hb, h2, fun i x r hx hr => hD _ _ _ _ (h3 i x r hx hr) hb⟩
theorem PlD.below {w w' : World} {p : Pl} {r : List Value} (h : PlD w p r) (hb : Below w.heap.size w w') : PlD w' p r := by
  obtain ⟨vc, e, h1⟩ := h
  exact ⟨vc, e, RowsD.below (D := CmD) (fun _ _ _ _ h b => h.below b) h1 hb⟩
theorem PlsD.below {w w' : World} {v : Value} {l : List Pl} (h : PlsD w v l) (hb : Below w.heap.size w w') : PlsD w' v l := RowsD.below (D := PlD) (fun _ _ _ _ h b => h.below b) h hb
theorem CmR.toD {B : Nat} {c : Cm} {va vr : Value} {w : World} (h : CmR B c va vr w) : CmD w c [.string ⟨c.name.toArray⟩, va, vr, .int .i64 c.at_] := by
  refine ⟨va, vr, rfl, rows_own h.1 _ (by simp) ?_ (fun x hx => ?_), rows_own h.2 _ (by simp) ?_ (fun x hx => ?_)⟩
  · rw [List.flatMap_map]; induction c.args with
    | nil => rfl
    | cons a l ih => rw [List.flatMap_cons, ih]; rfl
  · obtain ⟨a, _, rfl⟩ := List.mem_map.1 hx; rfl
  · rw [List.flatMap_map]; rfl
  · obtain ⟨a, _, rfl⟩ := List.mem_map.1 hx; rfl
theorem CmdsV.toD {B : Nat} {v : Value} {l : List CmV} {w : World} (h : CmdsV B v l w) : RowsD CmD 4 w v (l.map (·.1)) := by
  refine ⟨l.map cmCells, rows_own h.1 _ (by simp) (by rw [List.flatMap_map]; rfl) (fun x hx => ?_), by simp, fun i x r hx hr => ?_⟩
  · obtain ⟨a, _, rfl⟩ := List.mem_map.1 hx; rfl
  · rw [List.getElem?_map] at hx hr
    cases hl : l[i]? with
    | none => rw [hl] at hx; cases hx
    | some y =>
      rw [hl] at hx hr
      cases hx; cases hr
      exact (h.2 y (List.mem_of_getElem? hl)).toD
theorem PipsV.toD {B : Nat} {v : Value} {l : List PlV} {w : World} (h : PipsV B v l w) : PlsD w v (l.map toPl) := by
  refine ⟨l.map pipCells, rows_own h.1 _ (by simp) (by rw [List.flatMap_map]; rfl) (fun x hx => ?_), by simp, fun i x r hx hr => ?_⟩
  · obtain ⟨a, _, rfl⟩ := List.mem_map.1 hx; rfl
  · rw [List.getElem?_map] at hx hr
    cases hl : l[i]? with
    | none => rw [hl] at hx; cases hx
    | some y =>
      rw [hl] at hx hr
      cases hx; cases hr
      exact ⟨_, rfl, (h.2 y (List.mem_of_getElem? hl)).toD⟩
theorem RowsD.get {α : Type} {D : World → α → List Value → Prop} {k : Nat} {w : World} {v : Value} {l : List α} (h : RowsD D k w v l) (hl : l ≠ []) : ∃ g o cap, v = .slice (some ⟨g, o, none⟩) l.length cap ∧ l.length ≤ cap ∧ cap ≤ maxLen ∧ g < w.heap.size ∧
    ∀ (i : Nat) x, l[i]? = some x → ∃ r, D w x r ∧ ∀ (j : Nat) y, r[j]? = some y → w.cell? ⟨g, o + i * k + j, none⟩ = some y := by
  obtain ⟨rows, h1, h2, h3⟩ := h
  have hr : rows ≠ [] := fun e => hl (List.length_eq_zero_iff.1 (by rw [← h2, e]; rfl))
  obtain ⟨g, o, cap, rfl, q1, q2, q3, q4⟩ := h1.cons hr
  refine ⟨g, o, cap, by rw [h2], by omega, q2, q3, fun i x hx => ?_⟩
  have hi : i < rows.length := by rw [h2]; exact (List.getElem?_eq_some_iff.1 hx).1
  have hr := List.getElem?_eq_getElem hi
  exact ⟨_, h3 i x _ hx hr, fun j y hy => q4 i _ hr j y hy⟩
theorem RowsD.slice {α : Type} {D : World → α → List Value → Prop} {k : Nat} {w : World} {v : Value} {l : List α} (h : RowsD D k w v l) : ∃ a cap, v = .slice a l.length cap ∧ l.length ≤ cap ∧ cap ≤ maxLen := by
  obtain ⟨rows, ⟨a, cap, rfl, h1, h2, -⟩, h3, -⟩ := h
  exact ⟨a, cap, by rw [h3], by omega, h2⟩
/-- what Parse returns, read -/
theorem parse_is (s : ByteArray) (w : World) {l : List Pl} {er po : Int} (h : Hid (paR s = (l, er, po))) :
    Calls Tryd.prog 9 #[.string s] w fun e w' => ∃ v, e = .returned (.tuple #[.agg #[v], .int .i64 er, .int .i64 po]) ∧ Hid (PlsD w' v l) ∧ Hid (Below w.heap.size w w') := by
  refine (parse_any s w).mono ?_
  rw [h.out]
  rintro e w' ⟨L, v, e1, h1, h2, h3⟩
  have e := h3.out
  simp only at e
  exact ⟨v, e1, Lib.hid (by rw [← e]; exact h1.out.toD), h2⟩
end Go.Proofs.YtlhagpfpcdedpaaDoor
