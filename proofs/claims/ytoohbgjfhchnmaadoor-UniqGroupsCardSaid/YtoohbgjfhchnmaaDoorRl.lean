/- four copies of a specification, made side by side: what holds on the way -/
import Derived.Test.YtoohbgjfhchnmaaDoorRj
import Derived.Test.YtoohbgjfhchnmaaDoorRf
import Derived.Test.YtoohbgjfhchnmaaDoorReg
namespace Go.Proofs.YtoohbgjfhchnmaaDoor
open Go.RowKit Go.Maps
open Lcl
/-- block g holds these seven cells of a specification -/
def Bk (w : World) (g : Nat) (y0 y1 y2 y3 y4 y5 y6 : Value) : Prop := w.heap[g]? = some (.cells #[y0, y1, y2, y3, y4, y5, y6] 23 (0, 0))
theorem Bk.lt {w : World} {g : Nat} {y0 y1 y2 y3 y4 y5 y6 : Value} (h : Bk w g y0 y1 y2 y3 y4 y5 y6) : g < w.heap.size := (Array.getElem?_eq_some_iff.1 h).1
theorem Bk.below {w w' : World} {g : Nat} {y0 y1 y2 y3 y4 y5 y6 : Value} (h : Bk w g y0 y1 y2 y3 y4 y5 y6) (hb : Below w.heap.size w w') : Bk w' g y0 y1 y2 y3 y4 y5 y6 := by
  unfold Bk; rw [hb.block _ h.lt]; exact h
theorem Bk.cells {w : World} {g : Nat} {y0 y1 y2 y3 y4 y5 y6 : Value} (h : Bk w g y0 y1 y2 y3 y4 y5 y6) : w.cell? ⟨g, 0, none⟩ = some y0 ∧ w.cell? ⟨g, 1, none⟩ = some y1 ∧ w.cell? ⟨g, 2, none⟩ = some y2 ∧ w.cell? ⟨g, 3, none⟩ = some y3 ∧ w.cell? ⟨g, 4, none⟩ = some y4 ∧ w.cell? ⟨g, 5, none⟩ = some y5 ∧ w.cell? ⟨g, 6, none⟩ = some y6 := by
  unfold Bk at h
  refine ⟨?_, ?_, ?_, ?_, ?_, ?_, ?_⟩ <;> simp [World.cell?, h]
abbrev sets7 (w : World) (g : Nat) (z0 z1 z2 z3 z4 z5 z6 : Value) : World := ((((((w.setCell ⟨g, 0, none⟩ z0).setCell ⟨g, 1, none⟩ z1).setCell ⟨g, 2, none⟩ z2).setCell ⟨g, 3, none⟩ z3).setCell ⟨g, 4, none⟩ z4).setCell ⟨g, 5, none⟩ z5).setCell ⟨g, 6, none⟩ z6
theorem Bk.set {w : World} {g : Nat} {y0 y1 y2 y3 y4 y5 y6 : Value} (h : Bk w g y0 y1 y2 y3 y4 y5 y6) (z0 z1 z2 z3 z4 z5 z6 : Value) : Bk (sets7 w g z0 z1 z2 z3 z4 z5 z6) g z0 z1 z2 z3 z4 z5 z6 := by
  have h0 : (w.setCell ⟨g, 0, none⟩ z0).heap[g]? = some (.cells #[z0, y1, y2, y3, y4, y5, y6] 23 (0, 0)) := by rw [heap_setCell_same _ _ _ _ _ _ h]; rfl
  have h1 : ((w.setCell ⟨g, 0, none⟩ z0).setCell ⟨g, 1, none⟩ z1).heap[g]? = some (.cells #[z0, z1, y2, y3, y4, y5, y6] 23 (0, 0)) := by rw [heap_setCell_same _ _ _ _ _ _ h0]; rfl
  have h2 : (((w.setCell ⟨g, 0, none⟩ z0).setCell ⟨g, 1, none⟩ z1).setCell ⟨g, 2, none⟩ z2).heap[g]? = some (.cells #[z0, z1, z2, y3, y4, y5, y6] 23 (0, 0)) := by rw [heap_setCell_same _ _ _ _ _ _ h1]; rfl
  have h3 : ((((w.setCell ⟨g, 0, none⟩ z0).setCell ⟨g, 1, none⟩ z1).setCell ⟨g, 2, none⟩ z2).setCell ⟨g, 3, none⟩ z3).heap[g]? = some (.cells #[z0, z1, z2, z3, y4, y5, y6] 23 (0, 0)) := by rw [heap_setCell_same _ _ _ _ _ _ h2]; rfl
  have h4 : (((((w.setCell ⟨g, 0, none⟩ z0).setCell ⟨g, 1, none⟩ z1).setCell ⟨g, 2, none⟩ z2).setCell ⟨g, 3, none⟩ z3).setCell ⟨g, 4, none⟩ z4).heap[g]? = some (.cells #[z0, z1, z2, z3, z4, y5, y6] 23 (0, 0)) := by rw [heap_setCell_same _ _ _ _ _ _ h3]; rfl
  have h5 : ((((((w.setCell ⟨g, 0, none⟩ z0).setCell ⟨g, 1, none⟩ z1).setCell ⟨g, 2, none⟩ z2).setCell ⟨g, 3, none⟩ z3).setCell ⟨g, 4, none⟩ z4).setCell ⟨g, 5, none⟩ z5).heap[g]? = some (.cells #[z0, z1, z2, z3, z4, z5, y6] 23 (0, 0)) := by rw [heap_setCell_same _ _ _ _ _ _ h4]; rfl
  have h6 : (((((((w.setCell ⟨g, 0, none⟩ z0).setCell ⟨g, 1, none⟩ z1).setCell ⟨g, 2, none⟩ z2).setCell ⟨g, 3, none⟩ z3).setCell ⟨g, 4, none⟩ z4).setCell ⟨g, 5, none⟩ z5).setCell ⟨g, 6, none⟩ z6).heap[g]? = some (.cells #[z0, z1, z2, z3, z4, z5, z6] 23 (0, 0)) := by rw [heap_setCell_same _ _ _ _ _ _ h5]; rfl
  exact h6
theorem Bk.other {w : World} {g g' : Nat} {y0 y1 y2 y3 y4 y5 y6 : Value} (h : Bk w g y0 y1 y2 y3 y4 y5 y6) (hne : g ≠ g') (z0 z1 z2 z3 z4 z5 z6 : Value) : Bk (sets7 w g' z0 z1 z2 z3 z4 z5 z6) g y0 y1 y2 y3 y4 y5 y6 := by
  unfold Bk at h ⊢
  have e : ∀ (w : World) (k : Nat) (z : Value), (w.setCell ⟨g', k, none⟩ z).heap[g]? = w.heap[g]? := fun w k z => Below.heap_setCell w ⟨g', k, none⟩ z g hne
  rw [e, e, e, e, e, e, e]
  exact h
theorem Bk.set1_3 {w : World} {g : Nat} {y0 y1 y2 y3 y4 y5 y6 : Value} (h : Bk w g y0 y1 y2 y3 y4 y5 y6) (z : Value) : Bk (w.setCell ⟨g, 3, none⟩ z) g y0 y1 y2 z y4 y5 y6 := by
  unfold Bk at h ⊢
  rw [heap_setCell_same _ _ _ _ _ _ h]; rfl
theorem Bk.set1_5 {w : World} {g : Nat} {y0 y1 y2 y3 y4 y5 y6 : Value} (h : Bk w g y0 y1 y2 y3 y4 y5 y6) (z : Value) : Bk (w.setCell ⟨g, 5, none⟩ z) g y0 y1 y2 y3 y4 z y6 := by
  unfold Bk at h ⊢
  rw [heap_setCell_same _ _ _ _ _ _ h]; rfl
theorem Bk.set1_6 {w : World} {g : Nat} {y0 y1 y2 y3 y4 y5 y6 : Value} (h : Bk w g y0 y1 y2 y3 y4 y5 y6) (z : Value) : Bk (w.setCell ⟨g, 6, none⟩ z) g y0 y1 y2 y3 y4 y5 z := by
  unfold Bk at h ⊢
  rw [heap_setCell_same _ _ _ _ _ _ h]; rfl
theorem Bk.far1 {w : World} {g g' k : Nat} {y0 y1 y2 y3 y4 y5 y6 : Value} (h : Bk w g y0 y1 y2 y3 y4 y5 y6) (hne : g ≠ g') (z : Value) : Bk (w.setCell ⟨g', k, none⟩ z) g y0 y1 y2 y3 y4 y5 y6 := by
  unfold Bk at h ⊢
  rw [Below.heap_setCell w ⟨g', k, none⟩ z g hne]; exact h
theorem ptr_ne {g g' : Nat} (h : Value.pointer (some ⟨g, 0, none⟩) ≠ Value.pointer (some ⟨g', 0, none⟩)) : g ≠ g' := fun e => h (by rw [e])
/-- the value f, but y at k -/
def put4 (f : Nat → Value) (k : Nat) (y : Value) : Nat → Value := fun j => if j = k then y else f j
theorem put4_same (f : Nat → Value) (k : Nat) (y : Value) : put4 f k y k = y := if_pos rfl
theorem put4_ne (f : Nat → Value) {k j : Nat} (y : Value) (h : j ≠ k) : put4 f k y j = f j := if_neg h
/-- four copies of the cells z0 .. z6: what holds on the way. Loads are the numbers 0 to 3, allocations 4 to 7, stores 8 to 11. -/
structure Four (W : World) (z0 z1 z2 z3 z4 z5 z6 : Value) (d : Nat → Bool) (w' : World) (u p : Nat → Value) : Prop where
  bel : Below W.heap.size W w'
  ld : ∀ k, k < 4 → d k = true → u k = .agg #[z0, z1, z2, z3, z4, z5, z6]
  o : ∀ k, k < 4 → d (8 + k) = true → d (4 + k) = true
  sl : ∀ k, k < 4 → d (4 + k) = true → ∃ g y0 y1 y2 y3 y4 y5 y6, p k = .pointer (some ⟨g, 0, none⟩) ∧ W.heap.size ≤ g ∧ Bk w' g y0 y1 y2 y3 y4 y5 y6 ∧ (d (8 + k) = true → y0 = z0 ∧ y1 = z1 ∧ y2 = z2 ∧ y3 = z3 ∧ y4 = z4 ∧ y5 = z5 ∧ y6 = z6)
  ne : ∀ j k, j < 4 → k < 4 → j ≠ k → d (4 + j) = true → d (4 + k) = true → p j ≠ p k
theorem upd_at {d : Nat → Bool} {i j : Nat} (h : upd d i j = true) (hne : j ≠ i) : d j = true := by
  rw [upd_ne d (by simpa using hne)] at h; exact h
section
variable {W w' : World} {z0 z1 z2 z3 z4 z5 z6 : Value} {d : Nat → Bool} {u p : Nat → Value}
theorem Four.load (h : Four W z0 z1 z2 z3 z4 z5 z6 d w' u p) (k : Nat) (hk : k < 4) : Four W z0 z1 z2 z3 z4 z5 z6 (upd d k) w' (put4 u k (.agg #[z0, z1, z2, z3, z4, z5, z6])) p := by
  refine ⟨h.bel, fun j hj e => ?_, fun j hj e => ?_, fun j hj e => ?_, fun i j hi hj hn e e' => h.ne i j hi hj hn (upd_at e (by omega)) (upd_at e' (by omega))⟩
  · by_cases ej : j = k
    · subst ej; exact put4_same _ _ _
    · rw [put4_ne _ _ ej]; exact h.ld j hj (upd_at e ej)
  · rw [upd_ne d (by simp; omega)]; exact h.o j hj (upd_at e (by omega))
  · obtain ⟨g, y0, y1, y2, y3, y4, y5, y6, e1, e2, e3, e4⟩ := h.sl j hj (upd_at e (by omega))
    exact ⟨g, y0, y1, y2, y3, y4, y5, y6, e1, e2, e3, fun e' => e4 (upd_at e' (by omega))⟩
theorem Four.alloc (h : Four W z0 z1 z2 z3 z4 z5 z6 d w' u p) (k : Nat) (hk : k < 4) (hd : d (4 + k) = false) (x0 x1 x2 x3 x4 x5 x6 : Value) : Four W z0 z1 z2 z3 z4 z5 z6 (upd d (4 + k)) (w'.alloc (.cells #[x0, x1, x2, x3, x4, x5, x6] 23)) u (put4 p k (.pointer (some ⟨w'.heap.size, 0, none⟩))) := by
  have hb : Below w'.heap.size w' (w'.alloc (.cells #[x0, x1, x2, x3, x4, x5, x6] 23)) := (Below.refl _ _).alloc (Nat.le_refl _) _
  have hB := h.bel.size
  have h8 : d (8 + k) = false := by
    cases e : d (8 + k) with
    | false => rfl
    | true => rw [h.o k hk e] at hd; cases hd
  have far : ∀ j, j < 4 → d (4 + j) = true → p j ≠ .pointer (some ⟨w'.heap.size, 0, none⟩) := fun j hj e E => by
    obtain ⟨g, y0, y1, y2, y3, y4, y5, y6, e1, e2, e3, e4⟩ := h.sl j hj e
    rw [e1] at E; cases E; exact absurd e3.lt (Nat.lt_irrefl _)
  refine ⟨h.bel.trans (hb.mono hB), fun j hj e => h.ld j hj (upd_at e (by omega)), fun j hj e => ?_, fun j hj e => ?_, fun i j hi hj hn e e' => ?_⟩
  · by_cases ej : j = k
    · subst ej; exact upd_self _ _
    · rw [upd_ne d (by simp; omega)]; exact h.o j hj (upd_at e (by omega))
  · by_cases ej : j = k
    · subst ej
      exact ⟨w'.heap.size, x0, x1, x2, x3, x4, x5, x6, put4_same _ _ _, hB, heap_alloc_new _ _, fun e' => by rw [upd_at e' (by omega)] at h8; cases h8⟩
    · obtain ⟨g, y0, y1, y2, y3, y4, y5, y6, e1, e2, e3, e4⟩ := h.sl j hj (upd_at e (by omega))
      exact ⟨g, y0, y1, y2, y3, y4, y5, y6, by rw [put4_ne _ _ ej]; exact e1, e2, e3.below hb, fun e' => e4 (upd_at e' (by omega))⟩
  · by_cases ei : i = k
    · subst ei
      rw [put4_same, put4_ne _ _ (Ne.symm hn)]
      exact fun E => far j hj (upd_at e' (by omega)) E.symm
    · by_cases ej : j = k
      · subst ej
        rw [put4_same, put4_ne _ _ hn]
        exact far i hi (upd_at e (by omega))
      · rw [put4_ne _ _ ei, put4_ne _ _ ej]
        exact h.ne i j hi hj hn (upd_at e (by omega)) (upd_at e' (by omega))
theorem below_sets7 {B g : Nat} {w : World} (h : Below B W w) (hB : B ≤ g) (x0 x1 x2 x3 x4 x5 x6 : Value) : Below B W (sets7 w g x0 x1 x2 x3 x4 x5 x6) :=
  below_set (below_set (below_set (below_set (below_set (below_set (below_set h hB) hB) hB) hB) hB) hB) hB
theorem Four.store (h : Four W z0 z1 z2 z3 z4 z5 z6 d w' u p) (k : Nat) (hk : k < 4) {g : Nat} {y0 y1 y2 y3 y4 y5 y6 : Value} (hg : p k = .pointer (some ⟨g, 0, none⟩)) (hB : W.heap.size ≤ g) (hb : Bk w' g y0 y1 y2 y3 y4 y5 y6) (hd : d (4 + k) = true) :
    Four W z0 z1 z2 z3 z4 z5 z6 (upd d (8 + k)) (sets7 w' g z0 z1 z2 z3 z4 z5 z6) u p := by
  refine ⟨below_sets7 h.bel hB _ _ _ _ _ _ _, fun j hj e => h.ld j hj (upd_at e (by omega)), fun j hj e => ?_, fun j hj e => ?_, fun i j hi hj hn e e' => h.ne i j hi hj hn (upd_at e (by omega)) (upd_at e' (by omega))⟩
  · rw [upd_ne d (by simp; omega)]
    by_cases ej : j = k
    · subst ej; exact hd
    · exact h.o j hj (upd_at e (by omega))
  · by_cases ej : j = k
    · subst ej
      exact ⟨g, z0, z1, z2, z3, z4, z5, z6, hg, hB, hb.set _ _ _ _ _ _ _, fun _ => ⟨rfl, rfl, rfl, rfl, rfl, rfl, rfl⟩⟩
    · have ej' := upd_at e (by omega)
      obtain ⟨g', y0, y1, y2, y3, y4, y5, y6, e1, e2, e3, e4⟩ := h.sl j hj ej'
      refine ⟨g', y0, y1, y2, y3, y4, y5, y6, e1, e2, e3.other (fun E => ?_) _ _ _ _ _ _ _, fun e' => e4 (upd_at e' (by omega))⟩
      subst E
      exact h.ne j k hj hk ej ej' hd (e1.trans hg.symm)
end
end Go.Proofs.YtoohbgjfhchnmaaDoor
