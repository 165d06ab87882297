/- walks: Compare of the program's locale -/
import Derived.Test.YtbhdhcnbagjmcaaDoorZc
namespace Go.Proofs.YtbhdhcnbagjmcaaDoor
open Go.RowKit Go.Maps Go.WideMaps
open Lcl
set_option maxRecDepth 100000 in
set_option maxHeartbeats 4000000 in
theorem weights_any (n lo up : ByteArray) (v1 v4 v5 : Value) (W : List Int) (C : List Cl) (E : List El) (s : ByteArray) (lp : Nat) (w : World) (hb : LBlk w lp (.string n) v1 (.string lo) (.string up) v4 v5) (hL : LocAt w v1 v4 v5 W C E) (hW : W.length = 256) (hE : elsOk E = true) (hs : s.size ≤ 1048576) :
    Calls Tryd.prog 45 #[.string s, .pointer (some ⟨lp, 0, none⟩)] w fun e w' => ∃ v, e = .returned v ∧ Hid (IRow w' (w.heap.size + 1) v (wts W (fstE (E.map El.pr)) s.data.toList)) ∧ Hid (Below w.heap.size w w') := by
  have s1 : (w.alloc (.cells #[.slice none 0 0] 26)).heap.size = w.heap.size + 1 := World.size_alloc _ _
  have HO : Hid (OutC w (w.alloc (.cells #[.slice none 0 0] 26)) w.heap.size (.slice none 0 0) []) := Lib.hid ⟨heap_alloc_new _ _, row_empty _ _, (Below.refl _ _).alloc (Nat.le_refl _) _⟩
  have CE := Lib.hid (each_any n lo up v1 v4 v5 W C E s w _ hL hW hE hs HO.out)
  obtain ⟨c0, c1, c2, c3, c4, c5⟩ := hb.below ((Below.refl w.heap.size w).alloc (Nat.le_refl _) (.cells #[.slice none 0 0] 26))
  clear hb hL hW hE hs s1
  go_enter Tryd.func45, Tryd.ntmps45
  go_wp2_with fail
  refine CE.out.mono ?_
  rintro e w1 ⟨v, rfl, O1⟩
  obtain ⟨d0, d1⟩ := one_cell O1.out.blk
  go_wp2_with fail
  go_ret
  exact ⟨v, rfl, Lib.hid O1.out.row, Lib.hid O1.out.bel⟩
/-- rows that hold a number each do not lie in a block without numbers -/
theorem rows_off {w w' : World} {q : Nat} {v : Value} {k : Nat} {l : List (List Value)} (h : RowsAt w v k l) (hoff : ∀ g, g ≠ q → w'.heap[g]? = w.heap[g]?) (hs : w.heap.size ≤ w'.heap.size)
    (hno : ∀ j K n, w.cell? ⟨q, j, none⟩ ≠ some (Value.int K n)) (hint : ∀ x ∈ l, ∃ (i : Nat) (K : IntKind) (n : Int), x[i]? = some (Value.int K n)) : RowsAt w' v k l := by
  obtain ⟨a, cap, rfl, h1, h2, h3⟩ := h
  refine ⟨a, cap, rfl, h1, h2, ?_⟩
  rcases h3 with h3 | ⟨g, o, rfl, hg, hc⟩
  · exact .inl h3
  · cases l with
    | nil => exact .inl rfl
    | cons x r =>
      have hne : g ≠ q := by
        intro e
        subst e
        obtain ⟨i, K, n, hi⟩ := hint x List.mem_cons_self
        exact hno _ K n (hc 0 x rfl i _ hi)
      exact .inr ⟨g, o, rfl, by omega, fun j x hj i y hi => (World.cell?_of_block (w := w) (hoff g hne)).trans (hc j x hj i y hi)⟩
theorem six_none {w : World} {q : Nat} {a b c : ByteArray} {e f g : Value} {T : TypeId} (h : w.heap[q]? = some (.cells #[.string a, e, .string b, .string c, f, g] T (0, 0))) (he : ∀ K n, e ≠ .int K n) (hf : ∀ K n, f ≠ .int K n) (hg : ∀ K n, g ≠ .int K n) :
    ∀ j K n, w.cell? ⟨q, j, none⟩ ≠ some (.int K n) := by
  intro j K n hh
  simp only [World.cell?, h] at hh
  match j, hh with
  | 0, hh => simp at hh
  | 1, hh => simp at hh; exact he K n hh
  | 2, hh => simp at hh
  | 3, hh => simp at hh
  | 4, hh => simp at hh; exact hf K n hh
  | 5, hh => simp at hh; exact hg K n hh
  | j + 6, hh => simp at hh
theorem loc_off {w w' : World} {q : Nat} {v1 v4 v5 : Value} {W : List Int} {C : List Cl} {E : List El} (h : LocAt w v1 v4 v5 W C E) (hoff : ∀ g, g ≠ q → w'.heap[g]? = w.heap[g]?) (hs : w.heap.size ≤ w'.heap.size)
    (hno : ∀ j K n, w.cell? ⟨q, j, none⟩ ≠ some (.int K n)) : LocAt w' v1 v4 v5 W C E := by
  refine ⟨rows_off h.r1 hoff hs hno fun x hx => ?_, rows_off h.r4 hoff hs hno fun x hx => ?_, rows_off h.r5 hoff hs hno fun x hx => ?_, h.z4, h.z5⟩
  · obtain ⟨n, _, rfl⟩ := List.mem_map.1 hx; exact ⟨0, _, _, rfl⟩
  · obtain ⟨n, _, rfl⟩ := List.mem_map.1 hx; exact ⟨1, _, _, rfl⟩
  · obtain ⟨n, _, rfl⟩ := List.mem_map.1 hx; exact ⟨1, _, _, rfl⟩
/-- the weights, the elements of the locale that counts -/
theorem ok_facts (n : ByteArray) (W : List Int) (lo up : ByteArray) (C : List Cl) (E : List El) : (eL (okL n W lo up C E) W (wtab 256)).length = 256 ∧ elsOk (eL (okL n W lo up C E) E []) = true := by
  cases h : okL n W lo up C E with
  | false => exact ⟨wtab_len 256, rfl⟩
  | true =>
    refine ⟨ok_len h, ?_⟩
    unfold okL at h
    simp only [Bool.and_eq_true] at h
    exact h.2.2.2.2
/-- the comparison of two strings in a locale -/
def locC (n : ByteArray) (W : List Int) (lo up : ByteArray) (C : List Cl) (E : List El) (a b : ByteArray) : Int :=
  cmpS (eL (okL n W lo up C E) W (wtab 256)) (fstE ((eL (okL n W lo up C E) E []).map El.pr)) a.data.toList b.data.toList
theorem ordI_drop : ∀ (k : Nat) (X Y : List Int), X.take k = Y.take k → k ≤ X.length → k ≤ Y.length → ordI X Y = ordI (X.drop k) (Y.drop k)
  | 0, _, _, _, _, _ => rfl
  | k + 1, [], _, _, h, _ => by simp at h
  | k + 1, _ :: _, [], _, _, h => by simp at h
  | k + 1, x :: X, y :: Y, h, h1, h2 => by
    rw [List.take_succ_cons, List.take_succ_cons] at h
    obtain ⟨rfl, h'⟩ := List.cons.inj h
    rw [List.drop_succ_cons, List.drop_succ_cons, ← ordI_drop k X Y h' (by simpa using h1) (by simpa using h2)]
    show (if x < x then (-1 : Int) else if x < x then 1 else ordI X Y) = _
    rw [if_neg (by omega), if_neg (by omega)]
theorem ordI_at {X Y : List Int} {k : Nat} {x y : Int} (h : X.take k = Y.take k) (hx : X[k]? = some x) (hy : Y[k]? = some y) : (x < y → ordI X Y = -1) ∧ (y < x → ordI X Y = 1) ∧ (x = y → X.take (k + 1) = Y.take (k + 1)) := by
  obtain ⟨h1, e1⟩ := List.getElem?_eq_some_iff.1 hx
  obtain ⟨h2, e2⟩ := List.getElem?_eq_some_iff.1 hy
  have e := ordI_drop k X Y h (by omega) (by omega)
  rw [List.drop_eq_getElem_cons h1, List.drop_eq_getElem_cons h2, e1, e2] at e
  refine ⟨fun hl => ?_, fun hl => ?_, fun hl => ?_⟩
  · rw [e]; unfold ordI; rw [if_pos hl]
  · rw [e]; unfold ordI; rw [if_neg (by omega), if_pos hl]
  · rw [List.take_add_one, List.take_add_one, hx, hy, h, hl]
theorem ordI_end {X Y : List Int} {k : Nat} (h : X.take k = Y.take k) (hk : k ≤ X.length) (hk2 : k ≤ Y.length) (he : X.length ≤ k ∨ Y.length ≤ k) : (X.length < Y.length → ordI X Y = -1) ∧ (Y.length < X.length → ordI X Y = 1) ∧ (X.length = Y.length → ordI X Y = 0) := by
  have e := ordI_drop k X Y h hk hk2
  refine ⟨fun hl => ?_, fun hl => ?_, fun hl => ?_⟩
  · rw [e, List.drop_of_length_le (by omega : X.length ≤ k), List.drop_eq_getElem_cons (by omega : k < Y.length)]; rfl
  · rw [e, List.drop_of_length_le (by omega : Y.length ≤ k), List.drop_eq_getElem_cons (by omega : k < X.length)]; rfl
  · rw [e, List.drop_of_length_le (by omega : X.length ≤ k), List.drop_of_length_le (by omega : Y.length ≤ k)]; rfl
end Go.Proofs.YtbhdhcnbagjmcaaDoor
