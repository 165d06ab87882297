/- blocks of rows that are made, copied and set -/
import Derived.Test.YtnkpigibjicmaaaDoorVe
import Derived.Laws.CopyOwn
import Derived.Laws.MakeOwn
import Derived.Laws.Rows
namespace Go.Proofs.YtnkpigibjicmaaaDoor
open Go.RowKit Go.Maps
/-- a block of n rows of k cells, of which the first rows are known -/
def BlkR (w : World) (g k n : Nat) (T : TypeId) (L : List (List Value)) : Prop := ∃ cs : Array Value, w.heap[g]? = some (.cells cs T (0, 0)) ∧ cs.size = n * k ∧ ∀ (j : Nat) x, L[j]? = some x → ∀ (i : Nat) y, x[i]? = some y → cs[j * k + i]? = some y
theorem BlkR.lt {w : World} {g k n : Nat} {T : TypeId} {L : List (List Value)} (h : BlkR w g k n T L) : g < w.heap.size := by
  obtain ⟨cs, h1, -⟩ := h
  exact (Array.getElem?_eq_some_iff.1 h1).1
theorem BlkR.cell {w : World} {g k n : Nat} {T : TypeId} {L : List (List Value)} (h : BlkR w g k n T L) (i : Nat) (hi : i < n * k) : ∃ y, w.cell? ⟨g, i, none⟩ = some y := by
  obtain ⟨cs, h1, h2, -⟩ := h
  exact ⟨_, blk_cellx h1 i _ (Array.getElem?_eq_getElem (by omega))⟩
theorem BlkR.fr {w : World} {g k n : Nat} {T : TypeId} {L : List (List Value)} (h : BlkR w g k n T L) (i : Nat) : w.frozen? ⟨g, i, none⟩ = false := by
  obtain ⟨cs, h1, -⟩ := h
  simp [World.frozen?, h1]
theorem BlkR.at {w : World} {g k n : Nat} {T : TypeId} {L : List (List Value)} (h : BlkR w g k n T L) {j : Nat} {x : List Value} (hj : L[j]? = some x) {i : Nat} {y : Value} (hi : x[i]? = some y) : w.cell? ⟨g, j * k + i, none⟩ = some y := by
  obtain ⟨cs, h1, -, h2⟩ := h
  exact blk_cellx h1 _ _ (h2 j x hj i y hi)
theorem BlkR.rows {w : World} {g k n : Nat} {T : TypeId} {L : List (List Value)} (h : BlkR w g k n T L) (hn : L.length = n) (hm : n ≤ maxLen) : RowsAt w (.slice (some ⟨g, 0, none⟩) n n) k L := by
  subst hn
  refine .inr ⟨g, 0, L.length, rfl, Nat.le_refl _, hm, h.lt, fun j x hj i y hi => ?_⟩
  rw [Nat.zero_add]
  exact h.at hj hi
theorem BlkR.below {w w' : World} {g k n : Nat} {T : TypeId} {L : List (List Value)} (h : BlkR w g k n T L) (hb : Below w.heap.size w w') : BlkR w' g k n T L := by
  have hl := h.lt
  obtain ⟨cs, h1, h2⟩ := h
  exact ⟨cs, (hb.block g hl).trans h1, h2⟩
theorem BlkR.made (w : World) (z : Array Value) (k n : Nat) (T : TypeId) : BlkR (w.alloc (.cells (madeCells z (n * k)) T)) w.heap.size k n T [] := ⟨_, heap_alloc_new w _, size_madeCells _ _, fun j x hj => by simp at hj⟩
theorem blk_set {w : World} {g : Nat} {cs : Array Value} {T : TypeId} (h : w.heap[g]? = some (.cells cs T (0, 0))) (i : Nat) (v : Value) : (w.setCell ⟨g, i, none⟩ v).heap[g]? = some (.cells (cs.setIfInBounds i v) T (0, 0)) := by
  rw [setCell_eq_setRow w g i cs T (0, 0) v h]
  exact setRow_heap w g cs _ T _ h
/-- one cell of a known row is set -/
theorem BlkR.set {w : World} {g k n : Nat} {T : TypeId} {L : List (List Value)} (h : BlkR w g k n T L) (hk : ∀ x ∈ L, x.length = k) (j i : Nat) (hi : i < k) (v : Value) {x : List Value} (hx : L[j]? = some x) : BlkR (w.setCell ⟨g, j * k + i, none⟩ v) g k n T (L.set j (x.set i v)) := by
  obtain ⟨cs, h1, h2, h3⟩ := h
  refine ⟨_, blk_set h1 _ v, by simpa using h2, fun a y ha b u hb => ?_⟩
  have hxk := hk x (List.mem_of_getElem? hx)
  by_cases e : a = j
  · subst e
    rw [List.getElem?_set_self (List.getElem?_eq_some_iff.1 hx).1] at ha
    cases ha
    by_cases e2 : b = i
    · subst e2
      rw [List.getElem?_set_self (by omega)] at hb
      cases hb
      rw [Array.getElem?_setIfInBounds_self_of_lt]
      have := h3 a x hx b (x[b]'(by omega)) (List.getElem?_eq_getElem (by omega))
      exact (Array.getElem?_eq_some_iff.1 this).1
    · rw [List.getElem?_set_ne (Ne.symm e2)] at hb
      rw [Array.getElem?_setIfInBounds_ne (by omega)]
      exact h3 a x hx b u hb
  · rw [List.getElem?_set_ne (Ne.symm e)] at ha
    have hb2 : b < k := by
      have := (List.getElem?_eq_some_iff.1 hb).1
      rw [hk y (List.mem_of_getElem? ha)] at this; exact this
    have hne : j * k + i ≠ a * k + b := by
      intro h
      rcases Nat.lt_or_gt_of_ne e with hl | hl
      · have : (a + 1) * k ≤ j * k := Nat.mul_le_mul_right k hl
        rw [Nat.add_mul] at this; omega
      · have : (j + 1) * k ≤ a * k := Nat.mul_le_mul_right k hl
        rw [Nat.add_mul] at this; omega
    rw [Array.getElem?_setIfInBounds_ne hne]
    exact h3 a y ha b u hb
/-- the next row of two cells is set -/
theorem BlkR.push2 {w : World} {g n : Nat} {T : TypeId} {L : List (List Value)} (h : BlkR w g 2 n T L) (hk : ∀ x ∈ L, x.length = 2) (j : Nat) (hj : L.length = j) (hn : j < n) (u v : Value) : BlkR ((w.setCell ⟨g, j * 2, none⟩ u).setCell ⟨g, j * 2 + 1, none⟩ v) g 2 n T (L ++ [[u, v]]) := by
  obtain ⟨cs, h1, h2, h3⟩ := h
  refine ⟨_, blk_set (blk_set h1 _ u) _ v, by simpa using h2, fun a y ha b z hb => ?_⟩
  by_cases e : a < L.length
  · rw [List.getElem?_append_left e] at ha
    have hb2 : b < 2 := by
      have := (List.getElem?_eq_some_iff.1 hb).1
      rw [hk y (List.mem_of_getElem? ha)] at this; exact this
    rw [Array.getElem?_setIfInBounds_ne (by omega), Array.getElem?_setIfInBounds_ne (by omega)]
    exact h3 a y ha b z hb
  · rw [List.getElem?_append_right (by omega)] at ha
    obtain rfl : a = j := by
      have := (List.getElem?_eq_some_iff.1 ha).1
      simp at this; omega
    rw [hj, Nat.sub_self] at ha
    simp at ha
    subst ha
    match b, hb with
    | 0, hb =>
      simp at hb; subst hb
      rw [Array.getElem?_setIfInBounds_ne (by omega), Nat.add_zero, Array.getElem?_setIfInBounds_self_of_lt (by omega)]
    | 1, hb =>
      simp at hb; subst hb
      rw [Array.getElem?_setIfInBounds_self_of_lt (by simp; omega)]
    | b + 2, hb => simp at hb
theorem make_rows {ts T : TypeId} {z : Value} {k bytes : Nat} (rt : RT ts T z k bytes) (n : Nat) (hn : n ≤ 1048576) (w : World) :
    (Instr.makeSlice ts (.int .i64 (n : Int)) (.int .i64 (n : Int))).run Tryd.prog w = .ok (.slice (some ⟨w.heap.size, 0, none⟩) n n) (w.alloc (.cells (madeCells z.cells (n * k)) T)) := by
  obtain ⟨i0, hi, hz0, hz1, hz2⟩ := info_parts rt.inf
  have hb : (i0.bytes : Int) * (n : Int) ≤ 281474976710656 := by
    have h : i0.bytes * n ≤ 1024 * 1048576 := Nat.mul_le_mul (by rw [hz2]; exact rt.by_) hn
    have h2 : ((i0.bytes * n : Nat) : Int) ≤ 281474976710656 := by omega
    rwa [Int.natCast_mul] at h2
  have hr := run_make (P := Tryd.prog) w ts T i0 z rt.und hi hz0 .i64 .i64 n n (by omega) (by omega) hb (by omega)
  simp only [Int.toNat_natCast] at hr
  rw [hz1] at hr
  exact hr
/-- the cells of rows one after the other -/
theorem RowsAt.flat {w : World} {g o n cap k : Nat} {l : List (List Value)} (h : RowsAt w (.slice (some ⟨g, o, none⟩) n cap) k l) (hkp : 0 < k) (hk : ∀ x ∈ l, x.length = k) (j : Nat) (u : Value) (hj : l.flatten[j]? = some u) : w.cell? ((⟨g, o, none⟩ : Addr).add j) = some u := by
  rcases h with ⟨rfl, -⟩ | ⟨g2, o2, cap2, e, -, -, -, hc⟩
  · simp at hj
  · cases e
    rw [Go.WideShapes.add_plain]
    have hjl : j < l.length * k := by rw [← flat_len hk]; exact (List.getElem?_eq_some_iff.1 hj).1
    have hd : j / k < l.length := Nat.div_lt_of_lt_mul (by rw [Nat.mul_comm]; exact hjl)
    obtain ⟨xx, hxx⟩ : ∃ xx, l[j / k]? = some xx := ⟨_, List.getElem?_eq_getElem hd⟩
    have hm : j % k < xx.length := by rw [hk xx (List.mem_of_getElem? hxx)]; exact Nat.mod_lt _ hkp
    obtain ⟨y, hy⟩ : ∃ y, xx[j % k]? = some y := ⟨_, List.getElem?_eq_getElem hm⟩
    have e := flat_at (j / k) hk hxx hy
    have ej : j / k * k + j % k = j := by rw [Nat.mul_comm]; exact Nat.div_add_mod j k
    rw [ej, hj] at e
    have := hc (j / k) xx hxx (j % k) y hy
    rw [Nat.add_assoc, ej] at this
    rw [this, Option.some.inj e]
/-- a list of rows is copied into a block of the same size -/
theorem wpList_copy_rows {ts T : TypeId} {z : Value} {k bytes : Nat} (rt : RT ts T z k bytes) {ops : Array Oper} {rest : List Oper} {o : Oper} {a : Act} {Q : Exit → Act → World → Prop} (hgd : o.guard = none) (d s : Operand)
    (ho : o.op = .call { callee := .builtin .copy, args := #[d, s], argTypes := #[ts, ts] }) (g n : Nat) (v : Value) (l : List (List Value)) (w : World) (hg : BlkR w g k n T []) (hv : RowsAt w v k l) (hn : l.length = n) (hk : ∀ x ∈ l, x.length = k) (h1 : ∀ x ∈ l, ∀ u ∈ x, u.oneCell' = true)
    (hd : a.eval d = .slice (some ⟨g, 0, none⟩) n n) (hs : a.eval s = v)
    (h : ∀ w', Hid (BlkR w' g k n T l) → Hid (Below g w w') → wpList Tryd.prog ops Q rest (a.put o.dst (goInt n)) w') : wpList Tryd.prog ops Q (o :: rest) a w := by
  obtain ⟨i0, hi, hz0, hz1, hz2⟩ := info_parts rt.inf
  refine wpList_plain hgd fun K hK => ?_
  obtain ⟨cs, c1, c2, c3⟩ := hg
  rcases hv with ⟨rfl, ad, rfl⟩ | ⟨g2, o2, cap, rfl, e1, e2, hg2, hc⟩
  · obtain rfl : n = 0 := by simpa using hn.symm
    have hrun : (Builtin.copy_ #[ts, ts] o.type #[  .slice (some ⟨g, 0, none⟩) 0 0, .slice ad 0 0]).run Tryd.prog w = .ok (goInt 0) w := by
      cases ad <;> simp [loadCells, loadCellsFrom, Builtin.copy_, run_underlying rt.und, Builtin.lenOf, Builtin.firstCells, sizeOf, typeInfo, hi, storeCells]
    have hf := h w (Lib.hid ⟨cs, c1, c2, fun j x hj => by simp at hj⟩) (Lib.hid (Below.refl _ _))
    unfold Oper.wp
    simp [execOp, ho, resolve, invoke, builtin, hd, hs, hrun, Result.andThen]
    exact hK _ _ hf
  · obtain ⟨F, hF⟩ : ∃ F, l.flatten = F := ⟨_, rfl⟩
    have hfl : F.length = n * k := by rw [← hF, flat_len hk, hn]
    have hsrc : ∀ j u, F[j]? = some u → w.cell? ((⟨g2, o2, none⟩ : Addr).add j) = some u := by
      rw [← hF]
      exact RowsAt.flat (w := w) (g := g2) (o := o2) (n := l.length) (cap := cap) (.inr ⟨g2, o2, cap, rfl, e1, e2, hg2, hc⟩) rt.pos hk
    have h1F : ∀ u ∈ F, u.oneCell' = true := by
      intro u hu
      rw [← hF] at hu
      obtain ⟨xx, hxx, hu⟩ := List.mem_flatten.1 hu
      exact h1 xx hxx u hu
    have hfa : ∀ (j : Nat) x, l[j]? = some x → ∀ (i : Nat) y, x[i]? = some y → F[j * k + i]? = some y := by
      rw [← hF]; exact fun j x hj i y hi => flat_at j hk hj hi
    clear hF
    rw [hn] at hs e1
    have hl := run_loadCells_list (P := Tryd.prog) w ⟨g2, o2, none⟩ F hsrc
    rw [hfl] at hl
    have hst := run_storeCells_at Tryd.prog g 0 T F 0 cs w c1 (by omega) h1F
    have hrun : (Builtin.copy_ #[ts, ts] o.type #[.slice (some ⟨g, 0, none⟩) n n, .slice (some ⟨g2, o2, none⟩) n cap]).run Tryd.prog w = .ok (goInt n) (w.setRow g (cs.toList.take (0 + 0) ++ F ++ cs.toList.drop (0 + 0 + F.length)).toArray) := by
      simp [Builtin.copy_, run_underlying rt.und, Builtin.lenOf, Builtin.firstCells, sizeOf, typeInfo, hi, hz1, hl, hst]
    have hf := h (w.setRow g (cs.toList.take (0 + 0) ++ F ++ cs.toList.drop (0 + 0 + F.length)).toArray) (Lib.hid ⟨_, setRow_heap w g cs _ T _ c1, by rw [List.size_toArray, List.length_append, List.length_append, List.length_drop, List.take_zero, List.length_nil, hfl, show cs.toList.length = n * k by simpa using c2]; omega, fun j x hj i y hi => by
      have := hfa j x hj i y hi
      have hlt := (List.getElem?_eq_some_iff.1 this).1
      simp only [List.take_zero, List.nil_append, Nat.zero_add, List.getElem?_toArray]
      rw [List.getElem?_append_left hlt]
      exact this⟩) (Lib.hid (below_setRow (Below.refl _ _) (Nat.le_refl _) _))
    obtain ⟨W, hW⟩ : ∃ W, w.setRow g (cs.toList.take (0 + 0) ++ F ++ cs.toList.drop (0 + 0 + F.length)).toArray = W := ⟨_, rfl⟩
    rw [hW] at hrun hf
    unfold Oper.wp
    simp [execOp, ho, resolve, invoke, builtin, hd, hs, hrun, Result.andThen]
    exact hK _ _ hf
end Go.Proofs.YtnkpigibjicmaaaDoor
