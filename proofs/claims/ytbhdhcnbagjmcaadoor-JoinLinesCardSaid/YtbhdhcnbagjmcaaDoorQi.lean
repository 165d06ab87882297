/- walks: the default locale of the program -/
import Derived.Test.YtbhdhcnbagjmcaaDoorQh
namespace Go.Proofs.YtbhdhcnbagjmcaaDoor
open Go.RowKit Go.Maps
open Lcl
/-- the weights, the first q of which are written; the result's block is untouched -/
structure SI (w wr : World) (q : Nat) : Prop where
  row : wr.ownsRow (w.heap.size + 1) 3 1 (.slice (some ⟨w.heap.size + 1, 0, none⟩) 256 256) 256 (ints (wtab q) ++ List.replicate (256 - q) (.int .i64 0))
  res : wr.heap[w.heap.size]? = some (.cells zrow 30 (0, 0))
  bel : Below w.heap.size w wr
theorem ints_len (l : List Int) : (ints l).length = l.length := by simp [ints]
theorem SI.cell {w wr : World} {q : Nat} (h : SI w wr q) (hq : q < 256) : wr.cell? ⟨w.heap.size + 1, q, none⟩ = some (.int .i64 0) ∧ wr.frozen? ⟨w.heap.size + 1, q, none⟩ = false := by
  refine ⟨?_, h.row.frozenAt _⟩
  have hl : (ints (wtab q)).length = q := by rw [ints_len, wtab_len]
  rw [h.row.cellAt q (by omega), List.getElem?_append_right (by omega), hl, Nat.sub_self, List.getElem?_replicate, if_pos (by omega)]
theorem SI.put {w wr : World} {q : Nat} (h : SI w wr q) (hq : q < 256) : SI w (wr.setCell ⟨w.heap.size + 1, q, none⟩ (.int .i64 q)) (q + 1) := by
  refine ⟨?_, ?_, h.bel.setCell (Nat.le_succ _) _⟩
  · have := (h.row.stored q (.int .i64 q)).1
    have hl : (ints (wtab q)).length = q := by rw [ints_len, wtab_len]
    have e : (ints (wtab q) ++ List.replicate (256 - q) (Value.int .i64 0)).set q (.int .i64 q) = ints (wtab (q + 1)) ++ List.replicate (256 - (q + 1)) (.int .i64 0) := by
      rw [List.set_append_right _ _ (by omega), hl, Nat.sub_self, show 256 - q = (256 - (q + 1)) + 1 by omega, List.replicate_succ, List.set_cons_zero, ← wtab_snoc, ← ints_snoc, List.append_assoc]
      rfl
    rw [e] at this
    exact this
  · rw [heap_setCell_other _ _ _ _ (by show w.heap.size ≠ w.heap.size + 1; omega)]; exact h.res
theorem made_i64 : (madeCells (Value.int IntKind.i64 0).cells (256 * 1)).toList = List.replicate 256 (Value.int .i64 0) := toList_madeCells_one _ _
theorem SI.later {w wr w2 : World} {q : Nat} (h : SI w wr q) (hb : Below wr.heap.size wr w2) : SI w w2 q := by
  refine ⟨?_, ?_, h.bel.trans (hb.mono h.bel.size)⟩
  · refine ⟨h.row.1, ?_⟩
    rcases h.row.2 with hn | ⟨g, cap, cur, e, hB, hg, rest⟩
    · exact .inl hn
    · exact .inr ⟨g, cap, cur, e, hB, by rw [hb.block g (Array.getElem?_eq_some_iff.1 hg).1]; exact hg, rest⟩
  · rw [hb.block _ (Array.getElem?_eq_some_iff.1 h.res).1]; exact h.res
theorem SI.full {w wr : World} (h : SI w wr 256) : wr.ownsRow (w.heap.size + 1) 3 1 (.slice (some ⟨w.heap.size + 1, 0, none⟩) 256 256) (wtab 256).length (ints (wtab 256)) := by
  have := h.row
  rw [Nat.sub_self, List.replicate_zero, List.append_nil] at this
  rw [wtab_len]; exact this
set_option maxRecDepth 100000 in
set_option maxHeartbeats 4000000 in
theorem default_any (w : World) : Calls Tryd.prog 61 #[] w fun e w' => ∃ g, e = .returned (lval ⟨#[112, 111, 115, 105, 120]⟩ (.slice (some ⟨g, 0, none⟩) 256 256) ⟨(ltab 256).toArray⟩ ⟨(utab 256).toArray⟩ (.slice none 0 0) (.slice none 0 0)) ∧ Hid (IRow w' w.heap.size (.slice (some ⟨g, 0, none⟩) 256 256) (wtab 256)) ∧ Hid (Below w.heap.size w w') := by
  obtain ⟨i0, hi, hz0, hz1, hz2⟩ := info_parts info_i64
  have W1 : (w.alloc (.cells zrow 30)).heap.size = w.heap.size + 1 := World.size_alloc _ _
  go_enter Tryd.func61, Tryd.ntmps61
  go_wp2_with (first
    | (at_make; refine wpList_make_full _ rfl _ _ 26 rfl (w.heap.size + 1) 3 i0 (.int .i64 0) 1 Tryd.underlying26 hi hz0 hz1 .i64 .i64 256 256 256 rfl rfl rfl rfl (by rw [hz2]; omega) (by unfold maxLen; omega) (by rw [W1]; exact Nat.le_refl _) ?_; intro w0 hown0 hgrow0))
  have S0 : Hid (SI w w0 0) := Lib.hid ⟨by rw [made_i64, W1] at hown0; exact hown0, by
      rw [hgrow0.block _ (by rw [W1]; omega) (fun e => by cases e)]; exact heap_alloc_new _ _, ((Below.refl _ _).alloc (Nat.le_refl _) _).grown hgrow0 (by rw [W1]; omega) (fun k hk => by cases hk)⟩
  clear hown0 hgrow0 W1
  go_wp2_with fail
  go_loopw [6] (fun i wr => ∃ q : Nat, q ≤ 256 ∧ i = .int .i64 q ∧ Hid (SI w wr q)) (fun i _ => 256 - (intOf i).toNat)
  case atStart => exact ⟨0, Nat.zero_le _, rfl, S0⟩
  case round =>
    clear S0
    obtain ⟨q, hq, rfl, RN⟩ := hrel
    by_cases hlt : q < 256
    · obtain ⟨c0, f0⟩ := RN.out.cell hlt
      have RN2 := Lib.hid (RN.out.put hlt)
      go_wp2
      go_roundw
      case rel => exact ⟨q + 1, by omega, by go_num, RN2⟩
      case measure => simp [intOf]; omega
    · have eq : q = 256 := by omega
      subst eq
      go_wp2_with fail
      refine (shifted_low _).mono ?_
      rintro e w2 ⟨rfl, hb2⟩
      have R2 := Lib.hid (RN.out.later hb2)
      clear hb2 RN
      go_wp2_with fail
      refine (shifted_upp _).mono ?_
      rintro e w3 ⟨rfl, hb3⟩
      have R3 := Lib.hid (R2.out.later hb3)
      clear hb3 R2
      obtain ⟨d0, d1, d2, d3, d4, d5⟩ := lrow_cells R3.out.res
      have e0 := lrow_frozen R3.out.res 0
      have e1 := lrow_frozen R3.out.res 1
      have e2 := lrow_frozen R3.out.res 2
      have e3 := lrow_frozen R3.out.res 3
      have e4 := lrow_frozen R3.out.res 4
      have e5 := lrow_frozen R3.out.res 5
      go_wp2_with fail
      have blk8 := six_set (a := .string ⟨#[112, 111, 115, 105, 120]⟩) (b := .slice (some ⟨w.heap.size + 1, 0, none⟩) 256 256) (c := .string ⟨(ltab 256).toArray⟩) (d := .string ⟨(utab 256).toArray⟩) (e := .slice none 0 0) (f := .slice none 0 0) R3.out.res
      obtain ⟨r0, r1, r2, r3, r4, r5⟩ := lrow_cells blk8
      have rows := row_base (row_set (g := w.heap.size) (j := 5) (u := .slice none 0 0) (row_set (g := w.heap.size) (j := 4) (u := .slice none 0 0) (row_set (g := w.heap.size) (j := 3) (u := .string ⟨(utab 256).toArray⟩) (row_set (g := w.heap.size) (j := 2) (u := .string ⟨(ltab 256).toArray⟩) (row_set (g := w.heap.size) (j := 1) (u := .slice (some ⟨w.heap.size + 1, 0, none⟩) 256 256) (row_set (g := w.heap.size) (j := 0) (u := .string ⟨#[112, 111, 115, 105, 120]⟩) R3.out.full (by omega)) (by omega)) (by omega)) (by omega)) (by omega)) (by omega)) (Nat.le_succ w.heap.size)
      have BZ := (below_set (g := w.heap.size) (j := 5) (u := .slice none 0 0) (below_set (g := w.heap.size) (j := 4) (u := .slice none 0 0) (below_set (g := w.heap.size) (j := 3) (u := .string ⟨(utab 256).toArray⟩) (below_set (g := w.heap.size) (j := 2) (u := .string ⟨(ltab 256).toArray⟩) (below_set (g := w.heap.size) (j := 1) (u := .slice (some ⟨w.heap.size + 1, 0, none⟩) 256 256) (below_set (g := w.heap.size) (j := 0) (u := .string ⟨#[112, 111, 115, 105, 120]⟩) R3.out.bel (by omega)) (by omega)) (by omega)) (by omega)) (by omega)) (by omega))
      refine bodyPost_ret (v := lval ⟨#[112, 111, 115, 105, 120]⟩ (.slice (some ⟨w.heap.size + 1, 0, none⟩) 256 256) ⟨(ltab 256).toArray⟩ ⟨(utab 256).toArray⟩ (.slice none 0 0) (.slice none 0 0)) (by simp [results, Tryd.results61, go_sem, r0, r1, r2, r3, r4, r5]) rfl ⟨w.heap.size + 1, rfl, Lib.hid rows, Lib.hid BZ⟩
end Go.Proofs.YtbhdhcnbagjmcaaDoor
