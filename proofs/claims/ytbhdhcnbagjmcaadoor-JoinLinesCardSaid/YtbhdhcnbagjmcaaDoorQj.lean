/- walks: the locale itself, or the default one -/
import Derived.Test.YtbhdhcnbagjmcaaDoorQi
import Derived.Laws.CopyOwn
namespace Go.Proofs.YtbhdhcnbagjmcaaDoor
open Go.RowKit Go.Maps
open Lcl
def eS (ok : Bool) (s : ByteArray) (t : List UInt8) : ByteArray := if ok then s else ⟨t.toArray⟩
def eL {α : Type} (ok : Bool) (l d : List α) : List α := if ok then l else d
/-- what 'valid' returns -/
def VOut (ok : Bool) (W : List Int) (lo up : ByteArray) (C : List Cl) (E : List El) (w : World) (e : Ending) (w' : World) : Prop :=
  ∃ n v1 v4 v5, e = .returned (lval n v1 (eS ok lo (ltab 256)) (eS ok up (utab 256)) v4 v5) ∧ Hid (LocAt w' v1 v4 v5 (eL ok W (wtab 256)) (eL ok C []) (eL ok E [])) ∧ Hid (Below w.heap.size w w')
theorem vout_is {ok : Bool} {W : List Int} {lo up : ByteArray} {C : List Cl} {E : List El} {w w' : World} {e : Ending} (h : VOut ok W lo up C E w e w') :
    ∃ n v1 v4 v5, e = .returned (lval n v1 (eS ok lo (ltab 256)) (eS ok up (utab 256)) v4 v5) ∧ Hid (LocAt w' v1 v4 v5 (eL ok W (wtab 256)) (eL ok C []) (eL ok E [])) ∧ Hid (Below w.heap.size w w') := h
theorem rows_empty (w : World) (k : Nat) : RowsAt w (.slice none 0 0) k [] := ⟨none, 0, rfl, Nat.le_refl _, by unfold maxLen; omega, .inl rfl⟩
/-- a row of the call's own reads as rows -/
theorem rows_own {w : World} {B : Nat} {v : Value} {l : List Int} (h : IRow w B v l) : RowsAt w v 1 (l.map fun n => [.int .i64 n]) := by
  rcases h.2 with ⟨rfl, hn⟩ | ⟨g, cap, cur, rfl, hb, hg, hn, hm, hs, ht⟩
  · have h0 : l = [] := List.eq_nil_of_length_eq_zero hn
    subst h0
    exact rows_empty w 1
  · refine ⟨some ⟨g, 0, none⟩, cap, by rw [List.length_map], by rw [List.length_map]; exact hn, hm, .inr ⟨g, 0, rfl, (Array.getElem?_eq_some_iff.1 hg).1, fun j x hj i y hi => ?_⟩⟩
    rw [List.getElem?_map] at hj
    cases hl : l[j]? with
    | none => rw [hl] at hj; cases hj
    | some z =>
      rw [hl] at hj
      cases hj
      have hj' : j < l.length := (List.getElem?_eq_some_iff.1 hl).1
      have hi0 : i = 0 := by
        have := (List.getElem?_eq_some_iff.1 hi).1
        simp at this; omega
      subst hi0
      cases hi
      rw [Nat.zero_add, Nat.mul_one, Nat.add_zero, h.cellAt j (by omega)]
      simp [ints, hl]
theorem rows_block {w : World} {g : Nat} {T : TypeId} {l : List Int} (h : w.heap[g]? = some (.cells (ints l).toArray T (0, 0))) (hl : l.length ≤ maxLen) : RowsAt w (.slice (some ⟨g, 0, none⟩) l.length l.length) 1 (l.map fun n => [.int .i64 n]) := by
  refine ⟨some ⟨g, 0, none⟩, l.length, by rw [List.length_map], by rw [List.length_map]; exact Nat.le_refl _, hl, .inr ⟨g, 0, rfl, (Array.getElem?_eq_some_iff.1 h).1, fun j x hj i y hi => ?_⟩⟩
  rw [List.getElem?_map] at hj
  cases hz : l[j]? with
  | none => rw [hz] at hj; cases hj
  | some z =>
    rw [hz] at hj
    cases hj
    have hi0 : i = 0 := by
      have := (List.getElem?_eq_some_iff.1 hi).1
      simp at this; omega
    subst hi0
    cases hi
    rw [Nat.zero_add, Nat.mul_one, Nat.add_zero]
    simp [World.cell?, h, ints, hz]
theorem default_is (w : World) : Calls Tryd.prog 61 #[] w fun e w' => ∃ g, e = .returned (lval ⟨#[112, 111, 115, 105, 120]⟩ (.slice (some ⟨g, 0, none⟩) 256 256) ⟨(ltab 256).toArray⟩ ⟨(utab 256).toArray⟩ (.slice none 0 0) (.slice none 0 0)) ∧ Hid (LocAt w' (.slice (some ⟨g, 0, none⟩) 256 256) (.slice none 0 0) (.slice none 0 0) (wtab 256) [] []) ∧ Hid (Below w.heap.size w w') ∧ Hid (w.heap.size ≤ g) := by
  refine (default_any w).mono ?_
  rintro e w' ⟨g, rfl, h, hb⟩
  exact ⟨g, rfl, Lib.hid ⟨rows_own h.out, rows_empty _ _, rows_empty _ _, by simp, by simp⟩, hb, Lib.hid (h.out.lt g rfl).1⟩
set_option maxRecDepth 100000 in
theorem rdefault_is (w : World) : Calls Tryd.prog 12 #[] w fun e w' => ∃ g cap, e = .returned (lval ⟨#[112, 111, 115, 105, 120]⟩ (.slice (some ⟨g, 0, none⟩) 256 cap) ⟨(ltab 256).toArray⟩ ⟨(utab 256).toArray⟩ (.slice none 0 0) (.slice none 0 0)) ∧ Hid (LocAt w' (.slice (some ⟨g, 0, none⟩) 256 cap) (.slice none 0 0) (.slice none 0 0) (wtab 256) [] []) ∧ Hid (Below w.heap.size w w') ∧ Hid (w.heap.size ≤ g) := by
  refine (rdefault_any w).mono ?_
  rintro e w' ⟨v, rfl, h, hb⟩
  have hl := wtab_len 256
  rcases h.out.2 with ⟨_, hn⟩ | ⟨g, cap, _, e, _⟩
  · rw [hl] at hn; cases hn
  · rw [hl] at e
    subst e
    exact ⟨g, cap, rfl, Lib.hid ⟨rows_own h.out, rows_empty _ _, rows_empty _ _, by simp, by simp⟩, hb, Lib.hid (h.out.lt g rfl).1⟩
theorem two_blk {w w' : World} {xs ys : Array Value} {T T' : TypeId} (hb : Below ((w.alloc (.cells xs T)).alloc (.cells ys T')).heap.size ((w.alloc (.cells xs T)).alloc (.cells ys T')) w') : w'.heap[w.heap.size]? = some (.cells xs T (0, 0)) ∧ w'.heap[w.heap.size + 1]? = some (.cells ys T' (0, 0)) := by
  have s1 : (w.alloc (.cells xs T)).heap.size = w.heap.size + 1 := World.size_alloc _ _
  have s2 : ((w.alloc (.cells xs T)).alloc (.cells ys T')).heap.size = w.heap.size + 1 + 1 := by rw [World.size_alloc, s1]
  refine ⟨?_, ?_⟩
  · rw [hb.block _ (by omega), Below.heap_alloc _ _ _ (by omega)]; exact heap_alloc_new _ _
  · rw [hb.block _ (by omega)]
    have := heap_alloc_new (w.alloc (.cells xs T)) (.cells ys T')
    rw [s1] at this; exact this
theorem ok_len {n : ByteArray} {W : List Int} {lo up : ByteArray} {C : List Cl} {E : List El} (h : okL n W lo up C E = true) : W.length = 256 := by
  unfold okL at h
  simp only [Bool.and_eq_true, decide_eq_true_eq] at h
  exact h.2.1.1
theorem six_below {B g : Nat} {w0 w : World} {a b c d e f : Value} (h : Below B w0 w) (hg : B ≤ g) : Below B w0 ((((((w.setCell ⟨g, 0, none⟩ a).setCell ⟨g, 1, none⟩ b).setCell ⟨g, 2, none⟩ c).setCell ⟨g, 3, none⟩ d).setCell ⟨g, 4, none⟩ e).setCell ⟨g, 5, none⟩ f) :=
  below_set (below_set (below_set (below_set (below_set (below_set h hg) hg) hg) hg) hg) hg
theorem six_other {g k : Nat} {w : World} {a b c d e f : Value} (h : k ≠ g) : ((((((w.setCell ⟨g, 0, none⟩ a).setCell ⟨g, 1, none⟩ b).setCell ⟨g, 2, none⟩ c).setCell ⟨g, 3, none⟩ d).setCell ⟨g, 4, none⟩ e).setCell ⟨g, 5, none⟩ f).heap[k]? = w.heap[k]? := by
  rw [heap_setCell_other _ _ _ _ h, heap_setCell_other _ _ _ _ h, heap_setCell_other _ _ _ _ h, heap_setCell_other _ _ _ _ h, heap_setCell_other _ _ _ _ h, heap_setCell_other _ _ _ _ h]
theorem rows_keep {w w' : World} {v : Value} {k : Nat} {l : List (List Value)} (h : RowsAt w v k l) (hb : ∀ g o c n, v = .slice (some ⟨g, o, none⟩) n c → w'.heap[g]? = w.heap[g]?) (hs : w.heap.size ≤ w'.heap.size) : RowsAt w' v k l := by
  obtain ⟨a, cap, rfl, h1, h2, h3⟩ := h
  refine ⟨a, cap, rfl, h1, h2, ?_⟩
  rcases h3 with h3 | ⟨g, o, rfl, hg, hc⟩
  · exact .inl h3
  · exact .inr ⟨g, o, rfl, by omega, fun j x hj i y hi => (World.cell?_of_block (w := w) (hb g o _ _ rfl)).trans (hc j x hj i y hi)⟩
theorem made_blk {w : World} {B g : Nat} (h : w.ownsRow B 3 1 (.slice (some ⟨g, 0, none⟩) 256 256) 256 (madeCells (Value.int IntKind.i64 0).cells (256 * 1)).toList) : w.heap[g]? = some (.cells (List.replicate 256 (Value.int .i64 0)).toArray 3 (0, 0)) := by
  rcases h.2 with ⟨e, _⟩ | ⟨g', cap, cur, e, _, hg, _, _, hs, ht⟩
  · cases e
  · simp only [Value.slice.injEq, Option.some.injEq, Addr.mk.injEq, and_true, true_and] at e
    obtain ⟨rfl, rfl⟩ := e
    have hl : cur.toList.length = 256 := by simpa using hs
    have hc : cur.toList = List.replicate 256 (Value.int .i64 0) := by
      rw [← made_i64, ← ht, List.take_of_length_le (by omega)]
    rw [hg, ← hc]
theorem copy_src {w w2 : World} {W : List Int} {g o : Nat} (h : ∀ (j : Nat) (m : Int), W[j]? = some m → w.cell? ⟨g, o + j, none⟩ = some (.int .i64 m)) (hg : g < w.heap.size) (hb : Below w.heap.size w w2) : ∀ (j : Nat) (v : Value), (ints W)[j]? = some v → w2.cell? ((⟨g, o, none⟩ : Addr).add j) = some v := by
  intro j v hj
  rw [Go.WideShapes.add_plain]
  unfold ints at hj
  rw [List.getElem?_map] at hj
  cases hw : W[j]? with
  | none => rw [hw] at hj; cases hj
  | some m =>
    rw [hw] at hj
    cases hj
    exact (hb.cell (p := ⟨g, o + j, none⟩) hg).trans (h j m hw)
theorem ints_one (W : List Int) : ∀ v ∈ ints W, v.oneCell' = true := by
  intro v hv
  unfold ints at hv
  obtain ⟨n, _, rfl⟩ := List.mem_map.1 hv
  rfl
theorem copy_rows {w : World} {g : Nat} {W : List Int} (h : w.heap[g]? = some (.cells (splice (List.replicate 256 (Value.int .i64 0)) 0 (ints W)).toArray 3 (0, 0))) (hW : W.length = 256) : RowsAt w (.slice (some ⟨g, 0, none⟩) 256 256) 1 (W.map fun n => [.int .i64 n]) := by
  have e : splice (List.replicate 256 (Value.int .i64 0)) 0 (ints W) = ints W := by
    unfold splice
    rw [List.take_zero, List.nil_append, Nat.zero_add, ints_len, hW, List.drop_of_length_le (by rw [List.length_replicate]; exact Nat.le_refl _), List.append_nil]
  rw [e] at h
  have := rows_block h (by rw [hW]; unfold maxLen; omega)
  rw [hW] at this
  exact this
set_option maxRecDepth 100000 in
set_option maxHeartbeats 8000000 in
theorem valid_any (n : ByteArray) (v1 : Value) (lo up : ByteArray) (v4 v5 : Value) (W : List Int) (C : List Cl) (E : List El) (w : World) (hL : LocAt w v1 v4 v5 W C E) (hn : n.size ≤ 9223372036854775807) :
    Calls Tryd.prog 44 #[lval n v1 lo up v4 v5] w (VOut (okL n W lo up C E) W lo up C E w) := by
  have ZN := Lib.hid hn; clear hn
  obtain ⟨a1, cap1, e1, hrow1⟩ := hL.r1
  obtain ⟨a4, cap4, e4, -⟩ := hL.r4
  obtain ⟨a5, cap5, e5, -⟩ := hL.r5
  rw [List.length_map] at e1 e4 e5
  subst e1 e4 e5
  have R1 := Lib.hid hrow1; clear hrow1
  have LO := Lib.hid hL; clear hL
  obtain ⟨ok, hok⟩ : ∃ b, okL n W lo up C E = b := ⟨_, rfl⟩
  rw [hok]
  have OK := Lib.hid hok; clear hok
  cases ok with
  | false =>
    go_enter Tryd.func44, Tryd.ntmps44
    go_wp2_with fail
    refine (check_any n _ lo up _ _ W C E _ (LO.out.below (((Below.refl _ _).alloc (Nat.le_refl _) _).alloc (by rw [World.size_alloc]; omega) _)) ZN.out).mono ?_
    intro e w1 h1
    obtain ⟨x, rfl, hx, hb1⟩ := errs_is h1
    clear h1
    rw [OK.out] at hx
    have hx' : (x != 0) = true := by rw [bne, hx]; rfl
    have HX := Lib.hid hx
    go_wp2_with fail
    refine (default_is _).mono ?_
    rintro e w2 ⟨g, rfl, LD, hd, GF⟩
    have Z1 : Hid (w.heap.size + 1 + 1 ≤ w1.heap.size) := Lib.hid (by have := hb1.size; rw [World.size_alloc, World.size_alloc] at this; exact this)
    have B2 := Lib.hid (hb1.trans (hd.out.mono hb1.size))
    obtain ⟨-, q1⟩ := two_blk B2.out
    obtain ⟨d0, d1, d2, d3, d4, d5⟩ := lrow_cells q1
    have e0 := lrow_frozen q1 0
    have e1 := lrow_frozen q1 1
    have e2 := lrow_frozen q1 2
    have e3 := lrow_frozen q1 3
    have e4 := lrow_frozen q1 4
    have e5 := lrow_frozen q1 5
    have Q1 := Lib.hid q1
    clear q1 hb1 hx
    go_wp2_with fail
    have blk8 := six_set (a := .string ⟨#[112, 111, 115, 105, 120]⟩) (b := .slice (some ⟨g, 0, none⟩) 256 256) (c := .string ⟨(ltab 256).toArray⟩) (d := .string ⟨(utab 256).toArray⟩) (e := .slice none 0 0) (f := .slice none 0 0) Q1.out
    obtain ⟨r0, r1, r2, r3, r4, r5⟩ := lrow_cells blk8
    have BZ := six_below (g := w.heap.size + 1) (a := .string ⟨#[112, 111, 115, 105, 120]⟩) (b := .slice (some ⟨g, 0, none⟩) 256 256) (c := .string ⟨(ltab 256).toArray⟩) (d := .string ⟨(utab 256).toArray⟩) (e := .slice none 0 0) (f := .slice none 0 0) (below_step (below_step B2.out)) (Nat.le_succ _)
    have LZ := LD.out.r1
    refine bodyPost_ret (v := lval ⟨#[112, 111, 115, 105, 120]⟩ (.slice (some ⟨g, 0, none⟩) 256 256) ⟨(ltab 256).toArray⟩ ⟨(utab 256).toArray⟩ (.slice none 0 0) (.slice none 0 0)) (by simp [results, Tryd.results44, go_sem, r0, r1, r2, r3, r4, r5]) rfl ⟨_, _, _, _, rfl, Lib.hid ⟨rows_keep LZ ?_ (Nat.le_of_eq (by simp [World.setCell])), rows_empty _ _, rows_empty _ _, by simp [eL], by simp [eL]⟩, Lib.hid BZ⟩
    intro g' o' c' n' he
    simp only [Value.slice.injEq, Option.some.injEq, Addr.mk.injEq] at he
    rw [← he.1.1]
    exact six_other (by have := GF.out; have := Z1.out; omega)
  | true =>
    have W1 := ok_len OK.out
    rw [W1]
    obtain ⟨i0, hi, hz0, hz1, hz2⟩ := info_parts info_i64
    obtain ⟨g, o, rfl, hg, hcell⟩ : ∃ g o, a1 = some ⟨g, o, none⟩ ∧ g < w.heap.size ∧ ∀ (j : Nat) m, W[j]? = some m → w.cell? ⟨g, o + j, none⟩ = some (.int .i64 m) := by
      rcases R1.out.2.2 with hrow | ⟨g, o, ha, hg, hc⟩
      · have := congrArg List.length hrow
        rw [List.length_map, W1] at this; cases this
      · refine ⟨g, o, ha, hg, fun j m hj => ?_⟩
        have := hc j [.int .i64 m] (by rw [List.getElem?_map, hj]; rfl) 0 _ rfl
        rw [Nat.mul_one, Nat.add_zero] at this; exact this
    have HC := Lib.hid hcell; clear hcell
    rw [W1] at LO
    have WL := Lib.hid W1; clear W1 R1
    go_enter Tryd.func44, Tryd.ntmps44
    go_wp2_with fail
    refine (check_any n _ lo up _ _ W C E _ (LO.out.below (((Below.refl _ _).alloc (Nat.le_refl _) _).alloc (by rw [World.size_alloc]; omega) _)) ZN.out).mono ?_
    intro e w1 h1
    obtain ⟨x, rfl, hx, hb1⟩ := errs_is h1
    clear h1
    rw [OK.out] at hx
    obtain rfl : x = 0 := by simpa using hx
    clear hx
    have Z1 : Hid (w.heap.size + 1 + 1 ≤ w1.heap.size) := Lib.hid (by have := hb1.size; rw [World.size_alloc, World.size_alloc] at this; exact this)
    have HB1 := Lib.hid hb1; clear hb1
    go_wp2_with (first
      | (at_make; refine wpList_make_full _ rfl _ _ 26 rfl w1.heap.size 3 i0 (.int .i64 0) 1 Tryd.underlying26 hi hz0 hz1 .i64 .i64 256 256 256 rfl rfl rfl rfl (by rw [hz2]; omega) (by unfold maxLen; omega) (Nat.le_refl _) ?_; intro w2 hown2 hgrow2; have OWN := Lib.hid (made_blk hown2); have B2 := Lib.hid (HB1.out.grown hgrow2 HB1.out.size (fun k hk => by cases hk)); clear hown2 hgrow2; obtain ⟨q0, q1⟩ := two_blk B2.out; obtain ⟨c0, c1, c2, c3, c4, c5⟩ := lrow_cells q0; clear q0 q1 c0 c2 c3 c4 c5)
      | (refine wpList_copy_splice rfl (.tmp 9) (.tmp 11) 26 26 rfl 3 Tryd.underlying26 (by rw [hi]; exact congrArg some hz1) (some ⟨w1.heap.size, 0, none⟩) (some ⟨g, o, none⟩) 256 256 256 cap1 rfl rfl w1.heap.size 0 (List.replicate 256 (.int .i64 0)) 3 OWN.out (ints W) (by rw [ints_len, WL.out]; rfl) (fun _ => ⟨rfl, _, rfl, copy_src HC.out hg (below_step (below_step B2.out))⟩) (by rw [ints_len, WL.out, List.length_replicate]; exact Nat.le_refl _) (ints_one W) w1.heap.size _ (Below.refl _ _) (Nat.le_refl _) ?_; intro w4 hg4 hb4; have B4 := Lib.hid (B2.out.trans (hb4.mono HB1.out.size)); clear hb4 c1; obtain ⟨q0, q1⟩ := two_blk B4.out; obtain ⟨c0, c1, c2, c3, c4, c5⟩ := lrow_cells q0; have f1 := lrow_frozen q0 1; obtain ⟨d0, d1, d2, d3, d4, d5⟩ := lrow_cells q1; have e0 := lrow_frozen q1 0; have e1 := lrow_frozen q1 1; have e2 := lrow_frozen q1 2; have e3 := lrow_frozen q1 3; have e4 := lrow_frozen q1 4; have e5 := lrow_frozen q1 5; have Q1 := Lib.hid q1; clear q0 q1))
    have Q2 : Hid ((w4.setCell ⟨w.heap.size, 1, none⟩ (.slice (some ⟨w1.heap.size, 0, none⟩) 256 256)).heap[w.heap.size + 1]? = some (.cells zrow 30 (0, 0))) := Lib.hid (by rw [heap_setCell_other _ _ _ _ (by show w.heap.size + 1 ≠ w.heap.size; omega)]; exact Q1.out)
    have blk8 := six_set (a := .string n) (b := .slice (some ⟨w1.heap.size, 0, none⟩) 256 256) (c := .string lo) (d := .string up) (e := .slice a4 C.length cap4) (f := .slice a5 E.length cap5) Q2.out
    obtain ⟨r0, r1, r2, r3, r4, r5⟩ := lrow_cells blk8
    have BZ := six_below (g := w.heap.size + 1) (a := .string n) (b := .slice (some ⟨w1.heap.size, 0, none⟩) 256 256) (c := .string lo) (d := .string up) (e := .slice a4 C.length cap4) (f := .slice a5 E.length cap5) (below_set (g := w.heap.size) (j := 1) (u := .slice (some ⟨w1.heap.size, 0, none⟩) 256 256) (below_step (below_step B4.out)) (Nat.le_refl _)) (Nat.le_succ _)
    have RW := Lib.hid (copy_rows hg4.out WL.out)
    have LB := LO.out.below BZ
    refine bodyPost_ret (v := lval n (.slice (some ⟨w1.heap.size, 0, none⟩) 256 256) lo up (.slice a4 C.length cap4) (.slice a5 E.length cap5)) (by simp [results, Tryd.results44, go_sem, r0, r1, r2, r3, r4, r5]) rfl ⟨_, _, _, _, rfl, Lib.hid ⟨rows_keep RW.out ?_ (Nat.le_of_eq (by simp [World.setCell])), LB.r4, LB.r5, LB.z4, LB.z5⟩, Lib.hid BZ⟩
    intro g' o' c' n' he
    simp only [Value.slice.injEq, Option.some.injEq, Addr.mk.injEq] at he
    rw [← he.1.1, six_other (by have := Z1.out; omega), heap_setCell_other _ _ _ _ (by show w1.heap.size ≠ w.heap.size; have := Z1.out; omega)]
set_option maxRecDepth 100000 in
set_option maxHeartbeats 8000000 in
theorem rvalid_any (n : ByteArray) (v1 : Value) (lo up : ByteArray) (v4 v5 : Value) (W : List Int) (C : List Cl) (E : List El) (w : World) (hL : LocAt w v1 v4 v5 W C E) (hn : n.size ≤ 9223372036854775807) :
    Calls Tryd.prog 49 #[lval n v1 lo up v4 v5] w (VOut (okL n W lo up C E) W lo up C E w) := by
  have ZN := Lib.hid hn; clear hn
  obtain ⟨a1, cap1, e1, hrow1⟩ := hL.r1
  obtain ⟨a4, cap4, e4, -⟩ := hL.r4
  obtain ⟨a5, cap5, e5, -⟩ := hL.r5
  rw [List.length_map] at e1 e4 e5
  subst e1 e4 e5
  have R1 := Lib.hid hrow1; clear hrow1
  have LO := Lib.hid hL; clear hL
  obtain ⟨ok, hok⟩ : ∃ b, okL n W lo up C E = b := ⟨_, rfl⟩
  rw [hok]
  have OK := Lib.hid hok; clear hok
  cases ok with
  | false =>
    go_enter Tryd.func49, Tryd.ntmps49
    go_wp2_with fail
    refine (rcheck_any n _ lo up _ _ W C E _ (LO.out.below (((Below.refl _ _).alloc (Nat.le_refl _) _).alloc (by rw [World.size_alloc]; omega) _)) ZN.out).mono ?_
    intro e w1 h1
    obtain ⟨x, rfl, hx, hb1⟩ := errs_is h1
    clear h1
    rw [OK.out] at hx
    have hx' : (x != 0) = true := by rw [bne, hx]; rfl
    have HX := Lib.hid hx
    go_wp2_with fail
    refine (rdefault_is _).mono ?_
    rintro e w2 ⟨g, cap, rfl, LD, hd, GF⟩
    have Z1 : Hid (w.heap.size + 1 + 1 ≤ w1.heap.size) := Lib.hid (by have := hb1.size; rw [World.size_alloc, World.size_alloc] at this; exact this)
    have B2 := Lib.hid (hb1.trans (hd.out.mono hb1.size))
    obtain ⟨-, q1⟩ := two_blk B2.out
    obtain ⟨d0, d1, d2, d3, d4, d5⟩ := lrow_cells q1
    have e0 := lrow_frozen q1 0
    have e1 := lrow_frozen q1 1
    have e2 := lrow_frozen q1 2
    have e3 := lrow_frozen q1 3
    have e4 := lrow_frozen q1 4
    have e5 := lrow_frozen q1 5
    have Q1 := Lib.hid q1
    clear q1 hb1 hx
    go_wp2_with fail
    have blk8 := six_set (a := .string ⟨#[112, 111, 115, 105, 120]⟩) (b := .slice (some ⟨g, 0, none⟩) 256 cap) (c := .string ⟨(ltab 256).toArray⟩) (d := .string ⟨(utab 256).toArray⟩) (e := .slice none 0 0) (f := .slice none 0 0) Q1.out
    obtain ⟨r0, r1, r2, r3, r4, r5⟩ := lrow_cells blk8
    have BZ := six_below (g := w.heap.size + 1) (a := .string ⟨#[112, 111, 115, 105, 120]⟩) (b := .slice (some ⟨g, 0, none⟩) 256 cap) (c := .string ⟨(ltab 256).toArray⟩) (d := .string ⟨(utab 256).toArray⟩) (e := .slice none 0 0) (f := .slice none 0 0) (below_step (below_step B2.out)) (Nat.le_succ _)
    have LZ := LD.out.r1
    refine bodyPost_ret (v := lval ⟨#[112, 111, 115, 105, 120]⟩ (.slice (some ⟨g, 0, none⟩) 256 cap) ⟨(ltab 256).toArray⟩ ⟨(utab 256).toArray⟩ (.slice none 0 0) (.slice none 0 0)) (by simp [results, Tryd.results49, go_sem, r0, r1, r2, r3, r4, r5]) rfl ⟨_, _, _, _, rfl, Lib.hid ⟨rows_keep LZ ?_ (Nat.le_of_eq (by simp [World.setCell])), rows_empty _ _, rows_empty _ _, by simp [eL], by simp [eL]⟩, Lib.hid BZ⟩
    intro g' o' c' n' he
    simp only [Value.slice.injEq, Option.some.injEq, Addr.mk.injEq] at he
    rw [← he.1.1]
    exact six_other (by have := GF.out; have := Z1.out; omega)
  | true =>
    go_enter Tryd.func49, Tryd.ntmps49
    go_wp2_with fail
    refine (rcheck_any n _ lo up _ _ W C E _ (LO.out.below (((Below.refl _ _).alloc (Nat.le_refl _) _).alloc (by rw [World.size_alloc]; omega) _)) ZN.out).mono ?_
    intro e w1 h1
    obtain ⟨x, rfl, hx, hb1⟩ := errs_is h1
    clear h1
    rw [OK.out] at hx
    obtain rfl : x = 0 := by simpa using hx
    clear hx
    obtain ⟨q0, q1⟩ := two_blk hb1
    obtain ⟨c0, c1, c2, c3, c4, c5⟩ := lrow_cells q0
    obtain ⟨d0, d1, d2, d3, d4, d5⟩ := lrow_cells q1
    have e0 := lrow_frozen q1 0
    have e1 := lrow_frozen q1 1
    have e2 := lrow_frozen q1 2
    have e3 := lrow_frozen q1 3
    have e4 := lrow_frozen q1 4
    have e5 := lrow_frozen q1 5
    have Q1 := Lib.hid q1
    have HB := Lib.hid hb1
    clear q0 q1 hb1
    go_wp2_with fail
    have blk8 := six_set (a := .string n) (b := .slice a1 W.length cap1) (c := .string lo) (d := .string up) (e := .slice a4 C.length cap4) (f := .slice a5 E.length cap5) Q1.out
    obtain ⟨r0, r1, r2, r3, r4, r5⟩ := lrow_cells blk8
    have BZ := six_below (g := w.heap.size + 1) (a := .string n) (b := .slice a1 W.length cap1) (c := .string lo) (d := .string up) (e := .slice a4 C.length cap4) (f := .slice a5 E.length cap5) (below_step (below_step HB.out)) (Nat.le_succ _)
    refine bodyPost_ret (v := lval n (.slice a1 W.length cap1) lo up (.slice a4 C.length cap4) (.slice a5 E.length cap5)) (by simp [results, Tryd.results49, go_sem, r0, r1, r2, r3, r4, r5]) rfl ⟨_, _, _, _, rfl, Lib.hid (LO.out.below BZ), Lib.hid BZ⟩
end Go.Proofs.YtbhdhcnbagjmcaaDoor
