/- walks: values: the law on differences -/
import Derived.Test.YtjngkapfngempaaDoorCb
import Derived.Test.YtjngkapfngempaaDoorReg
namespace Go.Proofs.YtjngkapfngempaaDoor
open Go.RowKit
open Dcm Byt Vl
theorem fromNumber_is (d x : Int) (w : World) (h : Hid (near d = x)) : Calls Tryd.prog 22 #[.int .i64 d] w fun e w' => e = .returned (vval 1 x ⟨#[]⟩) ∧ Below w.heap.size w w' := by rw [← h.out]; exact fromNumber_any d w
/-- sum and difference of numbers in range -/
theorem sub_small {X Y : Int} (hx : -10000000000000 ≤ X ∧ X ≤ 10000000000000) (hy : -10000000000000 ≤ Y ∧ Y ≤ 10000000000000) (h : -10000000000000 ≤ X - Y ∧ X - Y ≤ 10000000000000) : subE X Y = 0 ∧ subV X Y = X - Y := by
  have hb : bothB X Y = true := both_iff.2 ⟨hx, hy⟩
  have hv : vldB (X - Y) = true := vld_iff.2 h
  refine ⟨?_, ?_⟩
  · unfold subE fitE; rw [if_pos hb, if_pos hv]
  · unfold subV fitV; rw [if_pos hb, if_pos hv]
theorem sub_big {X Y : Int} (hx : -10000000000000 ≤ X ∧ X ≤ 10000000000000) (hy : -10000000000000 ≤ Y ∧ Y ≤ 10000000000000) (h : ¬ (-10000000000000 ≤ X - Y ∧ X - Y ≤ 10000000000000)) : subE X Y = 9 := by
  have hb : bothB X Y = true := both_iff.2 ⟨hx, hy⟩
  have hv : ¬ vldB (X - Y) = true := fun e => h (vld_iff.1 e)
  unfold subE fitE; rw [if_pos hb, if_neg hv]
theorem add_small {X Y : Int} (hx : -10000000000000 ≤ X ∧ X ≤ 10000000000000) (hy : -10000000000000 ≤ Y ∧ Y ≤ 10000000000000) (h : -10000000000000 ≤ X + Y ∧ X + Y ≤ 10000000000000) : addE X Y = 0 ∧ addV X Y = X + Y := by
  have hb : bothB X Y = true := both_iff.2 ⟨hx, hy⟩
  have hv : vldB (X + Y) = true := vld_iff.2 h
  refine ⟨?_, ?_⟩
  · unfold addE fitE; rw [if_pos hb, if_pos hv]
  · unfold addV fitV; rw [if_pos hb, if_pos hv]
theorem add_big {X Y : Int} (hx : -10000000000000 ≤ X ∧ X ≤ 10000000000000) (hy : -10000000000000 ≤ Y ∧ Y ≤ 10000000000000) (h : ¬ (-10000000000000 ≤ X + Y ∧ X + Y ≤ 10000000000000)) : addE X Y = 9 := by
  have hb : bothB X Y = true := both_iff.2 ⟨hx, hy⟩
  have hv : ¬ vldB (X + Y) = true := fun e => h (vld_iff.1 e)
  unfold addE fitE; rw [if_pos hb, if_neg hv]
/-- what an operation gives: kind, number, error -/
def AR (o : ByteArray) (X Y K D E : Int) : Prop := rsK (arE (opN o.data.toList) X Y) = K ∧ rsD (arE (opN o.data.toList) X Y) (arV (opN o.data.toList) X Y) = D ∧ arE (opN o.data.toList) X Y = E
theorem arith_ar (op : ByteArray) (k1 n1 k2 n2 X Y K D E : Int) (s1 s2 : ByteArray) (w : World) (hs1 : s1.size ≤ 9223372036854775807) (hs2 : s2.size ≤ 9223372036854775807)
    (hx : Hid (numV k1 n1 s1.data.toList = X)) (hy : Hid (numV k2 n2 s2.data.toList = Y)) (h : Hid (AR op X Y K D E)) :
    Calls Tryd.prog 20 #[.string op, vval k1 n1 s1, vval k2 n2 s2] w fun e w' => e = .returned (.tuple #[vval K D ⟨#[]⟩, .int .i64 E]) ∧ Below w.heap.size w w' := by
  have h' := h.out
  rw [← hx.out, ← hy.out] at h'
  exact arith_is op k1 n1 k2 n2 K D E s1 s2 w hs1 hs2 (Lib.hid h')
theorem ar_minus (X Y : Int) (hx : -10000000000000 ≤ X ∧ X ≤ 10000000000000) (hy : -10000000000000 ≤ Y ∧ Y ≤ 10000000000000) :
    (AR ⟨#[45]⟩ X Y 1 (X - Y) 0) ∨ AR ⟨#[45]⟩ X Y 0 0 9 := by
  by_cases h : -10000000000000 ≤ X - Y ∧ X - Y ≤ 10000000000000
  · obtain ⟨e, v⟩ := sub_small hx hy h
    refine .inl ?_
    show rsK (subE X Y) = 1 ∧ rsD (subE X Y) (subV X Y) = X - Y ∧ subE X Y = 0
    rw [e, v]
    exact ⟨rfl, near_eq3 _ h.1 h.2, rfl⟩
  · have e := sub_big hx hy h
    refine .inr ?_
    show rsK (subE X Y) = 0 ∧ rsD (subE X Y) (subV X Y) = 0 ∧ subE X Y = 9
    rw [e]
    exact ⟨rfl, rfl, rfl⟩
theorem ar_plus (X Y : Int) (hx : -10000000000000 ≤ X ∧ X ≤ 10000000000000) (hy : -10000000000000 ≤ Y ∧ Y ≤ 10000000000000) :
    (AR ⟨#[43]⟩ X Y 1 (X + Y) 0 ∧ AR ⟨#[43]⟩ Y X 1 (X + Y) 0 ∧ near (X + Y) = X + Y ∧ AR ⟨#[45]⟩ (X + Y) Y 1 X 0) ∨ (AR ⟨#[43]⟩ X Y 0 0 9 ∧ AR ⟨#[43]⟩ Y X 0 0 9) := by
  by_cases h : -10000000000000 ≤ X + Y ∧ X + Y ≤ 10000000000000
  · obtain ⟨e, v⟩ := add_small hx hy h
    obtain ⟨e', v'⟩ := add_small hy hx (by omega)
    obtain ⟨e2, v2⟩ := sub_small h hy (by omega)
    refine .inl ⟨?_, ?_, near_eq3 _ h.1 h.2, ?_⟩
    · show rsK (addE X Y) = 1 ∧ rsD (addE X Y) (addV X Y) = X + Y ∧ addE X Y = 0
      rw [e, v]
      exact ⟨rfl, near_eq3 _ h.1 h.2, rfl⟩
    · show rsK (addE Y X) = 1 ∧ rsD (addE Y X) (addV Y X) = X + Y ∧ addE Y X = 0
      rw [e', v', Int.add_comm Y X]
      exact ⟨rfl, near_eq3 _ h.1 h.2, rfl⟩
    · show rsK (subE (X + Y) Y) = 1 ∧ rsD (subE (X + Y) Y) (subV (X + Y) Y) = X ∧ subE (X + Y) Y = 0
      rw [e2, v2, show X + Y - Y = X by omega]
      exact ⟨rfl, near_eq3 _ hx.1 hx.2, rfl⟩
  · have e := add_big hx hy h
    have e' := add_big hy hx (by omega)
    refine .inr ⟨?_, ?_⟩
    · show rsK (addE X Y) = 0 ∧ rsD (addE X Y) (addV X Y) = 0 ∧ addE X Y = 9
      rw [e]; exact ⟨rfl, rfl, rfl⟩
    · show rsK (addE Y X) = 0 ∧ rsD (addE Y X) (addV Y X) = 0 ∧ addE Y X = 9
      rw [e']; exact ⟨rfl, rfl, rfl⟩
theorem cmp3_neg (X Y : Int) : decide (X - Y < 0) = decide (cmp3 X Y < 0) := by
  unfold cmp3; congr 1; apply propext; split
  · constructor <;> omega
  · split <;> constructor <;> omega
theorem cmp3_pos (X Y : Int) : decide (0 < X - Y) = decide (0 < cmp3 X Y) := by
  unfold cmp3; congr 1; apply propext; split
  · constructor <;> omega
  · split <;> constructor <;> omega
set_option maxRecDepth 100000 in
theorem rdefault_sl (w : World) :
    Calls Tryd.prog 26 #[] w fun e w' => ∃ g cap, e = .returned (.agg #[.string ⟨#[112, 111, 115, 105, 120]⟩, .slice (some ⟨g, 0, none⟩) 256 cap, .string ⟨(ltab 256).toArray⟩, .string ⟨(utab 256).toArray⟩, .slice none 0 0, .slice none 0 0]) ∧ Hid (IRow w' w.heap.size (.slice (some ⟨g, 0, none⟩) 256 cap) (wtab 256)) ∧ Hid (Below w.heap.size w w') := by
  refine (rdefault_any w).mono ?_
  rintro e w1 ⟨v1, rfl, IR, hb⟩
  have h := IR.out
  have hl : (wtab 256).length = 256 := by unfold wtab; rw [List.length_map, List.length_range]
  rcases h.2 with ⟨_, hn⟩ | ⟨g, cap, _, e, _⟩
  · rw [hl] at hn; cases hn
  · rw [hl] at e
    subst e
    exact ⟨g, cap, rfl, IR, hb⟩
/-- block g holds this value -/
structure Blk (w : World) (g : Nat) (k n : Int) (s : ByteArray) : Prop where
  f0 : w.frozen? ⟨g, 0, none⟩ = false
  f1 : w.frozen? ⟨g, 1, none⟩ = false
  f2 : w.frozen? ⟨g, 2, none⟩ = false
  c0 : w.cell? ⟨g, 0, none⟩ = some (.int .i64 k)
  c1 : w.cell? ⟨g, 1, none⟩ = some (.int .i64 n)
  c2 : w.cell? ⟨g, 2, none⟩ = some (.string s)
theorem Blk.lt {w : World} {g : Nat} {k n : Int} {s : ByteArray} (h : Blk w g k n s) : g < w.heap.size := World.block_lt_of_cell? w _ h.c0
theorem Blk.below {w w' : World} {g : Nat} {k n : Int} {s : ByteArray} (h : Blk w g k n s) (hb : Below w.heap.size w w') : Blk w' g k n s :=
  ⟨by rw [hb.frozen (p := ⟨g, 0, none⟩) h.lt]; exact h.f0, by rw [hb.frozen (p := ⟨g, 1, none⟩) h.lt]; exact h.f1, by rw [hb.frozen (p := ⟨g, 2, none⟩) h.lt]; exact h.f2,
   by rw [hb.cell (p := ⟨g, 0, none⟩) h.lt]; exact h.c0, by rw [hb.cell (p := ⟨g, 1, none⟩) h.lt]; exact h.c1, by rw [hb.cell (p := ⟨g, 2, none⟩) h.lt]; exact h.c2⟩
theorem Blk.alloc {w : World} {g : Nat} {k n : Int} {s : ByteArray} (h : Blk w g k n s) (o : Obj) : Blk (w.alloc o) g k n s := h.below ((Below.refl _ _).alloc (Nat.le_refl _) _)
theorem Blk.new (w : World) (k n : Int) (s : ByteArray) : Blk (w.alloc (.cells #[.int .i64 k, .int .i64 n, .string s] 24)) w.heap.size k n s := by
  have h := own_cells (x := .int .i64 k) (y := .int .i64 n) (z := .string s) (Below.refl (w.alloc (.cells #[.int .i64 k, .int .i64 n, .string s] 24)).heap.size (w.alloc (.cells #[.int .i64 k, .int .i64 n, .string s] 24)))
  exact ⟨h.1, h.2.1, h.2.2.1, h.2.2.2.1, h.2.2.2.2.1, h.2.2.2.2.2⟩
theorem Blk.set {w : World} {g : Nat} {k n : Int} {s : ByteArray} (h : Blk w g k n s) (k' n' : Int) (s' : ByteArray) : Blk (((w.setCell ⟨g, 0, none⟩ (.int .i64 k')).setCell ⟨g, 1, none⟩ (.int .i64 n')).setCell ⟨g, 2, none⟩ (.string s')) g k' n' s' := by
  obtain ⟨e0, e1, e2⟩ := three_set (.int .i64 k') (.int .i64 n') (.string s') h.c0 h.c1 h.c2
  refine ⟨?_, ?_, ?_, e0, e1, e2⟩
  all_goals simp only [World.frozen?_setCell]
  · exact h.f0
  · exact h.f1
  · exact h.f2
theorem Blk.other {w : World} {g g' : Nat} {k n : Int} {s : ByteArray} (h : Blk w g k n s) (hne : g' ≠ g) (a b c : Value) : Blk (((w.setCell ⟨g', 0, none⟩ a).setCell ⟨g', 1, none⟩ b).setCell ⟨g', 2, none⟩ c) g k n s := by
  refine ⟨?_, ?_, ?_, ?_, ?_, ?_⟩
  · simp only [World.frozen?_setCell]; exact h.f0
  · simp only [World.frozen?_setCell]; exact h.f1
  · simp only [World.frozen?_setCell]; exact h.f2
  · rw [World.cell?_setCell_far _ _ _ _ hne, World.cell?_setCell_far _ _ _ _ hne, World.cell?_setCell_far _ _ _ _ hne]; exact h.c0
  · rw [World.cell?_setCell_far _ _ _ _ hne, World.cell?_setCell_far _ _ _ _ hne, World.cell?_setCell_far _ _ _ _ hne]; exact h.c1
  · rw [World.cell?_setCell_far _ _ _ _ hne, World.cell?_setCell_far _ _ _ _ hne, World.cell?_setCell_far _ _ _ _ hne]; exact h.c2
theorem upd_of {d : Nat → Bool} {i j : Nat} (hne : (j == i) = false) (h : upd d i j = true) : d j = true := by rw [← upd_ne d hne]; exact h
/-- two values, made side by side: what holds on the way -/
structure PairF (W : World) (k1 n1 k2 n2 X Y : Int) (s1 s2 : ByteArray) (d : Nat → Bool) (w' : World) (v0 v1 v2 v3 v4 v5 v6 v7 : Value) : Prop where
  bel : Below W.heap.size W w'
  h0 : d 0 = true → v0 = vval k1 n1 s1
  h1 : d 1 = true → v1 = .int .i64 X
  h2 : d 2 = true → v2 = vval 1 X ⟨#[]⟩
  h3 : d 3 = true → v3 = vval k2 n2 s2
  h4 : d 4 = true → v4 = .int .i64 Y
  h5 : d 5 = true → v5 = vval 1 Y ⟨#[]⟩
  o8 : d 8 = true → d 6 = true
  o9 : d 9 = true → d 7 = true
  h6 : d 6 = true → ∃ g, v6 = .pointer (some ⟨g, 0, none⟩) ∧ W.heap.size ≤ g ∧ ∃ k n s, Blk w' g k n s ∧ (d 8 = true → k = 1 ∧ n = X ∧ s = ⟨#[]⟩)
  h7 : d 7 = true → ∃ g, v7 = .pointer (some ⟨g, 0, none⟩) ∧ W.heap.size ≤ g ∧ ∃ k n s, Blk w' g k n s ∧ (d 9 = true → k = 1 ∧ n = Y ∧ s = ⟨#[]⟩)
  ne : d 6 = true → d 7 = true → v6 ≠ v7
section
variable {W : World} {k1 n1 k2 n2 X Y : Int} {s1 s2 : ByteArray} {d : Nat → Bool} {w' w2 : World} {v0 v1 v2 v3 v4 v5 v6 v7 : Value}
theorem PairF.world (h : PairF W k1 n1 k2 n2 X Y s1 s2 d w' v0 v1 v2 v3 v4 v5 v6 v7) (hb : Below w'.heap.size w' w2) : PairF W k1 n1 k2 n2 X Y s1 s2 d w2 v0 v1 v2 v3 v4 v5 v6 v7 :=
  ⟨h.bel.trans (hb.mono h.bel.size), h.h0, h.h1, h.h2, h.h3, h.h4, h.h5, h.o8, h.o9, fun e => let ⟨g, e1, e2, k, n, s, b, c⟩ := h.h6 e; ⟨g, e1, e2, k, n, s, b.below hb, c⟩, fun e => let ⟨g, e1, e2, k, n, s, b, c⟩ := h.h7 e; ⟨g, e1, e2, k, n, s, b.below hb, c⟩, h.ne⟩
theorem PairF.t0 (h : PairF W k1 n1 k2 n2 X Y s1 s2 d w' v0 v1 v2 v3 v4 v5 v6 v7) : PairF W k1 n1 k2 n2 X Y s1 s2 (upd d 0) w' (vval k1 n1 s1) v1 v2 v3 v4 v5 v6 v7 :=
  ⟨h.bel, fun _ => rfl, fun e => h.h1 (upd_of (by rfl) e), fun e => h.h2 (upd_of (by rfl) e), fun e => h.h3 (upd_of (by rfl) e), fun e => h.h4 (upd_of (by rfl) e), fun e => h.h5 (upd_of (by rfl) e), fun e => by rw [upd_ne _ (by rfl)]; exact h.o8 (upd_of (by rfl) e), fun e => by rw [upd_ne _ (by rfl)]; exact h.o9 (upd_of (by rfl) e), fun e => let ⟨g, e1, e2, k, n, s, b, c⟩ := h.h6 (upd_of (by rfl) e); ⟨g, e1, e2, k, n, s, b, fun e' => c (upd_of (by rfl) e')⟩, fun e => let ⟨g, e1, e2, k, n, s, b, c⟩ := h.h7 (upd_of (by rfl) e); ⟨g, e1, e2, k, n, s, b, fun e' => c (upd_of (by rfl) e')⟩, fun e e' => h.ne (upd_of (by rfl) e) (upd_of (by rfl) e')⟩
theorem PairF.t1 (h : PairF W k1 n1 k2 n2 X Y s1 s2 d w' v0 v1 v2 v3 v4 v5 v6 v7) : PairF W k1 n1 k2 n2 X Y s1 s2 (upd d 1) w' v0 (.int .i64 X) v2 v3 v4 v5 v6 v7 :=
  ⟨h.bel, fun e => h.h0 (upd_of (by rfl) e), fun _ => rfl, fun e => h.h2 (upd_of (by rfl) e), fun e => h.h3 (upd_of (by rfl) e), fun e => h.h4 (upd_of (by rfl) e), fun e => h.h5 (upd_of (by rfl) e), fun e => by rw [upd_ne _ (by rfl)]; exact h.o8 (upd_of (by rfl) e), fun e => by rw [upd_ne _ (by rfl)]; exact h.o9 (upd_of (by rfl) e), fun e => let ⟨g, e1, e2, k, n, s, b, c⟩ := h.h6 (upd_of (by rfl) e); ⟨g, e1, e2, k, n, s, b, fun e' => c (upd_of (by rfl) e')⟩, fun e => let ⟨g, e1, e2, k, n, s, b, c⟩ := h.h7 (upd_of (by rfl) e); ⟨g, e1, e2, k, n, s, b, fun e' => c (upd_of (by rfl) e')⟩, fun e e' => h.ne (upd_of (by rfl) e) (upd_of (by rfl) e')⟩
theorem PairF.t2 (h : PairF W k1 n1 k2 n2 X Y s1 s2 d w' v0 v1 v2 v3 v4 v5 v6 v7) : PairF W k1 n1 k2 n2 X Y s1 s2 (upd d 2) w' v0 v1 (vval 1 X ⟨#[]⟩) v3 v4 v5 v6 v7 :=
  ⟨h.bel, fun e => h.h0 (upd_of (by rfl) e), fun e => h.h1 (upd_of (by rfl) e), fun _ => rfl, fun e => h.h3 (upd_of (by rfl) e), fun e => h.h4 (upd_of (by rfl) e), fun e => h.h5 (upd_of (by rfl) e), fun e => by rw [upd_ne _ (by rfl)]; exact h.o8 (upd_of (by rfl) e), fun e => by rw [upd_ne _ (by rfl)]; exact h.o9 (upd_of (by rfl) e), fun e => let ⟨g, e1, e2, k, n, s, b, c⟩ := h.h6 (upd_of (by rfl) e); ⟨g, e1, e2, k, n, s, b, fun e' => c (upd_of (by rfl) e')⟩, fun e => let ⟨g, e1, e2, k, n, s, b, c⟩ := h.h7 (upd_of (by rfl) e); ⟨g, e1, e2, k, n, s, b, fun e' => c (upd_of (by rfl) e')⟩, fun e e' => h.ne (upd_of (by rfl) e) (upd_of (by rfl) e')⟩
theorem PairF.t3 (h : PairF W k1 n1 k2 n2 X Y s1 s2 d w' v0 v1 v2 v3 v4 v5 v6 v7) : PairF W k1 n1 k2 n2 X Y s1 s2 (upd d 3) w' v0 v1 v2 (vval k2 n2 s2) v4 v5 v6 v7 :=
  ⟨h.bel, fun e => h.h0 (upd_of (by rfl) e), fun e => h.h1 (upd_of (by rfl) e), fun e => h.h2 (upd_of (by rfl) e), fun _ => rfl, fun e => h.h4 (upd_of (by rfl) e), fun e => h.h5 (upd_of (by rfl) e), fun e => by rw [upd_ne _ (by rfl)]; exact h.o8 (upd_of (by rfl) e), fun e => by rw [upd_ne _ (by rfl)]; exact h.o9 (upd_of (by rfl) e), fun e => let ⟨g, e1, e2, k, n, s, b, c⟩ := h.h6 (upd_of (by rfl) e); ⟨g, e1, e2, k, n, s, b, fun e' => c (upd_of (by rfl) e')⟩, fun e => let ⟨g, e1, e2, k, n, s, b, c⟩ := h.h7 (upd_of (by rfl) e); ⟨g, e1, e2, k, n, s, b, fun e' => c (upd_of (by rfl) e')⟩, fun e e' => h.ne (upd_of (by rfl) e) (upd_of (by rfl) e')⟩
theorem PairF.t4 (h : PairF W k1 n1 k2 n2 X Y s1 s2 d w' v0 v1 v2 v3 v4 v5 v6 v7) : PairF W k1 n1 k2 n2 X Y s1 s2 (upd d 4) w' v0 v1 v2 v3 (.int .i64 Y) v5 v6 v7 :=
  ⟨h.bel, fun e => h.h0 (upd_of (by rfl) e), fun e => h.h1 (upd_of (by rfl) e), fun e => h.h2 (upd_of (by rfl) e), fun e => h.h3 (upd_of (by rfl) e), fun _ => rfl, fun e => h.h5 (upd_of (by rfl) e), fun e => by rw [upd_ne _ (by rfl)]; exact h.o8 (upd_of (by rfl) e), fun e => by rw [upd_ne _ (by rfl)]; exact h.o9 (upd_of (by rfl) e), fun e => let ⟨g, e1, e2, k, n, s, b, c⟩ := h.h6 (upd_of (by rfl) e); ⟨g, e1, e2, k, n, s, b, fun e' => c (upd_of (by rfl) e')⟩, fun e => let ⟨g, e1, e2, k, n, s, b, c⟩ := h.h7 (upd_of (by rfl) e); ⟨g, e1, e2, k, n, s, b, fun e' => c (upd_of (by rfl) e')⟩, fun e e' => h.ne (upd_of (by rfl) e) (upd_of (by rfl) e')⟩
theorem PairF.t5 (h : PairF W k1 n1 k2 n2 X Y s1 s2 d w' v0 v1 v2 v3 v4 v5 v6 v7) : PairF W k1 n1 k2 n2 X Y s1 s2 (upd d 5) w' v0 v1 v2 v3 v4 (vval 1 Y ⟨#[]⟩) v6 v7 :=
  ⟨h.bel, fun e => h.h0 (upd_of (by rfl) e), fun e => h.h1 (upd_of (by rfl) e), fun e => h.h2 (upd_of (by rfl) e), fun e => h.h3 (upd_of (by rfl) e), fun e => h.h4 (upd_of (by rfl) e), fun _ => rfl, fun e => by rw [upd_ne _ (by rfl)]; exact h.o8 (upd_of (by rfl) e), fun e => by rw [upd_ne _ (by rfl)]; exact h.o9 (upd_of (by rfl) e), fun e => let ⟨g, e1, e2, k, n, s, b, c⟩ := h.h6 (upd_of (by rfl) e); ⟨g, e1, e2, k, n, s, b, fun e' => c (upd_of (by rfl) e')⟩, fun e => let ⟨g, e1, e2, k, n, s, b, c⟩ := h.h7 (upd_of (by rfl) e); ⟨g, e1, e2, k, n, s, b, fun e' => c (upd_of (by rfl) e')⟩, fun e e' => h.ne (upd_of (by rfl) e) (upd_of (by rfl) e')⟩
theorem PairF.t6 (h : PairF W k1 n1 k2 n2 X Y s1 s2 d w' v0 v1 v2 v3 v4 v5 v6 v7) (hd : d 6 = false) : PairF W k1 n1 k2 n2 X Y s1 s2 (upd d 6) (w'.alloc (.cells #[.int .i64 0, .int .i64 0, .string ⟨#[]⟩] 24)) v0 v1 v2 v3 v4 v5 (.pointer (some ⟨w'.heap.size, 0, none⟩)) v7 := by
  have h' := h.world ((Below.refl w'.heap.size w').alloc (Nat.le_refl _) (.cells #[.int .i64 0, .int .i64 0, .string ⟨#[]⟩] 24))
  have h8 : d 8 = false := by
    cases e : d 8 with
    | false => rfl
    | true => rw [h.o8 e] at hd; cases hd
  have hB := h.bel.size
  refine ⟨h'.bel, fun e => h.h0 (upd_of (by rfl) e), fun e => h.h1 (upd_of (by rfl) e), fun e => h.h2 (upd_of (by rfl) e), fun e => h.h3 (upd_of (by rfl) e), fun e => h.h4 (upd_of (by rfl) e), fun e => h.h5 (upd_of (by rfl) e), ?_, ?_, ?_, ?_, ?_⟩
  · exact fun e => by exact upd_self _ _
  · exact fun e => by rw [upd_ne _ (by rfl)]; exact h.o9 (upd_of (by rfl) e)
  · exact fun _ => ⟨_, rfl, hB, 0, 0, ⟨#[]⟩, Blk.new _ _ _ _, fun e => by rw [upd_ne _ (by rfl), h8] at e; cases e⟩
  · exact fun e => let ⟨g, e1, e2, k, n, s, b, c⟩ := h'.h7 (upd_of (by rfl) e); ⟨g, e1, e2, k, n, s, b, fun e' => c (upd_of (by rfl) e')⟩
  · exact fun _ e' E => by obtain ⟨g, e1, _, k, n, s, b, _⟩ := h.h7 (upd_of (by rfl) e'); rw [e1] at E; cases E; exact absurd b.lt (Nat.lt_irrefl _)
theorem PairF.t7 (h : PairF W k1 n1 k2 n2 X Y s1 s2 d w' v0 v1 v2 v3 v4 v5 v6 v7) (hd : d 7 = false) : PairF W k1 n1 k2 n2 X Y s1 s2 (upd d 7) (w'.alloc (.cells #[.int .i64 0, .int .i64 0, .string ⟨#[]⟩] 24)) v0 v1 v2 v3 v4 v5 v6 (.pointer (some ⟨w'.heap.size, 0, none⟩)) := by
  have h' := h.world ((Below.refl w'.heap.size w').alloc (Nat.le_refl _) (.cells #[.int .i64 0, .int .i64 0, .string ⟨#[]⟩] 24))
  have h8 : d 9 = false := by
    cases e : d 9 with
    | false => rfl
    | true => rw [h.o9 e] at hd; cases hd
  have hB := h.bel.size
  refine ⟨h'.bel, fun e => h.h0 (upd_of (by rfl) e), fun e => h.h1 (upd_of (by rfl) e), fun e => h.h2 (upd_of (by rfl) e), fun e => h.h3 (upd_of (by rfl) e), fun e => h.h4 (upd_of (by rfl) e), fun e => h.h5 (upd_of (by rfl) e), ?_, ?_, ?_, ?_, ?_⟩
  · exact fun e => by rw [upd_ne _ (by rfl)]; exact h.o8 (upd_of (by rfl) e)
  · exact fun e => by exact upd_self _ _
  · exact fun e => let ⟨g, e1, e2, k, n, s, b, c⟩ := h'.h6 (upd_of (by rfl) e); ⟨g, e1, e2, k, n, s, b, fun e' => c (upd_of (by rfl) e')⟩
  · exact fun _ => ⟨_, rfl, hB, 0, 0, ⟨#[]⟩, Blk.new _ _ _ _, fun e => by rw [upd_ne _ (by rfl), h8] at e; cases e⟩
  · exact fun e' _ E => by obtain ⟨g, e1, _, k, n, s, b, _⟩ := h.h6 (upd_of (by rfl) e'); rw [e1] at E; cases E; exact absurd b.lt (Nat.lt_irrefl _)
theorem PairF.t8 {g : Nat} {k n : Int} {s : ByteArray} (h : PairF W k1 n1 k2 n2 X Y s1 s2 d w' v0 v1 v2 v3 v4 v5 v6 v7) (hg : v6 = .pointer (some ⟨g, 0, none⟩)) (hB : W.heap.size ≤ g) (hk : Blk w' g k n s) (hd : d 6 = true) :
    PairF W k1 n1 k2 n2 X Y s1 s2 (upd d 8) (((w'.setCell ⟨g, 0, none⟩ (.int .i64 1)).setCell ⟨g, 1, none⟩ (.int .i64 X)).setCell ⟨g, 2, none⟩ (.string ⟨#[]⟩)) v0 v1 v2 v3 v4 v5 v6 v7 := by
  refine ⟨below_sets h.bel hB _ _ _, fun e => h.h0 (upd_of (by rfl) e), fun e => h.h1 (upd_of (by rfl) e), fun e => h.h2 (upd_of (by rfl) e), fun e => h.h3 (upd_of (by rfl) e), fun e => h.h4 (upd_of (by rfl) e), fun e => h.h5 (upd_of (by rfl) e), ?_, ?_, ?_, ?_, ?_⟩
  · exact fun e => by rw [upd_ne _ (by rfl)]; exact hd
  · exact fun e => by rw [upd_ne _ (by rfl)]; exact h.o9 (upd_of (by rfl) e)
  · exact fun _ => ⟨g, hg, hB, 1, X, ⟨#[]⟩, hk.set _ _ _, fun _ => ⟨rfl, rfl, rfl⟩⟩
  · intro e
    obtain ⟨g', e1, e2, k', n', s', b, c⟩ := h.h7 (upd_of (by rfl) e)
    have hne : g ≠ g' := fun E => by
      have := h.ne hd (upd_of (by rfl) e)
      rw [hg, e1, E] at this
      exact this rfl
    exact ⟨g', e1, e2, k', n', s', b.other hne _ _ _, fun e' => c (upd_of (by rfl) e')⟩
  · exact fun e e' => h.ne (upd_of (by rfl) e) (upd_of (by rfl) e')
theorem PairF.t9 {g : Nat} {k n : Int} {s : ByteArray} (h : PairF W k1 n1 k2 n2 X Y s1 s2 d w' v0 v1 v2 v3 v4 v5 v6 v7) (hg : v7 = .pointer (some ⟨g, 0, none⟩)) (hB : W.heap.size ≤ g) (hk : Blk w' g k n s) (hd : d 7 = true) :
    PairF W k1 n1 k2 n2 X Y s1 s2 (upd d 9) (((w'.setCell ⟨g, 0, none⟩ (.int .i64 1)).setCell ⟨g, 1, none⟩ (.int .i64 Y)).setCell ⟨g, 2, none⟩ (.string ⟨#[]⟩)) v0 v1 v2 v3 v4 v5 v6 v7 := by
  refine ⟨below_sets h.bel hB _ _ _, fun e => h.h0 (upd_of (by rfl) e), fun e => h.h1 (upd_of (by rfl) e), fun e => h.h2 (upd_of (by rfl) e), fun e => h.h3 (upd_of (by rfl) e), fun e => h.h4 (upd_of (by rfl) e), fun e => h.h5 (upd_of (by rfl) e), ?_, ?_, ?_, ?_, ?_⟩
  · exact fun e => by rw [upd_ne _ (by rfl)]; exact h.o8 (upd_of (by rfl) e)
  · exact fun e => by rw [upd_ne _ (by rfl)]; exact hd
  · intro e
    obtain ⟨g', e1, e2, k', n', s', b, c⟩ := h.h6 (upd_of (by rfl) e)
    have hne : g ≠ g' := fun E => by
      have := h.ne (upd_of (by rfl) e) hd
      rw [hg, e1, E] at this
      exact this rfl
    exact ⟨g', e1, e2, k', n', s', b.other hne _ _ _, fun e' => c (upd_of (by rfl) e')⟩
  · exact fun _ => ⟨g, hg, hB, 1, Y, ⟨#[]⟩, hk.set _ _ _, fun _ => ⟨rfl, rfl, rfl⟩⟩
  · exact fun e e' => h.ne (upd_of (by rfl) e) (upd_of (by rfl) e')
end
def PairI (W : World) (k1 n1 k2 n2 X Y : Int) (s1 s2 : ByteArray) (a0 : Act) (d : Nat → Bool) (a : Act) (w' : World) : Prop :=
  ∃ v0 v1 v2 v3 v4 v5 v6 v7 : Value, a = ((((((((a0.put (some 18) v0).put (some 19) v1).put (some 20) v2).put (some 21) v3).put (some 22) v4).put (some 23) v5).put (some 6) v6).put (some 7) v7) ∧ PairF W k1 n1 k2 n2 X Y s1 s2 d w' v0 v1 v2 v3 v4 v5 v6 v7
/-- these blocks hold these values -/
def Holds (w : World) (l : List (Nat × Int × Int × ByteArray)) : Prop := ∀ x ∈ l, Blk w x.1 x.2.1 x.2.2.1 x.2.2.2
theorem Holds.below {w w' : World} {l : List (Nat × Int × Int × ByteArray)} (h : Holds w l) (hb : Below w.heap.size w w') : Holds w' l := fun x hx => (h x hx).below hb
theorem Holds.new {w : World} {l : List (Nat × Int × Int × ByteArray)} (h : Holds w l) (k n : Int) (s : ByteArray) : Holds (w.alloc (.cells #[.int .i64 k, .int .i64 n, .string s] 24)) ((w.heap.size, k, n, s) :: l) := fun x hx => by
  rcases List.mem_cons.1 hx with rfl | hx
  · exact Blk.new _ _ _ _
  · exact (h x hx).alloc _
theorem Holds.get {w : World} {l : List (Nat × Int × Int × ByteArray)} (h : Holds w l) (g : Nat) (k n : Int) (s : ByteArray) (hx : (g, k, n, s) ∈ l) : w.cell? ⟨g, 0, none⟩ = some (.int .i64 k) ∧ w.cell? ⟨g, 1, none⟩ = some (.int .i64 n) ∧ w.cell? ⟨g, 2, none⟩ = some (.string s) :=
  ⟨(h _ hx).c0, (h _ hx).c1, (h _ hx).c2⟩
/-- block g holds a locale -/
structure LBlk (w : World) (g : Nat) (a b c d e f : Value) : Prop where
  c0 : w.cell? ⟨g, 0, none⟩ = some a
  c1 : w.cell? ⟨g, 1, none⟩ = some b
  c2 : w.cell? ⟨g, 2, none⟩ = some c
  c3 : w.cell? ⟨g, 3, none⟩ = some d
  c4 : w.cell? ⟨g, 4, none⟩ = some e
  c5 : w.cell? ⟨g, 5, none⟩ = some f
theorem LBlk.below {w w' : World} {g : Nat} {a b c d e f : Value} (h : LBlk w g a b c d e f) (hb : Below w.heap.size w w') : LBlk w' g a b c d e f := by
  have hl : g < w.heap.size := World.block_lt_of_cell? w _ h.c0
  exact ⟨by rw [hb.cell (p := ⟨g, 0, none⟩) hl]; exact h.c0, by rw [hb.cell (p := ⟨g, 1, none⟩) hl]; exact h.c1, by rw [hb.cell (p := ⟨g, 2, none⟩) hl]; exact h.c2, by rw [hb.cell (p := ⟨g, 3, none⟩) hl]; exact h.c3, by rw [hb.cell (p := ⟨g, 4, none⟩) hl]; exact h.c4, by rw [hb.cell (p := ⟨g, 5, none⟩) hl]; exact h.c5⟩
theorem LBlk.new (w : World) (a b c d e f : Value) : LBlk (w.alloc (.cells #[a, b, c, d, e, f] 41)) w.heap.size a b c d e f := by
  have h := heap_alloc_new w (.cells #[a, b, c, d, e, f] 41)
  generalize w.alloc (.cells #[a, b, c, d, e, f] 41) = w', w.heap.size = n at h
  refine ⟨?_, ?_, ?_, ?_, ?_, ?_⟩
  all_goals simp [World.cell?, h]
theorem vcompare_is (a0 a2 a3 : ByteArray) (v1 v4 v5 : Value) (x y z : Int) (w : World) (hx : Hid (near x = x)) (hy : Hid (near y = y)) (hz : Hid (cmp3 x y = z)) :
    Calls Tryd.prog 23 #[lval a0 v1 a2 a3 v4 v5, vval 1 x ⟨#[]⟩, vval 1 y ⟨#[]⟩] w fun e w' => e = .returned (.int .i64 z) ∧ Below w.heap.size w w' := by
  rw [← hz.out]
  exact vcompare_num a0 a2 a3 v1 v4 v5 1 x 1 y x y ⟨#[]⟩ ⟨#[]⟩ w (by decide) (by decide) (by decide) (by decide) (Lib.hid (by rw [num_1]; exact hx.out)) (Lib.hid (by rw [num_1]; exact hy.out))
set_option maxRecDepth 100000 in
set_option maxHeartbeats 8000000 in
theorem differs_tt (k1 n1 k2 n2 X Y N Dv Sv : Int) (b1 b2 : Bool) (s1 s2 : ByteArray) (w : World) (T : Hid (Tab w)) (S1 : Hid (s1.size ≤ 9223372036854775807)) (S2 : Hid (s2.size ≤ 9223372036854775807))
    (HX : Hid (numV k1 n1 s1.data.toList = X)) (HY : Hid (numV k2 n2 s2.data.toList = Y)) (FX : Hid (near X = X)) (FY : Hid (near Y = Y)) (HN : Hid (cmp3 X Y = N))
    (A1 : Hid (AR ⟨#[45]⟩ X Y 1 Dv 0)) (A2 : Hid (AR ⟨#[43]⟩ X Y 1 Sv 0)) (A3 : Hid (AR ⟨#[43]⟩ Y X 1 Sv 0)) (A4 : Hid (AR ⟨#[45]⟩ Sv Y 1 X 0)) (FS : Hid (numV 1 Sv [] = Sv))
    (t1 : decide (Dv < 0) = b1) (t2 : decide (N < 0) = b1) (t3 : decide (0 < Dv) = b2) (t4 : decide (0 < N) = b2) :
    Calls Tryd.prog 8 #[vval k1 n1 s1, vval k2 n2 s2] w fun e w' => e = .returned (.bool true) ∧ Below w.heap.size w w' := by
  go_enter Tryd.func8, Tryd.ntmps8
  go_wp2_with (first | (go_at_call 26; refine (rdefault_sl _).mono ?_; rintro e w1 ⟨g1, cap1, rfl, IR, hb1⟩; replace hb1 := hb1.out))
  have HW : Hid (Below ((w.alloc (.cells #[.int .i64 k1, .int .i64 n1, .string s1] 24)).alloc (.cells #[.int .i64 k2, .int .i64 n2, .string s2] 24)).heap.size ((w.alloc (.cells #[.int .i64 k1, .int .i64 n1, .string s1] 24)).alloc (.cells #[.int .i64 k2, .int .i64 n2, .string s2] 24)) (w1.alloc (.cells #[.string ⟨#[112, 111, 115, 105, 120]⟩, .slice (some ⟨g1, 0, none⟩) 256 cap1, .string ⟨(ltab 256).toArray⟩, .string ⟨(utab 256).toArray⟩, .slice none 0 0, .slice none 0 0] 41))) := Lib.hid (hb1.alloc (by have := hb1.size; exact this) _)
  have PC : Hid (∀ w', Below (w1.alloc (.cells #[.string ⟨#[112, 111, 115, 105, 120]⟩, .slice (some ⟨g1, 0, none⟩) 256 cap1, .string ⟨(ltab 256).toArray⟩, .string ⟨(utab 256).toArray⟩, .slice none 0 0, .slice none 0 0] 41)).heap.size (w1.alloc (.cells #[.string ⟨#[112, 111, 115, 105, 120]⟩, .slice (some ⟨g1, 0, none⟩) 256 cap1, .string ⟨(ltab 256).toArray⟩, .string ⟨(utab 256).toArray⟩, .slice none 0 0, .slice none 0 0] 41)) w' → w'.cell? ⟨w.heap.size, 0, none⟩ = some (.int .i64 k1) ∧ w'.cell? ⟨w.heap.size, 1, none⟩ = some (.int .i64 n1) ∧ w'.cell? ⟨w.heap.size, 2, none⟩ = some (.string s1) ∧ w'.cell? ⟨w.heap.size + 1, 0, none⟩ = some (.int .i64 k2) ∧ w'.cell? ⟨w.heap.size + 1, 1, none⟩ = some (.int .i64 n2) ∧ w'.cell? ⟨w.heap.size + 1, 2, none⟩ = some (.string s2)) :=
    Lib.hid (fun w' hb => par2 (HW.out.trans (hb.mono HW.out.size)))
  have H0 : Holds ((w.alloc (.cells #[.int .i64 k1, .int .i64 n1, .string s1] 24)).alloc (.cells #[.int .i64 k2, .int .i64 n2, .string s2] 24)) [(w.heap.size, k1, n1, s1), (w.heap.size + 1, k2, n2, s2)] := by
    intro x hx
    have q2 := Blk.new (w.alloc (.cells #[.int .i64 k1, .int .i64 n1, .string s1] 24)) k2 n2 s2
    rw [World.size_alloc] at q2
    simp only [List.mem_cons, List.not_mem_nil, or_false] at hx
    rcases hx with rfl | rfl
    · exact (Blk.new w k1 n1 s1).alloc _
    · exact q2
  have HH := Lib.hid ((H0.below (hb1.mono (Nat.le_refl _))).below ((Below.refl w1.heap.size w1).alloc (Nat.le_refl _) (.cells #[.string ⟨#[112, 111, 115, 105, 120]⟩, .slice (some ⟨g1, 0, none⟩) 256 cap1, .string ⟨(ltab 256).toArray⟩, .string ⟨(utab 256).toArray⟩, .slice none 0 0, .slice none 0 0] 41)))
  clear H0
  refine wp_region_inv (PairI (w1.alloc (.cells #[.string ⟨#[112, 111, 115, 105, 120]⟩, .slice (some ⟨g1, 0, none⟩) 256 cap1, .string ⟨(ltab 256).toArray⟩, .string ⟨(utab 256).toArray⟩, .slice none 0 0, .slice none 0 0] 41)) k1 n1 k2 n2 X Y s1 s2) (by kernel_rfl) (by kernel_rfl) ?_ ?_ ?_
  · exact ⟨undef, undef, undef, undef, undef, undef, undef, undef, by simp only [Act.put, List.setIfInBounds_toArray, List.set_cons_zero, List.set_cons_succ], (Below.refl _ _).drew, not_yet (by kernel_rfl), not_yet (by kernel_rfl), not_yet (by kernel_rfl), not_yet (by kernel_rfl), not_yet (by kernel_rfl), not_yet (by kernel_rfl), not_yet (by kernel_rfl), not_yet (by kernel_rfl), not_yet (by kernel_rfl), not_yet (by kernel_rfl), not_yet (by kernel_rfl)⟩
  · refine StepsL.cons 1 rfl ?_ ?_
    · intro d a w' hI hd hdep K hK
      obtain ⟨v0, v1, v2, v3, v4, v5, v6, v7, ha, F⟩ := hI
      simp only [Act.put, List.setIfInBounds_toArray, List.set_cons_zero, List.set_cons_succ] at ha
      subst ha
      obtain ⟨c0, c1, c2, d0, d1, d2⟩ := PC.out _ F.bel
      go_simp
      exact hK.out _ _ ⟨_, v1, v2, v3, v4, v5, v6, v7, by simp only [Act.put, List.setIfInBounds_toArray, List.set_cons_zero, List.set_cons_succ], F.t0⟩
    refine StepsL.cons 2 rfl ?_ ?_
    · intro d a w' hI hd hdep K hK
      obtain ⟨v0, v1, v2, v3, v4, v5, v6, v7, ha, F⟩ := hI
      simp only [Act.put, List.setIfInBounds_toArray, List.set_cons_zero, List.set_cons_succ] at ha
      subst ha
      obtain rfl := F.h0 (hdep ⟨0, .data⟩ (by simp) (by rfl))
      go_simp
      go_at_call 9
      refine (vnumber_is k1 n1 X s1 _ S1.out HX.out).mono ?_
      rintro e w2 ⟨rfl, hb⟩
      go_wp2_with fail
      exact hK.out _ _ ⟨_, _, v2, v3, v4, v5, v6, v7, by simp only [Act.put, List.setIfInBounds_toArray, List.set_cons_zero, List.set_cons_succ], (F.world hb).t1⟩
    refine StepsL.cons 3 rfl ?_ ?_
    · intro d a w' hI hd hdep K hK
      obtain ⟨v0, v1, v2, v3, v4, v5, v6, v7, ha, F⟩ := hI
      simp only [Act.put, List.setIfInBounds_toArray, List.set_cons_zero, List.set_cons_succ] at ha
      subst ha
      obtain rfl := F.h1 (hdep ⟨1, .data⟩ (by simp) (by rfl))
      go_simp
      go_at_call 22
      refine (fromNumber_is X X _ FX).mono ?_
      rintro e w2 ⟨rfl, hb⟩
      go_wp2_with fail
      exact hK.out _ _ ⟨v0, _, _, v3, v4, v5, v6, v7, by simp only [Act.put, List.setIfInBounds_toArray, List.set_cons_zero, List.set_cons_succ], (F.world hb).t2⟩
    refine StepsL.cons 4 rfl ?_ ?_
    · intro d a w' hI hd hdep K hK
      obtain ⟨v0, v1, v2, v3, v4, v5, v6, v7, ha, F⟩ := hI
      simp only [Act.put, List.setIfInBounds_toArray, List.set_cons_zero, List.set_cons_succ] at ha
      subst ha
      obtain ⟨c0, c1, c2, d0, d1, d2⟩ := PC.out _ F.bel
      go_simp
      exact hK.out _ _ ⟨v0, v1, v2, _, v4, v5, v6, v7, by simp only [Act.put, List.setIfInBounds_toArray, List.set_cons_zero, List.set_cons_succ], F.t3⟩
    refine StepsL.cons 5 rfl ?_ ?_
    · intro d a w' hI hd hdep K hK
      obtain ⟨v0, v1, v2, v3, v4, v5, v6, v7, ha, F⟩ := hI
      simp only [Act.put, List.setIfInBounds_toArray, List.set_cons_zero, List.set_cons_succ] at ha
      subst ha
      obtain rfl := F.h3 (hdep ⟨3, .data⟩ (by simp) (by rfl))
      go_simp
      go_at_call 9
      refine (vnumber_is k2 n2 Y s2 _ S2.out HY.out).mono ?_
      rintro e w2 ⟨rfl, hb⟩
      go_wp2_with fail
      exact hK.out _ _ ⟨v0, v1, v2, _, _, v5, v6, v7, by simp only [Act.put, List.setIfInBounds_toArray, List.set_cons_zero, List.set_cons_succ], (F.world hb).t4⟩
    refine StepsL.cons 6 rfl ?_ ?_
    · intro d a w' hI hd hdep K hK
      obtain ⟨v0, v1, v2, v3, v4, v5, v6, v7, ha, F⟩ := hI
      simp only [Act.put, List.setIfInBounds_toArray, List.set_cons_zero, List.set_cons_succ] at ha
      subst ha
      obtain rfl := F.h4 (hdep ⟨4, .data⟩ (by simp) (by rfl))
      go_simp
      go_at_call 22
      refine (fromNumber_is Y Y _ FY).mono ?_
      rintro e w2 ⟨rfl, hb⟩
      go_wp2_with fail
      exact hK.out _ _ ⟨v0, v1, v2, v3, _, _, v6, v7, by simp only [Act.put, List.setIfInBounds_toArray, List.set_cons_zero, List.set_cons_succ], (F.world hb).t5⟩
    refine StepsL.cons 7 rfl ?_ ?_
    · intro d a w' hI hd hdep K hK
      obtain ⟨v0, v1, v2, v3, v4, v5, v6, v7, ha, F⟩ := hI
      simp only [Act.put, List.setIfInBounds_toArray, List.set_cons_zero, List.set_cons_succ] at ha
      subst ha
      go_simp
      exact hK.out _ _ ⟨v0, v1, v2, v3, v4, v5, _, v7, by simp only [Act.put, List.setIfInBounds_toArray, List.set_cons_zero, List.set_cons_succ], F.t6 hd⟩
    refine StepsL.cons 8 rfl ?_ ?_
    · intro d a w' hI hd hdep K hK
      obtain ⟨v0, v1, v2, v3, v4, v5, v6, v7, ha, F⟩ := hI
      simp only [Act.put, List.setIfInBounds_toArray, List.set_cons_zero, List.set_cons_succ] at ha
      subst ha
      go_simp
      exact hK.out _ _ ⟨v0, v1, v2, v3, v4, v5, v6, _, by simp only [Act.put, List.setIfInBounds_toArray, List.set_cons_zero, List.set_cons_succ], F.t7 hd⟩
    refine StepsL.cons 9 rfl ?_ ?_
    · intro d a w' hI hd hdep K hK
      obtain ⟨v0, v1, v2, v3, v4, v5, v6, v7, ha, F⟩ := hI
      simp only [Act.put, List.setIfInBounds_toArray, List.set_cons_zero, List.set_cons_succ] at ha
      subst ha
      have D6 := (hdep ⟨6, .data⟩ (by simp) (by rfl))
      obtain ⟨g, hg, hB, k, n, s, hk, -⟩ := F.h6 D6
      obtain rfl := F.h2 (hdep ⟨2, .data⟩ (by simp) (by rfl))
      have F' := F.t8 hg hB hk D6
      subst hg
      obtain ⟨f0, f1, f2, c0, c1, c2⟩ := hk
      go_simp
      exact hK.out _ _ ⟨v0, v1, _, v3, v4, v5, _, v7, by simp only [Act.put, List.setIfInBounds_toArray, List.set_cons_zero, List.set_cons_succ], F'⟩
    refine StepsL.cons 10 rfl ?_ ?_
    · intro d a w' hI hd hdep K hK
      obtain ⟨v0, v1, v2, v3, v4, v5, v6, v7, ha, F⟩ := hI
      simp only [Act.put, List.setIfInBounds_toArray, List.set_cons_zero, List.set_cons_succ] at ha
      subst ha
      have D6 := (hdep ⟨7, .data⟩ (by simp) (by rfl))
      obtain ⟨g, hg, hB, k, n, s, hk, -⟩ := F.h7 D6
      obtain rfl := F.h5 (hdep ⟨5, .data⟩ (by simp) (by rfl))
      have F' := F.t9 hg hB hk D6
      subst hg
      obtain ⟨f0, f1, f2, c0, c1, c2⟩ := hk
      go_simp
      exact hK.out _ _ ⟨v0, v1, v2, v3, v4, _, v6, _, by simp only [Act.put, List.setIfInBounds_toArray, List.set_cons_zero, List.set_cons_succ], F'⟩
    exact StepsL.nil
  · intro d a w2 hI hall
    obtain ⟨v0, v1, v2, v3, v4, v5, v6, v7, ha, F⟩ := hI
    simp only [Act.put, List.setIfInBounds_toArray, List.set_cons_zero, List.set_cons_succ] at ha
    obtain ⟨g, hg, -, kg, ng, sg, bg, eg⟩ := F.h6 (hall 6)
    obtain ⟨rfl, rfl, rfl⟩ := eg (hall 8)
    obtain ⟨h, hh, -, kh, nh, sh, bh, eh⟩ := F.h7 (hall 7)
    obtain ⟨rfl, rfl, rfl⟩ := eh (hall 9)
    obtain rfl := F.h0 (hall 0)
    obtain rfl := F.h1 (hall 1)
    obtain rfl := F.h2 (hall 2)
    obtain rfl := F.h3 (hall 3)
    obtain rfl := F.h4 (hall 4)
    obtain rfl := F.h5 (hall 5)
    have fb := F.bel
    have L2 := Lib.hid ((LBlk.new w1 (.string ⟨#[112, 111, 115, 105, 120]⟩) (.slice (some ⟨g1, 0, none⟩) 256 cap1) (.string ⟨(ltab 256).toArray⟩) (.string ⟨(utab 256).toArray⟩) (.slice none 0 0) (.slice none 0 0)).below fb)
    have H2 : Hid (Holds w2 [(w.heap.size, k1, n1, s1), (w.heap.size + 1, k2, n2, s2), (g, 1, ng, ⟨#[]⟩), (h, 1, nh, ⟨#[]⟩)]) := Lib.hid (by
      intro x hx
      simp only [List.mem_cons, List.not_mem_nil, or_false] at hx
      rcases hx with rfl | rfl | rfl | rfl
      · exact (HH.out.below fb) _ (by simp)
      · exact (HH.out.below fb) _ (by simp)
      · exact bg
      · exact bh)
    have B2 : Hid (Below w.heap.size w w2) := Lib.hid (below_step (below_step (HW.out.trans (fb.mono HW.out.size))))
    clear F bg bh fb HH HW PC hall eg eh hb1 IR
    subst hg
    subst hh
    subst ha
    obtain ⟨p0, p1, p2⟩ := H2.out.get w.heap.size k1 n1 s1 (by simp)
    obtain ⟨q0, q1, q2⟩ := H2.out.get (w.heap.size + 1) k2 n2 s2 (by simp)
    go_wp2_with fail
    refine (arith_ar ⟨#[45]⟩ k1 n1 k2 n2 ng nh 1 Dv 0 s1 s2 _ S1.out S2.out HX HY A1).mono ?_
    rintro e w3 ⟨rfl, hb3⟩
    have H3 := Lib.hid ((H2.out.below hb3).new 1 Dv ⟨#[]⟩)
    have L3 := Lib.hid ((L2.out.below hb3).below ((Below.refl w3.heap.size w3).alloc (Nat.le_refl _) (.cells #[.int .i64 1, .int .i64 Dv, .string ⟨#[]⟩] 24)))
    have B3 := Lib.hid (B2.out.trans (below_step (Below.refl _ (w3.alloc (.cells #[.int .i64 1, .int .i64 Dv, .string ⟨#[]⟩] 24))) |> fun z => (hb3.trans (z.mono hb3.size)).mono B2.out.size))
    clear p0 p1 p2 q0 q1 q2 hb3 H2 L2 B2
    obtain ⟨p0, p1, p2⟩ := H3.out.get g 1 ng ⟨#[]⟩ (by simp)
    obtain ⟨q0, q1, q2⟩ := H3.out.get h 1 nh ⟨#[]⟩ (by simp)
    obtain ⟨l0, l1, l2, l3, l4, l5⟩ := L3.out
    go_wp2_with fail
    refine (vcompare_is _ _ _ _ _ _ ng nh N _ FX FY HN).mono ?_
    rintro e w4 ⟨rfl, hb4⟩
    have H4 := Lib.hid (H3.out.below hb4)
    have B4 := Lib.hid (B3.out.trans (hb4.mono B3.out.size))
    clear p0 p1 p2 q0 q1 q2 l0 l1 l2 l3 l4 l5 hb4 H3 L3 B3
    obtain ⟨r0, r1, r2⟩ := H4.out.get w3.heap.size 1 Dv ⟨#[]⟩ (by simp)
    obtain ⟨p0, p1, p2⟩ := H4.out.get w.heap.size k1 n1 s1 (by simp)
    obtain ⟨q0, q1, q2⟩ := H4.out.get (w.heap.size + 1) k2 n2 s2 (by simp)
    go_wp2_with fail
    refine (arith_ar ⟨#[43]⟩ k1 n1 k2 n2 ng nh 1 Sv 0 s1 s2 _ S1.out S2.out HX HY A2).mono ?_
    rintro e w5 ⟨rfl, hb5⟩
    have H5 := Lib.hid ((H4.out.below hb5).new 1 Sv ⟨#[]⟩)
    have B5 := Lib.hid (B4.out.trans (below_step (Below.refl _ (w5.alloc (.cells #[.int .i64 1, .int .i64 Sv, .string ⟨#[]⟩] 24))) |> fun z => (hb5.trans (z.mono hb5.size)).mono B4.out.size))
    clear r0 r1 r2 p0 p1 p2 q0 q1 q2 hb5 H4 B4
    obtain ⟨p0, p1, p2⟩ := H5.out.get w.heap.size k1 n1 s1 (by simp)
    obtain ⟨q0, q1, q2⟩ := H5.out.get (w.heap.size + 1) k2 n2 s2 (by simp)
    go_wp2_with fail
    refine (arith_ar ⟨#[43]⟩ k2 n2 k1 n1 nh ng 1 Sv 0 s2 s1 _ S2.out S1.out HY HX A3).mono ?_
    rintro e w6 ⟨rfl, hb6⟩
    have H6 := Lib.hid ((H5.out.below hb6).new 1 Sv ⟨#[]⟩)
    have B6 := Lib.hid (B5.out.trans (below_step (Below.refl _ (w6.alloc (.cells #[.int .i64 1, .int .i64 Sv, .string ⟨#[]⟩] 24))) |> fun z => (hb6.trans (z.mono hb6.size)).mono B5.out.size))
    clear p0 p1 p2 q0 q1 q2 hb6 H5 B5
    obtain ⟨p0, p1, p2⟩ := H6.out.get w5.heap.size 1 Sv ⟨#[]⟩ (by simp)
    obtain ⟨r0, r1, r2⟩ := H6.out.get w6.heap.size 1 Sv ⟨#[]⟩ (by simp)
    obtain ⟨q0, q1, q2⟩ := H6.out.get (w.heap.size + 1) k2 n2 s2 (by simp)
    go_wp2_with fail
    refine (arith_ar ⟨#[45]⟩ 1 Sv k2 n2 Sv nh 1 ng 0 ⟨#[]⟩ s2 _ (by decide) S2.out FS HY A4).mono ?_
    rintro e w7 ⟨rfl, hb7⟩
    have H7 := Lib.hid ((H6.out.below hb7).new 1 ng ⟨#[]⟩)
    have B7 := Lib.hid (B6.out.trans (below_step (Below.refl _ (w7.alloc (.cells #[.int .i64 1, .int .i64 ng, .string ⟨#[]⟩] 24))) |> fun z => (hb7.trans (z.mono hb7.size)).mono B6.out.size))
    clear r0 r1 r2 p0 p1 p2 q0 q1 q2 hb7 H6 B6
    obtain ⟨p0, p1, p2⟩ := H7.out.get w7.heap.size 1 ng ⟨#[]⟩ (by simp)
    obtain ⟨q0, q1, q2⟩ := H7.out.get g 1 ng ⟨#[]⟩ (by simp)
    go_wp2_with fail
    refine (vawake_any _ (tab_below T.out B7.out)).mono ?_
    rintro e w8 ⟨rfl, hb8⟩
    clear p0 p1 p2 q0 q1 q2
    have B8 := Lib.hid (B7.out.trans (hb8.mono B7.out.size))
    clear hb8 B7 H7
    go_wp2_with fail
    go_ret
    exact ⟨rfl, B8.out⟩
set_option maxRecDepth 100000 in
set_option maxHeartbeats 8000000 in
theorem differs_tf (k1 n1 k2 n2 X Y N Dv K4 D4 E4 : Int) (b1 b2 : Bool) (s1 s2 : ByteArray) (w : World) (T : Hid (Tab w)) (S1 : Hid (s1.size ≤ 9223372036854775807)) (S2 : Hid (s2.size ≤ 9223372036854775807))
    (HX : Hid (numV k1 n1 s1.data.toList = X)) (HY : Hid (numV k2 n2 s2.data.toList = Y)) (FX : Hid (near X = X)) (FY : Hid (near Y = Y)) (HN : Hid (cmp3 X Y = N))
    (A1 : Hid (AR ⟨#[45]⟩ X Y 1 Dv 0)) (A2 : Hid (AR ⟨#[43]⟩ X Y 0 0 9)) (A3 : Hid (AR ⟨#[43]⟩ Y X 0 0 9)) (A4 : Hid (AR ⟨#[45]⟩ 0 Y K4 D4 E4)) (FS : Hid (numV 0 0 [] = 0))
    (t1 : decide (Dv < 0) = b1) (t2 : decide (N < 0) = b1) (t3 : decide (0 < Dv) = b2) (t4 : decide (0 < N) = b2) :
    Calls Tryd.prog 8 #[vval k1 n1 s1, vval k2 n2 s2] w fun e w' => e = .returned (.bool true) ∧ Below w.heap.size w w' := by
  go_enter Tryd.func8, Tryd.ntmps8
  go_wp2_with (first | (go_at_call 26; refine (rdefault_sl _).mono ?_; rintro e w1 ⟨g1, cap1, rfl, IR, hb1⟩; replace hb1 := hb1.out))
  have HW : Hid (Below ((w.alloc (.cells #[.int .i64 k1, .int .i64 n1, .string s1] 24)).alloc (.cells #[.int .i64 k2, .int .i64 n2, .string s2] 24)).heap.size ((w.alloc (.cells #[.int .i64 k1, .int .i64 n1, .string s1] 24)).alloc (.cells #[.int .i64 k2, .int .i64 n2, .string s2] 24)) (w1.alloc (.cells #[.string ⟨#[112, 111, 115, 105, 120]⟩, .slice (some ⟨g1, 0, none⟩) 256 cap1, .string ⟨(ltab 256).toArray⟩, .string ⟨(utab 256).toArray⟩, .slice none 0 0, .slice none 0 0] 41))) := Lib.hid (hb1.alloc (by have := hb1.size; exact this) _)
  have PC : Hid (∀ w', Below (w1.alloc (.cells #[.string ⟨#[112, 111, 115, 105, 120]⟩, .slice (some ⟨g1, 0, none⟩) 256 cap1, .string ⟨(ltab 256).toArray⟩, .string ⟨(utab 256).toArray⟩, .slice none 0 0, .slice none 0 0] 41)).heap.size (w1.alloc (.cells #[.string ⟨#[112, 111, 115, 105, 120]⟩, .slice (some ⟨g1, 0, none⟩) 256 cap1, .string ⟨(ltab 256).toArray⟩, .string ⟨(utab 256).toArray⟩, .slice none 0 0, .slice none 0 0] 41)) w' → w'.cell? ⟨w.heap.size, 0, none⟩ = some (.int .i64 k1) ∧ w'.cell? ⟨w.heap.size, 1, none⟩ = some (.int .i64 n1) ∧ w'.cell? ⟨w.heap.size, 2, none⟩ = some (.string s1) ∧ w'.cell? ⟨w.heap.size + 1, 0, none⟩ = some (.int .i64 k2) ∧ w'.cell? ⟨w.heap.size + 1, 1, none⟩ = some (.int .i64 n2) ∧ w'.cell? ⟨w.heap.size + 1, 2, none⟩ = some (.string s2)) :=
    Lib.hid (fun w' hb => par2 (HW.out.trans (hb.mono HW.out.size)))
  have H0 : Holds ((w.alloc (.cells #[.int .i64 k1, .int .i64 n1, .string s1] 24)).alloc (.cells #[.int .i64 k2, .int .i64 n2, .string s2] 24)) [(w.heap.size, k1, n1, s1), (w.heap.size + 1, k2, n2, s2)] := by
    intro x hx
    have q2 := Blk.new (w.alloc (.cells #[.int .i64 k1, .int .i64 n1, .string s1] 24)) k2 n2 s2
    rw [World.size_alloc] at q2
    simp only [List.mem_cons, List.not_mem_nil, or_false] at hx
    rcases hx with rfl | rfl
    · exact (Blk.new w k1 n1 s1).alloc _
    · exact q2
  have HH := Lib.hid ((H0.below (hb1.mono (Nat.le_refl _))).below ((Below.refl w1.heap.size w1).alloc (Nat.le_refl _) (.cells #[.string ⟨#[112, 111, 115, 105, 120]⟩, .slice (some ⟨g1, 0, none⟩) 256 cap1, .string ⟨(ltab 256).toArray⟩, .string ⟨(utab 256).toArray⟩, .slice none 0 0, .slice none 0 0] 41)))
  clear H0
  refine wp_region_inv (PairI (w1.alloc (.cells #[.string ⟨#[112, 111, 115, 105, 120]⟩, .slice (some ⟨g1, 0, none⟩) 256 cap1, .string ⟨(ltab 256).toArray⟩, .string ⟨(utab 256).toArray⟩, .slice none 0 0, .slice none 0 0] 41)) k1 n1 k2 n2 X Y s1 s2) (by kernel_rfl) (by kernel_rfl) ?_ ?_ ?_
  · exact ⟨undef, undef, undef, undef, undef, undef, undef, undef, by simp only [Act.put, List.setIfInBounds_toArray, List.set_cons_zero, List.set_cons_succ], (Below.refl _ _).drew, not_yet (by kernel_rfl), not_yet (by kernel_rfl), not_yet (by kernel_rfl), not_yet (by kernel_rfl), not_yet (by kernel_rfl), not_yet (by kernel_rfl), not_yet (by kernel_rfl), not_yet (by kernel_rfl), not_yet (by kernel_rfl), not_yet (by kernel_rfl), not_yet (by kernel_rfl)⟩
  · refine StepsL.cons 1 rfl ?_ ?_
    · intro d a w' hI hd hdep K hK
      obtain ⟨v0, v1, v2, v3, v4, v5, v6, v7, ha, F⟩ := hI
      simp only [Act.put, List.setIfInBounds_toArray, List.set_cons_zero, List.set_cons_succ] at ha
      subst ha
      obtain ⟨c0, c1, c2, d0, d1, d2⟩ := PC.out _ F.bel
      go_simp
      exact hK.out _ _ ⟨_, v1, v2, v3, v4, v5, v6, v7, by simp only [Act.put, List.setIfInBounds_toArray, List.set_cons_zero, List.set_cons_succ], F.t0⟩
    refine StepsL.cons 2 rfl ?_ ?_
    · intro d a w' hI hd hdep K hK
      obtain ⟨v0, v1, v2, v3, v4, v5, v6, v7, ha, F⟩ := hI
      simp only [Act.put, List.setIfInBounds_toArray, List.set_cons_zero, List.set_cons_succ] at ha
      subst ha
      obtain rfl := F.h0 (hdep ⟨0, .data⟩ (by simp) (by rfl))
      go_simp
      go_at_call 9
      refine (vnumber_is k1 n1 X s1 _ S1.out HX.out).mono ?_
      rintro e w2 ⟨rfl, hb⟩
      go_wp2_with fail
      exact hK.out _ _ ⟨_, _, v2, v3, v4, v5, v6, v7, by simp only [Act.put, List.setIfInBounds_toArray, List.set_cons_zero, List.set_cons_succ], (F.world hb).t1⟩
    refine StepsL.cons 3 rfl ?_ ?_
    · intro d a w' hI hd hdep K hK
      obtain ⟨v0, v1, v2, v3, v4, v5, v6, v7, ha, F⟩ := hI
      simp only [Act.put, List.setIfInBounds_toArray, List.set_cons_zero, List.set_cons_succ] at ha
      subst ha
      obtain rfl := F.h1 (hdep ⟨1, .data⟩ (by simp) (by rfl))
      go_simp
      go_at_call 22
      refine (fromNumber_is X X _ FX).mono ?_
      rintro e w2 ⟨rfl, hb⟩
      go_wp2_with fail
      exact hK.out _ _ ⟨v0, _, _, v3, v4, v5, v6, v7, by simp only [Act.put, List.setIfInBounds_toArray, List.set_cons_zero, List.set_cons_succ], (F.world hb).t2⟩
    refine StepsL.cons 4 rfl ?_ ?_
    · intro d a w' hI hd hdep K hK
      obtain ⟨v0, v1, v2, v3, v4, v5, v6, v7, ha, F⟩ := hI
      simp only [Act.put, List.setIfInBounds_toArray, List.set_cons_zero, List.set_cons_succ] at ha
      subst ha
      obtain ⟨c0, c1, c2, d0, d1, d2⟩ := PC.out _ F.bel
      go_simp
      exact hK.out _ _ ⟨v0, v1, v2, _, v4, v5, v6, v7, by simp only [Act.put, List.setIfInBounds_toArray, List.set_cons_zero, List.set_cons_succ], F.t3⟩
    refine StepsL.cons 5 rfl ?_ ?_
    · intro d a w' hI hd hdep K hK
      obtain ⟨v0, v1, v2, v3, v4, v5, v6, v7, ha, F⟩ := hI
      simp only [Act.put, List.setIfInBounds_toArray, List.set_cons_zero, List.set_cons_succ] at ha
      subst ha
      obtain rfl := F.h3 (hdep ⟨3, .data⟩ (by simp) (by rfl))
      go_simp
      go_at_call 9
      refine (vnumber_is k2 n2 Y s2 _ S2.out HY.out).mono ?_
      rintro e w2 ⟨rfl, hb⟩
      go_wp2_with fail
      exact hK.out _ _ ⟨v0, v1, v2, _, _, v5, v6, v7, by simp only [Act.put, List.setIfInBounds_toArray, List.set_cons_zero, List.set_cons_succ], (F.world hb).t4⟩
    refine StepsL.cons 6 rfl ?_ ?_
    · intro d a w' hI hd hdep K hK
      obtain ⟨v0, v1, v2, v3, v4, v5, v6, v7, ha, F⟩ := hI
      simp only [Act.put, List.setIfInBounds_toArray, List.set_cons_zero, List.set_cons_succ] at ha
      subst ha
      obtain rfl := F.h4 (hdep ⟨4, .data⟩ (by simp) (by rfl))
      go_simp
      go_at_call 22
      refine (fromNumber_is Y Y _ FY).mono ?_
      rintro e w2 ⟨rfl, hb⟩
      go_wp2_with fail
      exact hK.out _ _ ⟨v0, v1, v2, v3, _, _, v6, v7, by simp only [Act.put, List.setIfInBounds_toArray, List.set_cons_zero, List.set_cons_succ], (F.world hb).t5⟩
    refine StepsL.cons 7 rfl ?_ ?_
    · intro d a w' hI hd hdep K hK
      obtain ⟨v0, v1, v2, v3, v4, v5, v6, v7, ha, F⟩ := hI
      simp only [Act.put, List.setIfInBounds_toArray, List.set_cons_zero, List.set_cons_succ] at ha
      subst ha
      go_simp
      exact hK.out _ _ ⟨v0, v1, v2, v3, v4, v5, _, v7, by simp only [Act.put, List.setIfInBounds_toArray, List.set_cons_zero, List.set_cons_succ], F.t6 hd⟩
    refine StepsL.cons 8 rfl ?_ ?_
    · intro d a w' hI hd hdep K hK
      obtain ⟨v0, v1, v2, v3, v4, v5, v6, v7, ha, F⟩ := hI
      simp only [Act.put, List.setIfInBounds_toArray, List.set_cons_zero, List.set_cons_succ] at ha
      subst ha
      go_simp
      exact hK.out _ _ ⟨v0, v1, v2, v3, v4, v5, v6, _, by simp only [Act.put, List.setIfInBounds_toArray, List.set_cons_zero, List.set_cons_succ], F.t7 hd⟩
    refine StepsL.cons 9 rfl ?_ ?_
    · intro d a w' hI hd hdep K hK
      obtain ⟨v0, v1, v2, v3, v4, v5, v6, v7, ha, F⟩ := hI
      simp only [Act.put, List.setIfInBounds_toArray, List.set_cons_zero, List.set_cons_succ] at ha
      subst ha
      have D6 := (hdep ⟨6, .data⟩ (by simp) (by rfl))
      obtain ⟨g, hg, hB, k, n, s, hk, -⟩ := F.h6 D6
      obtain rfl := F.h2 (hdep ⟨2, .data⟩ (by simp) (by rfl))
      have F' := F.t8 hg hB hk D6
      subst hg
      obtain ⟨f0, f1, f2, c0, c1, c2⟩ := hk
      go_simp
      exact hK.out _ _ ⟨v0, v1, _, v3, v4, v5, _, v7, by simp only [Act.put, List.setIfInBounds_toArray, List.set_cons_zero, List.set_cons_succ], F'⟩
    refine StepsL.cons 10 rfl ?_ ?_
    · intro d a w' hI hd hdep K hK
      obtain ⟨v0, v1, v2, v3, v4, v5, v6, v7, ha, F⟩ := hI
      simp only [Act.put, List.setIfInBounds_toArray, List.set_cons_zero, List.set_cons_succ] at ha
      subst ha
      have D6 := (hdep ⟨7, .data⟩ (by simp) (by rfl))
      obtain ⟨g, hg, hB, k, n, s, hk, -⟩ := F.h7 D6
      obtain rfl := F.h5 (hdep ⟨5, .data⟩ (by simp) (by rfl))
      have F' := F.t9 hg hB hk D6
      subst hg
      obtain ⟨f0, f1, f2, c0, c1, c2⟩ := hk
      go_simp
      exact hK.out _ _ ⟨v0, v1, v2, v3, v4, _, v6, _, by simp only [Act.put, List.setIfInBounds_toArray, List.set_cons_zero, List.set_cons_succ], F'⟩
    exact StepsL.nil
  · intro d a w2 hI hall
    obtain ⟨v0, v1, v2, v3, v4, v5, v6, v7, ha, F⟩ := hI
    simp only [Act.put, List.setIfInBounds_toArray, List.set_cons_zero, List.set_cons_succ] at ha
    obtain ⟨g, hg, -, kg, ng, sg, bg, eg⟩ := F.h6 (hall 6)
    obtain ⟨rfl, rfl, rfl⟩ := eg (hall 8)
    obtain ⟨h, hh, -, kh, nh, sh, bh, eh⟩ := F.h7 (hall 7)
    obtain ⟨rfl, rfl, rfl⟩ := eh (hall 9)
    obtain rfl := F.h0 (hall 0)
    obtain rfl := F.h1 (hall 1)
    obtain rfl := F.h2 (hall 2)
    obtain rfl := F.h3 (hall 3)
    obtain rfl := F.h4 (hall 4)
    obtain rfl := F.h5 (hall 5)
    have fb := F.bel
    have L2 := Lib.hid ((LBlk.new w1 (.string ⟨#[112, 111, 115, 105, 120]⟩) (.slice (some ⟨g1, 0, none⟩) 256 cap1) (.string ⟨(ltab 256).toArray⟩) (.string ⟨(utab 256).toArray⟩) (.slice none 0 0) (.slice none 0 0)).below fb)
    have H2 : Hid (Holds w2 [(w.heap.size, k1, n1, s1), (w.heap.size + 1, k2, n2, s2), (g, 1, ng, ⟨#[]⟩), (h, 1, nh, ⟨#[]⟩)]) := Lib.hid (by
      intro x hx
      simp only [List.mem_cons, List.not_mem_nil, or_false] at hx
      rcases hx with rfl | rfl | rfl | rfl
      · exact (HH.out.below fb) _ (by simp)
      · exact (HH.out.below fb) _ (by simp)
      · exact bg
      · exact bh)
    have B2 : Hid (Below w.heap.size w w2) := Lib.hid (below_step (below_step (HW.out.trans (fb.mono HW.out.size))))
    clear F bg bh fb HH HW PC hall eg eh hb1 IR
    subst hg
    subst hh
    subst ha
    obtain ⟨p0, p1, p2⟩ := H2.out.get w.heap.size k1 n1 s1 (by simp)
    obtain ⟨q0, q1, q2⟩ := H2.out.get (w.heap.size + 1) k2 n2 s2 (by simp)
    go_wp2_with fail
    refine (arith_ar ⟨#[45]⟩ k1 n1 k2 n2 ng nh 1 Dv 0 s1 s2 _ S1.out S2.out HX HY A1).mono ?_
    rintro e w3 ⟨rfl, hb3⟩
    have H3 := Lib.hid ((H2.out.below hb3).new 1 Dv ⟨#[]⟩)
    have L3 := Lib.hid ((L2.out.below hb3).below ((Below.refl w3.heap.size w3).alloc (Nat.le_refl _) (.cells #[.int .i64 1, .int .i64 Dv, .string ⟨#[]⟩] 24)))
    have B3 := Lib.hid (B2.out.trans (below_step (Below.refl _ (w3.alloc (.cells #[.int .i64 1, .int .i64 Dv, .string ⟨#[]⟩] 24))) |> fun z => (hb3.trans (z.mono hb3.size)).mono B2.out.size))
    clear p0 p1 p2 q0 q1 q2 hb3 H2 L2 B2
    obtain ⟨p0, p1, p2⟩ := H3.out.get g 1 ng ⟨#[]⟩ (by simp)
    obtain ⟨q0, q1, q2⟩ := H3.out.get h 1 nh ⟨#[]⟩ (by simp)
    obtain ⟨l0, l1, l2, l3, l4, l5⟩ := L3.out
    go_wp2_with fail
    refine (vcompare_is _ _ _ _ _ _ ng nh N _ FX FY HN).mono ?_
    rintro e w4 ⟨rfl, hb4⟩
    have H4 := Lib.hid (H3.out.below hb4)
    have B4 := Lib.hid (B3.out.trans (hb4.mono B3.out.size))
    clear p0 p1 p2 q0 q1 q2 l0 l1 l2 l3 l4 l5 hb4 H3 L3 B3
    obtain ⟨r0, r1, r2⟩ := H4.out.get w3.heap.size 1 Dv ⟨#[]⟩ (by simp)
    obtain ⟨p0, p1, p2⟩ := H4.out.get w.heap.size k1 n1 s1 (by simp)
    obtain ⟨q0, q1, q2⟩ := H4.out.get (w.heap.size + 1) k2 n2 s2 (by simp)
    go_wp2_with fail
    refine (arith_ar ⟨#[43]⟩ k1 n1 k2 n2 ng nh 0 0 9 s1 s2 _ S1.out S2.out HX HY A2).mono ?_
    rintro e w5 ⟨rfl, hb5⟩
    have H5 := Lib.hid ((H4.out.below hb5).new 0 0 ⟨#[]⟩)
    have B5 := Lib.hid (B4.out.trans (below_step (Below.refl _ (w5.alloc (.cells #[.int .i64 0, .int .i64 0, .string ⟨#[]⟩] 24))) |> fun z => (hb5.trans (z.mono hb5.size)).mono B4.out.size))
    clear r0 r1 r2 p0 p1 p2 q0 q1 q2 hb5 H4 B4
    obtain ⟨p0, p1, p2⟩ := H5.out.get w.heap.size k1 n1 s1 (by simp)
    obtain ⟨q0, q1, q2⟩ := H5.out.get (w.heap.size + 1) k2 n2 s2 (by simp)
    go_wp2_with fail
    refine (arith_ar ⟨#[43]⟩ k2 n2 k1 n1 nh ng 0 0 9 s2 s1 _ S2.out S1.out HY HX A3).mono ?_
    rintro e w6 ⟨rfl, hb6⟩
    have H6 := Lib.hid ((H5.out.below hb6).new 0 0 ⟨#[]⟩)
    have B6 := Lib.hid (B5.out.trans (below_step (Below.refl _ (w6.alloc (.cells #[.int .i64 0, .int .i64 0, .string ⟨#[]⟩] 24))) |> fun z => (hb6.trans (z.mono hb6.size)).mono B5.out.size))
    clear p0 p1 p2 q0 q1 q2 hb6 H5 B5
    obtain ⟨p0, p1, p2⟩ := H6.out.get w5.heap.size 0 0 ⟨#[]⟩ (by simp)
    obtain ⟨r0, r1, r2⟩ := H6.out.get w6.heap.size 0 0 ⟨#[]⟩ (by simp)
    obtain ⟨q0, q1, q2⟩ := H6.out.get (w.heap.size + 1) k2 n2 s2 (by simp)
    go_wp2_with fail
    refine (arith_ar ⟨#[45]⟩ 0 0 k2 n2 0 nh K4 D4 E4 ⟨#[]⟩ s2 _ (by decide) S2.out FS HY A4).mono ?_
    rintro e w7 ⟨rfl, hb7⟩
    have H7 := Lib.hid ((H6.out.below hb7).new K4 D4 ⟨#[]⟩)
    have B7 := Lib.hid (B6.out.trans (below_step (Below.refl _ (w7.alloc (.cells #[.int .i64 K4, .int .i64 D4, .string ⟨#[]⟩] 24))) |> fun z => (hb7.trans (z.mono hb7.size)).mono B6.out.size))
    clear r0 r1 r2 p0 p1 p2 q0 q1 q2 hb7 H6 B6
    obtain ⟨p0, p1, p2⟩ := H7.out.get w7.heap.size K4 D4 ⟨#[]⟩ (by simp)
    obtain ⟨q0, q1, q2⟩ := H7.out.get g 1 ng ⟨#[]⟩ (by simp)
    go_wp2_with fail
    refine (vawake_any _ (tab_below T.out B7.out)).mono ?_
    rintro e w8 ⟨rfl, hb8⟩
    clear p0 p1 p2 q0 q1 q2
    have B8 := Lib.hid (B7.out.trans (hb8.mono B7.out.size))
    clear hb8 B7 H7
    go_wp2_with fail
    go_ret
    exact ⟨rfl, B8.out⟩
set_option maxRecDepth 100000 in
set_option maxHeartbeats 8000000 in
theorem differs_ft (k1 n1 k2 n2 X Y N Sv : Int) (s1 s2 : ByteArray) (w : World) (T : Hid (Tab w)) (S1 : Hid (s1.size ≤ 9223372036854775807)) (S2 : Hid (s2.size ≤ 9223372036854775807))
    (HX : Hid (numV k1 n1 s1.data.toList = X)) (HY : Hid (numV k2 n2 s2.data.toList = Y)) (FX : Hid (near X = X)) (FY : Hid (near Y = Y)) (HN : Hid (cmp3 X Y = N))
    (A1 : Hid (AR ⟨#[45]⟩ X Y 0 0 9)) (A2 : Hid (AR ⟨#[43]⟩ X Y 1 Sv 0)) (A3 : Hid (AR ⟨#[43]⟩ Y X 1 Sv 0)) (A4 : Hid (AR ⟨#[45]⟩ Sv Y 1 X 0)) (FS : Hid (numV 1 Sv [] = Sv))
     :
    Calls Tryd.prog 8 #[vval k1 n1 s1, vval k2 n2 s2] w fun e w' => e = .returned (.bool true) ∧ Below w.heap.size w w' := by
  go_enter Tryd.func8, Tryd.ntmps8
  go_wp2_with (first | (go_at_call 26; refine (rdefault_sl _).mono ?_; rintro e w1 ⟨g1, cap1, rfl, IR, hb1⟩; replace hb1 := hb1.out))
  have HW : Hid (Below ((w.alloc (.cells #[.int .i64 k1, .int .i64 n1, .string s1] 24)).alloc (.cells #[.int .i64 k2, .int .i64 n2, .string s2] 24)).heap.size ((w.alloc (.cells #[.int .i64 k1, .int .i64 n1, .string s1] 24)).alloc (.cells #[.int .i64 k2, .int .i64 n2, .string s2] 24)) (w1.alloc (.cells #[.string ⟨#[112, 111, 115, 105, 120]⟩, .slice (some ⟨g1, 0, none⟩) 256 cap1, .string ⟨(ltab 256).toArray⟩, .string ⟨(utab 256).toArray⟩, .slice none 0 0, .slice none 0 0] 41))) := Lib.hid (hb1.alloc (by have := hb1.size; exact this) _)
  have PC : Hid (∀ w', Below (w1.alloc (.cells #[.string ⟨#[112, 111, 115, 105, 120]⟩, .slice (some ⟨g1, 0, none⟩) 256 cap1, .string ⟨(ltab 256).toArray⟩, .string ⟨(utab 256).toArray⟩, .slice none 0 0, .slice none 0 0] 41)).heap.size (w1.alloc (.cells #[.string ⟨#[112, 111, 115, 105, 120]⟩, .slice (some ⟨g1, 0, none⟩) 256 cap1, .string ⟨(ltab 256).toArray⟩, .string ⟨(utab 256).toArray⟩, .slice none 0 0, .slice none 0 0] 41)) w' → w'.cell? ⟨w.heap.size, 0, none⟩ = some (.int .i64 k1) ∧ w'.cell? ⟨w.heap.size, 1, none⟩ = some (.int .i64 n1) ∧ w'.cell? ⟨w.heap.size, 2, none⟩ = some (.string s1) ∧ w'.cell? ⟨w.heap.size + 1, 0, none⟩ = some (.int .i64 k2) ∧ w'.cell? ⟨w.heap.size + 1, 1, none⟩ = some (.int .i64 n2) ∧ w'.cell? ⟨w.heap.size + 1, 2, none⟩ = some (.string s2)) :=
    Lib.hid (fun w' hb => par2 (HW.out.trans (hb.mono HW.out.size)))
  have H0 : Holds ((w.alloc (.cells #[.int .i64 k1, .int .i64 n1, .string s1] 24)).alloc (.cells #[.int .i64 k2, .int .i64 n2, .string s2] 24)) [(w.heap.size, k1, n1, s1), (w.heap.size + 1, k2, n2, s2)] := by
    intro x hx
    have q2 := Blk.new (w.alloc (.cells #[.int .i64 k1, .int .i64 n1, .string s1] 24)) k2 n2 s2
    rw [World.size_alloc] at q2
    simp only [List.mem_cons, List.not_mem_nil, or_false] at hx
    rcases hx with rfl | rfl
    · exact (Blk.new w k1 n1 s1).alloc _
    · exact q2
  have HH := Lib.hid ((H0.below (hb1.mono (Nat.le_refl _))).below ((Below.refl w1.heap.size w1).alloc (Nat.le_refl _) (.cells #[.string ⟨#[112, 111, 115, 105, 120]⟩, .slice (some ⟨g1, 0, none⟩) 256 cap1, .string ⟨(ltab 256).toArray⟩, .string ⟨(utab 256).toArray⟩, .slice none 0 0, .slice none 0 0] 41)))
  clear H0
  refine wp_region_inv (PairI (w1.alloc (.cells #[.string ⟨#[112, 111, 115, 105, 120]⟩, .slice (some ⟨g1, 0, none⟩) 256 cap1, .string ⟨(ltab 256).toArray⟩, .string ⟨(utab 256).toArray⟩, .slice none 0 0, .slice none 0 0] 41)) k1 n1 k2 n2 X Y s1 s2) (by kernel_rfl) (by kernel_rfl) ?_ ?_ ?_
  · exact ⟨undef, undef, undef, undef, undef, undef, undef, undef, by simp only [Act.put, List.setIfInBounds_toArray, List.set_cons_zero, List.set_cons_succ], (Below.refl _ _).drew, not_yet (by kernel_rfl), not_yet (by kernel_rfl), not_yet (by kernel_rfl), not_yet (by kernel_rfl), not_yet (by kernel_rfl), not_yet (by kernel_rfl), not_yet (by kernel_rfl), not_yet (by kernel_rfl), not_yet (by kernel_rfl), not_yet (by kernel_rfl), not_yet (by kernel_rfl)⟩
  · refine StepsL.cons 1 rfl ?_ ?_
    · intro d a w' hI hd hdep K hK
      obtain ⟨v0, v1, v2, v3, v4, v5, v6, v7, ha, F⟩ := hI
      simp only [Act.put, List.setIfInBounds_toArray, List.set_cons_zero, List.set_cons_succ] at ha
      subst ha
      obtain ⟨c0, c1, c2, d0, d1, d2⟩ := PC.out _ F.bel
      go_simp
      exact hK.out _ _ ⟨_, v1, v2, v3, v4, v5, v6, v7, by simp only [Act.put, List.setIfInBounds_toArray, List.set_cons_zero, List.set_cons_succ], F.t0⟩
    refine StepsL.cons 2 rfl ?_ ?_
    · intro d a w' hI hd hdep K hK
      obtain ⟨v0, v1, v2, v3, v4, v5, v6, v7, ha, F⟩ := hI
      simp only [Act.put, List.setIfInBounds_toArray, List.set_cons_zero, List.set_cons_succ] at ha
      subst ha
      obtain rfl := F.h0 (hdep ⟨0, .data⟩ (by simp) (by rfl))
      go_simp
      go_at_call 9
      refine (vnumber_is k1 n1 X s1 _ S1.out HX.out).mono ?_
      rintro e w2 ⟨rfl, hb⟩
      go_wp2_with fail
      exact hK.out _ _ ⟨_, _, v2, v3, v4, v5, v6, v7, by simp only [Act.put, List.setIfInBounds_toArray, List.set_cons_zero, List.set_cons_succ], (F.world hb).t1⟩
    refine StepsL.cons 3 rfl ?_ ?_
    · intro d a w' hI hd hdep K hK
      obtain ⟨v0, v1, v2, v3, v4, v5, v6, v7, ha, F⟩ := hI
      simp only [Act.put, List.setIfInBounds_toArray, List.set_cons_zero, List.set_cons_succ] at ha
      subst ha
      obtain rfl := F.h1 (hdep ⟨1, .data⟩ (by simp) (by rfl))
      go_simp
      go_at_call 22
      refine (fromNumber_is X X _ FX).mono ?_
      rintro e w2 ⟨rfl, hb⟩
      go_wp2_with fail
      exact hK.out _ _ ⟨v0, _, _, v3, v4, v5, v6, v7, by simp only [Act.put, List.setIfInBounds_toArray, List.set_cons_zero, List.set_cons_succ], (F.world hb).t2⟩
    refine StepsL.cons 4 rfl ?_ ?_
    · intro d a w' hI hd hdep K hK
      obtain ⟨v0, v1, v2, v3, v4, v5, v6, v7, ha, F⟩ := hI
      simp only [Act.put, List.setIfInBounds_toArray, List.set_cons_zero, List.set_cons_succ] at ha
      subst ha
      obtain ⟨c0, c1, c2, d0, d1, d2⟩ := PC.out _ F.bel
      go_simp
      exact hK.out _ _ ⟨v0, v1, v2, _, v4, v5, v6, v7, by simp only [Act.put, List.setIfInBounds_toArray, List.set_cons_zero, List.set_cons_succ], F.t3⟩
    refine StepsL.cons 5 rfl ?_ ?_
    · intro d a w' hI hd hdep K hK
      obtain ⟨v0, v1, v2, v3, v4, v5, v6, v7, ha, F⟩ := hI
      simp only [Act.put, List.setIfInBounds_toArray, List.set_cons_zero, List.set_cons_succ] at ha
      subst ha
      obtain rfl := F.h3 (hdep ⟨3, .data⟩ (by simp) (by rfl))
      go_simp
      go_at_call 9
      refine (vnumber_is k2 n2 Y s2 _ S2.out HY.out).mono ?_
      rintro e w2 ⟨rfl, hb⟩
      go_wp2_with fail
      exact hK.out _ _ ⟨v0, v1, v2, _, _, v5, v6, v7, by simp only [Act.put, List.setIfInBounds_toArray, List.set_cons_zero, List.set_cons_succ], (F.world hb).t4⟩
    refine StepsL.cons 6 rfl ?_ ?_
    · intro d a w' hI hd hdep K hK
      obtain ⟨v0, v1, v2, v3, v4, v5, v6, v7, ha, F⟩ := hI
      simp only [Act.put, List.setIfInBounds_toArray, List.set_cons_zero, List.set_cons_succ] at ha
      subst ha
      obtain rfl := F.h4 (hdep ⟨4, .data⟩ (by simp) (by rfl))
      go_simp
      go_at_call 22
      refine (fromNumber_is Y Y _ FY).mono ?_
      rintro e w2 ⟨rfl, hb⟩
      go_wp2_with fail
      exact hK.out _ _ ⟨v0, v1, v2, v3, _, _, v6, v7, by simp only [Act.put, List.setIfInBounds_toArray, List.set_cons_zero, List.set_cons_succ], (F.world hb).t5⟩
    refine StepsL.cons 7 rfl ?_ ?_
    · intro d a w' hI hd hdep K hK
      obtain ⟨v0, v1, v2, v3, v4, v5, v6, v7, ha, F⟩ := hI
      simp only [Act.put, List.setIfInBounds_toArray, List.set_cons_zero, List.set_cons_succ] at ha
      subst ha
      go_simp
      exact hK.out _ _ ⟨v0, v1, v2, v3, v4, v5, _, v7, by simp only [Act.put, List.setIfInBounds_toArray, List.set_cons_zero, List.set_cons_succ], F.t6 hd⟩
    refine StepsL.cons 8 rfl ?_ ?_
    · intro d a w' hI hd hdep K hK
      obtain ⟨v0, v1, v2, v3, v4, v5, v6, v7, ha, F⟩ := hI
      simp only [Act.put, List.setIfInBounds_toArray, List.set_cons_zero, List.set_cons_succ] at ha
      subst ha
      go_simp
      exact hK.out _ _ ⟨v0, v1, v2, v3, v4, v5, v6, _, by simp only [Act.put, List.setIfInBounds_toArray, List.set_cons_zero, List.set_cons_succ], F.t7 hd⟩
    refine StepsL.cons 9 rfl ?_ ?_
    · intro d a w' hI hd hdep K hK
      obtain ⟨v0, v1, v2, v3, v4, v5, v6, v7, ha, F⟩ := hI
      simp only [Act.put, List.setIfInBounds_toArray, List.set_cons_zero, List.set_cons_succ] at ha
      subst ha
      have D6 := (hdep ⟨6, .data⟩ (by simp) (by rfl))
      obtain ⟨g, hg, hB, k, n, s, hk, -⟩ := F.h6 D6
      obtain rfl := F.h2 (hdep ⟨2, .data⟩ (by simp) (by rfl))
      have F' := F.t8 hg hB hk D6
      subst hg
      obtain ⟨f0, f1, f2, c0, c1, c2⟩ := hk
      go_simp
      exact hK.out _ _ ⟨v0, v1, _, v3, v4, v5, _, v7, by simp only [Act.put, List.setIfInBounds_toArray, List.set_cons_zero, List.set_cons_succ], F'⟩
    refine StepsL.cons 10 rfl ?_ ?_
    · intro d a w' hI hd hdep K hK
      obtain ⟨v0, v1, v2, v3, v4, v5, v6, v7, ha, F⟩ := hI
      simp only [Act.put, List.setIfInBounds_toArray, List.set_cons_zero, List.set_cons_succ] at ha
      subst ha
      have D6 := (hdep ⟨7, .data⟩ (by simp) (by rfl))
      obtain ⟨g, hg, hB, k, n, s, hk, -⟩ := F.h7 D6
      obtain rfl := F.h5 (hdep ⟨5, .data⟩ (by simp) (by rfl))
      have F' := F.t9 hg hB hk D6
      subst hg
      obtain ⟨f0, f1, f2, c0, c1, c2⟩ := hk
      go_simp
      exact hK.out _ _ ⟨v0, v1, v2, v3, v4, _, v6, _, by simp only [Act.put, List.setIfInBounds_toArray, List.set_cons_zero, List.set_cons_succ], F'⟩
    exact StepsL.nil
  · intro d a w2 hI hall
    obtain ⟨v0, v1, v2, v3, v4, v5, v6, v7, ha, F⟩ := hI
    simp only [Act.put, List.setIfInBounds_toArray, List.set_cons_zero, List.set_cons_succ] at ha
    obtain ⟨g, hg, -, kg, ng, sg, bg, eg⟩ := F.h6 (hall 6)
    obtain ⟨rfl, rfl, rfl⟩ := eg (hall 8)
    obtain ⟨h, hh, -, kh, nh, sh, bh, eh⟩ := F.h7 (hall 7)
    obtain ⟨rfl, rfl, rfl⟩ := eh (hall 9)
    obtain rfl := F.h0 (hall 0)
    obtain rfl := F.h1 (hall 1)
    obtain rfl := F.h2 (hall 2)
    obtain rfl := F.h3 (hall 3)
    obtain rfl := F.h4 (hall 4)
    obtain rfl := F.h5 (hall 5)
    have fb := F.bel
    have L2 := Lib.hid ((LBlk.new w1 (.string ⟨#[112, 111, 115, 105, 120]⟩) (.slice (some ⟨g1, 0, none⟩) 256 cap1) (.string ⟨(ltab 256).toArray⟩) (.string ⟨(utab 256).toArray⟩) (.slice none 0 0) (.slice none 0 0)).below fb)
    have H2 : Hid (Holds w2 [(w.heap.size, k1, n1, s1), (w.heap.size + 1, k2, n2, s2), (g, 1, ng, ⟨#[]⟩), (h, 1, nh, ⟨#[]⟩)]) := Lib.hid (by
      intro x hx
      simp only [List.mem_cons, List.not_mem_nil, or_false] at hx
      rcases hx with rfl | rfl | rfl | rfl
      · exact (HH.out.below fb) _ (by simp)
      · exact (HH.out.below fb) _ (by simp)
      · exact bg
      · exact bh)
    have B2 : Hid (Below w.heap.size w w2) := Lib.hid (below_step (below_step (HW.out.trans (fb.mono HW.out.size))))
    clear F bg bh fb HH HW PC hall eg eh hb1 IR
    subst hg
    subst hh
    subst ha
    obtain ⟨p0, p1, p2⟩ := H2.out.get w.heap.size k1 n1 s1 (by simp)
    obtain ⟨q0, q1, q2⟩ := H2.out.get (w.heap.size + 1) k2 n2 s2 (by simp)
    go_wp2_with fail
    refine (arith_ar ⟨#[45]⟩ k1 n1 k2 n2 ng nh 0 0 9 s1 s2 _ S1.out S2.out HX HY A1).mono ?_
    rintro e w3 ⟨rfl, hb3⟩
    have H3 := Lib.hid ((H2.out.below hb3).new 0 0 ⟨#[]⟩)
    have L3 := Lib.hid ((L2.out.below hb3).below ((Below.refl w3.heap.size w3).alloc (Nat.le_refl _) (.cells #[.int .i64 0, .int .i64 0, .string ⟨#[]⟩] 24)))
    have B3 := Lib.hid (B2.out.trans (below_step (Below.refl _ (w3.alloc (.cells #[.int .i64 0, .int .i64 0, .string ⟨#[]⟩] 24))) |> fun z => (hb3.trans (z.mono hb3.size)).mono B2.out.size))
    clear p0 p1 p2 q0 q1 q2 hb3 H2 L2 B2
    obtain ⟨p0, p1, p2⟩ := H3.out.get g 1 ng ⟨#[]⟩ (by simp)
    obtain ⟨q0, q1, q2⟩ := H3.out.get h 1 nh ⟨#[]⟩ (by simp)
    obtain ⟨l0, l1, l2, l3, l4, l5⟩ := L3.out
    go_wp2_with fail
    refine (vcompare_is _ _ _ _ _ _ ng nh N _ FX FY HN).mono ?_
    rintro e w4 ⟨rfl, hb4⟩
    have H4 := Lib.hid (H3.out.below hb4)
    have B4 := Lib.hid (B3.out.trans (hb4.mono B3.out.size))
    clear p0 p1 p2 q0 q1 q2 l0 l1 l2 l3 l4 l5 hb4 H3 L3 B3
    obtain ⟨r0, r1, r2⟩ := H4.out.get w3.heap.size 0 0 ⟨#[]⟩ (by simp)
    obtain ⟨p0, p1, p2⟩ := H4.out.get w.heap.size k1 n1 s1 (by simp)
    obtain ⟨q0, q1, q2⟩ := H4.out.get (w.heap.size + 1) k2 n2 s2 (by simp)
    go_wp2_with fail
    refine (arith_ar ⟨#[43]⟩ k1 n1 k2 n2 ng nh 1 Sv 0 s1 s2 _ S1.out S2.out HX HY A2).mono ?_
    rintro e w5 ⟨rfl, hb5⟩
    have H5 := Lib.hid ((H4.out.below hb5).new 1 Sv ⟨#[]⟩)
    have B5 := Lib.hid (B4.out.trans (below_step (Below.refl _ (w5.alloc (.cells #[.int .i64 1, .int .i64 Sv, .string ⟨#[]⟩] 24))) |> fun z => (hb5.trans (z.mono hb5.size)).mono B4.out.size))
    clear r0 r1 r2 p0 p1 p2 q0 q1 q2 hb5 H4 B4
    obtain ⟨p0, p1, p2⟩ := H5.out.get w.heap.size k1 n1 s1 (by simp)
    obtain ⟨q0, q1, q2⟩ := H5.out.get (w.heap.size + 1) k2 n2 s2 (by simp)
    go_wp2_with fail
    refine (arith_ar ⟨#[43]⟩ k2 n2 k1 n1 nh ng 1 Sv 0 s2 s1 _ S2.out S1.out HY HX A3).mono ?_
    rintro e w6 ⟨rfl, hb6⟩
    have H6 := Lib.hid ((H5.out.below hb6).new 1 Sv ⟨#[]⟩)
    have B6 := Lib.hid (B5.out.trans (below_step (Below.refl _ (w6.alloc (.cells #[.int .i64 1, .int .i64 Sv, .string ⟨#[]⟩] 24))) |> fun z => (hb6.trans (z.mono hb6.size)).mono B5.out.size))
    clear p0 p1 p2 q0 q1 q2 hb6 H5 B5
    obtain ⟨p0, p1, p2⟩ := H6.out.get w5.heap.size 1 Sv ⟨#[]⟩ (by simp)
    obtain ⟨r0, r1, r2⟩ := H6.out.get w6.heap.size 1 Sv ⟨#[]⟩ (by simp)
    obtain ⟨q0, q1, q2⟩ := H6.out.get (w.heap.size + 1) k2 n2 s2 (by simp)
    go_wp2_with fail
    refine (arith_ar ⟨#[45]⟩ 1 Sv k2 n2 Sv nh 1 ng 0 ⟨#[]⟩ s2 _ (by decide) S2.out FS HY A4).mono ?_
    rintro e w7 ⟨rfl, hb7⟩
    have H7 := Lib.hid ((H6.out.below hb7).new 1 ng ⟨#[]⟩)
    have B7 := Lib.hid (B6.out.trans (below_step (Below.refl _ (w7.alloc (.cells #[.int .i64 1, .int .i64 ng, .string ⟨#[]⟩] 24))) |> fun z => (hb7.trans (z.mono hb7.size)).mono B6.out.size))
    clear r0 r1 r2 p0 p1 p2 q0 q1 q2 hb7 H6 B6
    obtain ⟨p0, p1, p2⟩ := H7.out.get w7.heap.size 1 ng ⟨#[]⟩ (by simp)
    obtain ⟨q0, q1, q2⟩ := H7.out.get g 1 ng ⟨#[]⟩ (by simp)
    go_wp2_with fail
    refine (vawake_any _ (tab_below T.out B7.out)).mono ?_
    rintro e w8 ⟨rfl, hb8⟩
    clear p0 p1 p2 q0 q1 q2
    have B8 := Lib.hid (B7.out.trans (hb8.mono B7.out.size))
    clear hb8 B7 H7
    go_wp2_with fail
    go_ret
    exact ⟨rfl, B8.out⟩
set_option maxRecDepth 100000 in
set_option maxHeartbeats 8000000 in
theorem differs_ff (k1 n1 k2 n2 X Y N K4 D4 E4 : Int) (s1 s2 : ByteArray) (w : World) (T : Hid (Tab w)) (S1 : Hid (s1.size ≤ 9223372036854775807)) (S2 : Hid (s2.size ≤ 9223372036854775807))
    (HX : Hid (numV k1 n1 s1.data.toList = X)) (HY : Hid (numV k2 n2 s2.data.toList = Y)) (FX : Hid (near X = X)) (FY : Hid (near Y = Y)) (HN : Hid (cmp3 X Y = N))
    (A1 : Hid (AR ⟨#[45]⟩ X Y 0 0 9)) (A2 : Hid (AR ⟨#[43]⟩ X Y 0 0 9)) (A3 : Hid (AR ⟨#[43]⟩ Y X 0 0 9)) (A4 : Hid (AR ⟨#[45]⟩ 0 Y K4 D4 E4)) (FS : Hid (numV 0 0 [] = 0))
     :
    Calls Tryd.prog 8 #[vval k1 n1 s1, vval k2 n2 s2] w fun e w' => e = .returned (.bool true) ∧ Below w.heap.size w w' := by
  go_enter Tryd.func8, Tryd.ntmps8
  go_wp2_with (first | (go_at_call 26; refine (rdefault_sl _).mono ?_; rintro e w1 ⟨g1, cap1, rfl, IR, hb1⟩; replace hb1 := hb1.out))
  have HW : Hid (Below ((w.alloc (.cells #[.int .i64 k1, .int .i64 n1, .string s1] 24)).alloc (.cells #[.int .i64 k2, .int .i64 n2, .string s2] 24)).heap.size ((w.alloc (.cells #[.int .i64 k1, .int .i64 n1, .string s1] 24)).alloc (.cells #[.int .i64 k2, .int .i64 n2, .string s2] 24)) (w1.alloc (.cells #[.string ⟨#[112, 111, 115, 105, 120]⟩, .slice (some ⟨g1, 0, none⟩) 256 cap1, .string ⟨(ltab 256).toArray⟩, .string ⟨(utab 256).toArray⟩, .slice none 0 0, .slice none 0 0] 41))) := Lib.hid (hb1.alloc (by have := hb1.size; exact this) _)
  have PC : Hid (∀ w', Below (w1.alloc (.cells #[.string ⟨#[112, 111, 115, 105, 120]⟩, .slice (some ⟨g1, 0, none⟩) 256 cap1, .string ⟨(ltab 256).toArray⟩, .string ⟨(utab 256).toArray⟩, .slice none 0 0, .slice none 0 0] 41)).heap.size (w1.alloc (.cells #[.string ⟨#[112, 111, 115, 105, 120]⟩, .slice (some ⟨g1, 0, none⟩) 256 cap1, .string ⟨(ltab 256).toArray⟩, .string ⟨(utab 256).toArray⟩, .slice none 0 0, .slice none 0 0] 41)) w' → w'.cell? ⟨w.heap.size, 0, none⟩ = some (.int .i64 k1) ∧ w'.cell? ⟨w.heap.size, 1, none⟩ = some (.int .i64 n1) ∧ w'.cell? ⟨w.heap.size, 2, none⟩ = some (.string s1) ∧ w'.cell? ⟨w.heap.size + 1, 0, none⟩ = some (.int .i64 k2) ∧ w'.cell? ⟨w.heap.size + 1, 1, none⟩ = some (.int .i64 n2) ∧ w'.cell? ⟨w.heap.size + 1, 2, none⟩ = some (.string s2)) :=
    Lib.hid (fun w' hb => par2 (HW.out.trans (hb.mono HW.out.size)))
  have H0 : Holds ((w.alloc (.cells #[.int .i64 k1, .int .i64 n1, .string s1] 24)).alloc (.cells #[.int .i64 k2, .int .i64 n2, .string s2] 24)) [(w.heap.size, k1, n1, s1), (w.heap.size + 1, k2, n2, s2)] := by
    intro x hx
    have q2 := Blk.new (w.alloc (.cells #[.int .i64 k1, .int .i64 n1, .string s1] 24)) k2 n2 s2
    rw [World.size_alloc] at q2
    simp only [List.mem_cons, List.not_mem_nil, or_false] at hx
    rcases hx with rfl | rfl
    · exact (Blk.new w k1 n1 s1).alloc _
    · exact q2
  have HH := Lib.hid ((H0.below (hb1.mono (Nat.le_refl _))).below ((Below.refl w1.heap.size w1).alloc (Nat.le_refl _) (.cells #[.string ⟨#[112, 111, 115, 105, 120]⟩, .slice (some ⟨g1, 0, none⟩) 256 cap1, .string ⟨(ltab 256).toArray⟩, .string ⟨(utab 256).toArray⟩, .slice none 0 0, .slice none 0 0] 41)))
  clear H0
  refine wp_region_inv (PairI (w1.alloc (.cells #[.string ⟨#[112, 111, 115, 105, 120]⟩, .slice (some ⟨g1, 0, none⟩) 256 cap1, .string ⟨(ltab 256).toArray⟩, .string ⟨(utab 256).toArray⟩, .slice none 0 0, .slice none 0 0] 41)) k1 n1 k2 n2 X Y s1 s2) (by kernel_rfl) (by kernel_rfl) ?_ ?_ ?_
  · exact ⟨undef, undef, undef, undef, undef, undef, undef, undef, by simp only [Act.put, List.setIfInBounds_toArray, List.set_cons_zero, List.set_cons_succ], (Below.refl _ _).drew, not_yet (by kernel_rfl), not_yet (by kernel_rfl), not_yet (by kernel_rfl), not_yet (by kernel_rfl), not_yet (by kernel_rfl), not_yet (by kernel_rfl), not_yet (by kernel_rfl), not_yet (by kernel_rfl), not_yet (by kernel_rfl), not_yet (by kernel_rfl), not_yet (by kernel_rfl)⟩
  · refine StepsL.cons 1 rfl ?_ ?_
    · intro d a w' hI hd hdep K hK
      obtain ⟨v0, v1, v2, v3, v4, v5, v6, v7, ha, F⟩ := hI
      simp only [Act.put, List.setIfInBounds_toArray, List.set_cons_zero, List.set_cons_succ] at ha
      subst ha
      obtain ⟨c0, c1, c2, d0, d1, d2⟩ := PC.out _ F.bel
      go_simp
      exact hK.out _ _ ⟨_, v1, v2, v3, v4, v5, v6, v7, by simp only [Act.put, List.setIfInBounds_toArray, List.set_cons_zero, List.set_cons_succ], F.t0⟩
    refine StepsL.cons 2 rfl ?_ ?_
    · intro d a w' hI hd hdep K hK
      obtain ⟨v0, v1, v2, v3, v4, v5, v6, v7, ha, F⟩ := hI
      simp only [Act.put, List.setIfInBounds_toArray, List.set_cons_zero, List.set_cons_succ] at ha
      subst ha
      obtain rfl := F.h0 (hdep ⟨0, .data⟩ (by simp) (by rfl))
      go_simp
      go_at_call 9
      refine (vnumber_is k1 n1 X s1 _ S1.out HX.out).mono ?_
      rintro e w2 ⟨rfl, hb⟩
      go_wp2_with fail
      exact hK.out _ _ ⟨_, _, v2, v3, v4, v5, v6, v7, by simp only [Act.put, List.setIfInBounds_toArray, List.set_cons_zero, List.set_cons_succ], (F.world hb).t1⟩
    refine StepsL.cons 3 rfl ?_ ?_
    · intro d a w' hI hd hdep K hK
      obtain ⟨v0, v1, v2, v3, v4, v5, v6, v7, ha, F⟩ := hI
      simp only [Act.put, List.setIfInBounds_toArray, List.set_cons_zero, List.set_cons_succ] at ha
      subst ha
      obtain rfl := F.h1 (hdep ⟨1, .data⟩ (by simp) (by rfl))
      go_simp
      go_at_call 22
      refine (fromNumber_is X X _ FX).mono ?_
      rintro e w2 ⟨rfl, hb⟩
      go_wp2_with fail
      exact hK.out _ _ ⟨v0, _, _, v3, v4, v5, v6, v7, by simp only [Act.put, List.setIfInBounds_toArray, List.set_cons_zero, List.set_cons_succ], (F.world hb).t2⟩
    refine StepsL.cons 4 rfl ?_ ?_
    · intro d a w' hI hd hdep K hK
      obtain ⟨v0, v1, v2, v3, v4, v5, v6, v7, ha, F⟩ := hI
      simp only [Act.put, List.setIfInBounds_toArray, List.set_cons_zero, List.set_cons_succ] at ha
      subst ha
      obtain ⟨c0, c1, c2, d0, d1, d2⟩ := PC.out _ F.bel
      go_simp
      exact hK.out _ _ ⟨v0, v1, v2, _, v4, v5, v6, v7, by simp only [Act.put, List.setIfInBounds_toArray, List.set_cons_zero, List.set_cons_succ], F.t3⟩
    refine StepsL.cons 5 rfl ?_ ?_
    · intro d a w' hI hd hdep K hK
      obtain ⟨v0, v1, v2, v3, v4, v5, v6, v7, ha, F⟩ := hI
      simp only [Act.put, List.setIfInBounds_toArray, List.set_cons_zero, List.set_cons_succ] at ha
      subst ha
      obtain rfl := F.h3 (hdep ⟨3, .data⟩ (by simp) (by rfl))
      go_simp
      go_at_call 9
      refine (vnumber_is k2 n2 Y s2 _ S2.out HY.out).mono ?_
      rintro e w2 ⟨rfl, hb⟩
      go_wp2_with fail
      exact hK.out _ _ ⟨v0, v1, v2, _, _, v5, v6, v7, by simp only [Act.put, List.setIfInBounds_toArray, List.set_cons_zero, List.set_cons_succ], (F.world hb).t4⟩
    refine StepsL.cons 6 rfl ?_ ?_
    · intro d a w' hI hd hdep K hK
      obtain ⟨v0, v1, v2, v3, v4, v5, v6, v7, ha, F⟩ := hI
      simp only [Act.put, List.setIfInBounds_toArray, List.set_cons_zero, List.set_cons_succ] at ha
      subst ha
      obtain rfl := F.h4 (hdep ⟨4, .data⟩ (by simp) (by rfl))
      go_simp
      go_at_call 22
      refine (fromNumber_is Y Y _ FY).mono ?_
      rintro e w2 ⟨rfl, hb⟩
      go_wp2_with fail
      exact hK.out _ _ ⟨v0, v1, v2, v3, _, _, v6, v7, by simp only [Act.put, List.setIfInBounds_toArray, List.set_cons_zero, List.set_cons_succ], (F.world hb).t5⟩
    refine StepsL.cons 7 rfl ?_ ?_
    · intro d a w' hI hd hdep K hK
      obtain ⟨v0, v1, v2, v3, v4, v5, v6, v7, ha, F⟩ := hI
      simp only [Act.put, List.setIfInBounds_toArray, List.set_cons_zero, List.set_cons_succ] at ha
      subst ha
      go_simp
      exact hK.out _ _ ⟨v0, v1, v2, v3, v4, v5, _, v7, by simp only [Act.put, List.setIfInBounds_toArray, List.set_cons_zero, List.set_cons_succ], F.t6 hd⟩
    refine StepsL.cons 8 rfl ?_ ?_
    · intro d a w' hI hd hdep K hK
      obtain ⟨v0, v1, v2, v3, v4, v5, v6, v7, ha, F⟩ := hI
      simp only [Act.put, List.setIfInBounds_toArray, List.set_cons_zero, List.set_cons_succ] at ha
      subst ha
      go_simp
      exact hK.out _ _ ⟨v0, v1, v2, v3, v4, v5, v6, _, by simp only [Act.put, List.setIfInBounds_toArray, List.set_cons_zero, List.set_cons_succ], F.t7 hd⟩
    refine StepsL.cons 9 rfl ?_ ?_
    · intro d a w' hI hd hdep K hK
      obtain ⟨v0, v1, v2, v3, v4, v5, v6, v7, ha, F⟩ := hI
      simp only [Act.put, List.setIfInBounds_toArray, List.set_cons_zero, List.set_cons_succ] at ha
      subst ha
      have D6 := (hdep ⟨6, .data⟩ (by simp) (by rfl))
      obtain ⟨g, hg, hB, k, n, s, hk, -⟩ := F.h6 D6
      obtain rfl := F.h2 (hdep ⟨2, .data⟩ (by simp) (by rfl))
      have F' := F.t8 hg hB hk D6
      subst hg
      obtain ⟨f0, f1, f2, c0, c1, c2⟩ := hk
      go_simp
      exact hK.out _ _ ⟨v0, v1, _, v3, v4, v5, _, v7, by simp only [Act.put, List.setIfInBounds_toArray, List.set_cons_zero, List.set_cons_succ], F'⟩
    refine StepsL.cons 10 rfl ?_ ?_
    · intro d a w' hI hd hdep K hK
      obtain ⟨v0, v1, v2, v3, v4, v5, v6, v7, ha, F⟩ := hI
      simp only [Act.put, List.setIfInBounds_toArray, List.set_cons_zero, List.set_cons_succ] at ha
      subst ha
      have D6 := (hdep ⟨7, .data⟩ (by simp) (by rfl))
      obtain ⟨g, hg, hB, k, n, s, hk, -⟩ := F.h7 D6
      obtain rfl := F.h5 (hdep ⟨5, .data⟩ (by simp) (by rfl))
      have F' := F.t9 hg hB hk D6
      subst hg
      obtain ⟨f0, f1, f2, c0, c1, c2⟩ := hk
      go_simp
      exact hK.out _ _ ⟨v0, v1, v2, v3, v4, _, v6, _, by simp only [Act.put, List.setIfInBounds_toArray, List.set_cons_zero, List.set_cons_succ], F'⟩
    exact StepsL.nil
  · intro d a w2 hI hall
    obtain ⟨v0, v1, v2, v3, v4, v5, v6, v7, ha, F⟩ := hI
    simp only [Act.put, List.setIfInBounds_toArray, List.set_cons_zero, List.set_cons_succ] at ha
    obtain ⟨g, hg, -, kg, ng, sg, bg, eg⟩ := F.h6 (hall 6)
    obtain ⟨rfl, rfl, rfl⟩ := eg (hall 8)
    obtain ⟨h, hh, -, kh, nh, sh, bh, eh⟩ := F.h7 (hall 7)
    obtain ⟨rfl, rfl, rfl⟩ := eh (hall 9)
    obtain rfl := F.h0 (hall 0)
    obtain rfl := F.h1 (hall 1)
    obtain rfl := F.h2 (hall 2)
    obtain rfl := F.h3 (hall 3)
    obtain rfl := F.h4 (hall 4)
    obtain rfl := F.h5 (hall 5)
    have fb := F.bel
    have L2 := Lib.hid ((LBlk.new w1 (.string ⟨#[112, 111, 115, 105, 120]⟩) (.slice (some ⟨g1, 0, none⟩) 256 cap1) (.string ⟨(ltab 256).toArray⟩) (.string ⟨(utab 256).toArray⟩) (.slice none 0 0) (.slice none 0 0)).below fb)
    have H2 : Hid (Holds w2 [(w.heap.size, k1, n1, s1), (w.heap.size + 1, k2, n2, s2), (g, 1, ng, ⟨#[]⟩), (h, 1, nh, ⟨#[]⟩)]) := Lib.hid (by
      intro x hx
      simp only [List.mem_cons, List.not_mem_nil, or_false] at hx
      rcases hx with rfl | rfl | rfl | rfl
      · exact (HH.out.below fb) _ (by simp)
      · exact (HH.out.below fb) _ (by simp)
      · exact bg
      · exact bh)
    have B2 : Hid (Below w.heap.size w w2) := Lib.hid (below_step (below_step (HW.out.trans (fb.mono HW.out.size))))
    clear F bg bh fb HH HW PC hall eg eh hb1 IR
    subst hg
    subst hh
    subst ha
    obtain ⟨p0, p1, p2⟩ := H2.out.get w.heap.size k1 n1 s1 (by simp)
    obtain ⟨q0, q1, q2⟩ := H2.out.get (w.heap.size + 1) k2 n2 s2 (by simp)
    go_wp2_with fail
    refine (arith_ar ⟨#[45]⟩ k1 n1 k2 n2 ng nh 0 0 9 s1 s2 _ S1.out S2.out HX HY A1).mono ?_
    rintro e w3 ⟨rfl, hb3⟩
    have H3 := Lib.hid ((H2.out.below hb3).new 0 0 ⟨#[]⟩)
    have L3 := Lib.hid ((L2.out.below hb3).below ((Below.refl w3.heap.size w3).alloc (Nat.le_refl _) (.cells #[.int .i64 0, .int .i64 0, .string ⟨#[]⟩] 24)))
    have B3 := Lib.hid (B2.out.trans (below_step (Below.refl _ (w3.alloc (.cells #[.int .i64 0, .int .i64 0, .string ⟨#[]⟩] 24))) |> fun z => (hb3.trans (z.mono hb3.size)).mono B2.out.size))
    clear p0 p1 p2 q0 q1 q2 hb3 H2 L2 B2
    obtain ⟨p0, p1, p2⟩ := H3.out.get g 1 ng ⟨#[]⟩ (by simp)
    obtain ⟨q0, q1, q2⟩ := H3.out.get h 1 nh ⟨#[]⟩ (by simp)
    obtain ⟨l0, l1, l2, l3, l4, l5⟩ := L3.out
    go_wp2_with fail
    refine (vcompare_is _ _ _ _ _ _ ng nh N _ FX FY HN).mono ?_
    rintro e w4 ⟨rfl, hb4⟩
    have H4 := Lib.hid (H3.out.below hb4)
    have B4 := Lib.hid (B3.out.trans (hb4.mono B3.out.size))
    clear p0 p1 p2 q0 q1 q2 l0 l1 l2 l3 l4 l5 hb4 H3 L3 B3
    obtain ⟨r0, r1, r2⟩ := H4.out.get w3.heap.size 0 0 ⟨#[]⟩ (by simp)
    obtain ⟨p0, p1, p2⟩ := H4.out.get w.heap.size k1 n1 s1 (by simp)
    obtain ⟨q0, q1, q2⟩ := H4.out.get (w.heap.size + 1) k2 n2 s2 (by simp)
    go_wp2_with fail
    refine (arith_ar ⟨#[43]⟩ k1 n1 k2 n2 ng nh 0 0 9 s1 s2 _ S1.out S2.out HX HY A2).mono ?_
    rintro e w5 ⟨rfl, hb5⟩
    have H5 := Lib.hid ((H4.out.below hb5).new 0 0 ⟨#[]⟩)
    have B5 := Lib.hid (B4.out.trans (below_step (Below.refl _ (w5.alloc (.cells #[.int .i64 0, .int .i64 0, .string ⟨#[]⟩] 24))) |> fun z => (hb5.trans (z.mono hb5.size)).mono B4.out.size))
    clear r0 r1 r2 p0 p1 p2 q0 q1 q2 hb5 H4 B4
    obtain ⟨p0, p1, p2⟩ := H5.out.get w.heap.size k1 n1 s1 (by simp)
    obtain ⟨q0, q1, q2⟩ := H5.out.get (w.heap.size + 1) k2 n2 s2 (by simp)
    go_wp2_with fail
    refine (arith_ar ⟨#[43]⟩ k2 n2 k1 n1 nh ng 0 0 9 s2 s1 _ S2.out S1.out HY HX A3).mono ?_
    rintro e w6 ⟨rfl, hb6⟩
    have H6 := Lib.hid ((H5.out.below hb6).new 0 0 ⟨#[]⟩)
    have B6 := Lib.hid (B5.out.trans (below_step (Below.refl _ (w6.alloc (.cells #[.int .i64 0, .int .i64 0, .string ⟨#[]⟩] 24))) |> fun z => (hb6.trans (z.mono hb6.size)).mono B5.out.size))
    clear p0 p1 p2 q0 q1 q2 hb6 H5 B5
    obtain ⟨p0, p1, p2⟩ := H6.out.get w5.heap.size 0 0 ⟨#[]⟩ (by simp)
    obtain ⟨r0, r1, r2⟩ := H6.out.get w6.heap.size 0 0 ⟨#[]⟩ (by simp)
    obtain ⟨q0, q1, q2⟩ := H6.out.get (w.heap.size + 1) k2 n2 s2 (by simp)
    go_wp2_with fail
    refine (arith_ar ⟨#[45]⟩ 0 0 k2 n2 0 nh K4 D4 E4 ⟨#[]⟩ s2 _ (by decide) S2.out FS HY A4).mono ?_
    rintro e w7 ⟨rfl, hb7⟩
    have H7 := Lib.hid ((H6.out.below hb7).new K4 D4 ⟨#[]⟩)
    have B7 := Lib.hid (B6.out.trans (below_step (Below.refl _ (w7.alloc (.cells #[.int .i64 K4, .int .i64 D4, .string ⟨#[]⟩] 24))) |> fun z => (hb7.trans (z.mono hb7.size)).mono B6.out.size))
    clear r0 r1 r2 p0 p1 p2 q0 q1 q2 hb7 H6 B6
    obtain ⟨p0, p1, p2⟩ := H7.out.get w7.heap.size K4 D4 ⟨#[]⟩ (by simp)
    obtain ⟨q0, q1, q2⟩ := H7.out.get g 1 ng ⟨#[]⟩ (by simp)
    go_wp2_with fail
    refine (vawake_any _ (tab_below T.out B7.out)).mono ?_
    rintro e w8 ⟨rfl, hb8⟩
    clear p0 p1 p2 q0 q1 q2
    have B8 := Lib.hid (B7.out.trans (hb8.mono B7.out.size))
    clear hb8 B7 H7
    go_wp2_with fail
    go_ret
    exact ⟨rfl, B8.out⟩
theorem law_differs (k1 n1 k2 n2 : Int) (s1 s2 : ByteArray) (w : World) (ht : Tab w) (hs1 : s1.size ≤ 9223372036854775807) (hs2 : s2.size ≤ 9223372036854775807) :
    Calls Tryd.prog 8 #[vval k1 n1 s1, vval k2 n2 s2] w fun e w' => e = .returned (.bool true) ∧ Below w.heap.size w w' := by
  have bx := num_bd k1 n1 s1.data.toList
  have bY := num_bd k2 n2 s2.data.toList
  have NX := num_near k1 n1 s1.data.toList
  have NY := num_near k2 n2 s2.data.toList
  obtain ⟨X, hx⟩ : ∃ X, numV k1 n1 s1.data.toList = X := ⟨_, rfl⟩
  obtain ⟨Y, hy⟩ : ∃ Y, numV k2 n2 s2.data.toList = Y := ⟨_, rfl⟩
  rw [hx] at bx NX
  rw [hy] at bY NY
  have cn := cmp3_neg X Y
  have cp := cmp3_pos X Y
  obtain ⟨N, hN⟩ : ∃ N, cmp3 X Y = N := ⟨_, rfl⟩
  rw [hN] at cn cp
  obtain ⟨K4, D4, E4, h4⟩ : ∃ K D E, AR ⟨#[45]⟩ 0 Y K D E := ⟨_, _, _, rfl, rfl, rfl⟩
  have z0 : numV 0 0 [] = 0 := num_0 0 0 [] (by decide) (by decide) (by decide)
  rcases ar_minus X Y bx bY with am | am <;> rcases ar_plus X Y bx bY with ⟨p1, p2, p3, p4⟩ | ⟨p1, p2⟩
  · exact differs_tt k1 n1 k2 n2 X Y N _ _ _ _ s1 s2 w (Lib.hid ht) (Lib.hid hs1) (Lib.hid hs2) (Lib.hid hx) (Lib.hid hy) (Lib.hid NX) (Lib.hid NY) (Lib.hid hN) (Lib.hid am) (Lib.hid p1) (Lib.hid p2) (Lib.hid p4) (Lib.hid (by rw [num_1]; exact p3)) rfl cn.symm rfl cp.symm
  · exact differs_tf k1 n1 k2 n2 X Y N _ K4 D4 E4 _ _ s1 s2 w (Lib.hid ht) (Lib.hid hs1) (Lib.hid hs2) (Lib.hid hx) (Lib.hid hy) (Lib.hid NX) (Lib.hid NY) (Lib.hid hN) (Lib.hid am) (Lib.hid p1) (Lib.hid p2) (Lib.hid h4) (Lib.hid z0) rfl cn.symm rfl cp.symm
  · exact differs_ft k1 n1 k2 n2 X Y N _ s1 s2 w (Lib.hid ht) (Lib.hid hs1) (Lib.hid hs2) (Lib.hid hx) (Lib.hid hy) (Lib.hid NX) (Lib.hid NY) (Lib.hid hN) (Lib.hid am) (Lib.hid p1) (Lib.hid p2) (Lib.hid p4) (Lib.hid (by rw [num_1]; exact p3))
  · exact differs_ff k1 n1 k2 n2 X Y N K4 D4 E4 s1 s2 w (Lib.hid ht) (Lib.hid hs1) (Lib.hid hs2) (Lib.hid hx) (Lib.hid hy) (Lib.hid NX) (Lib.hid NY) (Lib.hid hN) (Lib.hid am) (Lib.hid p1) (Lib.hid p2) (Lib.hid h4) (Lib.hid z0)
end Go.Proofs.YtjngkapfngempaaDoor
