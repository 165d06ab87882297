/- what Join's walk needs besides (written by gen_pr.py) -/
import Derived.Test.YtbhdhcnbagjmcaaDoorPm
namespace Go.Proofs.YtbhdhcnbagjmcaaDoor
open Go.RowKit Go.Maps Go.WideMaps
open Jn Lcl
/-- the joiner at the beginning -/
theorem js_start {f1 f2 sep m : Int} {lf rt pr : Bool} {em : ByteArray} {a : Option Addr} {q cap : Nat} {w w1 : World} (hm : w1.cell? ⟨0, 0, none⟩ = some (.int .i64 m)) (hp : w1.heap[w.heap.size + 1]? = some (.cells (scells f1 f2 sep lf rt pr em (.slice a q cap)) 36 (0, 0))) (hs : w.heap.size + 2 ≤ w1.heap.size) :
    JS f1 f2 sep m lf rt pr em (.slice a q cap) (.slice none 0 0) (w1.heap.size + 1 + 1) (w.heap.size + 1) (w1.heap.size + 1) w1.heap.size (w1.heap.size + 3) none 0 (((w1.alloc (.map #[] 0)).alloc (.cells #[.int .i64 f1, .int .i64 f2, .int .i64 sep, .bool lf, .bool rt, .bool pr, .string em, .slice a q cap, .map (some w1.heap.size), .slice none 0 0] 64)).alloc (.cells #[.pointer (some ⟨w1.heap.size + 1, 0, none⟩)] 61)) ∧ Below w1.heap.size w1 (((w1.alloc (.map #[] 0)).alloc (.cells #[.int .i64 f1, .int .i64 f2, .int .i64 sep, .bool lf, .bool rt, .bool pr, .string em, .slice a q cap, .map (some w1.heap.size), .slice none 0 0] 64)).alloc (.cells #[.pointer (some ⟨w1.heap.size + 1, 0, none⟩)] 61)) := by
  have hb : 0 < w1.heap.size := by
    refine Decidable.byContradiction fun hn => ?_
    simp [World.cell?, Array.getElem?_eq_none (Nat.le_of_not_lt hn)] at hm
  have s1 : (w1.alloc (.map #[] 0)).heap.size = w1.heap.size + 1 := World.size_alloc _ _
  have s2 : ((w1.alloc (.map #[] 0)).alloc (.cells (jcells f1 f2 sep lf rt pr em (.slice a q cap) w1.heap.size (.slice none 0 0)) 64)).heap.size = w1.heap.size + 1 + 1 := by rw [World.size_alloc, s1]
  have B1 : Below w1.heap.size w1 (((w1.alloc (.map #[] 0)).alloc (.cells #[.int .i64 f1, .int .i64 f2, .int .i64 sep, .bool lf, .bool rt, .bool pr, .string em, .slice a q cap, .map (some w1.heap.size), .slice none 0 0] 64)).alloc (.cells #[.pointer (some ⟨w1.heap.size + 1, 0, none⟩)] 61)) := (((Below.refl _ w1).alloc (Nat.le_refl _) _).alloc (by rw [s1]; omega) _).alloc (by rw [s2]; omega) _
  have B2 : Below (w1.alloc (.map #[] 0)).heap.size (w1.alloc (.map #[] 0)) (((w1.alloc (.map #[] 0)).alloc (.cells #[.int .i64 f1, .int .i64 f2, .int .i64 sep, .bool lf, .bool rt, .bool pr, .string em, .slice a q cap, .map (some w1.heap.size), .slice none 0 0] 64)).alloc (.cells #[.pointer (some ⟨w1.heap.size + 1, 0, none⟩)] 61)) := ((Below.refl _ _).alloc (Nat.le_refl _) _).alloc (by rw [s2, s1]; omega) _
  have n2 := heap_alloc_new (w1.alloc (.map #[] 0)) (.cells (jcells f1 f2 sep lf rt pr em (.slice a q cap) w1.heap.size (.slice none 0 0)) 64)
  have n3 := heap_alloc_new ((w1.alloc (.map #[] 0)).alloc (.cells (jcells f1 f2 sep lf rt pr em (.slice a q cap) w1.heap.size (.slice none 0 0)) 64)) (.cells #[.pointer (some ⟨w1.heap.size + 1, 0, none⟩)] 61)
  rw [s1] at n2
  rw [s2] at n3
  have s3 : (((w1.alloc (.map #[] 0)).alloc (.cells #[.int .i64 f1, .int .i64 f2, .int .i64 sep, .bool lf, .bool rt, .bool pr, .string em, .slice a q cap, .map (some w1.heap.size), .slice none 0 0] 64)).alloc (.cells #[.pointer (some ⟨w1.heap.size + 1, 0, none⟩)] 61)).heap.size = w1.heap.size + 3 := by rw [World.size_alloc, s2]
  refine ⟨⟨kp B1 hm, (Below.heap_alloc _ _ _ (by rw [s2]; omega)).trans n2, blk_cellx n3 0 _ rfl, (B1.block _ (by omega)).trans hp, (Cache.made w1 _ _ _).below B2, by omega, by omega, by omega, by omega, by omega, by omega, by omega, by omega, by omega, by omega, by omega, by omega, by rw [s3]; exact Nat.le_refl _, fun g e => by cases e⟩, B1⟩
theorem JG.bel {jb mb B n : Nat} {w w' : World} (h : JG jb mb B w w') (h1 : n ≤ jb) (h2 : n ≤ mb) (h3 : n ≤ B) : Below n w w' :=
  ⟨h.os, h.tape, h.output, h.size, fun i hi => h.block i (by omega) (by omega) (by omega)⟩
/-- what the joiner's loop keeps -/
structure JR (p : Sp) (A C : List (List UInt8)) (f1 f2 sep m : Int) (lf rt pr : Bool) (em : ByteArray) (a : Option Addr) (q cap : Nat) (vb pb jb mb B : Nat) (W : World) (i k : Nat) (D : List (List UInt8)) (vout : Value) (N : Nat) (wr : World) : Prop where
  J : JS f1 f2 sep m lf rt pr em (.slice a q cap) vout vb pb jb mb B vout.ownBlock (N) wr
  O : OwnS wr B vout (D.map bA)
  G : JG jb mb B W wr
  E : joinL p cmpD A C = D ++ joinF p cmpD (A.length + C.length) (A.drop i) (C.drop k)
  N : N ≤ 1000 * (i + k)
  L : D.length ≤ 200 * (i + k)
/-- one round of the plain model, without the count of rounds -/
theorem joinF_eq (p : Sp) (cmp : List UInt8 → List UInt8 → Int) (F : Nat) (a b : List (List UInt8)) (hF : a.length + b.length ≤ F) (h0 : ¬ (a = [] ∧ b = [])) : joinF p cmp F a b =
    if ordJ p cmp a b < 0 then (if p.left then (a.take 1).map (fun x => putL p (some x) none) else []) ++ joinF p cmp F (a.drop 1) b
    else if 0 < ordJ p cmp a b then (if p.right then (b.take 1).map (fun y => putL p none (some y)) else []) ++ joinF p cmp F a (b.drop 1)
    else (if p.paired then pairsL p (a.take (grpN (keyL p.sep p.f1) a)) (b.take (grpN (keyL p.sep p.f2) b)) else []) ++ joinF p cmp F (a.drop (grpN (keyL p.sep p.f1) a)) (b.drop (grpN (keyL p.sep p.f2) b)) := by
  have hpos : 1 ≤ a.length + b.length := by
    rcases Nat.eq_zero_or_pos (a.length + b.length) with h | h
    · exact absurd ⟨List.length_eq_zero_iff.1 (by omega), List.length_eq_zero_iff.1 (by omega)⟩ h0
    · exact h
  obtain ⟨F, rfl⟩ : ∃ f, F = f + 1 := ⟨F - 1, by omega⟩
  rw [joinF, if_neg h0]
  by_cases h1 : ordJ p cmp a b < 0
  · rw [if_pos h1, if_pos h1]
    have : a ≠ [] := fun e => by rw [e] at h1; exact absurd (show (1 : Int) < 0 from h1) (by decide)
    have := List.length_pos_iff.2 this
    rw [joinF_more p cmp F (F + 1) (a.drop 1) b (by rw [List.length_drop]; omega) (by rw [List.length_drop]; omega)]
  · rw [if_neg h1, if_neg h1]
    by_cases h2 : 0 < ordJ p cmp a b
    · rw [if_pos h2, if_pos h2]
      have : b ≠ [] := fun e => by
        rw [e] at h2 h0
        cases a with
        | nil => exact h0 ⟨rfl, rfl⟩
        | cons x r => exact absurd (show (0 : Int) < -1 from h2) (by decide)
      have := List.length_pos_iff.2 this
      rw [joinF_more p cmp F (F + 1) a (b.drop 1) (by rw [List.length_drop]; omega) (by rw [List.length_drop]; omega)]
    · rw [if_neg h2, if_neg h2]
      have : a ≠ [] := fun e => by rw [e] at h2; exact h2 (show (0 : Int) < 1 by decide)
      have := grpN_pos (key := keyL p.sep p.f1) this
      have := grpN_le (keyL p.sep p.f1) a
      rw [joinF_more p cmp F (F + 1) _ _ (by rw [List.length_drop, List.length_drop]; omega) (by rw [List.length_drop, List.length_drop]; omega)]
theorem joinF_nil (p : Sp) (cmp : List UInt8 → List UInt8 → Int) (F : Nat) : joinF p cmp F [] [] = [] := by
  cases F <;> simp [joinF]
theorem drop_cons' {α : Type} {l r : List α} {x : α} {i : Nat} (h : l.drop i = x :: r) : l.drop (i + 1) = r ∧ i < l.length := by
  have hi : i < l.length := by
    refine Decidable.byContradiction fun hn => ?_
    rw [List.drop_eq_nil_of_le (by omega)] at h; cases h
  refine ⟨?_, hi⟩
  rw [← List.drop_drop, h]; rfl
/-- the first line goes, alone -/
theorem join_lt {p : Sp} {A C D : List (List UInt8)} {i k : Nat} {x : List UInt8} {r : List (List UInt8)} (E : joinL p cmpD A C = D ++ joinF p cmpD (A.length + C.length) (A.drop i) (C.drop k)) (hx : A.drop i = x :: r) (ho : ordJ p cmpD (A.drop i) (C.drop k) < 0) :
    joinL p cmpD A C = (D ++ if p.left then [putL p (some x) none] else []) ++ joinF p cmpD (A.length + C.length) (A.drop (i + 1)) (C.drop k) := by
  rw [E, joinF_eq p cmpD _ _ _ (by rw [List.length_drop, List.length_drop]; omega) (fun h => by rw [hx] at h; exact absurd h.1 (List.cons_ne_nil _ _)), if_pos ho, (drop_cons' hx).1, hx, List.append_assoc]
  rfl
theorem join_gt {p : Sp} {A C D : List (List UInt8)} {i k : Nat} {y : List UInt8} {r : List (List UInt8)} (E : joinL p cmpD A C = D ++ joinF p cmpD (A.length + C.length) (A.drop i) (C.drop k)) (hy : C.drop k = y :: r) (ho : 0 < ordJ p cmpD (A.drop i) (C.drop k)) :
    joinL p cmpD A C = (D ++ if p.right then [putL p none (some y)] else []) ++ joinF p cmpD (A.length + C.length) (A.drop i) (C.drop (k + 1)) := by
  rw [E, joinF_eq p cmpD _ _ _ (by rw [List.length_drop, List.length_drop]; omega) (fun h => by rw [hy] at h; exact absurd h.2 (List.cons_ne_nil _ _)), if_neg (by omega), if_pos ho, (drop_cons' hy).1, hy, List.append_assoc]
  rfl
theorem join_eq {p : Sp} {A C D : List (List UInt8)} {i k m n : Nat} {x : List UInt8} {r : List (List UInt8)} (E : joinL p cmpD A C = D ++ joinF p cmpD (A.length + C.length) (A.drop i) (C.drop k)) (hx : A.drop i = x :: r) (ho : ordJ p cmpD (A.drop i) (C.drop k) = 0)
    (hm : grpN (keyL p.sep p.f1) (A.drop i) = m) (hn : grpN (keyL p.sep p.f2) (C.drop k) = n) :
    joinL p cmpD A C = (D ++ if p.paired then pairsL p ((A.drop i).take m) ((C.drop k).take n) else []) ++ joinF p cmpD (A.length + C.length) (A.drop (i + m)) (C.drop (k + n)) := by
  rw [E, joinF_eq p cmpD _ _ _ (by rw [List.length_drop, List.length_drop]; omega) (fun h => by rw [hx] at h; exact absurd h.1 (List.cons_ne_nil _ _)), if_neg (by omega), if_neg (by omega), hm, hn, List.drop_drop, List.drop_drop, List.append_assoc]
/-- a list without its first lines, as a slice -/
theorem Strs.drop {w : World} {a : Option Addr} {n cap : Nat} {L : List ByteArray} (h : Strs w (.slice a n cap) L) (m : Nat) (hm : m ≤ n) {a' : Option Addr} {n' cap' : Nat} (hn : n' = n - m) (hc : cap' = cap - m) (ha : n' ≠ 0 → ∀ g o, a = some ⟨g, o, none⟩ → a' = some ⟨g, o + m, none⟩) : Strs w (.slice a' n' cap') (L.drop m) := by
  obtain ⟨a0, cap0, e, h1, h2, h3⟩ := h
  simp only [Value.slice.injEq] at e
  obtain ⟨rfl, rfl, rfl⟩ := e
  subst hn hc
  refine ⟨a', _, by rw [List.length_drop], by rw [List.length_drop]; omega, by omega, ?_⟩
  by_cases h0 : L.length - m = 0
  · left; exact List.drop_eq_nil_of_le (by omega)
  · right
    rcases h3 with h3 | ⟨g, o, rfl, hg, hc⟩
    · rw [h3] at h0; simp at h0
    · refine ⟨g, o + m, ha h0 g o rfl, hg, fun j x hj => ?_⟩
      rw [List.getElem?_drop] at hj
      have := hc (m + j) x hj
      rwa [← Nat.add_assoc] at this
end Go.Proofs.YtbhdhcnbagjmcaaDoor
