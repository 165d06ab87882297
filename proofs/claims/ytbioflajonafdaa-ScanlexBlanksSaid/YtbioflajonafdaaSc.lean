/- walks: letters, digits, the last token -/
import Derived.Test.YtbioflajonafdaaSb
namespace Go.Proofs.Ytbioflajonafdaa
open Go.RowKit
open Tx
theorem sdigit_any (c : Nat) (w : World) : Calls Try.prog 38 #[.int .u8 (c : Int)] w fun e w' => e = .returned (.bool (dgn c)) ∧ w = w' := by
  by_cases h1 : 48 ≤ c
  · have i1 : (48 : Int) ≤ (c : Int) := by omega
    by_cases h2 : c ≤ 57
    · have e : dgn c = true := by simp [dgn, h1, h2]
      have i2 : (c : Int) ≤ 57 := by omega
      rw [e]
      go_enter Try.func38, Try.ntmps38
      go_wp2_with fail
      go_ret
      simp
    · have e : dgn c = false := by simp [dgn, h2]
      have i2 : ¬ (c : Int) ≤ 57 := by omega
      rw [e]
      go_enter Try.func38, Try.ntmps38
      go_wp2_with fail
      go_ret
      simp
  · have e : dgn c = false := by simp [dgn, h1]
    have i1 : ¬ (48 : Int) ≤ (c : Int) := by omega
    rw [e]
    go_enter Try.func38, Try.ntmps38
    go_wp2_with fail
    go_ret
    simp
theorem lt_or : ∀ c : Fin 256, lt c.val = ((decide (97 ≤ bits BinOp.or IntKind.u8 (c.val : Int) 32) && decide (bits BinOp.or IntKind.u8 (c.val : Int) 32 ≤ 122)) || ((c.val : Int) == 95)) := by decide +kernel
theorem sletter_any (c : Nat) (hc : c < 256) (w : World) : Calls Try.prog 40 #[.int .u8 (c : Int)] w fun e w' => e = .returned (.bool (lt c)) ∧ w = w' := by
  go_enter Try.func40, Try.ntmps40
  go_wp2_with fail
  all_goals (
    go_ret
    have k := lt_or ⟨c, hc⟩
    simp only at k
    rw [k]
    first | (simp [*]; done) | (simp [*]; omega))
/-- the last token in memory -/
theorem LX.last {p : Nat} {s : ByteArray} {at_ : Int} {v : Value} {T : List Tok} {t : Tok} {er pos : Int} {w : World} (h : LX p s at_ v (T ++ [t]) er pos w) :
    ∃ g cap, v = .slice (some ⟨g, 0, none⟩) (T.length + 1) cap ∧ g < w.heap.size ∧ w.cell? ⟨g, T.length * 4, none⟩ = some (.int .i64 t.k) ∧ w.cell? ⟨g, T.length * 4 + 1, none⟩ = some (.string t.t) ∧ w.cell? ⟨g, T.length * 4 + 2, none⟩ = some (.int .i64 t.n) ∧ w.cell? ⟨g, T.length * 4 + 3, none⟩ = some (.int .i64 t.a) := by
  obtain ⟨h1, h2⟩ := h.own
  rcases h2 with ⟨-, h2⟩ | ⟨g, cap, cur, hv, -, hg, hn, -, hcs, htk⟩
  · simp at h2
  · have hl : (T ++ [t]).length = T.length + 1 := by simp
    rw [hl] at hv hn htk h1
    have fl : ∀ T : List Tok, (T.flatMap Tok.cells).length = T.length * 4 := by
      intro T
      induction T with
      | nil => rfl
      | cons x r ih => simp only [List.flatMap_cons, List.length_append, ih, List.length_cons]; simp [Tok.cells]; omega
    have key : ∀ i x, t.cells[i]? = some x → w.cell? ⟨g, T.length * 4 + i, none⟩ = some x := by
      intro i x hx
      have hi : i < 4 := by
        have := (List.getElem?_eq_some_iff.mp hx).1
        simpa [Tok.cells] using this
      rw [blk_cell hg]
      have e : (cur.toList.take ((T.length + 1) * 4))[T.length * 4 + i]? = some x := by
        rw [htk, List.flatMap_append, List.getElem?_append_right (by rw [fl]; omega), fl]
        simpa using hx
      rw [List.getElem?_take] at e
      split at e
      · simpa using e
      · cases e
    have hlt : g < w.heap.size := by
      by_cases hlt : g < w.heap.size
      · exact hlt
      · rw [Array.getElem?_eq_none (by omega)] at hg
        cases hg
    exact ⟨g, cap, hv, hlt, key 0 _ rfl, key 1 _ rfl, key 2 _ rfl, key 3 _ rfl⟩
theorem contains_is (L : List ByteArray) (a : Value) (x : ByteArray) (w w' : World) (h : Strs w a L) (hL : L ≠ []) (hb : Below w.heap.size w w') :
    Calls Try.prog 55 #[a, .string x] w' fun e w2 => e = .returned (.bool (decide (x.data.toList ∈ L.map (·.data.toList)))) ∧ w' = w2 := by
  obtain ⟨g, o, cap, rfl, hc, hm, hg, hcell⟩ := (h.below hb).cons hL
  refine (Try.slices_Contains_string g o L.length cap L x w' (Nat.le_refl _) (by unfold maxLen at hm; omega) (fun j hj => ?_)).mono fun e w2 ⟨h1, h2⟩ => ⟨?_, h2.symm⟩
  · rw [hcell j L[j] (List.getElem?_eq_getElem hj)]
    simp [hj]
  · rw [h1, List.take_length]
    congr 2
    rw [Bool.eq_iff_iff, Lib.containsS_iff, decide_eq_true_eq, List.mem_map]
    constructor
    · intro hx; exact ⟨x, hx, rfl⟩
    · rintro ⟨y, hy, e⟩; rw [str_ext e] at hy; exact hy
theorem after_none (p : Nat) (s : ByteArray) (at_ : Int) (v : Value) (er pos : Int) (w : World) (h : LX p s at_ v [] er pos w) (a : Value) :
    Calls Try.prog 37 #[.pointer (some ⟨p, 0, none⟩), a] w fun e w' => e = .returned (.bool false) ∧ Below w.heap.size w w' := by
  obtain ⟨c0, c1, c2, -, -, -⟩ := h.cells
  have hv : ∃ cp gg, v = .slice gg 0 cp := by
    rcases h.own.2 with ⟨hv, -⟩ | ⟨g, cap, cur, hv, -⟩
    · exact ⟨0, none, hv⟩
    · exact ⟨cap, _, hv⟩
  obtain ⟨cp, gg, rfl⟩ := hv
  clear h
  go_enter Try.func37, Try.ntmps37
  go_wp2_with fail
  go_ret
  exact ⟨rfl, Below.refl _ _⟩
set_option maxHeartbeats 1000000 in
theorem after_some (p : Nat) (s : ByteArray) (at_ : Int) (T : List Tok) (t : Tok) (v : Value) (er pos : Int) (w : World) (h : LX p s at_ v (T ++ [t]) er pos w)
   (hl : T.length + 1 ≤ 1048576) (a : Value) (r : Bool) (HC : Hid (∀ w', Below w.heap.size w w' → Calls Try.prog 55 #[a, .string t.t] w' fun e w2 => e = .returned (.bool r) ∧ w' = w2)) :
    Calls Try.prog 37 #[.pointer (some ⟨p, 0, none⟩), a] w fun e w' => e = .returned (.bool ((decide (t.k = 7) || decide (t.k = 6)) && r)) ∧ Below w.heap.size w w' := by
  obtain ⟨c0, c1, c2, -, -, -⟩ := h.cells
  obtain ⟨g, cap, hv, hg, k0, k1, k2, k3⟩ := h.last
  subst hv
  have KP : Hid (∀ w', Below w.heap.size w w' → Below w.heap.size w w' ∧ w'.cell? ⟨g, T.length * 4, none⟩ = some (.int .i64 t.k) ∧ w'.cell? ⟨g, T.length * 4 + 1, none⟩ = some (.string t.t) ∧ w'.cell? ⟨g, T.length * 4 + 2, none⟩ = some (.int .i64 t.n) ∧ w'.cell? ⟨g, T.length * 4 + 3, none⟩ = some (.int .i64 t.a) ∧ w'.cell? ⟨p, 2, none⟩ = some (.slice (some ⟨g, 0, none⟩) (T.length + 1) cap)) := Lib.hid fun w' b =>
    ⟨b, (b.cell (p := ⟨g, _, none⟩) hg).trans k0, (b.cell (p := ⟨g, _, none⟩) hg).trans k1, (b.cell (p := ⟨g, _, none⟩) hg).trans k2, (b.cell (p := ⟨g, _, none⟩) hg).trans k3, (b.cell (p := ⟨p, 2, none⟩) (by have := h.size; show p < _; omega)).trans c2⟩
  clear h
  have i1 : ¬ ((T.length : Int) + 1 = 0) := by omega
  have i2 : (0 : Int) ≤ (T.length : Int) := by omega
  have i3 : (T.length : Int) < (T.length : Int) + 1 := by omega
  have wr2 : IntKind.i64.wrap (T.length : Int) = (T.length : Int) := by rw [IntKind.wrap_i64]; omega
  have wr : IntKind.i64.wrap ((T.length : Int) + 1 - 1) = (T.length : Int) := by rw [IntKind.wrap_i64]; omega
  obtain ⟨k, x, n, b⟩ := t
  simp only at HC KP k0 k1 k2 k3
  have S0 := KP.out _ (Below.refl w.heap.size w).drew
  have B1 := Lib.hid ((Below.refl w.heap.size w).alloc (Nat.le_refl _) (.cells #[.int .i64 k, .string x, .int .i64 n, .int .i64 b] 32)).drew
  by_cases h7 : k = 7
  · subst h7
    go_enter Try.func37, Try.ntmps37
    go_wp2_with fail
    go_region_held3 (fun w' => Below w.heap.size w w' ∧ w'.cell? ⟨g, T.length * 4, none⟩ = some (.int .i64 7) ∧ w'.cell? ⟨g, T.length * 4 + 1, none⟩ = some (.string x) ∧ w'.cell? ⟨g, T.length * 4 + 2, none⟩ = some (.int .i64 n) ∧ w'.cell? ⟨g, T.length * 4 + 3, none⟩ = some (.int .i64 b) ∧ w'.cell? ⟨p, 2, none⟩ = some (.slice (some ⟨g, 0, none⟩) (T.length + 1) cap)) (first | exact S0 | exact KP.out _ ((Below.refl _ _).alloc (Nat.le_refl _) _).drew) (first | fail)
    go_wp2_with (go_at_call 55; refine (HC.out _ B1.out).mono ?_; rintro e w2 ⟨rfl, rfl⟩)
    go_ret
    exact ⟨by simp, B1.out⟩
  by_cases h6 : k = 6
  · subst h6
    go_enter Try.func37, Try.ntmps37
    go_wp2_with fail
    go_region_held3 (fun w' => Below w.heap.size w w' ∧ w'.cell? ⟨g, T.length * 4, none⟩ = some (.int .i64 6) ∧ w'.cell? ⟨g, T.length * 4 + 1, none⟩ = some (.string x) ∧ w'.cell? ⟨g, T.length * 4 + 2, none⟩ = some (.int .i64 n) ∧ w'.cell? ⟨g, T.length * 4 + 3, none⟩ = some (.int .i64 b) ∧ w'.cell? ⟨p, 2, none⟩ = some (.slice (some ⟨g, 0, none⟩) (T.length + 1) cap)) (first | exact S0 | exact KP.out _ ((Below.refl _ _).alloc (Nat.le_refl _) _).drew) (first | fail)
    go_wp2_with (go_at_call 55; refine (HC.out _ B1.out).mono ?_; rintro e w2 ⟨rfl, rfl⟩)
    go_ret
    exact ⟨by simp, B1.out⟩
  · have e7 : (k == 7) = false := by rw [beq_eq_false_iff_ne]; exact h7
    have e6 : (k == 6) = false := by rw [beq_eq_false_iff_ne]; exact h6
    go_enter Try.func37, Try.ntmps37
    go_wp2_with fail
    go_region_held3 (fun w' => Below w.heap.size w w' ∧ w'.cell? ⟨g, T.length * 4, none⟩ = some (.int .i64 k) ∧ w'.cell? ⟨g, T.length * 4 + 1, none⟩ = some (.string x) ∧ w'.cell? ⟨g, T.length * 4 + 2, none⟩ = some (.int .i64 n) ∧ w'.cell? ⟨g, T.length * 4 + 3, none⟩ = some (.int .i64 b) ∧ w'.cell? ⟨p, 2, none⟩ = some (.slice (some ⟨g, 0, none⟩) (T.length + 1) cap)) (first | exact S0 | exact KP.out _ ((Below.refl _ _).alloc (Nat.le_refl _) _).drew) (first | fail)
    go_wp2_with fail
    go_ret
    exact ⟨by simp [h7, h6], B1.out⟩
theorem after_any (p : Nat) (s : ByteArray) (at_ : Int) (T : List Tok) (v : Value) (er pos : Int) (w : World) (h : LX p s at_ v T er pos w) (hl : T.length ≤ 1048576) (a : Value) (L : List ByteArray) (hL : L ≠ []) (ha : Strs w a L) (r : Bool) (hr : aft (L.map (·.data.toList)) T = r) :
    Calls Try.prog 37 #[.pointer (some ⟨p, 0, none⟩), a] w fun e w' => e = .returned (.bool r) ∧ LX p s at_ v T er pos w' ∧ Below w.heap.size w w' := by
  rcases List.eq_nil_or_concat T with rfl | ⟨T0, t, rfl⟩
  · refine (after_none p s at_ v er pos w h a).mono fun e w' ⟨h1, h2⟩ => ⟨by rw [h1, ← hr]; rfl, h.below h2, h2⟩
  · rw [List.concat_eq_append] at h hr hl ⊢
    refine (after_some p s at_ T0 t v er pos w h (by simpa using hl) a (decide (t.t.data.toList ∈ L.map (·.data.toList))) (Lib.hid fun w' b => contains_is L a t.t w w' ha hL b)).mono fun e w' ⟨h1, h2⟩ => ⟨?_, h.below h2, h2⟩
    rw [h1, ← hr]; simp [aft]
end Go.Proofs.Ytbioflajonafdaa
