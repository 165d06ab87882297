/- walks: awake; the reference's Keyword and Builtin; law Knows -/
import Derived.Test.YtbioflajonafdaaSj
namespace Go.Proofs.Ytbioflajonafdaa
open Go.RowKit
open Tx
theorem flat_get : ∀ (T : List Tok) (j i : Nat), i < 4 → (T.flatMap Tok.cells)[j * 4 + i]? = (T[j]?).bind (fun t => t.cells[i]?) := by
  intro T
  induction T with
  | nil => intro j i _; simp
  | cons t r ih =>
    intro j i hi
    rw [List.flatMap_cons]
    have hl : t.cells.length = 4 := rfl
    cases j with
    | zero => rw [List.getElem?_append_left (by omega)]; simp
    | succ j =>
      rw [List.getElem?_append_right (by omega), hl, show (j + 1) * 4 + i - 4 = j * 4 + i by omega, ih j i hi]; rfl
/-- a list of tokens, cell by cell -/
theorem Toks.cell {w : World} {B : Nat} {v : Value} {T : List Tok} (h : Toks w B v T) (hT : T ≠ []) : ∃ g cap, v = .slice (some ⟨g, 0, none⟩) T.length cap ∧ B ≤ g ∧ g < w.heap.size ∧ T.length ≤ cap ∧ cap ≤ maxLen ∧
    ∀ (j : Nat) (t : Tok), T[j]? = some t → w.cell? ⟨g, j * 4, none⟩ = some (.int .i64 t.k) ∧ w.cell? ⟨g, j * 4 + 1, none⟩ = some (.string t.t) ∧ w.cell? ⟨g, j * 4 + 2, none⟩ = some (.int .i64 t.n) ∧ w.cell? ⟨g, j * 4 + 3, none⟩ = some (.int .i64 t.a) := by
  obtain ⟨h1, h2⟩ := h
  rcases h2 with ⟨-, h2⟩ | ⟨g, cap, cur, hv, hB, hg, hn, hm, hcs, htk⟩
  · exact absurd (List.length_eq_zero_iff.mp h2) hT
  · have hlt : g < w.heap.size := by
      by_cases hlt : g < w.heap.size
      · exact hlt
      · rw [Array.getElem?_eq_none (by omega)] at hg
        cases hg
    refine ⟨g, cap, hv, hB, hlt, hn, hm, fun j t hj => ?_⟩
    have key : ∀ i x, i < 4 → t.cells[i]? = some x → w.cell? ⟨g, j * 4 + i, none⟩ = some x := by
      intro i x hi hx
      rw [blk_cell hg]
      have e : (cur.toList.take (T.length * 4))[j * 4 + i]? = some x := by
        rw [htk, flat_get T j i hi, hj]; exact hx
      rw [List.getElem?_take] at e
      split at e
      · simpa using e
      · cases e
    exact ⟨key 0 _ (by omega) rfl, key 1 _ (by omega) rfl, key 2 _ (by omega) rfl, key 3 _ (by omega) rfl⟩
def awT : List Tok := [⟨4, ⟨#[97]⟩, 0, 0⟩, ⟨7, ⟨#[47]⟩, 0, 1⟩, ⟨4, ⟨#[98]⟩, 0, 2⟩, ⟨7, ⟨#[44]⟩, 0, 3⟩, ⟨3, ⟨#[99]⟩, 0, 5⟩, ⟨0, ⟨#[]⟩, 0, 8⟩]
theorem awR : tokR ⟨#[97, 47, 98, 44, 32, 47, 99, 47]⟩ = .ok awT := by rfl
theorem stok_aw (w : World) : Calls Try.prog 9 #[.string ⟨#[97, 47, 98, 44, 32, 47, 99, 47]⟩] w fun e w' => ∃ g cap, e = .returned (.tuple #[.slice (some ⟨g, 0, none⟩) 6 cap, .int .i64 0, .int .i64 0]) ∧ Below w.heap.size w w' ∧
    w'.cell? ⟨g, 4, none⟩ = some (.int .i64 7) ∧ w'.cell? ⟨g, 5, none⟩ = some (.string ⟨#[47]⟩) ∧ w'.cell? ⟨g, 6, none⟩ = some (.int .i64 0) ∧ w'.cell? ⟨g, 7, none⟩ = some (.int .i64 1) ∧
    w'.cell? ⟨g, 16, none⟩ = some (.int .i64 3) ∧ w'.cell? ⟨g, 17, none⟩ = some (.string ⟨#[99]⟩) ∧ w'.cell? ⟨g, 18, none⟩ = some (.int .i64 0) ∧ w'.cell? ⟨g, 19, none⟩ = some (.int .i64 5) ∧
    w'.cell? ⟨g, 20, none⟩ = some (.int .i64 0) ∧ w'.cell? ⟨g, 21, none⟩ = some (.string ⟨#[]⟩) ∧ w'.cell? ⟨g, 22, none⟩ = some (.int .i64 0) ∧ w'.cell? ⟨g, 23, none⟩ = some (.int .i64 8) := by
  refine (stokens_any _ w).mono ?_
  rintro e w' ⟨h1, h2⟩
  rw [awR] at h1
  obtain ⟨v, rfl, h1⟩ := h1
  obtain ⟨g, cap, rfl, -, -, -, -, hc⟩ := h1.cell (by simp [awT])
  obtain ⟨a0, a1, a2, a3⟩ := hc 1 _ rfl
  obtain ⟨b0, b1, b2, b3⟩ := hc 4 _ rfl
  obtain ⟨d0, d1, d2, d3⟩ := hc 5 _ rfl
  exact ⟨g, cap, rfl, h2, a0, a1, a2, a3, b0, b1, b2, b3, d0, d1, d2, d3⟩
set_option maxHeartbeats 4000000 in
theorem awake_any (w : World) : Calls Try.prog 12 #[] w fun e w' => e = .returned (.bool true) ∧ Below w.heap.size w w' := by
  go_enter Try.func12, Try.ntmps12
  go_wp2_with (first | (go_at_call 9; refine (stok_aw _).mono ?_; rintro e w1 ⟨g, cap, rfl, hb1, a0, a1, a2, a3, b0, b1, b2, b3, d0, d1, d2, d3⟩) | (go_at_call 16; refine (keyword_is _ true (by decide) _).mono ?_; rintro e w2 ⟨rfl, rfl⟩))
  go_ret
  exact ⟨rfl, hb1⟩
set_option maxHeartbeats 4000000 in
theorem among_any (a b : ByteArray) (w : World) (hb : b.size ≤ 1048576) (r : Bool) (hr : decide (a.data.toList ∈ wrds b.data.toList) = r) :
    Calls Try.prog 30 #[.string a, .string b] w fun e w' => e = .returned (.bool r) ∧ Below w.heap.size w w' := by
  have HR := Lib.hid hr
  clear hr
  go_enter Try.func30, Try.ntmps30
  go_wp2_with (first | (go_at_call 52; refine (rwords_any b _ hb).mono ?_; rintro e w1 ⟨v, L, rfl, hL, hO, hb1⟩; have OS := Lib.hid hO.strs; have HL := Lib.hid hL; clear hO hL))
  obtain ⟨N, hN⟩ : ∃ N, L.length = N := ⟨_, rfl⟩
  have HN := Lib.hid hN
  have BN : N ≤ 9223372036854775807 := by have := OS.out.len; unfold maxLen at this; omega
  obtain ⟨ao, cap, hv, -⟩ := OS.out
  rw [hN] at hv
  subst hv
  go_loop [6] (fun i => ∃ j : Nat, i = .int .i64 j ∧ j ≤ N ∧ Hid (∀ x ∈ L.take j, x.data.toList ≠ a.data.toList)) (fun i => N - (intOf i).toNat)
  case atStart => exact ⟨0, rfl, by omega, Lib.hid (by simp)⟩
  case round =>
    obtain ⟨j, rfl, hj, HJ⟩ := hrel
    by_cases hlt : j < N
    · have wr1 : IntKind.i64.wrap ((j : Int) + 1) = (j : Int) + 1 := by rw [IntKind.wrap_i64]; omega
      have i1 : (0 : Int) ≤ (j : Int) := by omega
      have i2 : (j : Int) < (N : Int) := by omega
      obtain ⟨g, o, cap', hv, -, -, -, hc⟩ := OS.out.cons (by intro x; rw [x] at hN; simp at hN; omega)
      obtain ⟨y, hy⟩ : ∃ y, L[j]'(by omega) = y := ⟨_, rfl⟩
      have k1 := hc j y (by rw [List.getElem?_eq_getElem (by omega), hy])
      cases hv
      by_cases he : y.data.toList = a.data.toList
      · have e1 : (y.toList == a.toList) = true := by rw [Lib.toList_data, Lib.toList_data, he]; simp
        have R : Hid (r = true) := Lib.hid (by
          rw [← HR.out, decide_eq_true_eq, ← HL.out, ← he]
          exact List.mem_map.mpr ⟨y, by rw [← hy]; exact List.getElem_mem _, rfl⟩)
        clear hc
        go_wp2_with fail
        go_ret
        exact ⟨by rw [R.out]; rfl, hb1⟩
      · have e1 : (y.toList == a.toList) = false := by rw [Lib.toList_data, Lib.toList_data, beq_eq_false_iff_ne]; exact he
        have NJ : Hid (∀ x ∈ L.take (j + 1), x.data.toList ≠ a.data.toList) := Lib.hid (by
          intro x hx
          rw [List.take_succ_eq_append_getElem (by omega), hy] at hx
          rcases List.mem_append.mp hx with hx | hx
          · exact HJ.out x hx
          · rw [List.mem_singleton.mp hx]; exact he)
        clear hc
        go_wp2_with fail
        go_round
        case rel => exact ⟨j + 1, by go_num, by omega, NJ⟩
        case measure => simp [intOf]; omega
    · obtain rfl : j = N := by omega
      have R : Hid (r = false) := Lib.hid (by
        rw [← HR.out, decide_eq_false_iff_not, ← HL.out]
        intro x
        obtain ⟨y, hy, e⟩ := List.mem_map.mp x
        exact HJ.out y (by rw [List.take_of_length_le (by omega)]; exact hy) e)
      go_wp2_with fail
      go_ret
      exact ⟨by rw [R.out]; rfl, hb1⟩
theorem kw_words : wrds (ByteArray.mk #[66, 69, 71, 73, 78, 32, 69, 78, 68, 32, 102, 117, 110, 99, 116, 105, 111, 110, 32, 105, 102, 32, 101, 108, 115, 101, 32, 119, 104, 105, 108, 101, 32, 102, 111, 114, 32, 100, 111, 32, 105, 110, 32, 110, 101, 120, 116, 32, 101, 120, 105, 116, 32, 114, 101, 116, 117, 114, 110, 32, 98, 114, 101, 97, 107, 32, 99, 111, 110, 116, 105, 110, 117, 101, 32, 100, 101, 108, 101, 116, 101, 32, 112, 114, 105, 110, 116, 32, 112, 114, 105, 110, 116, 102, 32, 103, 101, 116, 108, 105, 110, 101]).data.toList = kwL := by rfl
theorem b1_words : wrds (ByteArray.mk #[116, 111, 108, 111, 119, 101, 114, 32, 116, 111, 117, 112, 112, 101, 114, 32, 105, 110, 116]).data.toList = [[116, 111, 108, 111, 119, 101, 114], [116, 111, 117, 112, 112, 101, 114], [105, 110, 116]] := by rfl
theorem b2_words : wrds (ByteArray.mk #[105, 110, 100, 101, 120, 32, 109, 97, 116, 99, 104]).data.toList = [[105, 110, 100, 101, 120], [109, 97, 116, 99, 104]] := by rfl
theorem b3_words : wrds (ByteArray.mk #[115, 117, 98, 115, 116, 114, 32, 115, 112, 108, 105, 116, 32, 115, 117, 98, 32, 103, 115, 117, 98]).data.toList = [[115, 117, 98, 115, 116, 114], [115, 112, 108, 105, 116], [115, 117, 98], [103, 115, 117, 98]] := by rfl
theorem rkeyword_is (a : ByteArray) (r : Bool) (hr : decide (a.data.toList ∈ kwL) = r) (w : World) : Calls Try.prog 23 #[.string a] w fun e w' => e = .returned (.bool r) ∧ Below w.heap.size w w' := by
  have HR : Hid (decide (a.data.toList ∈ wrds (ByteArray.mk #[66, 69, 71, 73, 78, 32, 69, 78, 68, 32, 102, 117, 110, 99, 116, 105, 111, 110, 32, 105, 102, 32, 101, 108, 115, 101, 32, 119, 104, 105, 108, 101, 32, 102, 111, 114, 32, 100, 111, 32, 105, 110, 32, 110, 101, 120, 116, 32, 101, 120, 105, 116, 32, 114, 101, 116, 117, 114, 110, 32, 98, 114, 101, 97, 107, 32, 99, 111, 110, 116, 105, 110, 117, 101, 32, 100, 101, 108, 101, 116, 101, 32, 112, 114, 105, 110, 116, 32, 112, 114, 105, 110, 116, 102, 32, 103, 101, 116, 108, 105, 110, 101]).data.toList) = r) := Lib.hid (by rw [kw_words]; exact hr)
  clear hr
  go_enter Try.func23, Try.ntmps23
  go_wp2_with (go_at_call 30; refine (among_any a _ _ (by decide) r HR.out).mono ?_; rintro e w1 ⟨rfl, hb1⟩)
  go_ret
  exact ⟨rfl, hb1⟩
set_option maxHeartbeats 4000000 in
theorem rbuiltin_any (a : ByteArray) (w : World) : Calls Try.prog 22 #[.string a] w fun e w' => e = .returned (.tuple #[.int .i64 (biV a.data.toList).1, .int .i64 (biV a.data.toList).2.1, .bool (biV a.data.toList).2.2]) ∧ Below w.heap.size w w' := by
  obtain ⟨R, hR⟩ : ∃ R, biV a.data.toList = R := ⟨_, rfl⟩
  rw [hR]
  by_cases m0 : a.data.toList = [108, 101, 110, 103, 116, 104]
  · have RV : Hid (R = (0, 1, true)) := Lib.hid (by rw [← hR]; unfold biV; rw [if_pos m0])
    have e0 := eqs_of m0 [108, 101, 110, 103, 116, 104] true (by decide)
    clear hR
    go_enter Try.func22, Try.ntmps22
    go_wp2_with fail
    go_ret3
    exact ⟨by rw [RV.out]; rfl, Below.refl _ _⟩
  have e0 : (a.toList == [108, 101, 110, 103, 116, 104]) = false := by rw [str_eq]; exact decide_eq_false m0
  by_cases m1 : a.data.toList ∈ [[116, 111, 108, 111, 119, 101, 114], [116, 111, 117, 112, 112, 101, 114], [105, 110, 116]]
  · have m1' := m1
    simp only [List.mem_cons, List.not_mem_nil, or_false] at m1'
    have RV : Hid (R = (1, 1, true)) := Lib.hid (by rw [← hR]; rcases m1' with x | x | x <;> rw [x] <;> rfl)
    clear m1'
    have H1 : Hid (decide (a.data.toList ∈ wrds (ByteArray.mk #[116, 111, 108, 111, 119, 101, 114, 32, 116, 111, 117, 112, 112, 101, 114, 32, 105, 110, 116]).data.toList) = true) := Lib.hid (by rw [b1_words]; exact decide_eq_true m1)
    clear hR
    go_enter Try.func22, Try.ntmps22
    go_wp2_with (first | (go_at_call 30; with_reducible refine (among_any a (ByteArray.mk #[116, 111, 108, 111, 119, 101, 114, 32, 116, 111, 117, 112, 112, 101, 114, 32, 105, 110, 116]) _ (by decide) true H1.out).mono ?_; rintro e w1 ⟨rfl, hb1⟩))
    go_ret3
    exact ⟨by rw [RV.out]; rfl, hb1⟩
  by_cases m2 : a.data.toList ∈ [[105, 110, 100, 101, 120], [109, 97, 116, 99, 104]]
  · have m2' := m2
    simp only [List.mem_cons, List.not_mem_nil, or_false] at m2'
    have RV : Hid (R = (2, 2, true)) := Lib.hid (by rw [← hR]; rcases m2' with x | x <;> rw [x] <;> rfl)
    clear m2'
    have H1 : Hid (decide (a.data.toList ∈ wrds (ByteArray.mk #[116, 111, 108, 111, 119, 101, 114, 32, 116, 111, 117, 112, 112, 101, 114, 32, 105, 110, 116]).data.toList) = false) := Lib.hid (by rw [b1_words]; exact decide_eq_false m1)
    have H2 : Hid (decide (a.data.toList ∈ wrds (ByteArray.mk #[105, 110, 100, 101, 120, 32, 109, 97, 116, 99, 104]).data.toList) = true) := Lib.hid (by rw [b2_words]; exact decide_eq_true m2)
    clear hR
    go_enter Try.func22, Try.ntmps22
    go_wp2_with (first | (go_at_call 30; with_reducible refine (among_any a (ByteArray.mk #[116, 111, 108, 111, 119, 101, 114, 32, 116, 111, 117, 112, 112, 101, 114, 32, 105, 110, 116]) _ (by decide) false H1.out).mono ?_; rintro e w1 ⟨rfl, hb1⟩) | (go_at_call 30; with_reducible refine (among_any a (ByteArray.mk #[105, 110, 100, 101, 120, 32, 109, 97, 116, 99, 104]) _ (by decide) true H2.out).mono ?_; rintro e w2 ⟨rfl, hb2⟩))
    go_ret3
    exact ⟨by rw [RV.out]; rfl, hb1.trans (hb2.mono hb1.size)⟩
  by_cases m3 : a.data.toList ∈ [[115, 117, 98, 115, 116, 114], [115, 112, 108, 105, 116], [115, 117, 98], [103, 115, 117, 98]]
  · have m3' := m3
    simp only [List.mem_cons, List.not_mem_nil, or_false] at m3'
    have RV : Hid (R = (2, 3, true)) := Lib.hid (by rw [← hR]; rcases m3' with x | x | x | x <;> rw [x] <;> rfl)
    clear m3'
    have H1 : Hid (decide (a.data.toList ∈ wrds (ByteArray.mk #[116, 111, 108, 111, 119, 101, 114, 32, 116, 111, 117, 112, 112, 101, 114, 32, 105, 110, 116]).data.toList) = false) := Lib.hid (by rw [b1_words]; exact decide_eq_false m1)
    have H2 : Hid (decide (a.data.toList ∈ wrds (ByteArray.mk #[105, 110, 100, 101, 120, 32, 109, 97, 116, 99, 104]).data.toList) = false) := Lib.hid (by rw [b2_words]; exact decide_eq_false m2)
    have H3 : Hid (decide (a.data.toList ∈ wrds (ByteArray.mk #[115, 117, 98, 115, 116, 114, 32, 115, 112, 108, 105, 116, 32, 115, 117, 98, 32, 103, 115, 117, 98]).data.toList) = true) := Lib.hid (by rw [b3_words]; exact decide_eq_true m3)
    clear hR
    go_enter Try.func22, Try.ntmps22
    go_wp2_with (first | (go_at_call 30; with_reducible refine (among_any a (ByteArray.mk #[116, 111, 108, 111, 119, 101, 114, 32, 116, 111, 117, 112, 112, 101, 114, 32, 105, 110, 116]) _ (by decide) false H1.out).mono ?_; rintro e w1 ⟨rfl, hb1⟩) | (go_at_call 30; with_reducible refine (among_any a (ByteArray.mk #[105, 110, 100, 101, 120, 32, 109, 97, 116, 99, 104]) _ (by decide) false H2.out).mono ?_; rintro e w2 ⟨rfl, hb2⟩) | (go_at_call 30; with_reducible refine (among_any a (ByteArray.mk #[115, 117, 98, 115, 116, 114, 32, 115, 112, 108, 105, 116, 32, 115, 117, 98, 32, 103, 115, 117, 98]) _ (by decide) true H3.out).mono ?_; rintro e w3 ⟨rfl, hb3⟩))
    go_ret3
    exact ⟨by rw [RV.out]; rfl, hb1.trans ((hb2.mono hb1.size).trans (hb3.mono (Nat.le_trans hb1.size hb2.size)))⟩
  by_cases m4 : a.data.toList = [115, 112, 114, 105, 110, 116, 102]
  · have RV : Hid (R = (1, 1024, true)) := Lib.hid (by rw [← hR, m4]; rfl)
    have e4 := eqs_of m4 [115, 112, 114, 105, 110, 116, 102] true (by decide)
    have H1 : Hid (decide (a.data.toList ∈ wrds (ByteArray.mk #[116, 111, 108, 111, 119, 101, 114, 32, 116, 111, 117, 112, 112, 101, 114, 32, 105, 110, 116]).data.toList) = false) := Lib.hid (by rw [b1_words]; exact decide_eq_false m1)
    have H2 : Hid (decide (a.data.toList ∈ wrds (ByteArray.mk #[105, 110, 100, 101, 120, 32, 109, 97, 116, 99, 104]).data.toList) = false) := Lib.hid (by rw [b2_words]; exact decide_eq_false m2)
    have H3 : Hid (decide (a.data.toList ∈ wrds (ByteArray.mk #[115, 117, 98, 115, 116, 114, 32, 115, 112, 108, 105, 116, 32, 115, 117, 98, 32, 103, 115, 117, 98]).data.toList) = false) := Lib.hid (by rw [b3_words]; exact decide_eq_false m3)
    clear hR
    go_enter Try.func22, Try.ntmps22
    go_wp2_with (first | (go_at_call 30; with_reducible refine (among_any a (ByteArray.mk #[116, 111, 108, 111, 119, 101, 114, 32, 116, 111, 117, 112, 112, 101, 114, 32, 105, 110, 116]) _ (by decide) false H1.out).mono ?_; rintro e w1 ⟨rfl, hb1⟩) | (go_at_call 30; with_reducible refine (among_any a (ByteArray.mk #[105, 110, 100, 101, 120, 32, 109, 97, 116, 99, 104]) _ (by decide) false H2.out).mono ?_; rintro e w2 ⟨rfl, hb2⟩) | (go_at_call 30; with_reducible refine (among_any a (ByteArray.mk #[115, 117, 98, 115, 116, 114, 32, 115, 112, 108, 105, 116, 32, 115, 117, 98, 32, 103, 115, 117, 98]) _ (by decide) false H3.out).mono ?_; rintro e w3 ⟨rfl, hb3⟩))
    go_ret3
    exact ⟨by rw [RV.out]; rfl, hb1.trans ((hb2.mono hb1.size).trans (hb3.mono (Nat.le_trans hb1.size hb2.size)))⟩
  · have RV : Hid (R = (0, 0, false)) := Lib.hid (by rw [← hR]; unfold biV; rw [if_neg m0, if_neg m3, if_neg m2, if_neg m1, if_neg m4])
    have e4 : (a.toList == [115, 112, 114, 105, 110, 116, 102]) = false := by rw [str_eq]; exact decide_eq_false m4
    have H1 : Hid (decide (a.data.toList ∈ wrds (ByteArray.mk #[116, 111, 108, 111, 119, 101, 114, 32, 116, 111, 117, 112, 112, 101, 114, 32, 105, 110, 116]).data.toList) = false) := Lib.hid (by rw [b1_words]; exact decide_eq_false m1)
    have H2 : Hid (decide (a.data.toList ∈ wrds (ByteArray.mk #[105, 110, 100, 101, 120, 32, 109, 97, 116, 99, 104]).data.toList) = false) := Lib.hid (by rw [b2_words]; exact decide_eq_false m2)
    have H3 : Hid (decide (a.data.toList ∈ wrds (ByteArray.mk #[115, 117, 98, 115, 116, 114, 32, 115, 112, 108, 105, 116, 32, 115, 117, 98, 32, 103, 115, 117, 98]).data.toList) = false) := Lib.hid (by rw [b3_words]; exact decide_eq_false m3)
    clear hR
    go_enter Try.func22, Try.ntmps22
    go_wp2_with (first | (go_at_call 30; with_reducible refine (among_any a (ByteArray.mk #[116, 111, 108, 111, 119, 101, 114, 32, 116, 111, 117, 112, 112, 101, 114, 32, 105, 110, 116]) _ (by decide) false H1.out).mono ?_; rintro e w1 ⟨rfl, hb1⟩) | (go_at_call 30; with_reducible refine (among_any a (ByteArray.mk #[105, 110, 100, 101, 120, 32, 109, 97, 116, 99, 104]) _ (by decide) false H2.out).mono ?_; rintro e w2 ⟨rfl, hb2⟩) | (go_at_call 30; with_reducible refine (among_any a (ByteArray.mk #[115, 117, 98, 115, 116, 114, 32, 115, 112, 108, 105, 116, 32, 115, 117, 98, 32, 103, 115, 117, 98]) _ (by decide) false H3.out).mono ?_; rintro e w3 ⟨rfl, hb3⟩))
    go_ret3
    exact ⟨by rw [RV.out]; rfl, hb1.trans ((hb2.mono hb1.size).trans (hb3.mono (Nat.le_trans hb1.size hb2.size)))⟩
theorem bi_is (a : ByteArray) (x y : Int) (z : Bool) (h : biV a.data.toList = (x, y, z)) (w : World) : Calls Try.prog 21 #[.string a] w fun e w' => e = .returned (.tuple #[.int .i64 x, .int .i64 y, .bool z]) ∧ w = w' := by
  have := builtin_any a w; rw [h] at this; exact this
theorem rbi_is (a : ByteArray) (x y : Int) (z : Bool) (h : biV a.data.toList = (x, y, z)) (w : World) : Calls Try.prog 22 #[.string a] w fun e w' => e = .returned (.tuple #[.int .i64 x, .int .i64 y, .bool z]) ∧ Below w.heap.size w w' := by
  have := rbuiltin_any a w; rw [h] at this; exact this
set_option maxHeartbeats 4000000 in
theorem law_knows (s : ByteArray) (w : World) : Calls Try.prog 8 #[.string s] w fun e w' => e = .returned (.bool true) ∧ Below w.heap.size w w' := by
  obtain ⟨x, y, z, h⟩ : ∃ x y z, biV s.data.toList = (x, y, z) := ⟨_, _, _, rfl⟩
  obtain ⟨r, hr⟩ : ∃ r, decide (s.data.toList ∈ kwL) = r := ⟨_, rfl⟩
  have H := Lib.hid h
  have HR := Lib.hid hr
  clear h hr
  go_enter Try.func8, Try.ntmps8
  go_wp2_with (first | (go_at_call 21; refine (bi_is s x y z H.out _).mono ?_; rintro e w1 ⟨rfl, rfl⟩) | (go_at_call 22; refine (rbi_is s x y z H.out _).mono ?_; rintro e w2 ⟨rfl, hb2⟩) | (go_at_call 16; refine (keyword_is s r HR.out _).mono ?_; rintro e w3 ⟨rfl, rfl⟩) | (go_at_call 23; refine (rkeyword_is s r HR.out _).mono ?_; rintro e w4 ⟨rfl, hb4⟩) | (go_at_call 12; refine (awake_any _).mono ?_; rintro e w5 ⟨rfl, hb5⟩))
  go_ret
  exact ⟨rfl, hb2.trans ((hb4.mono hb2.size).trans (hb5.mono (Nat.le_trans hb2.size hb4.size)))⟩
end Go.Proofs.Ytbioflajonafdaa
