/- walks: values: text, truth, the values of strings -/
import Derived.Test.YtjngkapfngempaaDoorVa
namespace Go.Proofs.YtjngkapfngempaaDoor
open Go.RowKit
open Dcm Byt Vl
theorem text_1 (n : Int) (s : ByteArray) : textB 1 n s = ⟨(fmtL (near n)).toArray⟩ := rfl
theorem text_2 (n : Int) (s : ByteArray) : textB 2 n s = s := rfl
theorem text_3 (n : Int) (s : ByteArray) : textB 3 n s = s := rfl
theorem text_0 (k n : Int) (s : ByteArray) (h1 : k ≠ 1) (h2 : k ≠ 2) (h3 : k ≠ 3) : textB k n s = ⟨#[]⟩ := by
  unfold textB; rw [if_neg h1, if_neg (by omega)]
theorem vtext_any (k n : Int) (s : ByteArray) (w : World) (ht : Tab w) :
    Calls Tryd.prog 11 #[vval k n s] w fun e w' => e = .returned (.string (textB k n s)) ∧ Below w.heap.size w w' := by
  have T := Lib.hid ht; clear ht
  by_cases h1 : k = 1
  · subst h1
    go_enter Tryd.func11, Tryd.ntmps11
    go_wp2_with (first
      | (go_at_call 28; refine (vnear_any _ _).mono ?_; rintro e w' ⟨rfl, rfl⟩)
      | (go_at_call 31; refine (format_any _ _ (by first | exact T.out | exact tab_alloc T.out | exact tab_alloc (tab_alloc T.out))).mono ?_; rintro e w1 ⟨rfl, hb⟩))
    go_ret
    exact ⟨rfl, (by first | exact hb | exact below_step hb | exact below_step (below_step hb))⟩
  · by_cases h2 : k = 2
    · subst h2
      go_enter Tryd.func11, Tryd.ntmps11
      go_wp2
      go_ret
      exact ⟨rfl, (by first | exact Below.refl _ _ | exact below_step (Below.refl _ _) | exact below_step (below_step (Below.refl _ _)))⟩
    · by_cases h3 : k = 3
      · subst h3
        go_enter Tryd.func11, Tryd.ntmps11
        go_wp2
        go_ret
        exact ⟨rfl, (by first | exact Below.refl _ _ | exact below_step (Below.refl _ _) | exact below_step (below_step (Below.refl _ _)))⟩
      · have E := Lib.hid (text_0 k n s h1 h2 h3)
        have t1 : (k == 1) = false := by rw [beq_eq_false_iff_ne]; exact h1
        have t2 : (k == 2) = false := by rw [beq_eq_false_iff_ne]; exact h2
        have t3 : (k == 3) = false := by rw [beq_eq_false_iff_ne]; exact h3
        clear h1 h2 h3
        go_enter Tryd.func11, Tryd.ntmps11
        go_wp2
        go_ret
        exact ⟨by rw [E.out]; rfl, (by first | exact Below.refl _ _ | exact below_step (Below.refl _ _) | exact below_step (below_step (Below.refl _ _)))⟩
theorem vrtext_any (k n : Int) (s : ByteArray) (w : World) :
    Calls Tryd.prog 12 #[vval k n s] w fun e w' => e = .returned (.string (textB k n s)) ∧ Below w.heap.size w w' := by
  by_cases h1 : k = 1
  · subst h1
    go_enter Tryd.func12, Tryd.ntmps12
    go_wp2_with (first
      | (go_at_call 29; refine (rvnear_any _ _).mono ?_; rintro e w' ⟨rfl, rfl⟩)
      | (go_at_call 32; refine (rformat_any _ _).mono ?_; rintro e w1 ⟨rfl, hb⟩))
    go_ret
    exact ⟨rfl, (by first | exact hb | exact below_step hb | exact below_step (below_step hb))⟩
  · by_cases h2 : k = 2
    · subst h2
      go_enter Tryd.func12, Tryd.ntmps12
      go_wp2
      go_ret
      exact ⟨rfl, (by first | exact Below.refl _ _ | exact below_step (Below.refl _ _) | exact below_step (below_step (Below.refl _ _)))⟩
    · by_cases h3 : k = 3
      · subst h3
        go_enter Tryd.func12, Tryd.ntmps12
        go_wp2
        go_ret
        exact ⟨rfl, (by first | exact Below.refl _ _ | exact below_step (Below.refl _ _) | exact below_step (below_step (Below.refl _ _)))⟩
      · have E := Lib.hid (text_0 k n s h1 h2 h3)
        have t1 : (k == 1) = false := by rw [beq_eq_false_iff_ne]; exact h1
        have t2 : (k == 2) = false := by rw [beq_eq_false_iff_ne]; exact h2
        have t3 : (k == 3) = false := by rw [beq_eq_false_iff_ne]; exact h3
        clear h1 h2 h3
        go_enter Tryd.func12, Tryd.ntmps12
        go_wp2
        go_ret
        exact ⟨by rw [E.out]; rfl, (by first | exact Below.refl _ _ | exact below_step (Below.refl _ _) | exact below_step (below_step (Below.refl _ _)))⟩
theorem vnumber_is (k n x : Int) (s : ByteArray) (w : World) (hs : s.size ≤ 9223372036854775807) (hx : numV k n s.data.toList = x) :
    Calls Tryd.prog 9 #[vval k n s] w fun e w' => e = .returned (.int .i64 x) ∧ Below w.heap.size w w' := by rw [← hx]; exact vnumber_any k n s w hs
theorem rvnumber_is (k n x : Int) (s : ByteArray) (w : World) (hs : s.size ≤ 9223372036854775807) (hx : numV k n s.data.toList = x) :
    Calls Tryd.prog 10 #[vval k n s] w fun e w' => e = .returned (.int .i64 x) ∧ Below w.heap.size w w' := by rw [← hx]; exact rvnumber_any k n s w hs
theorem truth_no (k n : Int) (s : ByteArray) (h : k ≠ 2) : truthV k n s = !(decide (numV k n s.data.toList = 0)) := by
  unfold truthV numV
  rw [if_neg h, if_neg h]
  split
  · congr 1; rw [decide_eq_decide]; exact (near_zero n).symm
  · rfl
theorem size_ne (s : ByteArray) : (s.toList == []) = decide (s.size = 0) := by
  rw [str_eq, decide_eq_decide, size_len]; exact List.length_eq_zero_iff.symm
theorem truth_any (k n : Int) (s : ByteArray) (w : World) (hs : s.size ≤ 9223372036854775807) :
    Calls Tryd.prog 13 #[vval k n s] w fun e w' => e = .returned (.bool (truthV k n s)) ∧ Below w.heap.size w w' := by
  have S := Lib.hid hs; clear hs
  by_cases h2 : k = 2
  · subst h2
    by_cases h0 : s.size = 0
    · have E : Hid (truthV 2 n s = false) := Lib.hid (by unfold truthV; rw [if_pos rfl, decide_eq_true h0]; rfl)
      have t : (s.toList == []) = true := by rw [size_ne, decide_eq_true h0]
      clear h0
      go_enter Tryd.func13, Tryd.ntmps13
      go_wp2
      go_ret
      exact ⟨by rw [E.out]; rfl, (by first | exact Below.refl _ _ | exact below_step (Below.refl _ _) | exact below_step (below_step (Below.refl _ _)))⟩
    · have E : Hid (truthV 2 n s = true) := Lib.hid (by unfold truthV; rw [if_pos rfl, decide_eq_false h0]; rfl)
      have t : (s.toList == []) = false := by rw [size_ne, decide_eq_false h0]
      clear h0
      go_enter Tryd.func13, Tryd.ntmps13
      go_wp2
      go_ret
      exact ⟨by rw [E.out]; rfl, (by first | exact Below.refl _ _ | exact below_step (Below.refl _ _) | exact below_step (below_step (Below.refl _ _)))⟩
  · have E := Lib.hid (truth_no k n s h2)
    have t2 : (k == 2) = false := by rw [beq_eq_false_iff_ne]; exact h2
    clear h2
    obtain ⟨x, hx⟩ : ∃ x, numV k n s.data.toList = x := ⟨_, rfl⟩
    have X := Lib.hid hx; clear hx
    by_cases h0 : x = 0
    · subst h0
      go_enter Tryd.func13, Tryd.ntmps13
      go_wp2_with (go_at_call 9; refine (vnumber_is _ _ 0 _ _ S.out X.out).mono ?_; rintro e w' ⟨rfl, hb⟩)
      go_ret
      exact ⟨by rw [E.out, X.out]; rfl, (by first | exact hb | exact below_step hb | exact below_step (below_step hb))⟩
    · have z : (x == 0) = false := by rw [beq_eq_false_iff_ne]; exact h0
      have z1 : (x != 0) = true := by rw [bne_iff_ne]; exact h0
      have H0 := Lib.hid h0; clear h0
      go_enter Tryd.func13, Tryd.ntmps13
      go_wp2_with (go_at_call 9; refine (vnumber_is _ _ x _ _ S.out X.out).mono ?_; rintro e w' ⟨rfl, hb⟩)
      go_ret
      exact ⟨by rw [E.out, X.out, decide_eq_false H0.out]; rfl, (by first | exact hb | exact below_step hb | exact below_step (below_step hb))⟩
theorem rtruth_any (k n : Int) (s : ByteArray) (w : World) :
    Calls Tryd.prog 14 #[vval k n s] w fun e w' => e = .returned (.bool (truthV k n s)) ∧ Below w.heap.size w w' := by
  by_cases h2 : k = 2
  · subst h2
    by_cases h0 : s.size = 0
    · have E : Hid (truthV 2 n s = false) := Lib.hid (by unfold truthV; rw [if_pos rfl, decide_eq_true h0]; rfl)
      have t : (s.toList == []) = true := by rw [size_ne, decide_eq_true h0]
      clear h0
      go_enter Tryd.func14, Tryd.ntmps14
      go_wp2
      go_ret
      exact ⟨by rw [E.out]; rfl, (by first | exact Below.refl _ _ | exact below_step (Below.refl _ _) | exact below_step (below_step (Below.refl _ _)))⟩
    · have E : Hid (truthV 2 n s = true) := Lib.hid (by unfold truthV; rw [if_pos rfl, decide_eq_false h0]; rfl)
      have t : (s.toList == []) = false := by rw [size_ne, decide_eq_false h0]
      clear h0
      go_enter Tryd.func14, Tryd.ntmps14
      go_wp2
      go_ret
      exact ⟨by rw [E.out]; rfl, (by first | exact Below.refl _ _ | exact below_step (Below.refl _ _) | exact below_step (below_step (Below.refl _ _)))⟩
  · by_cases h13 : k = 1 ∨ k = 3
    · have E : Hid (truthV k n s = !(decide (n = 0))) := Lib.hid (by unfold truthV; rw [if_neg h2, if_pos h13])
      by_cases h0 : n = 0
      · subst h0
        rcases h13 with rfl | rfl
        all_goals
          go_enter Tryd.func14, Tryd.ntmps14
          go_wp2
          go_ret
          exact ⟨by rw [E.out]; rfl, (by first | exact Below.refl _ _ | exact below_step (Below.refl _ _) | exact below_step (below_step (Below.refl _ _)))⟩
      · have z : (n == 0) = false := by rw [beq_eq_false_iff_ne]; exact h0
        have z1 : (n != 0) = true := by rw [bne_iff_ne]; exact h0
        have H0 := Lib.hid h0; clear h0
        rcases h13 with rfl | rfl
        all_goals
          go_enter Tryd.func14, Tryd.ntmps14
          go_wp2
          go_ret
          exact ⟨by rw [E.out, decide_eq_false H0.out]; rfl, (by first | exact Below.refl _ _ | exact below_step (Below.refl _ _) | exact below_step (below_step (Below.refl _ _)))⟩
    · have E : Hid (truthV k n s = false) := Lib.hid (by unfold truthV; rw [if_neg h2, if_neg h13])
      have t1 : (k == 1) = false := by rw [beq_eq_false_iff_ne]; omega
      have t2 : (k == 2) = false := by rw [beq_eq_false_iff_ne]; omega
      have t3 : (k == 3) = false := by rw [beq_eq_false_iff_ne]; omega
      clear h2 h13
      go_enter Tryd.func14, Tryd.ntmps14
      go_wp2
      go_ret
      exact ⟨by rw [E.out]; rfl, (by first | exact Below.refl _ _ | exact below_step (Below.refl _ _) | exact below_step (below_step (Below.refl _ _)))⟩
theorem fromText_any (s : ByteArray) (w : World) :
    Calls Tryd.prog 18 #[.string s] w fun e w' => e = .returned (vval 2 0 s) ∧ Below w.heap.size w w' := by
  go_enter Tryd.func18, Tryd.ntmps18
  go_wp2
  refine bodyPost_ret (v := vval 2 0 s) (by simp [results, Tryd.results18, go_sem]) rfl ⟨rfl, below_step (Below.refl _ _)⟩
theorem fromNumber_any (d : Int) (w : World) :
    Calls Tryd.prog 22 #[.int .i64 d] w fun e w' => e = .returned (vval 1 (near d) ⟨#[]⟩) ∧ Below w.heap.size w w' := by
  go_enter Tryd.func22, Tryd.ntmps22
  go_wp2_with (go_at_call 28; refine (vnear_any _ _).mono ?_; rintro e w' ⟨rfl, rfl⟩)
  refine bodyPost_ret (v := vval 1 (near d) ⟨#[]⟩) (by simp [results, Tryd.results22, go_sem]) rfl ⟨rfl, below_step (Below.refl _ _)⟩
theorem rfromText_any (s : ByteArray) (w : World) :
    Calls Tryd.prog 19 #[.string s] w fun e w' => e = .returned (vval 2 0 s) ∧ Below w.heap.size w w' := by
  go_enter Tryd.func19, Tryd.ntmps19
  go_wp2
  refine bodyPost_ret (v := vval 2 0 s) (by simp [results, Tryd.results19, go_sem]) rfl ⟨rfl, below_step (Below.refl _ _)⟩
theorem rfromNumber_any (d : Int) (w : World) :
    Calls Tryd.prog 42 #[.int .i64 d] w fun e w' => e = .returned (vval 1 (near d) ⟨#[]⟩) ∧ Below w.heap.size w w' := by
  go_enter Tryd.func42, Tryd.ntmps42
  go_wp2_with (go_at_call 29; refine (rvnear_any _ _).mono ?_; rintro e w' ⟨rfl, rfl⟩)
  refine bodyPost_ret (v := vval 1 (near d) ⟨#[]⟩) (by simp [results, Tryd.results42, go_sem]) rfl ⟨rfl, below_step (Below.refl _ _)⟩
end Go.Proofs.YtjngkapfngempaaDoor
