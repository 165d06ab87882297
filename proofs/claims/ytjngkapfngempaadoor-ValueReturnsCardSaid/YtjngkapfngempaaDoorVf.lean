/- walks: the law on the string of a number -/
import Derived.Test.YtjngkapfngempaaDoorVe
namespace Go.Proofs.YtjngkapfngempaaDoor
open Go.RowKit
open Dcm Byt Vl
/-- what ValueReturns tests -/
theorem in_back (d : Int) (l : List UInt8) (h : Back d l) (h0 : l ≠ []) : inK l = 3 ∧ inD l = d := by
  have : inB l = true := by
    unfold inB; rw [h.qn, List.drop_length]
    have : 0 < l.length := List.length_pos_iff.2 h0
    rw [decide_eq_true this]; rfl
  unfold inK inD; rw [this]; exact ⟨rfl, h.qv⟩
theorem fmt_ne (d : Int) : fmtL d ≠ [] := by
  unfold fmtL
  intro h
  rw [List.append_eq_nil_iff, List.append_eq_nil_iff] at h
  exact dec_ne _ h.1.2
theorem fmt_len (d : Int) : (fmtL d).length ≤ 9223372036854775807 := by
  have h1 := near_lo d
  have h2 := near_hi d
  have e1 := dec_size ((near d).natAbs / 10000) (by omega)
  unfold fmtL
  have e2 := (trim_keep _ (low 4 ((near d).natAbs % 10000)) rfl).2.2.1
  rw [low_length] at e2
  simp only [List.length_append]
  have e3 : (if near d < 0 then [(45 : UInt8)] else []).length ≤ 1 := by split <;> simp
  have e4 : (if (near d).natAbs % 10000 = 0 then [] else 46 :: trimZ (low 4 ((near d).natAbs % 10000))).length ≤ 5 := by
    split
    · simp
    · simp; omega
  omega
theorem fromNumber_at (d x : Int) (w : World) (h : Hid (near d = x)) : Calls Tryd.prog 22 #[.int .i64 d] w fun e w' => e = .returned (vval 1 x ⟨#[]⟩) ∧ Below w.heap.size w w' := by rw [← h.out]; exact fromNumber_any d w
theorem keepR {w1 w3 w' : World} {x : Int} {t : ByteArray} (hb : Below (w1.alloc (.cells #[.int .i64 1, .int .i64 x, .string ⟨#[]⟩] 24)).heap.size (w1.alloc (.cells #[.int .i64 1, .int .i64 x, .string ⟨#[]⟩] 24)) w3) (h : Below (w3.alloc (.cells #[.int .i64 3, .int .i64 x, .string t] 24)).heap.size (w3.alloc (.cells #[.int .i64 3, .int .i64 x, .string t] 24)) w') :
    Below (w3.alloc (.cells #[.int .i64 3, .int .i64 x, .string t] 24)).heap.size (w3.alloc (.cells #[.int .i64 3, .int .i64 x, .string t] 24)) w' ∧ w'.cell? ⟨w1.heap.size, 0, none⟩ = some (.int .i64 1) ∧ w'.cell? ⟨w1.heap.size, 1, none⟩ = some (.int .i64 x) ∧ w'.cell? ⟨w1.heap.size, 2, none⟩ = some (.string ⟨#[]⟩) ∧ w'.cell? ⟨w3.heap.size, 0, none⟩ = some (.int .i64 3) ∧ w'.cell? ⟨w3.heap.size, 1, none⟩ = some (.int .i64 x) ∧ w'.cell? ⟨w3.heap.size, 2, none⟩ = some (.string t) := by
  obtain ⟨-, -, -, a0, a1, a2⟩ := own_cells h
  obtain ⟨-, -, -, c0, c1, c2⟩ := own_cells (chain1 hb h)
  exact ⟨h, c0, c1, c2, a0, a1, a2⟩
set_option maxHeartbeats 8000000 in
theorem law_returns (d : Int) (w : World) (ht : Tab w) :
    Calls Tryd.prog 6 #[.int .i64 d] w fun e w' => e = .returned (.bool true) ∧ Below w.heap.size w w' := by
  have T := Lib.hid ht; clear ht
  obtain ⟨x, hx⟩ : ∃ x, near d = x := ⟨_, rfl⟩
  have x1 := near_lo d
  have x2 := near_hi d
  rw [hx] at x1 x2
  obtain ⟨l, B⟩ := fmt_back x x1 x2
  obtain ⟨t, htl⟩ : ∃ t : ByteArray, t.data.toList = l := ⟨⟨l.toArray⟩, rfl⟩
  have xn : near x = x := near_eq3 x x1 x2
  have TX : Hid (textB 1 x ⟨#[]⟩ = t) := Lib.hid (by show (⟨(fmtL (near x)).toArray⟩ : ByteArray) = t; rw [xn, B.fm, ← htl])
  have ne : l ≠ [] := by rw [← B.fm]; exact fmt_ne x
  have IB := in_back x l B ne
  have TS : Hid (t.size ≤ 9223372036854775807) := Lib.hid (by rw [size_len, htl, ← B.fm]; exact fmt_len x)
  rw [← htl] at IB
  have IK := Lib.hid IB.1
  have ID := Lib.hid IB.2
  have NT : Hid (numV 2 0 t.data.toList = x) := Lib.hid (by rw [htl]; exact B.qv)
  have X := Lib.hid hx
  have XB := Lib.hid (And.intro x1 x2)
  have hd : (d = x ∧ decide (-10000000000000 ≤ d) = true ∧ decide (d ≤ 10000000000000) = true) ∨ (decide (-10000000000000 ≤ d) = true ∧ decide (d ≤ 10000000000000) = false) ∨ decide (-10000000000000 ≤ d) = false := by
    by_cases h : -10000000000000 ≤ d
    · by_cases h' : d ≤ 10000000000000
      · left; exact ⟨by rw [← hx, near_eq3 d h h'], decide_eq_true h, decide_eq_true h'⟩
      · right; left; exact ⟨decide_eq_true h, decide_eq_false h'⟩
    · right; right; exact decide_eq_false h
  have l1 : decide (x < -10000000000000) = false := decide_eq_false (by omega)
  have l2 : decide (10000000000000 < x) = false := decide_eq_false (by omega)
  have hz : (x = 0) ∨ ((x == 0) = false ∧ truthV 3 x t = true ∧ truthV 1 x ⟨#[]⟩ = true) := by
    by_cases h0 : x = 0
    · exact .inl h0
    · right
      refine ⟨by rw [beq_eq_false_iff_ne]; exact h0, ?_, ?_⟩
      · show (!(decide (x = 0))) = true; rw [decide_eq_false h0]; rfl
      · show (!(decide (x = 0))) = true; rw [decide_eq_false h0]; rfl
  clear B htl ne IB hx xn x1 x2
  rcases hz with hz | ⟨z0, hz1, hz2⟩
  · subst hz
    have T1 : Hid (truthV 3 0 t = false) := Lib.hid rfl
    have T2 : Hid (truthV 1 0 ⟨#[]⟩ = false) := Lib.hid rfl
    clear l1 l2
    rcases hd with ⟨hd, hd1, hd2⟩ | ⟨hd1, hd2⟩ | hd
    · subst hd
      clear hd1 hd2
      go_enter Tryd.func6, Tryd.ntmps6
      go_wp2_with (first
        | (go_at_call 22; refine (fromNumber_at _ 0 _ X).mono ?_; rintro e w1 ⟨rfl, hb1⟩)
        | (go_at_call 11; refine (text_at 1 0 ⟨#[]⟩ t _ (tab_alloc (tab_below T.out hb1)) TX.out).mono ?_; rintro e w2 ⟨rfl, hb2⟩)
        | (go_at_call 16; refine (input_at t 3 0 _ TS.out IK.out ID.out).mono ?_; rintro e w3 ⟨rfl, hb3⟩; have B3 := hb2.trans (hb3.mono hb2.size); have S0 := keepR (t := t) B3 ((Below.refl _ _).drew); obtain ⟨-, p0, p1, p2, q0, q1, q2⟩ := keepR (t := t) B3 (Below.refl _ _)))
      go_region_held3 (fun w' => Below (w3.alloc (.cells #[.int .i64 3, .int .i64 0, .string t] 24)).heap.size (w3.alloc (.cells #[.int .i64 3, .int .i64 0, .string t] 24)) w' ∧ w'.cell? ⟨w1.heap.size, 0, none⟩ = some (.int .i64 1) ∧ w'.cell? ⟨w1.heap.size, 1, none⟩ = some (.int .i64 0) ∧ w'.cell? ⟨w1.heap.size, 2, none⟩ = some (.string ⟨#[]⟩) ∧ w'.cell? ⟨w3.heap.size, 0, none⟩ = some (.int .i64 3) ∧ w'.cell? ⟨w3.heap.size, 1, none⟩ = some (.int .i64 0) ∧ w'.cell? ⟨w3.heap.size, 2, none⟩ = some (.string t)) (first | exact S0 | exact keepR B3 B8 | exact keepR B3 B7 | exact keepR B3 B6 | exact keepR B3 B5 | exact keepR B3 B4)
        (first | (go_at_call 18; refine (fromText_any t _).mono ?_; rintro e w4 ⟨rfl, hb4⟩; have B4 := S0.1.trans (hb4.mono S0.1.size)) | (go_at_call 9; refine (vnumber_is 2 0 0 t _ TS.out NT.out).mono ?_; rintro e w5 ⟨rfl, hb5⟩; have B5 := B4.trans (hb5.mono B4.size)) | (go_at_call 13; (first | (with_reducible refine (truth_at 3 0 t false _ TS.out T1.out).mono ?_; rintro e w6 ⟨rfl, hb6⟩; have B6 := B5.trans (hb6.mono B5.size)) | (with_reducible refine (truth_at 1 0 ⟨#[]⟩ false _ vs0 T2.out).mono ?_; rintro e w7 ⟨rfl, hb7⟩; have B7 := B6.trans (hb7.mono B6.size)))) | (go_at_call 15; refine (vawake_any _ (tab_below (tab_alloc (tab_below (tab_alloc (tab_below T.out hb1)) B3)) B7)).mono ?_; rintro e w8 ⟨rfl, hb8⟩; have B8 := B7.trans (hb8.mono B7.size)))
      go_wp2_with fail
      go_ret
      exact ⟨rfl, hb1.trans ((below_step (B3.trans ((below_step B8).mono B3.size))).mono hb1.size)⟩
    · skip
      go_enter Tryd.func6, Tryd.ntmps6
      go_wp2_with (first
        | (go_at_call 22; refine (fromNumber_at _ 0 _ X).mono ?_; rintro e w1 ⟨rfl, hb1⟩)
        | (go_at_call 11; refine (text_at 1 0 ⟨#[]⟩ t _ (tab_alloc (tab_below T.out hb1)) TX.out).mono ?_; rintro e w2 ⟨rfl, hb2⟩)
        | (go_at_call 16; refine (input_at t 3 0 _ TS.out IK.out ID.out).mono ?_; rintro e w3 ⟨rfl, hb3⟩; have B3 := hb2.trans (hb3.mono hb2.size); have S0 := keepR (t := t) B3 ((Below.refl _ _).drew); obtain ⟨-, p0, p1, p2, q0, q1, q2⟩ := keepR (t := t) B3 (Below.refl _ _)))
      go_region_held3 (fun w' => Below (w3.alloc (.cells #[.int .i64 3, .int .i64 0, .string t] 24)).heap.size (w3.alloc (.cells #[.int .i64 3, .int .i64 0, .string t] 24)) w' ∧ w'.cell? ⟨w1.heap.size, 0, none⟩ = some (.int .i64 1) ∧ w'.cell? ⟨w1.heap.size, 1, none⟩ = some (.int .i64 0) ∧ w'.cell? ⟨w1.heap.size, 2, none⟩ = some (.string ⟨#[]⟩) ∧ w'.cell? ⟨w3.heap.size, 0, none⟩ = some (.int .i64 3) ∧ w'.cell? ⟨w3.heap.size, 1, none⟩ = some (.int .i64 0) ∧ w'.cell? ⟨w3.heap.size, 2, none⟩ = some (.string t)) (first | exact S0 | exact keepR B3 B8 | exact keepR B3 B7 | exact keepR B3 B6 | exact keepR B3 B5 | exact keepR B3 B4)
        (first | (go_at_call 18; refine (fromText_any t _).mono ?_; rintro e w4 ⟨rfl, hb4⟩; have B4 := S0.1.trans (hb4.mono S0.1.size)) | (go_at_call 9; refine (vnumber_is 2 0 0 t _ TS.out NT.out).mono ?_; rintro e w5 ⟨rfl, hb5⟩; have B5 := B4.trans (hb5.mono B4.size)) | (go_at_call 13; (first | (with_reducible refine (truth_at 3 0 t false _ TS.out T1.out).mono ?_; rintro e w6 ⟨rfl, hb6⟩; have B6 := B5.trans (hb6.mono B5.size)) | (with_reducible refine (truth_at 1 0 ⟨#[]⟩ false _ vs0 T2.out).mono ?_; rintro e w7 ⟨rfl, hb7⟩; have B7 := B6.trans (hb7.mono B6.size)))) | (go_at_call 15; refine (vawake_any _ (tab_below (tab_alloc (tab_below (tab_alloc (tab_below T.out hb1)) B3)) B7)).mono ?_; rintro e w8 ⟨rfl, hb8⟩; have B8 := B7.trans (hb8.mono B7.size)))
      go_wp2_with fail
      go_ret
      exact ⟨rfl, hb1.trans ((below_step (B3.trans ((below_step B8).mono B3.size))).mono hb1.size)⟩
    · skip
      go_enter Tryd.func6, Tryd.ntmps6
      go_wp2_with (first
        | (go_at_call 22; refine (fromNumber_at _ 0 _ X).mono ?_; rintro e w1 ⟨rfl, hb1⟩)
        | (go_at_call 11; refine (text_at 1 0 ⟨#[]⟩ t _ (tab_alloc (tab_below T.out hb1)) TX.out).mono ?_; rintro e w2 ⟨rfl, hb2⟩)
        | (go_at_call 16; refine (input_at t 3 0 _ TS.out IK.out ID.out).mono ?_; rintro e w3 ⟨rfl, hb3⟩; have B3 := hb2.trans (hb3.mono hb2.size); have S0 := keepR (t := t) B3 ((Below.refl _ _).drew); obtain ⟨-, p0, p1, p2, q0, q1, q2⟩ := keepR (t := t) B3 (Below.refl _ _)))
      go_region_held3 (fun w' => Below (w3.alloc (.cells #[.int .i64 3, .int .i64 0, .string t] 24)).heap.size (w3.alloc (.cells #[.int .i64 3, .int .i64 0, .string t] 24)) w' ∧ w'.cell? ⟨w1.heap.size, 0, none⟩ = some (.int .i64 1) ∧ w'.cell? ⟨w1.heap.size, 1, none⟩ = some (.int .i64 0) ∧ w'.cell? ⟨w1.heap.size, 2, none⟩ = some (.string ⟨#[]⟩) ∧ w'.cell? ⟨w3.heap.size, 0, none⟩ = some (.int .i64 3) ∧ w'.cell? ⟨w3.heap.size, 1, none⟩ = some (.int .i64 0) ∧ w'.cell? ⟨w3.heap.size, 2, none⟩ = some (.string t)) (first | exact S0 | exact keepR B3 B8 | exact keepR B3 B7 | exact keepR B3 B6 | exact keepR B3 B5 | exact keepR B3 B4)
        (first | (go_at_call 18; refine (fromText_any t _).mono ?_; rintro e w4 ⟨rfl, hb4⟩; have B4 := S0.1.trans (hb4.mono S0.1.size)) | (go_at_call 9; refine (vnumber_is 2 0 0 t _ TS.out NT.out).mono ?_; rintro e w5 ⟨rfl, hb5⟩; have B5 := B4.trans (hb5.mono B4.size)) | (go_at_call 13; (first | (with_reducible refine (truth_at 3 0 t false _ TS.out T1.out).mono ?_; rintro e w6 ⟨rfl, hb6⟩; have B6 := B5.trans (hb6.mono B5.size)) | (with_reducible refine (truth_at 1 0 ⟨#[]⟩ false _ vs0 T2.out).mono ?_; rintro e w7 ⟨rfl, hb7⟩; have B7 := B6.trans (hb7.mono B6.size)))) | (go_at_call 15; refine (vawake_any _ (tab_below (tab_alloc (tab_below (tab_alloc (tab_below T.out hb1)) B3)) B7)).mono ?_; rintro e w8 ⟨rfl, hb8⟩; have B8 := B7.trans (hb8.mono B7.size)))
      go_wp2_with fail
      go_ret
      exact ⟨rfl, hb1.trans ((below_step (B3.trans ((below_step B8).mono B3.size))).mono hb1.size)⟩
  · have T1 := Lib.hid hz1; clear hz1
    have T2 := Lib.hid hz2; clear hz2
    have z1 : (x != 0) = true := by rw [bne, z0]; rfl
    rcases hd with ⟨hd, hd1, hd2⟩ | ⟨hd1, hd2⟩ | hd
    · have hne : (x != d) = false := by rw [bne_eq_false_iff_eq]; exact hd.symm
      clear hd
      go_enter Tryd.func6, Tryd.ntmps6
      go_wp2_with (first
        | (go_at_call 22; refine (fromNumber_at _ x _ X).mono ?_; rintro e w1 ⟨rfl, hb1⟩)
        | (go_at_call 11; refine (text_at 1 x ⟨#[]⟩ t _ (tab_alloc (tab_below T.out hb1)) TX.out).mono ?_; rintro e w2 ⟨rfl, hb2⟩)
        | (go_at_call 16; refine (input_at t 3 x _ TS.out IK.out ID.out).mono ?_; rintro e w3 ⟨rfl, hb3⟩; have B3 := hb2.trans (hb3.mono hb2.size); have S0 := keepR (t := t) B3 ((Below.refl _ _).drew); obtain ⟨-, p0, p1, p2, q0, q1, q2⟩ := keepR (t := t) B3 (Below.refl _ _)))
      go_region_held3 (fun w' => Below (w3.alloc (.cells #[.int .i64 3, .int .i64 x, .string t] 24)).heap.size (w3.alloc (.cells #[.int .i64 3, .int .i64 x, .string t] 24)) w' ∧ w'.cell? ⟨w1.heap.size, 0, none⟩ = some (.int .i64 1) ∧ w'.cell? ⟨w1.heap.size, 1, none⟩ = some (.int .i64 x) ∧ w'.cell? ⟨w1.heap.size, 2, none⟩ = some (.string ⟨#[]⟩) ∧ w'.cell? ⟨w3.heap.size, 0, none⟩ = some (.int .i64 3) ∧ w'.cell? ⟨w3.heap.size, 1, none⟩ = some (.int .i64 x) ∧ w'.cell? ⟨w3.heap.size, 2, none⟩ = some (.string t)) (first | exact S0 | exact keepR B3 B8 | exact keepR B3 B7 | exact keepR B3 B6 | exact keepR B3 B5 | exact keepR B3 B4)
        (first | (go_at_call 18; refine (fromText_any t _).mono ?_; rintro e w4 ⟨rfl, hb4⟩; have B4 := S0.1.trans (hb4.mono S0.1.size)) | (go_at_call 9; refine (vnumber_is 2 0 x t _ TS.out NT.out).mono ?_; rintro e w5 ⟨rfl, hb5⟩; have B5 := B4.trans (hb5.mono B4.size)) | (go_at_call 13; (first | (with_reducible refine (truth_at 3 x t true _ TS.out T1.out).mono ?_; rintro e w6 ⟨rfl, hb6⟩; have B6 := B5.trans (hb6.mono B5.size)) | (with_reducible refine (truth_at 1 x ⟨#[]⟩ true _ vs0 T2.out).mono ?_; rintro e w7 ⟨rfl, hb7⟩; have B7 := B6.trans (hb7.mono B6.size)))) | (go_at_call 15; refine (vawake_any _ (tab_below (tab_alloc (tab_below (tab_alloc (tab_below T.out hb1)) B3)) B7)).mono ?_; rintro e w8 ⟨rfl, hb8⟩; have B8 := B7.trans (hb8.mono B7.size)))
      go_wp2_with fail
      go_ret
      exact ⟨rfl, hb1.trans ((below_step (B3.trans ((below_step B8).mono B3.size))).mono hb1.size)⟩
    · skip
      go_enter Tryd.func6, Tryd.ntmps6
      go_wp2_with (first
        | (go_at_call 22; refine (fromNumber_at _ x _ X).mono ?_; rintro e w1 ⟨rfl, hb1⟩)
        | (go_at_call 11; refine (text_at 1 x ⟨#[]⟩ t _ (tab_alloc (tab_below T.out hb1)) TX.out).mono ?_; rintro e w2 ⟨rfl, hb2⟩)
        | (go_at_call 16; refine (input_at t 3 x _ TS.out IK.out ID.out).mono ?_; rintro e w3 ⟨rfl, hb3⟩; have B3 := hb2.trans (hb3.mono hb2.size); have S0 := keepR (t := t) B3 ((Below.refl _ _).drew); obtain ⟨-, p0, p1, p2, q0, q1, q2⟩ := keepR (t := t) B3 (Below.refl _ _)))
      go_region_held3 (fun w' => Below (w3.alloc (.cells #[.int .i64 3, .int .i64 x, .string t] 24)).heap.size (w3.alloc (.cells #[.int .i64 3, .int .i64 x, .string t] 24)) w' ∧ w'.cell? ⟨w1.heap.size, 0, none⟩ = some (.int .i64 1) ∧ w'.cell? ⟨w1.heap.size, 1, none⟩ = some (.int .i64 x) ∧ w'.cell? ⟨w1.heap.size, 2, none⟩ = some (.string ⟨#[]⟩) ∧ w'.cell? ⟨w3.heap.size, 0, none⟩ = some (.int .i64 3) ∧ w'.cell? ⟨w3.heap.size, 1, none⟩ = some (.int .i64 x) ∧ w'.cell? ⟨w3.heap.size, 2, none⟩ = some (.string t)) (first | exact S0 | exact keepR B3 B8 | exact keepR B3 B7 | exact keepR B3 B6 | exact keepR B3 B5 | exact keepR B3 B4)
        (first | (go_at_call 18; refine (fromText_any t _).mono ?_; rintro e w4 ⟨rfl, hb4⟩; have B4 := S0.1.trans (hb4.mono S0.1.size)) | (go_at_call 9; refine (vnumber_is 2 0 x t _ TS.out NT.out).mono ?_; rintro e w5 ⟨rfl, hb5⟩; have B5 := B4.trans (hb5.mono B4.size)) | (go_at_call 13; (first | (with_reducible refine (truth_at 3 x t true _ TS.out T1.out).mono ?_; rintro e w6 ⟨rfl, hb6⟩; have B6 := B5.trans (hb6.mono B5.size)) | (with_reducible refine (truth_at 1 x ⟨#[]⟩ true _ vs0 T2.out).mono ?_; rintro e w7 ⟨rfl, hb7⟩; have B7 := B6.trans (hb7.mono B6.size)))) | (go_at_call 15; refine (vawake_any _ (tab_below (tab_alloc (tab_below (tab_alloc (tab_below T.out hb1)) B3)) B7)).mono ?_; rintro e w8 ⟨rfl, hb8⟩; have B8 := B7.trans (hb8.mono B7.size)))
      go_wp2_with fail
      go_ret
      exact ⟨rfl, hb1.trans ((below_step (B3.trans ((below_step B8).mono B3.size))).mono hb1.size)⟩
    · skip
      go_enter Tryd.func6, Tryd.ntmps6
      go_wp2_with (first
        | (go_at_call 22; refine (fromNumber_at _ x _ X).mono ?_; rintro e w1 ⟨rfl, hb1⟩)
        | (go_at_call 11; refine (text_at 1 x ⟨#[]⟩ t _ (tab_alloc (tab_below T.out hb1)) TX.out).mono ?_; rintro e w2 ⟨rfl, hb2⟩)
        | (go_at_call 16; refine (input_at t 3 x _ TS.out IK.out ID.out).mono ?_; rintro e w3 ⟨rfl, hb3⟩; have B3 := hb2.trans (hb3.mono hb2.size); have S0 := keepR (t := t) B3 ((Below.refl _ _).drew); obtain ⟨-, p0, p1, p2, q0, q1, q2⟩ := keepR (t := t) B3 (Below.refl _ _)))
      go_region_held3 (fun w' => Below (w3.alloc (.cells #[.int .i64 3, .int .i64 x, .string t] 24)).heap.size (w3.alloc (.cells #[.int .i64 3, .int .i64 x, .string t] 24)) w' ∧ w'.cell? ⟨w1.heap.size, 0, none⟩ = some (.int .i64 1) ∧ w'.cell? ⟨w1.heap.size, 1, none⟩ = some (.int .i64 x) ∧ w'.cell? ⟨w1.heap.size, 2, none⟩ = some (.string ⟨#[]⟩) ∧ w'.cell? ⟨w3.heap.size, 0, none⟩ = some (.int .i64 3) ∧ w'.cell? ⟨w3.heap.size, 1, none⟩ = some (.int .i64 x) ∧ w'.cell? ⟨w3.heap.size, 2, none⟩ = some (.string t)) (first | exact S0 | exact keepR B3 B8 | exact keepR B3 B7 | exact keepR B3 B6 | exact keepR B3 B5 | exact keepR B3 B4)
        (first | (go_at_call 18; refine (fromText_any t _).mono ?_; rintro e w4 ⟨rfl, hb4⟩; have B4 := S0.1.trans (hb4.mono S0.1.size)) | (go_at_call 9; refine (vnumber_is 2 0 x t _ TS.out NT.out).mono ?_; rintro e w5 ⟨rfl, hb5⟩; have B5 := B4.trans (hb5.mono B4.size)) | (go_at_call 13; (first | (with_reducible refine (truth_at 3 x t true _ TS.out T1.out).mono ?_; rintro e w6 ⟨rfl, hb6⟩; have B6 := B5.trans (hb6.mono B5.size)) | (with_reducible refine (truth_at 1 x ⟨#[]⟩ true _ vs0 T2.out).mono ?_; rintro e w7 ⟨rfl, hb7⟩; have B7 := B6.trans (hb7.mono B6.size)))) | (go_at_call 15; refine (vawake_any _ (tab_below (tab_alloc (tab_below (tab_alloc (tab_below T.out hb1)) B3)) B7)).mono ?_; rintro e w8 ⟨rfl, hb8⟩; have B8 := B7.trans (hb8.mono B7.size)))
      go_wp2_with fail
      go_ret
      exact ⟨rfl, hb1.trans ((below_step (B3.trans ((below_step B8).mono B3.size))).mono hb1.size)⟩
end Go.Proofs.YtjngkapfngempaaDoor
