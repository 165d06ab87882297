/- walks: values: operations -/
import Derived.Test.YtjngkapfngempaaDoorVc
import Derived.Test.YtjngkapfngempaaDoorVplain2
namespace Go.Proofs.YtjngkapfngempaaDoor
open Go.RowKit
open Dcm Byt Vl
theorem add_to (a b v e : Int) (w : World) (hv : Hid (addV a b = v)) (he : Hid (addE a b = e)) :
    Calls Tryd.prog 34 #[.int .i64 a, .int .i64 b] w fun x w' => x = .returned (.tuple #[.int .i64 v, .int .i64 e]) ∧ w = w' := by rw [← hv.out, ← he.out]; exact add_any a b w
theorem sub_to (a b v e : Int) (w : World) (hv : Hid (subV a b = v)) (he : Hid (subE a b = e)) :
    Calls Tryd.prog 35 #[.int .i64 a, .int .i64 b] w fun x w' => x = .returned (.tuple #[.int .i64 v, .int .i64 e]) ∧ w = w' := by rw [← hv.out, ← he.out]; exact sub_any a b w
theorem mul_to (a b v e : Int) (w : World) (hv : Hid (mulV a b = v)) (he : Hid (mulE a b = e)) :
    Calls Tryd.prog 36 #[.int .i64 a, .int .i64 b] w fun x w' => x = .returned (.tuple #[.int .i64 v, .int .i64 e]) ∧ ∃ n, w' = w.drewN n := by rw [← hv.out, ← he.out]; exact mul_any a b w
theorem div_to (a b v e : Int) (w : World) (hv : Hid (divV a b = v)) (he : Hid (divE a b = e)) :
    Calls Tryd.prog 37 #[.int .i64 a, .int .i64 b] w fun x w' => x = .returned (.tuple #[.int .i64 v, .int .i64 e]) ∧ w = w' := by rw [← hv.out, ← he.out]; exact div_any a b w
theorem mod_to (a b v e : Int) (w : World) (hv : Hid (modV a b = v)) (he : Hid (modE a b = e)) :
    Calls Tryd.prog 38 #[.int .i64 a, .int .i64 b] w fun x w' => x = .returned (.tuple #[.int .i64 v, .int .i64 e]) ∧ w = w' := by rw [← hv.out, ← he.out]; exact mod_any a b w
theorem pow_to (a b v e : Int) (w : World) (h1 : -9223372036854775808 ≤ b) (h2 : b ≤ 9223372036854775807) (hv : Hid (powV a b = v)) (he : Hid (powE a b = e)) :
    Calls Tryd.prog 39 #[.int .i64 a, .int .i64 b] w fun x w' => x = .returned (.tuple #[.int .i64 v, .int .i64 e]) ∧ ∃ n, w' = w.drewN n := by rw [← hv.out, ← he.out]; exact pow_any a b w h1 h2
theorem radd_to (a b v e : Int) (w : World) (hv : Hid (addV a b = v)) (he : Hid (addE a b = e)) :
    Calls Tryd.prog 65 #[.int .i64 a, .int .i64 b] w fun x w' => x = .returned (.tuple #[.int .i64 v, .int .i64 e]) ∧ w = w' := by rw [← hv.out, ← he.out]; exact radd_any a b w
theorem rsub_to (a b v e : Int) (w : World) (hv : Hid (subV a b = v)) (he : Hid (subE a b = e)) :
    Calls Tryd.prog 66 #[.int .i64 a, .int .i64 b] w fun x w' => x = .returned (.tuple #[.int .i64 v, .int .i64 e]) ∧ w = w' := by rw [← hv.out, ← he.out]; exact rsub_any a b w
theorem rmul_to (a b v e : Int) (w : World) (hv : Hid (mulV a b = v)) (he : Hid (mulE a b = e)) :
    Calls Tryd.prog 67 #[.int .i64 a, .int .i64 b] w fun x w' => x = .returned (.tuple #[.int .i64 v, .int .i64 e]) ∧ w = w' := by rw [← hv.out, ← he.out]; exact rmul_any a b w
theorem rdiv_to (a b v e : Int) (w : World) (hv : Hid (divV a b = v)) (he : Hid (divE a b = e)) :
    Calls Tryd.prog 68 #[.int .i64 a, .int .i64 b] w fun x w' => x = .returned (.tuple #[.int .i64 v, .int .i64 e]) ∧ w = w' := by rw [← hv.out, ← he.out]; exact rdiv_any a b w
theorem rmod_to (a b v e : Int) (w : World) (hv : Hid (modV a b = v)) (he : Hid (modE a b = e)) :
    Calls Tryd.prog 69 #[.int .i64 a, .int .i64 b] w fun x w' => x = .returned (.tuple #[.int .i64 v, .int .i64 e]) ∧ w = w' := by rw [← hv.out, ← he.out]; exact rmod_any a b w
theorem rpow_to (a b v e : Int) (w : World) (h1 : -9223372036854775808 ≤ b) (h2 : b ≤ 9223372036854775807) (hv : Hid (powV a b = v)) (he : Hid (powE a b = e)) :
    Calls Tryd.prog 70 #[.int .i64 a, .int .i64 b] w fun x w' => x = .returned (.tuple #[.int .i64 v, .int .i64 e]) ∧ w = w' := by rw [← hv.out, ← he.out]; exact rpow_any a b w h1 h2
theorem int_to (a v : Int) (w : World) (hv : Hid (toInt a = v)) : Calls Tryd.prog 40 #[.int .i64 a] w fun x w' => x = .returned (.int .i64 v) ∧ w = w' := by rw [← hv.out]; exact int_any a w
theorem rint_to (a v : Int) (w : World) (hv : Hid (toInt a = v)) : Calls Tryd.prog 71 #[.int .i64 a] w fun x w' => x = .returned (.int .i64 v) ∧ w = w' := by rw [← hv.out]; exact rint_any a w
def rsK (e : Int) : Int := if e = 0 then 1 else 0
def rsD (e d : Int) : Int := if e = 0 then near d else 0
theorem toInt_bd (y : Int) : -1000000000 ≤ toInt y ∧ toInt y ≤ 1000000000 := by
  have h1 := near_lo y
  have h2 := near_hi y
  have e : toInt y = (near y).tdiv 10000 := rfl
  have h : (toInt y).natAbs = (near y).natAbs / 10000 := by rw [e, Int.natAbs_tdiv]; rfl
  omega
set_option maxHeartbeats 4000000 in
theorem arith_any (op : ByteArray) (k1 n1 k2 n2 : Int) (s1 s2 : ByteArray) (w : World) (hs1 : s1.size ≤ 9223372036854775807) (hs2 : s2.size ≤ 9223372036854775807) :
    Calls Tryd.prog 20 #[.string op, vval k1 n1 s1, vval k2 n2 s2] w fun e w' =>
      e = .returned (.tuple #[vval (rsK (arE (opN op.data.toList) (numV k1 n1 s1.data.toList) (numV k2 n2 s2.data.toList))) (rsD (arE (opN op.data.toList) (numV k1 n1 s1.data.toList) (numV k2 n2 s2.data.toList)) (arV (opN op.data.toList) (numV k1 n1 s1.data.toList) (numV k2 n2 s2.data.toList))) ⟨#[]⟩, .int .i64 (arE (opN op.data.toList) (numV k1 n1 s1.data.toList) (numV k2 n2 s2.data.toList))]) ∧ Below w.heap.size w w' := by
  obtain ⟨x, hx⟩ : ∃ x, numV k1 n1 s1.data.toList = x := ⟨_, rfl⟩
  obtain ⟨y, hy⟩ : ∃ y, numV k2 n2 s2.data.toList = y := ⟨_, rfl⟩
  have X := Lib.hid hx
  have Y := Lib.hid hy
  have S1 := Lib.hid hs1; clear hs1
  have S2 := Lib.hid hs2; clear hs2
  rw [hx, hy]
  clear hx hy
  rcases op_cases op with ⟨ho, rfl⟩ | ⟨ho, rfl⟩ | ⟨ho, rfl⟩ | ⟨ho, rfl⟩ | ⟨ho, rfl⟩ | ⟨ho, rfl⟩ | ⟨ho, g0, g1, g2, g3, g4, g5⟩
  · rw [ho]
    clear ho
    obtain ⟨d, hd⟩ : ∃ d, addV x y = d := ⟨_, rfl⟩
    obtain ⟨e, he⟩ : ∃ e, addE x y = e := ⟨_, rfl⟩
    have DV := Lib.hid hd
    have DE := Lib.hid he
    have A1 : Hid (arV 0 x y = d) := Lib.hid hd
    have A2 : Hid (arE 0 x y = e) := Lib.hid he
    clear hd he
    by_cases h0 : e = 0
    · subst h0
      go_enter Tryd.func20, Tryd.ntmps20
      have S0 := keep3 (w := w) (k1 := k1) (n1 := n1) (k2 := k2) (n2 := n2) (s1 := s1) (s2 := s2) ((Below.refl _ _).drew)
      go_wp2_with fail
      go_region_held3 (fun w' => Below (((w.alloc (.cells #[.int .i64 k1, .int .i64 n1, .string s1] 24)).alloc (.cells #[.int .i64 k2, .int .i64 n2, .string s2] 24)).alloc (.cells #[.int .i64 0, .int .i64 0, .string ⟨#[]⟩] 24)).heap.size (((w.alloc (.cells #[.int .i64 k1, .int .i64 n1, .string s1] 24)).alloc (.cells #[.int .i64 k2, .int .i64 n2, .string s2] 24)).alloc (.cells #[.int .i64 0, .int .i64 0, .string ⟨#[]⟩] 24)) w' ∧ w'.cell? ⟨w.heap.size, 0, none⟩ = some (.int .i64 k1) ∧ w'.cell? ⟨w.heap.size, 1, none⟩ = some (.int .i64 n1) ∧ w'.cell? ⟨w.heap.size, 2, none⟩ = some (.string s1) ∧ w'.cell? ⟨w.heap.size + 1, 0, none⟩ = some (.int .i64 k2) ∧ w'.cell? ⟨w.heap.size + 1, 1, none⟩ = some (.int .i64 n2) ∧ w'.cell? ⟨w.heap.size + 1, 2, none⟩ = some (.string s2)) (first | exact S0 | assumption | exact keep3 (S0.1.trans (hb1.mono S0.1.size)) | exact keep3 (S0.1.trans ((hb1.trans (hb2.mono hb1.size)).mono S0.1.size)))
        (first | (go_at_call 9; (first | (with_reducible refine (vnumber_is k1 n1 x s1 _ S1.out X.out).mono ?_; rintro e w' ⟨rfl, hb1⟩) | (with_reducible refine (vnumber_is k2 n2 y s2 _ S2.out Y.out).mono ?_; rintro e w' ⟨rfl, hb2⟩))))
      have B2 := S0.1.trans ((hb1.trans (hb2.mono hb1.size)).mono S0.1.size)
      obtain ⟨-, -, -, -, -, -, c0, c1, c2, f0, f1, f2⟩ := par3 B2
      go_wp2_with (first | (go_at_call 34; refine (add_to x y d 0 _ DV DE).mono ?_; rintro e w' ⟨rfl, rfl⟩) | (go_at_call 22; refine (fromNumber_any _ _).mono ?_; rintro e w' ⟨rfl, hb3⟩; have B3 := B2.trans (hb3.mono B2.size); obtain ⟨-, -, -, -, -, -, d0, d1, d2, g0, g1, g2⟩ := par3 B3))
      obtain ⟨r0, r1, r2⟩ := three_set (.int .i64 1) (.int .i64 (near d)) (.string ⟨#[]⟩) d0 d1 d2
      refine bodyPost_ret (v := .tuple #[vval 1 (near d) ⟨#[]⟩, .int .i64 0]) (by simp [results, Tryd.results20, go_sem, r0, r1, r2]) rfl ⟨by rw [A1.out, A2.out]; rfl, below_sets (below_three B3) (by omega) _ _ _⟩
    · have t0 : (e == 0) = false := by rw [beq_eq_false_iff_ne]; exact h0
      have H0 := Lib.hid h0; clear h0
      go_enter Tryd.func20, Tryd.ntmps20
      have S0 := keep3 (w := w) (k1 := k1) (n1 := n1) (k2 := k2) (n2 := n2) (s1 := s1) (s2 := s2) ((Below.refl _ _).drew)
      go_wp2_with fail
      go_region_held3 (fun w' => Below (((w.alloc (.cells #[.int .i64 k1, .int .i64 n1, .string s1] 24)).alloc (.cells #[.int .i64 k2, .int .i64 n2, .string s2] 24)).alloc (.cells #[.int .i64 0, .int .i64 0, .string ⟨#[]⟩] 24)).heap.size (((w.alloc (.cells #[.int .i64 k1, .int .i64 n1, .string s1] 24)).alloc (.cells #[.int .i64 k2, .int .i64 n2, .string s2] 24)).alloc (.cells #[.int .i64 0, .int .i64 0, .string ⟨#[]⟩] 24)) w' ∧ w'.cell? ⟨w.heap.size, 0, none⟩ = some (.int .i64 k1) ∧ w'.cell? ⟨w.heap.size, 1, none⟩ = some (.int .i64 n1) ∧ w'.cell? ⟨w.heap.size, 2, none⟩ = some (.string s1) ∧ w'.cell? ⟨w.heap.size + 1, 0, none⟩ = some (.int .i64 k2) ∧ w'.cell? ⟨w.heap.size + 1, 1, none⟩ = some (.int .i64 n2) ∧ w'.cell? ⟨w.heap.size + 1, 2, none⟩ = some (.string s2)) (first | exact S0 | assumption | exact keep3 (S0.1.trans (hb1.mono S0.1.size)) | exact keep3 (S0.1.trans ((hb1.trans (hb2.mono hb1.size)).mono S0.1.size)))
        (first | (go_at_call 9; (first | (with_reducible refine (vnumber_is k1 n1 x s1 _ S1.out X.out).mono ?_; rintro e w' ⟨rfl, hb1⟩) | (with_reducible refine (vnumber_is k2 n2 y s2 _ S2.out Y.out).mono ?_; rintro e w' ⟨rfl, hb2⟩))))
      have B2 := S0.1.trans ((hb1.trans (hb2.mono hb1.size)).mono S0.1.size)
      obtain ⟨-, -, -, -, -, -, c0, c1, c2, f0, f1, f2⟩ := par3 B2
      go_wp2_with (first | (go_at_call 34; refine (add_to x y d e _ DV DE).mono ?_; rintro e w' ⟨rfl, rfl⟩))
      obtain ⟨r0, r1, r2⟩ := three_set (.int .i64 0) (.int .i64 0) (.string ⟨#[]⟩) c0 c1 c2
      refine bodyPost_ret (v := .tuple #[vval 0 0 ⟨#[]⟩, .int .i64 e]) (by simp [results, Tryd.results20, go_sem, r0, r1, r2]) rfl ⟨by rw [A1.out, A2.out]; unfold rsK rsD; rw [if_neg H0.out, if_neg H0.out], below_sets (below_three B2) (by omega) _ _ _⟩
  · rw [ho]
    clear ho
    obtain ⟨d, hd⟩ : ∃ d, subV x y = d := ⟨_, rfl⟩
    obtain ⟨e, he⟩ : ∃ e, subE x y = e := ⟨_, rfl⟩
    have DV := Lib.hid hd
    have DE := Lib.hid he
    have A1 : Hid (arV 1 x y = d) := Lib.hid hd
    have A2 : Hid (arE 1 x y = e) := Lib.hid he
    clear hd he
    by_cases h0 : e = 0
    · subst h0
      go_enter Tryd.func20, Tryd.ntmps20
      have S0 := keep3 (w := w) (k1 := k1) (n1 := n1) (k2 := k2) (n2 := n2) (s1 := s1) (s2 := s2) ((Below.refl _ _).drew)
      go_wp2_with fail
      go_region_held3 (fun w' => Below (((w.alloc (.cells #[.int .i64 k1, .int .i64 n1, .string s1] 24)).alloc (.cells #[.int .i64 k2, .int .i64 n2, .string s2] 24)).alloc (.cells #[.int .i64 0, .int .i64 0, .string ⟨#[]⟩] 24)).heap.size (((w.alloc (.cells #[.int .i64 k1, .int .i64 n1, .string s1] 24)).alloc (.cells #[.int .i64 k2, .int .i64 n2, .string s2] 24)).alloc (.cells #[.int .i64 0, .int .i64 0, .string ⟨#[]⟩] 24)) w' ∧ w'.cell? ⟨w.heap.size, 0, none⟩ = some (.int .i64 k1) ∧ w'.cell? ⟨w.heap.size, 1, none⟩ = some (.int .i64 n1) ∧ w'.cell? ⟨w.heap.size, 2, none⟩ = some (.string s1) ∧ w'.cell? ⟨w.heap.size + 1, 0, none⟩ = some (.int .i64 k2) ∧ w'.cell? ⟨w.heap.size + 1, 1, none⟩ = some (.int .i64 n2) ∧ w'.cell? ⟨w.heap.size + 1, 2, none⟩ = some (.string s2)) (first | exact S0 | assumption | exact keep3 (S0.1.trans (hb1.mono S0.1.size)) | exact keep3 (S0.1.trans ((hb1.trans (hb2.mono hb1.size)).mono S0.1.size)))
        (first | (go_at_call 9; (first | (with_reducible refine (vnumber_is k1 n1 x s1 _ S1.out X.out).mono ?_; rintro e w' ⟨rfl, hb1⟩) | (with_reducible refine (vnumber_is k2 n2 y s2 _ S2.out Y.out).mono ?_; rintro e w' ⟨rfl, hb2⟩))))
      have B2 := S0.1.trans ((hb1.trans (hb2.mono hb1.size)).mono S0.1.size)
      obtain ⟨-, -, -, -, -, -, c0, c1, c2, f0, f1, f2⟩ := par3 B2
      go_wp2_with (first | (go_at_call 35; refine (sub_to x y d 0 _ DV DE).mono ?_; rintro e w' ⟨rfl, rfl⟩) | (go_at_call 22; refine (fromNumber_any _ _).mono ?_; rintro e w' ⟨rfl, hb3⟩; have B3 := B2.trans (hb3.mono B2.size); obtain ⟨-, -, -, -, -, -, d0, d1, d2, g0, g1, g2⟩ := par3 B3))
      obtain ⟨r0, r1, r2⟩ := three_set (.int .i64 1) (.int .i64 (near d)) (.string ⟨#[]⟩) d0 d1 d2
      refine bodyPost_ret (v := .tuple #[vval 1 (near d) ⟨#[]⟩, .int .i64 0]) (by simp [results, Tryd.results20, go_sem, r0, r1, r2]) rfl ⟨by rw [A1.out, A2.out]; rfl, below_sets (below_three B3) (by omega) _ _ _⟩
    · have t0 : (e == 0) = false := by rw [beq_eq_false_iff_ne]; exact h0
      have H0 := Lib.hid h0; clear h0
      go_enter Tryd.func20, Tryd.ntmps20
      have S0 := keep3 (w := w) (k1 := k1) (n1 := n1) (k2 := k2) (n2 := n2) (s1 := s1) (s2 := s2) ((Below.refl _ _).drew)
      go_wp2_with fail
      go_region_held3 (fun w' => Below (((w.alloc (.cells #[.int .i64 k1, .int .i64 n1, .string s1] 24)).alloc (.cells #[.int .i64 k2, .int .i64 n2, .string s2] 24)).alloc (.cells #[.int .i64 0, .int .i64 0, .string ⟨#[]⟩] 24)).heap.size (((w.alloc (.cells #[.int .i64 k1, .int .i64 n1, .string s1] 24)).alloc (.cells #[.int .i64 k2, .int .i64 n2, .string s2] 24)).alloc (.cells #[.int .i64 0, .int .i64 0, .string ⟨#[]⟩] 24)) w' ∧ w'.cell? ⟨w.heap.size, 0, none⟩ = some (.int .i64 k1) ∧ w'.cell? ⟨w.heap.size, 1, none⟩ = some (.int .i64 n1) ∧ w'.cell? ⟨w.heap.size, 2, none⟩ = some (.string s1) ∧ w'.cell? ⟨w.heap.size + 1, 0, none⟩ = some (.int .i64 k2) ∧ w'.cell? ⟨w.heap.size + 1, 1, none⟩ = some (.int .i64 n2) ∧ w'.cell? ⟨w.heap.size + 1, 2, none⟩ = some (.string s2)) (first | exact S0 | assumption | exact keep3 (S0.1.trans (hb1.mono S0.1.size)) | exact keep3 (S0.1.trans ((hb1.trans (hb2.mono hb1.size)).mono S0.1.size)))
        (first | (go_at_call 9; (first | (with_reducible refine (vnumber_is k1 n1 x s1 _ S1.out X.out).mono ?_; rintro e w' ⟨rfl, hb1⟩) | (with_reducible refine (vnumber_is k2 n2 y s2 _ S2.out Y.out).mono ?_; rintro e w' ⟨rfl, hb2⟩))))
      have B2 := S0.1.trans ((hb1.trans (hb2.mono hb1.size)).mono S0.1.size)
      obtain ⟨-, -, -, -, -, -, c0, c1, c2, f0, f1, f2⟩ := par3 B2
      go_wp2_with (first | (go_at_call 35; refine (sub_to x y d e _ DV DE).mono ?_; rintro e w' ⟨rfl, rfl⟩))
      obtain ⟨r0, r1, r2⟩ := three_set (.int .i64 0) (.int .i64 0) (.string ⟨#[]⟩) c0 c1 c2
      refine bodyPost_ret (v := .tuple #[vval 0 0 ⟨#[]⟩, .int .i64 e]) (by simp [results, Tryd.results20, go_sem, r0, r1, r2]) rfl ⟨by rw [A1.out, A2.out]; unfold rsK rsD; rw [if_neg H0.out, if_neg H0.out], below_sets (below_three B2) (by omega) _ _ _⟩
  · rw [ho]
    clear ho
    obtain ⟨d, hd⟩ : ∃ d, mulV x y = d := ⟨_, rfl⟩
    obtain ⟨e, he⟩ : ∃ e, mulE x y = e := ⟨_, rfl⟩
    have DV := Lib.hid hd
    have DE := Lib.hid he
    have A1 : Hid (arV 2 x y = d) := Lib.hid hd
    have A2 : Hid (arE 2 x y = e) := Lib.hid he
    clear hd he
    by_cases h0 : e = 0
    · subst h0
      go_enter Tryd.func20, Tryd.ntmps20
      have S0 := keep3 (w := w) (k1 := k1) (n1 := n1) (k2 := k2) (n2 := n2) (s1 := s1) (s2 := s2) ((Below.refl _ _).drew)
      go_wp2_with fail
      go_region_held3 (fun w' => Below (((w.alloc (.cells #[.int .i64 k1, .int .i64 n1, .string s1] 24)).alloc (.cells #[.int .i64 k2, .int .i64 n2, .string s2] 24)).alloc (.cells #[.int .i64 0, .int .i64 0, .string ⟨#[]⟩] 24)).heap.size (((w.alloc (.cells #[.int .i64 k1, .int .i64 n1, .string s1] 24)).alloc (.cells #[.int .i64 k2, .int .i64 n2, .string s2] 24)).alloc (.cells #[.int .i64 0, .int .i64 0, .string ⟨#[]⟩] 24)) w' ∧ w'.cell? ⟨w.heap.size, 0, none⟩ = some (.int .i64 k1) ∧ w'.cell? ⟨w.heap.size, 1, none⟩ = some (.int .i64 n1) ∧ w'.cell? ⟨w.heap.size, 2, none⟩ = some (.string s1) ∧ w'.cell? ⟨w.heap.size + 1, 0, none⟩ = some (.int .i64 k2) ∧ w'.cell? ⟨w.heap.size + 1, 1, none⟩ = some (.int .i64 n2) ∧ w'.cell? ⟨w.heap.size + 1, 2, none⟩ = some (.string s2)) (first | exact S0 | assumption | exact keep3 (S0.1.trans (hb1.mono S0.1.size)) | exact keep3 (S0.1.trans ((hb1.trans (hb2.mono hb1.size)).mono S0.1.size)))
        (first | (go_at_call 9; (first | (with_reducible refine (vnumber_is k1 n1 x s1 _ S1.out X.out).mono ?_; rintro e w' ⟨rfl, hb1⟩) | (with_reducible refine (vnumber_is k2 n2 y s2 _ S2.out Y.out).mono ?_; rintro e w' ⟨rfl, hb2⟩))))
      have B2 := S0.1.trans ((hb1.trans (hb2.mono hb1.size)).mono S0.1.size)
      obtain ⟨-, -, -, -, -, -, c0, c1, c2, f0, f1, f2⟩ := par3 B2
      go_wp2_with (first | (go_at_call 36; refine (mul_to x y d 0 _ DV DE).mono ?_; rintro e w' ⟨rfl, nd, rfl⟩) | (go_at_call 22; refine (fromNumber_any _ _).mono ?_; rintro e w' ⟨rfl, hb3⟩; have B3 := (below_drewN B2 nd).trans (hb3.mono (below_drewN B2 nd).size); obtain ⟨-, -, -, -, -, -, d0, d1, d2, g0, g1, g2⟩ := par3 B3))
      obtain ⟨r0, r1, r2⟩ := three_set (.int .i64 1) (.int .i64 (near d)) (.string ⟨#[]⟩) d0 d1 d2
      refine bodyPost_ret (v := .tuple #[vval 1 (near d) ⟨#[]⟩, .int .i64 0]) (by simp [results, Tryd.results20, go_sem, r0, r1, r2]) rfl ⟨by rw [A1.out, A2.out]; rfl, below_sets (below_three B3) (by omega) _ _ _⟩
    · have t0 : (e == 0) = false := by rw [beq_eq_false_iff_ne]; exact h0
      have H0 := Lib.hid h0; clear h0
      go_enter Tryd.func20, Tryd.ntmps20
      have S0 := keep3 (w := w) (k1 := k1) (n1 := n1) (k2 := k2) (n2 := n2) (s1 := s1) (s2 := s2) ((Below.refl _ _).drew)
      go_wp2_with fail
      go_region_held3 (fun w' => Below (((w.alloc (.cells #[.int .i64 k1, .int .i64 n1, .string s1] 24)).alloc (.cells #[.int .i64 k2, .int .i64 n2, .string s2] 24)).alloc (.cells #[.int .i64 0, .int .i64 0, .string ⟨#[]⟩] 24)).heap.size (((w.alloc (.cells #[.int .i64 k1, .int .i64 n1, .string s1] 24)).alloc (.cells #[.int .i64 k2, .int .i64 n2, .string s2] 24)).alloc (.cells #[.int .i64 0, .int .i64 0, .string ⟨#[]⟩] 24)) w' ∧ w'.cell? ⟨w.heap.size, 0, none⟩ = some (.int .i64 k1) ∧ w'.cell? ⟨w.heap.size, 1, none⟩ = some (.int .i64 n1) ∧ w'.cell? ⟨w.heap.size, 2, none⟩ = some (.string s1) ∧ w'.cell? ⟨w.heap.size + 1, 0, none⟩ = some (.int .i64 k2) ∧ w'.cell? ⟨w.heap.size + 1, 1, none⟩ = some (.int .i64 n2) ∧ w'.cell? ⟨w.heap.size + 1, 2, none⟩ = some (.string s2)) (first | exact S0 | assumption | exact keep3 (S0.1.trans (hb1.mono S0.1.size)) | exact keep3 (S0.1.trans ((hb1.trans (hb2.mono hb1.size)).mono S0.1.size)))
        (first | (go_at_call 9; (first | (with_reducible refine (vnumber_is k1 n1 x s1 _ S1.out X.out).mono ?_; rintro e w' ⟨rfl, hb1⟩) | (with_reducible refine (vnumber_is k2 n2 y s2 _ S2.out Y.out).mono ?_; rintro e w' ⟨rfl, hb2⟩))))
      have B2 := S0.1.trans ((hb1.trans (hb2.mono hb1.size)).mono S0.1.size)
      obtain ⟨-, -, -, -, -, -, c0, c1, c2, f0, f1, f2⟩ := par3 B2
      go_wp2_with (first | (go_at_call 36; refine (mul_to x y d e _ DV DE).mono ?_; rintro e w' ⟨rfl, nd, rfl⟩))
      obtain ⟨-, -, -, -, -, -, c0, c1, c2, f0, f1, f2⟩ := par3 (below_drewN B2 nd)
      obtain ⟨r0, r1, r2⟩ := three_set (.int .i64 0) (.int .i64 0) (.string ⟨#[]⟩) c0 c1 c2
      refine bodyPost_ret (v := .tuple #[vval 0 0 ⟨#[]⟩, .int .i64 e]) (by simp [results, Tryd.results20, go_sem, r0, r1, r2]) rfl ⟨by rw [A1.out, A2.out]; unfold rsK rsD; rw [if_neg H0.out, if_neg H0.out], below_sets (below_three (below_drewN B2 nd)) (by omega) _ _ _⟩
  · rw [ho]
    clear ho
    obtain ⟨d, hd⟩ : ∃ d, divV x y = d := ⟨_, rfl⟩
    obtain ⟨e, he⟩ : ∃ e, divE x y = e := ⟨_, rfl⟩
    have DV := Lib.hid hd
    have DE := Lib.hid he
    have A1 : Hid (arV 3 x y = d) := Lib.hid hd
    have A2 : Hid (arE 3 x y = e) := Lib.hid he
    clear hd he
    by_cases h0 : e = 0
    · subst h0
      go_enter Tryd.func20, Tryd.ntmps20
      have S0 := keep3 (w := w) (k1 := k1) (n1 := n1) (k2 := k2) (n2 := n2) (s1 := s1) (s2 := s2) ((Below.refl _ _).drew)
      go_wp2_with fail
      go_region_held3 (fun w' => Below (((w.alloc (.cells #[.int .i64 k1, .int .i64 n1, .string s1] 24)).alloc (.cells #[.int .i64 k2, .int .i64 n2, .string s2] 24)).alloc (.cells #[.int .i64 0, .int .i64 0, .string ⟨#[]⟩] 24)).heap.size (((w.alloc (.cells #[.int .i64 k1, .int .i64 n1, .string s1] 24)).alloc (.cells #[.int .i64 k2, .int .i64 n2, .string s2] 24)).alloc (.cells #[.int .i64 0, .int .i64 0, .string ⟨#[]⟩] 24)) w' ∧ w'.cell? ⟨w.heap.size, 0, none⟩ = some (.int .i64 k1) ∧ w'.cell? ⟨w.heap.size, 1, none⟩ = some (.int .i64 n1) ∧ w'.cell? ⟨w.heap.size, 2, none⟩ = some (.string s1) ∧ w'.cell? ⟨w.heap.size + 1, 0, none⟩ = some (.int .i64 k2) ∧ w'.cell? ⟨w.heap.size + 1, 1, none⟩ = some (.int .i64 n2) ∧ w'.cell? ⟨w.heap.size + 1, 2, none⟩ = some (.string s2)) (first | exact S0 | assumption | exact keep3 (S0.1.trans (hb1.mono S0.1.size)) | exact keep3 (S0.1.trans ((hb1.trans (hb2.mono hb1.size)).mono S0.1.size)))
        (first | (go_at_call 9; (first | (with_reducible refine (vnumber_is k1 n1 x s1 _ S1.out X.out).mono ?_; rintro e w' ⟨rfl, hb1⟩) | (with_reducible refine (vnumber_is k2 n2 y s2 _ S2.out Y.out).mono ?_; rintro e w' ⟨rfl, hb2⟩))))
      have B2 := S0.1.trans ((hb1.trans (hb2.mono hb1.size)).mono S0.1.size)
      obtain ⟨-, -, -, -, -, -, c0, c1, c2, f0, f1, f2⟩ := par3 B2
      go_wp2_with (first | (go_at_call 37; refine (div_to x y d 0 _ DV DE).mono ?_; rintro e w' ⟨rfl, rfl⟩) | (go_at_call 22; refine (fromNumber_any _ _).mono ?_; rintro e w' ⟨rfl, hb3⟩; have B3 := B2.trans (hb3.mono B2.size); obtain ⟨-, -, -, -, -, -, d0, d1, d2, g0, g1, g2⟩ := par3 B3))
      obtain ⟨r0, r1, r2⟩ := three_set (.int .i64 1) (.int .i64 (near d)) (.string ⟨#[]⟩) d0 d1 d2
      refine bodyPost_ret (v := .tuple #[vval 1 (near d) ⟨#[]⟩, .int .i64 0]) (by simp [results, Tryd.results20, go_sem, r0, r1, r2]) rfl ⟨by rw [A1.out, A2.out]; rfl, below_sets (below_three B3) (by omega) _ _ _⟩
    · have t0 : (e == 0) = false := by rw [beq_eq_false_iff_ne]; exact h0
      have H0 := Lib.hid h0; clear h0
      go_enter Tryd.func20, Tryd.ntmps20
      have S0 := keep3 (w := w) (k1 := k1) (n1 := n1) (k2 := k2) (n2 := n2) (s1 := s1) (s2 := s2) ((Below.refl _ _).drew)
      go_wp2_with fail
      go_region_held3 (fun w' => Below (((w.alloc (.cells #[.int .i64 k1, .int .i64 n1, .string s1] 24)).alloc (.cells #[.int .i64 k2, .int .i64 n2, .string s2] 24)).alloc (.cells #[.int .i64 0, .int .i64 0, .string ⟨#[]⟩] 24)).heap.size (((w.alloc (.cells #[.int .i64 k1, .int .i64 n1, .string s1] 24)).alloc (.cells #[.int .i64 k2, .int .i64 n2, .string s2] 24)).alloc (.cells #[.int .i64 0, .int .i64 0, .string ⟨#[]⟩] 24)) w' ∧ w'.cell? ⟨w.heap.size, 0, none⟩ = some (.int .i64 k1) ∧ w'.cell? ⟨w.heap.size, 1, none⟩ = some (.int .i64 n1) ∧ w'.cell? ⟨w.heap.size, 2, none⟩ = some (.string s1) ∧ w'.cell? ⟨w.heap.size + 1, 0, none⟩ = some (.int .i64 k2) ∧ w'.cell? ⟨w.heap.size + 1, 1, none⟩ = some (.int .i64 n2) ∧ w'.cell? ⟨w.heap.size + 1, 2, none⟩ = some (.string s2)) (first | exact S0 | assumption | exact keep3 (S0.1.trans (hb1.mono S0.1.size)) | exact keep3 (S0.1.trans ((hb1.trans (hb2.mono hb1.size)).mono S0.1.size)))
        (first | (go_at_call 9; (first | (with_reducible refine (vnumber_is k1 n1 x s1 _ S1.out X.out).mono ?_; rintro e w' ⟨rfl, hb1⟩) | (with_reducible refine (vnumber_is k2 n2 y s2 _ S2.out Y.out).mono ?_; rintro e w' ⟨rfl, hb2⟩))))
      have B2 := S0.1.trans ((hb1.trans (hb2.mono hb1.size)).mono S0.1.size)
      obtain ⟨-, -, -, -, -, -, c0, c1, c2, f0, f1, f2⟩ := par3 B2
      go_wp2_with (first | (go_at_call 37; refine (div_to x y d e _ DV DE).mono ?_; rintro e w' ⟨rfl, rfl⟩))
      obtain ⟨r0, r1, r2⟩ := three_set (.int .i64 0) (.int .i64 0) (.string ⟨#[]⟩) c0 c1 c2
      refine bodyPost_ret (v := .tuple #[vval 0 0 ⟨#[]⟩, .int .i64 e]) (by simp [results, Tryd.results20, go_sem, r0, r1, r2]) rfl ⟨by rw [A1.out, A2.out]; unfold rsK rsD; rw [if_neg H0.out, if_neg H0.out], below_sets (below_three B2) (by omega) _ _ _⟩
  · rw [ho]
    clear ho
    obtain ⟨d, hd⟩ : ∃ d, modV x y = d := ⟨_, rfl⟩
    obtain ⟨e, he⟩ : ∃ e, modE x y = e := ⟨_, rfl⟩
    have DV := Lib.hid hd
    have DE := Lib.hid he
    have A1 : Hid (arV 4 x y = d) := Lib.hid hd
    have A2 : Hid (arE 4 x y = e) := Lib.hid he
    clear hd he
    by_cases h0 : e = 0
    · subst h0
      go_enter Tryd.func20, Tryd.ntmps20
      have S0 := keep3 (w := w) (k1 := k1) (n1 := n1) (k2 := k2) (n2 := n2) (s1 := s1) (s2 := s2) ((Below.refl _ _).drew)
      go_wp2_with fail
      go_region_held3 (fun w' => Below (((w.alloc (.cells #[.int .i64 k1, .int .i64 n1, .string s1] 24)).alloc (.cells #[.int .i64 k2, .int .i64 n2, .string s2] 24)).alloc (.cells #[.int .i64 0, .int .i64 0, .string ⟨#[]⟩] 24)).heap.size (((w.alloc (.cells #[.int .i64 k1, .int .i64 n1, .string s1] 24)).alloc (.cells #[.int .i64 k2, .int .i64 n2, .string s2] 24)).alloc (.cells #[.int .i64 0, .int .i64 0, .string ⟨#[]⟩] 24)) w' ∧ w'.cell? ⟨w.heap.size, 0, none⟩ = some (.int .i64 k1) ∧ w'.cell? ⟨w.heap.size, 1, none⟩ = some (.int .i64 n1) ∧ w'.cell? ⟨w.heap.size, 2, none⟩ = some (.string s1) ∧ w'.cell? ⟨w.heap.size + 1, 0, none⟩ = some (.int .i64 k2) ∧ w'.cell? ⟨w.heap.size + 1, 1, none⟩ = some (.int .i64 n2) ∧ w'.cell? ⟨w.heap.size + 1, 2, none⟩ = some (.string s2)) (first | exact S0 | assumption | exact keep3 (S0.1.trans (hb1.mono S0.1.size)) | exact keep3 (S0.1.trans ((hb1.trans (hb2.mono hb1.size)).mono S0.1.size)))
        (first | (go_at_call 9; (first | (with_reducible refine (vnumber_is k1 n1 x s1 _ S1.out X.out).mono ?_; rintro e w' ⟨rfl, hb1⟩) | (with_reducible refine (vnumber_is k2 n2 y s2 _ S2.out Y.out).mono ?_; rintro e w' ⟨rfl, hb2⟩))))
      have B2 := S0.1.trans ((hb1.trans (hb2.mono hb1.size)).mono S0.1.size)
      obtain ⟨-, -, -, -, -, -, c0, c1, c2, f0, f1, f2⟩ := par3 B2
      go_wp2_with (first | (go_at_call 38; refine (mod_to x y d 0 _ DV DE).mono ?_; rintro e w' ⟨rfl, rfl⟩) | (go_at_call 22; refine (fromNumber_any _ _).mono ?_; rintro e w' ⟨rfl, hb3⟩; have B3 := B2.trans (hb3.mono B2.size); obtain ⟨-, -, -, -, -, -, d0, d1, d2, g0, g1, g2⟩ := par3 B3))
      obtain ⟨r0, r1, r2⟩ := three_set (.int .i64 1) (.int .i64 (near d)) (.string ⟨#[]⟩) d0 d1 d2
      refine bodyPost_ret (v := .tuple #[vval 1 (near d) ⟨#[]⟩, .int .i64 0]) (by simp [results, Tryd.results20, go_sem, r0, r1, r2]) rfl ⟨by rw [A1.out, A2.out]; rfl, below_sets (below_three B3) (by omega) _ _ _⟩
    · have t0 : (e == 0) = false := by rw [beq_eq_false_iff_ne]; exact h0
      have H0 := Lib.hid h0; clear h0
      go_enter Tryd.func20, Tryd.ntmps20
      have S0 := keep3 (w := w) (k1 := k1) (n1 := n1) (k2 := k2) (n2 := n2) (s1 := s1) (s2 := s2) ((Below.refl _ _).drew)
      go_wp2_with fail
      go_region_held3 (fun w' => Below (((w.alloc (.cells #[.int .i64 k1, .int .i64 n1, .string s1] 24)).alloc (.cells #[.int .i64 k2, .int .i64 n2, .string s2] 24)).alloc (.cells #[.int .i64 0, .int .i64 0, .string ⟨#[]⟩] 24)).heap.size (((w.alloc (.cells #[.int .i64 k1, .int .i64 n1, .string s1] 24)).alloc (.cells #[.int .i64 k2, .int .i64 n2, .string s2] 24)).alloc (.cells #[.int .i64 0, .int .i64 0, .string ⟨#[]⟩] 24)) w' ∧ w'.cell? ⟨w.heap.size, 0, none⟩ = some (.int .i64 k1) ∧ w'.cell? ⟨w.heap.size, 1, none⟩ = some (.int .i64 n1) ∧ w'.cell? ⟨w.heap.size, 2, none⟩ = some (.string s1) ∧ w'.cell? ⟨w.heap.size + 1, 0, none⟩ = some (.int .i64 k2) ∧ w'.cell? ⟨w.heap.size + 1, 1, none⟩ = some (.int .i64 n2) ∧ w'.cell? ⟨w.heap.size + 1, 2, none⟩ = some (.string s2)) (first | exact S0 | assumption | exact keep3 (S0.1.trans (hb1.mono S0.1.size)) | exact keep3 (S0.1.trans ((hb1.trans (hb2.mono hb1.size)).mono S0.1.size)))
        (first | (go_at_call 9; (first | (with_reducible refine (vnumber_is k1 n1 x s1 _ S1.out X.out).mono ?_; rintro e w' ⟨rfl, hb1⟩) | (with_reducible refine (vnumber_is k2 n2 y s2 _ S2.out Y.out).mono ?_; rintro e w' ⟨rfl, hb2⟩))))
      have B2 := S0.1.trans ((hb1.trans (hb2.mono hb1.size)).mono S0.1.size)
      obtain ⟨-, -, -, -, -, -, c0, c1, c2, f0, f1, f2⟩ := par3 B2
      go_wp2_with (first | (go_at_call 38; refine (mod_to x y d e _ DV DE).mono ?_; rintro e w' ⟨rfl, rfl⟩))
      obtain ⟨r0, r1, r2⟩ := three_set (.int .i64 0) (.int .i64 0) (.string ⟨#[]⟩) c0 c1 c2
      refine bodyPost_ret (v := .tuple #[vval 0 0 ⟨#[]⟩, .int .i64 e]) (by simp [results, Tryd.results20, go_sem, r0, r1, r2]) rfl ⟨by rw [A1.out, A2.out]; unfold rsK rsD; rw [if_neg H0.out, if_neg H0.out], below_sets (below_three B2) (by omega) _ _ _⟩
  · rw [ho]
    clear ho
    obtain ⟨z, hz⟩ : ∃ z, toInt y = z := ⟨_, rfl⟩
    have Z := Lib.hid hz
    have ZB := Lib.hid (toInt_bd y)
    rw [hz] at ZB
    obtain ⟨d, hd⟩ : ∃ d, powV x z = d := ⟨_, rfl⟩
    obtain ⟨e, he⟩ : ∃ e, powE x z = e := ⟨_, rfl⟩
    have DV := Lib.hid hd
    have DE := Lib.hid he
    have A1 : Hid (arV 5 x y = d) := Lib.hid (by show powV x (toInt y) = d; rw [hz, hd])
    have A2 : Hid (arE 5 x y = e) := Lib.hid (by show powE x (toInt y) = e; rw [hz, he])
    clear hd he hz
    by_cases h0 : e = 0
    · subst h0
      go_enter Tryd.func20, Tryd.ntmps20
      have S0 := keep3 (w := w) (k1 := k1) (n1 := n1) (k2 := k2) (n2 := n2) (s1 := s1) (s2 := s2) ((Below.refl _ _).drew)
      go_wp2_with fail
      go_region_held3 (fun w' => Below (((w.alloc (.cells #[.int .i64 k1, .int .i64 n1, .string s1] 24)).alloc (.cells #[.int .i64 k2, .int .i64 n2, .string s2] 24)).alloc (.cells #[.int .i64 0, .int .i64 0, .string ⟨#[]⟩] 24)).heap.size (((w.alloc (.cells #[.int .i64 k1, .int .i64 n1, .string s1] 24)).alloc (.cells #[.int .i64 k2, .int .i64 n2, .string s2] 24)).alloc (.cells #[.int .i64 0, .int .i64 0, .string ⟨#[]⟩] 24)) w' ∧ w'.cell? ⟨w.heap.size, 0, none⟩ = some (.int .i64 k1) ∧ w'.cell? ⟨w.heap.size, 1, none⟩ = some (.int .i64 n1) ∧ w'.cell? ⟨w.heap.size, 2, none⟩ = some (.string s1) ∧ w'.cell? ⟨w.heap.size + 1, 0, none⟩ = some (.int .i64 k2) ∧ w'.cell? ⟨w.heap.size + 1, 1, none⟩ = some (.int .i64 n2) ∧ w'.cell? ⟨w.heap.size + 1, 2, none⟩ = some (.string s2)) (first | exact S0 | assumption | exact keep3 (S0.1.trans (hb1.mono S0.1.size)) | exact keep3 (S0.1.trans ((hb1.trans (hb2.mono hb1.size)).mono S0.1.size)))
        (first | (go_at_call 9; (first | (with_reducible refine (vnumber_is k1 n1 x s1 _ S1.out X.out).mono ?_; rintro e w' ⟨rfl, hb1⟩) | (with_reducible refine (vnumber_is k2 n2 y s2 _ S2.out Y.out).mono ?_; rintro e w' ⟨rfl, hb2⟩))))
      have B2 := S0.1.trans ((hb1.trans (hb2.mono hb1.size)).mono S0.1.size)
      obtain ⟨-, -, -, -, -, -, c0, c1, c2, f0, f1, f2⟩ := par3 B2
      go_wp2_with (first | (go_at_call 40; refine (int_to y z _ Z).mono ?_; rintro e w' ⟨rfl, rfl⟩) | (go_at_call 39; refine (pow_to x z d 0 _ (by have := ZB.out; omega) (by have := ZB.out; omega) DV DE).mono ?_; rintro e w' ⟨rfl, nd, rfl⟩) | (go_at_call 22; refine (fromNumber_any _ _).mono ?_; rintro e w' ⟨rfl, hb3⟩; have B3 := (below_drewN B2 nd).trans (hb3.mono (below_drewN B2 nd).size); obtain ⟨-, -, -, -, -, -, d0, d1, d2, g0, g1, g2⟩ := par3 B3))
      obtain ⟨r0, r1, r2⟩ := three_set (.int .i64 1) (.int .i64 (near d)) (.string ⟨#[]⟩) d0 d1 d2
      refine bodyPost_ret (v := .tuple #[vval 1 (near d) ⟨#[]⟩, .int .i64 0]) (by simp [results, Tryd.results20, go_sem, r0, r1, r2]) rfl ⟨by rw [A1.out, A2.out]; rfl, below_sets (below_three B3) (by omega) _ _ _⟩
    · have t0 : (e == 0) = false := by rw [beq_eq_false_iff_ne]; exact h0
      have H0 := Lib.hid h0; clear h0
      go_enter Tryd.func20, Tryd.ntmps20
      have S0 := keep3 (w := w) (k1 := k1) (n1 := n1) (k2 := k2) (n2 := n2) (s1 := s1) (s2 := s2) ((Below.refl _ _).drew)
      go_wp2_with fail
      go_region_held3 (fun w' => Below (((w.alloc (.cells #[.int .i64 k1, .int .i64 n1, .string s1] 24)).alloc (.cells #[.int .i64 k2, .int .i64 n2, .string s2] 24)).alloc (.cells #[.int .i64 0, .int .i64 0, .string ⟨#[]⟩] 24)).heap.size (((w.alloc (.cells #[.int .i64 k1, .int .i64 n1, .string s1] 24)).alloc (.cells #[.int .i64 k2, .int .i64 n2, .string s2] 24)).alloc (.cells #[.int .i64 0, .int .i64 0, .string ⟨#[]⟩] 24)) w' ∧ w'.cell? ⟨w.heap.size, 0, none⟩ = some (.int .i64 k1) ∧ w'.cell? ⟨w.heap.size, 1, none⟩ = some (.int .i64 n1) ∧ w'.cell? ⟨w.heap.size, 2, none⟩ = some (.string s1) ∧ w'.cell? ⟨w.heap.size + 1, 0, none⟩ = some (.int .i64 k2) ∧ w'.cell? ⟨w.heap.size + 1, 1, none⟩ = some (.int .i64 n2) ∧ w'.cell? ⟨w.heap.size + 1, 2, none⟩ = some (.string s2)) (first | exact S0 | assumption | exact keep3 (S0.1.trans (hb1.mono S0.1.size)) | exact keep3 (S0.1.trans ((hb1.trans (hb2.mono hb1.size)).mono S0.1.size)))
        (first | (go_at_call 9; (first | (with_reducible refine (vnumber_is k1 n1 x s1 _ S1.out X.out).mono ?_; rintro e w' ⟨rfl, hb1⟩) | (with_reducible refine (vnumber_is k2 n2 y s2 _ S2.out Y.out).mono ?_; rintro e w' ⟨rfl, hb2⟩))))
      have B2 := S0.1.trans ((hb1.trans (hb2.mono hb1.size)).mono S0.1.size)
      obtain ⟨-, -, -, -, -, -, c0, c1, c2, f0, f1, f2⟩ := par3 B2
      go_wp2_with (first | (go_at_call 40; refine (int_to y z _ Z).mono ?_; rintro e w' ⟨rfl, rfl⟩) | (go_at_call 39; refine (pow_to x z d e _ (by have := ZB.out; omega) (by have := ZB.out; omega) DV DE).mono ?_; rintro e w' ⟨rfl, nd, rfl⟩))
      obtain ⟨-, -, -, -, -, -, c0, c1, c2, f0, f1, f2⟩ := par3 (below_drewN B2 nd)
      obtain ⟨r0, r1, r2⟩ := three_set (.int .i64 0) (.int .i64 0) (.string ⟨#[]⟩) c0 c1 c2
      refine bodyPost_ret (v := .tuple #[vval 0 0 ⟨#[]⟩, .int .i64 e]) (by simp [results, Tryd.results20, go_sem, r0, r1, r2]) rfl ⟨by rw [A1.out, A2.out]; unfold rsK rsD; rw [if_neg H0.out, if_neg H0.out], below_sets (below_three (below_drewN B2 nd)) (by omega) _ _ _⟩
  · rw [ho]
    clear ho
    have t0 : (op.toList == [43]) = false := by rw [str_eq, decide_eq_false_iff_not]; exact g0
    have t1 : (op.toList == [45]) = false := by rw [str_eq, decide_eq_false_iff_not]; exact g1
    have t2 : (op.toList == [42]) = false := by rw [str_eq, decide_eq_false_iff_not]; exact g2
    have t3 : (op.toList == [47]) = false := by rw [str_eq, decide_eq_false_iff_not]; exact g3
    have t4 : (op.toList == [37]) = false := by rw [str_eq, decide_eq_false_iff_not]; exact g4
    have t5 : (op.toList == [94]) = false := by rw [str_eq, decide_eq_false_iff_not]; exact g5
    clear g0 g1 g2 g3 g4 g5
    go_enter Tryd.func20, Tryd.ntmps20
    have S0 := keep3 (w := w) (k1 := k1) (n1 := n1) (k2 := k2) (n2 := n2) (s1 := s1) (s2 := s2) ((Below.refl _ _).drew)
    go_wp2_with fail
    go_region_held3 (fun w' => Below (((w.alloc (.cells #[.int .i64 k1, .int .i64 n1, .string s1] 24)).alloc (.cells #[.int .i64 k2, .int .i64 n2, .string s2] 24)).alloc (.cells #[.int .i64 0, .int .i64 0, .string ⟨#[]⟩] 24)).heap.size (((w.alloc (.cells #[.int .i64 k1, .int .i64 n1, .string s1] 24)).alloc (.cells #[.int .i64 k2, .int .i64 n2, .string s2] 24)).alloc (.cells #[.int .i64 0, .int .i64 0, .string ⟨#[]⟩] 24)) w' ∧ w'.cell? ⟨w.heap.size, 0, none⟩ = some (.int .i64 k1) ∧ w'.cell? ⟨w.heap.size, 1, none⟩ = some (.int .i64 n1) ∧ w'.cell? ⟨w.heap.size, 2, none⟩ = some (.string s1) ∧ w'.cell? ⟨w.heap.size + 1, 0, none⟩ = some (.int .i64 k2) ∧ w'.cell? ⟨w.heap.size + 1, 1, none⟩ = some (.int .i64 n2) ∧ w'.cell? ⟨w.heap.size + 1, 2, none⟩ = some (.string s2)) (first | exact S0 | assumption | exact keep3 (S0.1.trans (hb1.mono S0.1.size)) | exact keep3 (S0.1.trans ((hb1.trans (hb2.mono hb1.size)).mono S0.1.size)))
      (first | (go_at_call 9; (first | (with_reducible refine (vnumber_is k1 n1 x s1 _ S1.out X.out).mono ?_; rintro e w' ⟨rfl, hb1⟩) | (with_reducible refine (vnumber_is k2 n2 y s2 _ S2.out Y.out).mono ?_; rintro e w' ⟨rfl, hb2⟩))))
    have B2 := S0.1.trans ((hb1.trans (hb2.mono hb1.size)).mono S0.1.size)
    obtain ⟨-, -, -, -, -, -, c0, c1, c2, f0, f1, f2⟩ := par3 B2
    go_wp2
    obtain ⟨r0, r1, r2⟩ := three_set (.int .i64 0) (.int .i64 0) (.string ⟨#[]⟩) c0 c1 c2
    refine bodyPost_ret (v := .tuple #[vval 0 0 ⟨#[]⟩, .int .i64 7]) (by simp [results, Tryd.results20, go_sem, r0, r1, r2]) rfl ⟨rfl, below_sets (below_three B2) (by omega) _ _ _⟩
set_option maxHeartbeats 4000000 in
theorem rcompute_any (op : ByteArray) (x y : Int) (w : World) :
    Calls Tryd.prog 41 #[.string op, .int .i64 x, .int .i64 y] w fun e w' => e = .returned (.tuple #[.int .i64 (arV (opN op.data.toList) x y), .int .i64 (arE (opN op.data.toList) x y)]) ∧ w = w' := by
  rcases op_cases op with ⟨ho, rfl⟩ | ⟨ho, rfl⟩ | ⟨ho, rfl⟩ | ⟨ho, rfl⟩ | ⟨ho, rfl⟩ | ⟨ho, rfl⟩ | ⟨ho, g0, g1, g2, g3, g4, g5⟩
  · rw [ho]
    clear ho
    obtain ⟨d, hd⟩ : ∃ d, addV x y = d := ⟨_, rfl⟩
    obtain ⟨e, he⟩ : ∃ e, addE x y = e := ⟨_, rfl⟩
    have DV := Lib.hid hd
    have DE := Lib.hid he
    have A1 : Hid (arV 0 x y = d) := Lib.hid hd
    have A2 : Hid (arE 0 x y = e) := Lib.hid he
    clear hd he
    go_enter Tryd.func41, Tryd.ntmps41
    go_wp2_with (first
      | (go_at_call 65; refine (radd_to x y d e _ DV DE).mono ?_; rintro e w' ⟨rfl, rfl⟩))
    go_ret2
    exact ⟨ret_ii A1.out.symm A2.out.symm, rfl⟩
  · rw [ho]
    clear ho
    obtain ⟨d, hd⟩ : ∃ d, subV x y = d := ⟨_, rfl⟩
    obtain ⟨e, he⟩ : ∃ e, subE x y = e := ⟨_, rfl⟩
    have DV := Lib.hid hd
    have DE := Lib.hid he
    have A1 : Hid (arV 1 x y = d) := Lib.hid hd
    have A2 : Hid (arE 1 x y = e) := Lib.hid he
    clear hd he
    go_enter Tryd.func41, Tryd.ntmps41
    go_wp2_with (first
      | (go_at_call 66; refine (rsub_to x y d e _ DV DE).mono ?_; rintro e w' ⟨rfl, rfl⟩))
    go_ret2
    exact ⟨ret_ii A1.out.symm A2.out.symm, rfl⟩
  · rw [ho]
    clear ho
    obtain ⟨d, hd⟩ : ∃ d, mulV x y = d := ⟨_, rfl⟩
    obtain ⟨e, he⟩ : ∃ e, mulE x y = e := ⟨_, rfl⟩
    have DV := Lib.hid hd
    have DE := Lib.hid he
    have A1 : Hid (arV 2 x y = d) := Lib.hid hd
    have A2 : Hid (arE 2 x y = e) := Lib.hid he
    clear hd he
    go_enter Tryd.func41, Tryd.ntmps41
    go_wp2_with (first
      | (go_at_call 67; refine (rmul_to x y d e _ DV DE).mono ?_; rintro e w' ⟨rfl, rfl⟩))
    go_ret2
    exact ⟨ret_ii A1.out.symm A2.out.symm, rfl⟩
  · rw [ho]
    clear ho
    obtain ⟨d, hd⟩ : ∃ d, divV x y = d := ⟨_, rfl⟩
    obtain ⟨e, he⟩ : ∃ e, divE x y = e := ⟨_, rfl⟩
    have DV := Lib.hid hd
    have DE := Lib.hid he
    have A1 : Hid (arV 3 x y = d) := Lib.hid hd
    have A2 : Hid (arE 3 x y = e) := Lib.hid he
    clear hd he
    go_enter Tryd.func41, Tryd.ntmps41
    go_wp2_with (first
      | (go_at_call 68; refine (rdiv_to x y d e _ DV DE).mono ?_; rintro e w' ⟨rfl, rfl⟩))
    go_ret2
    exact ⟨ret_ii A1.out.symm A2.out.symm, rfl⟩
  · rw [ho]
    clear ho
    obtain ⟨d, hd⟩ : ∃ d, modV x y = d := ⟨_, rfl⟩
    obtain ⟨e, he⟩ : ∃ e, modE x y = e := ⟨_, rfl⟩
    have DV := Lib.hid hd
    have DE := Lib.hid he
    have A1 : Hid (arV 4 x y = d) := Lib.hid hd
    have A2 : Hid (arE 4 x y = e) := Lib.hid he
    clear hd he
    go_enter Tryd.func41, Tryd.ntmps41
    go_wp2_with (first
      | (go_at_call 69; refine (rmod_to x y d e _ DV DE).mono ?_; rintro e w' ⟨rfl, rfl⟩))
    go_ret2
    exact ⟨ret_ii A1.out.symm A2.out.symm, rfl⟩
  · rw [ho]
    clear ho
    obtain ⟨z, hz⟩ : ∃ z, toInt y = z := ⟨_, rfl⟩
    have Z := Lib.hid hz
    have ZB := Lib.hid (toInt_bd y)
    rw [hz] at ZB
    obtain ⟨d, hd⟩ : ∃ d, powV x z = d := ⟨_, rfl⟩
    obtain ⟨e, he⟩ : ∃ e, powE x z = e := ⟨_, rfl⟩
    have DV := Lib.hid hd
    have DE := Lib.hid he
    have A1 : Hid (arV 5 x y = d) := Lib.hid (by show powV x (toInt y) = d; rw [hz, hd])
    have A2 : Hid (arE 5 x y = e) := Lib.hid (by show powE x (toInt y) = e; rw [hz, he])
    clear hd he hz
    go_enter Tryd.func41, Tryd.ntmps41
    go_wp2_with (first
      | (go_at_call 71; refine (rint_to y z _ Z).mono ?_; rintro e w' ⟨rfl, rfl⟩)
      | (go_at_call 70; refine (rpow_to x z d e _ (by have := ZB.out; omega) (by have := ZB.out; omega) DV DE).mono ?_; rintro e w' ⟨rfl, rfl⟩))
    go_ret2
    exact ⟨ret_ii A1.out.symm A2.out.symm, rfl⟩
  · rw [ho]
    clear ho
    have t0 : (op.toList == [43]) = false := by rw [str_eq, decide_eq_false_iff_not]; exact g0
    have t1 : (op.toList == [45]) = false := by rw [str_eq, decide_eq_false_iff_not]; exact g1
    have t2 : (op.toList == [42]) = false := by rw [str_eq, decide_eq_false_iff_not]; exact g2
    have t3 : (op.toList == [47]) = false := by rw [str_eq, decide_eq_false_iff_not]; exact g3
    have t4 : (op.toList == [37]) = false := by rw [str_eq, decide_eq_false_iff_not]; exact g4
    have t5 : (op.toList == [94]) = false := by rw [str_eq, decide_eq_false_iff_not]; exact g5
    clear g0 g1 g2 g3 g4 g5
    go_enter Tryd.func41, Tryd.ntmps41
    go_wp2
    go_ret2
    exact ⟨rfl, rfl⟩
theorem rcompute_to (op : ByteArray) (x y d e : Int) (w : World) (hd : Hid (arV (opN op.data.toList) x y = d)) (he : Hid (arE (opN op.data.toList) x y = e)) :
    Calls Tryd.prog 41 #[.string op, .int .i64 x, .int .i64 y] w fun r w' => r = .returned (.tuple #[.int .i64 d, .int .i64 e]) ∧ w = w' := by rw [← hd.out, ← he.out]; exact rcompute_any op x y w
set_option maxHeartbeats 4000000 in
theorem rarith_any (op : ByteArray) (k1 n1 k2 n2 : Int) (s1 s2 : ByteArray) (w : World) (hs1 : s1.size ≤ 9223372036854775807) (hs2 : s2.size ≤ 9223372036854775807) :
    Calls Tryd.prog 21 #[.string op, vval k1 n1 s1, vval k2 n2 s2] w fun e w' =>
      e = .returned (.tuple #[vval (rsK (arE (opN op.data.toList) (numV k1 n1 s1.data.toList) (numV k2 n2 s2.data.toList))) (rsD (arE (opN op.data.toList) (numV k1 n1 s1.data.toList) (numV k2 n2 s2.data.toList)) (arV (opN op.data.toList) (numV k1 n1 s1.data.toList) (numV k2 n2 s2.data.toList))) ⟨#[]⟩, .int .i64 (arE (opN op.data.toList) (numV k1 n1 s1.data.toList) (numV k2 n2 s2.data.toList))]) ∧ Below w.heap.size w w' := by
  obtain ⟨x, hx⟩ : ∃ x, numV k1 n1 s1.data.toList = x := ⟨_, rfl⟩
  obtain ⟨y, hy⟩ : ∃ y, numV k2 n2 s2.data.toList = y := ⟨_, rfl⟩
  have X := Lib.hid hx
  have Y := Lib.hid hy
  have S1 := Lib.hid hs1; clear hs1
  have S2 := Lib.hid hs2; clear hs2
  rw [hx, hy]
  clear hx hy
  obtain ⟨d, hd⟩ : ∃ d, arV (opN op.data.toList) x y = d := ⟨_, rfl⟩
  obtain ⟨e, he⟩ : ∃ e, arE (opN op.data.toList) x y = e := ⟨_, rfl⟩
  have DV := Lib.hid hd
  have DE := Lib.hid he
  rw [hd, he]
  clear hd he
  by_cases h0 : e = 0
  · subst h0
    go_enter Tryd.func21, Tryd.ntmps21
    have S0 := keep3 (w := w) (k1 := k1) (n1 := n1) (k2 := k2) (n2 := n2) (s1 := s1) (s2 := s2) ((Below.refl _ _).drew)
    go_wp2_with fail
    go_region_held3 (fun w' => Below (((w.alloc (.cells #[.int .i64 k1, .int .i64 n1, .string s1] 24)).alloc (.cells #[.int .i64 k2, .int .i64 n2, .string s2] 24)).alloc (.cells #[.int .i64 0, .int .i64 0, .string ⟨#[]⟩] 24)).heap.size (((w.alloc (.cells #[.int .i64 k1, .int .i64 n1, .string s1] 24)).alloc (.cells #[.int .i64 k2, .int .i64 n2, .string s2] 24)).alloc (.cells #[.int .i64 0, .int .i64 0, .string ⟨#[]⟩] 24)) w' ∧ w'.cell? ⟨w.heap.size, 0, none⟩ = some (.int .i64 k1) ∧ w'.cell? ⟨w.heap.size, 1, none⟩ = some (.int .i64 n1) ∧ w'.cell? ⟨w.heap.size, 2, none⟩ = some (.string s1) ∧ w'.cell? ⟨w.heap.size + 1, 0, none⟩ = some (.int .i64 k2) ∧ w'.cell? ⟨w.heap.size + 1, 1, none⟩ = some (.int .i64 n2) ∧ w'.cell? ⟨w.heap.size + 1, 2, none⟩ = some (.string s2)) (first | exact S0 | assumption | exact keep3 (S0.1.trans (hb1.mono S0.1.size)) | exact keep3 (S0.1.trans ((hb1.trans (hb2.mono hb1.size)).mono S0.1.size)))
      (first | (go_at_call 10; (first | (with_reducible refine (rvnumber_is k1 n1 x s1 _ S1.out X.out).mono ?_; rintro e w' ⟨rfl, hb1⟩) | (with_reducible refine (rvnumber_is k2 n2 y s2 _ S2.out Y.out).mono ?_; rintro e w' ⟨rfl, hb2⟩))) | (go_at_call 41; refine (rcompute_to op x y d 0 _ DV DE).mono ?_; rintro e w' ⟨rfl, rfl⟩))
    have B2 := S0.1.trans ((hb1.trans (hb2.mono hb1.size)).mono S0.1.size)
    obtain ⟨-, -, -, -, -, -, c0, c1, c2, f0, f1, f2⟩ := par3 B2
    go_wp2_with (first | (go_at_call 42; refine (rfromNumber_any _ _).mono ?_; rintro e w' ⟨rfl, hb3⟩; have B3 := B2.trans (hb3.mono B2.size); obtain ⟨-, -, -, -, -, -, d0, d1, d2, g0, g1, g2⟩ := par3 B3))
    obtain ⟨r0, r1, r2⟩ := three_set (.int .i64 1) (.int .i64 (near d)) (.string ⟨#[]⟩) d0 d1 d2
    refine bodyPost_ret (v := .tuple #[vval 1 (near d) ⟨#[]⟩, .int .i64 0]) (by simp [results, Tryd.results21, go_sem, r0, r1, r2]) rfl ⟨rfl, below_sets (below_three B3) (by omega) _ _ _⟩
  · have t0 : (e == 0) = false := by rw [beq_eq_false_iff_ne]; exact h0
    have H0 := Lib.hid h0; clear h0
    go_enter Tryd.func21, Tryd.ntmps21
    have S0 := keep3 (w := w) (k1 := k1) (n1 := n1) (k2 := k2) (n2 := n2) (s1 := s1) (s2 := s2) ((Below.refl _ _).drew)
    go_wp2_with fail
    go_region_held3 (fun w' => Below (((w.alloc (.cells #[.int .i64 k1, .int .i64 n1, .string s1] 24)).alloc (.cells #[.int .i64 k2, .int .i64 n2, .string s2] 24)).alloc (.cells #[.int .i64 0, .int .i64 0, .string ⟨#[]⟩] 24)).heap.size (((w.alloc (.cells #[.int .i64 k1, .int .i64 n1, .string s1] 24)).alloc (.cells #[.int .i64 k2, .int .i64 n2, .string s2] 24)).alloc (.cells #[.int .i64 0, .int .i64 0, .string ⟨#[]⟩] 24)) w' ∧ w'.cell? ⟨w.heap.size, 0, none⟩ = some (.int .i64 k1) ∧ w'.cell? ⟨w.heap.size, 1, none⟩ = some (.int .i64 n1) ∧ w'.cell? ⟨w.heap.size, 2, none⟩ = some (.string s1) ∧ w'.cell? ⟨w.heap.size + 1, 0, none⟩ = some (.int .i64 k2) ∧ w'.cell? ⟨w.heap.size + 1, 1, none⟩ = some (.int .i64 n2) ∧ w'.cell? ⟨w.heap.size + 1, 2, none⟩ = some (.string s2)) (first | exact S0 | assumption | exact keep3 (S0.1.trans (hb1.mono S0.1.size)) | exact keep3 (S0.1.trans ((hb1.trans (hb2.mono hb1.size)).mono S0.1.size)))
      (first | (go_at_call 10; (first | (with_reducible refine (rvnumber_is k1 n1 x s1 _ S1.out X.out).mono ?_; rintro e w' ⟨rfl, hb1⟩) | (with_reducible refine (rvnumber_is k2 n2 y s2 _ S2.out Y.out).mono ?_; rintro e w' ⟨rfl, hb2⟩))) | (go_at_call 41; refine (rcompute_to op x y d e _ DV DE).mono ?_; rintro e w' ⟨rfl, rfl⟩))
    have B2 := S0.1.trans ((hb1.trans (hb2.mono hb1.size)).mono S0.1.size)
    obtain ⟨-, -, -, -, -, -, c0, c1, c2, f0, f1, f2⟩ := par3 B2
    go_wp2
    obtain ⟨r0, r1, r2⟩ := three_set (.int .i64 0) (.int .i64 0) (.string ⟨#[]⟩) c0 c1 c2
    refine bodyPost_ret (v := .tuple #[vval 0 0 ⟨#[]⟩, .int .i64 e]) (by simp [results, Tryd.results21, go_sem, r0, r1, r2]) rfl ⟨by unfold rsK rsD; rw [if_neg H0.out, if_neg H0.out], below_sets (below_three B2) (by omega) _ _ _⟩
end Go.Proofs.YtjngkapfngempaaDoor
