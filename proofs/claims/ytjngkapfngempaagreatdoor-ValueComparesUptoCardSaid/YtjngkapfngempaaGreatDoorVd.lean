/- walks: values: operations -/
import Derived.Test.YtjngkapfngempaaGreatDoorVc
import Derived.Test.YtjngkapfngempaaGreatDoorVplain2
namespace Go.Proofs.YtjngkapfngempaaGreatDoor
open Go.RowKit
open Dcm Byt Vl
theorem add_to (a b v e : Int) (w : World) (hv : Hid (addV a b = v)) (he : Hid (addE a b = e)) :
    Calls Tryz.prog 37 #[.int .i64 a, .int .i64 b] w fun x w' => x = .returned (.tuple #[.int .i64 v, .int .i64 e]) ∧ w = w' := by rw [← hv.out, ← he.out]; exact add_any a b w
theorem sub_to (a b v e : Int) (w : World) (hv : Hid (subV a b = v)) (he : Hid (subE a b = e)) :
    Calls Tryz.prog 38 #[.int .i64 a, .int .i64 b] w fun x w' => x = .returned (.tuple #[.int .i64 v, .int .i64 e]) ∧ w = w' := by rw [← hv.out, ← he.out]; exact sub_any a b w
theorem mul_to (a b v e : Int) (w : World) (hv : Hid (mulV a b = v)) (he : Hid (mulE a b = e)) :
    Calls Tryz.prog 39 #[.int .i64 a, .int .i64 b] w fun x w' => x = .returned (.tuple #[.int .i64 v, .int .i64 e]) ∧ ∃ n, w' = w.drewN n := by rw [← hv.out, ← he.out]; exact mul_any a b w
theorem div_to (a b v e : Int) (w : World) (hv : Hid (divV a b = v)) (he : Hid (divE a b = e)) :
    Calls Tryz.prog 40 #[.int .i64 a, .int .i64 b] w fun x w' => x = .returned (.tuple #[.int .i64 v, .int .i64 e]) ∧ w = w' := by rw [← hv.out, ← he.out]; exact div_any a b w
theorem mod_to (a b v e : Int) (w : World) (hv : Hid (modV a b = v)) (he : Hid (modE a b = e)) :
    Calls Tryz.prog 41 #[.int .i64 a, .int .i64 b] w fun x w' => x = .returned (.tuple #[.int .i64 v, .int .i64 e]) ∧ w = w' := by rw [← hv.out, ← he.out]; exact mod_any a b w
theorem pow_to (a b v e : Int) (w : World) (h1 : -9223372036854775808 ≤ b) (h2 : b ≤ 9223372036854775807) (hv : Hid (powV a b = v)) (he : Hid (powE a b = e)) :
    Calls Tryz.prog 42 #[.int .i64 a, .int .i64 b] w fun x w' => x = .returned (.tuple #[.int .i64 v, .int .i64 e]) ∧ ∃ n, w' = w.drewN n := by rw [← hv.out, ← he.out]; exact pow_any a b w h1 h2
theorem int_to (a v : Int) (w : World) (hv : Hid (toInt a = v)) : Calls Tryz.prog 43 #[.int .i64 a] w fun x w' => x = .returned (.int .i64 v) ∧ w = w' := by rw [← hv.out]; exact int_any a w
def rsK (e : Int) : Int := if e = 0 then 1 else 0
def rsD (e d : Int) : Int := if e = 0 then near d else 0
theorem toInt_bd (y : Int) : -1000000000 ≤ toInt y ∧ toInt y ≤ 1000000000 := by
  have h1 := near_lo y
  have h2 := near_hi y
  have e : toInt y = (near y).tdiv 10000 := rfl
  have h : (toInt y).natAbs = (near y).natAbs / 10000 := by rw [e, Int.natAbs_tdiv]; rfl
  omega
set_option maxHeartbeats 4000000 in
theorem arith_any (op : ByteArray) (k1 n1 k2 n2 : Int) (s1 s2 : ByteArray) (w : World) (hs1 : s1.size ≤ 9223372036854775807) (hs2 : s2.size ≤ 9223372036854775807) :
    Calls Tryz.prog 16 #[.string op, vval k1 n1 s1, vval k2 n2 s2] w fun e w' =>
      e = .returned (.tuple #[vval (rsK (arE (opN op.data.toList) (numV k1 n1 s1.data.toList) (numV k2 n2 s2.data.toList))) (rsD (arE (opN op.data.toList) (numV k1 n1 s1.data.toList) (numV k2 n2 s2.data.toList)) (arV (opN op.data.toList) (numV k1 n1 s1.data.toList) (numV k2 n2 s2.data.toList))) ⟨#[]⟩, .int .i64 (arE (opN op.data.toList) (numV k1 n1 s1.data.toList) (numV k2 n2 s2.data.toList))]) ∧ Below w.heap.size w w' := by
  obtain ⟨x, hx⟩ : ∃ x, numV k1 n1 s1.data.toList = x := ⟨_, rfl⟩
  obtain ⟨y, hy⟩ : ∃ y, numV k2 n2 s2.data.toList = y := ⟨_, rfl⟩
  have X := Lib.hid hx
  have Y := Lib.hid hy
  have S1 := Lib.hid hs1; clear hs1
  have S2 := Lib.hid hs2; clear hs2
  rw [hx, hy]
  clear hx hy
  rcases op_cases op with ⟨ho, rfl⟩ | ⟨ho, rfl⟩ | ⟨ho, rfl⟩ | ⟨ho, rfl⟩ | ⟨ho, rfl⟩ | ⟨ho, rfl⟩ | ⟨ho, g0, g1, g2, g3, g4, g5⟩
  · rw [ho]
    clear ho
    obtain ⟨d, hd⟩ : ∃ d, addV x y = d := ⟨_, rfl⟩
    obtain ⟨e, he⟩ : ∃ e, addE x y = e := ⟨_, rfl⟩
    have DV := Lib.hid hd
    have DE := Lib.hid he
    have A1 : Hid (arV 0 x y = d) := Lib.hid hd
    have A2 : Hid (arE 0 x y = e) := Lib.hid he
    clear hd he
    by_cases h0 : e = 0
    · subst h0
      go_enter Tryz.func16, Tryz.ntmps16
      have S0 := keep3 (w := w) (k1 := k1) (n1 := n1) (k2 := k2) (n2 := n2) (s1 := s1) (s2 := s2) ((Below.refl _ _).drew)
      go_wp2_with fail
      go_region_held3 (fun w' => Below (((w.alloc (.cells #[.int .i64 k1, .int .i64 n1, .string s1] 29)).alloc (.cells #[.int .i64 k2, .int .i64 n2, .string s2] 29)).alloc (.cells #[.int .i64 0, .int .i64 0, .string ⟨#[]⟩] 29)).heap.size (((w.alloc (.cells #[.int .i64 k1, .int .i64 n1, .string s1] 29)).alloc (.cells #[.int .i64 k2, .int .i64 n2, .string s2] 29)).alloc (.cells #[.int .i64 0, .int .i64 0, .string ⟨#[]⟩] 29)) w' ∧ w'.cell? ⟨w.heap.size, 0, none⟩ = some (.int .i64 k1) ∧ w'.cell? ⟨w.heap.size, 1, none⟩ = some (.int .i64 n1) ∧ w'.cell? ⟨w.heap.size, 2, none⟩ = some (.string s1) ∧ w'.cell? ⟨w.heap.size + 1, 0, none⟩ = some (.int .i64 k2) ∧ w'.cell? ⟨w.heap.size + 1, 1, none⟩ = some (.int .i64 n2) ∧ w'.cell? ⟨w.heap.size + 1, 2, none⟩ = some (.string s2)) (first | exact S0 | assumption | exact keep3 (S0.1.trans (hb1.mono S0.1.size)) | exact keep3 (S0.1.trans ((hb1.trans (hb2.mono hb1.size)).mono S0.1.size)))
        (first | (go_at_call 9; (first | (with_reducible refine (vnumber_is k1 n1 x s1 _ S1.out X.out).mono ?_; rintro e w' ⟨rfl, hb1⟩) | (with_reducible refine (vnumber_is k2 n2 y s2 _ S2.out Y.out).mono ?_; rintro e w' ⟨rfl, hb2⟩))))
      have B2 := S0.1.trans ((hb1.trans (hb2.mono hb1.size)).mono S0.1.size)
      obtain ⟨-, -, -, -, -, -, c0, c1, c2, f0, f1, f2⟩ := par3 B2
      go_wp2_with (first | (go_at_call 37; refine (add_to x y d 0 _ DV DE).mono ?_; rintro e w' ⟨rfl, rfl⟩) | (go_at_call 18; refine (fromNumber_any _ _).mono ?_; rintro e w' ⟨rfl, hb3⟩; have B3 := B2.trans (hb3.mono B2.size); obtain ⟨-, -, -, -, -, -, d0, d1, d2, g0, g1, g2⟩ := par3 B3))
      obtain ⟨r0, r1, r2⟩ := three_set (.int .i64 1) (.int .i64 (near d)) (.string ⟨#[]⟩) d0 d1 d2
      refine bodyPost_ret (v := .tuple #[vval 1 (near d) ⟨#[]⟩, .int .i64 0]) (by simp [results, Tryz.results16, go_sem, r0, r1, r2]) rfl ⟨by rw [A1.out, A2.out]; rfl, below_sets (below_three B3) (by omega) _ _ _⟩
    · have t0 : (e == 0) = false := by rw [beq_eq_false_iff_ne]; exact h0
      have H0 := Lib.hid h0; clear h0
      go_enter Tryz.func16, Tryz.ntmps16
      have S0 := keep3 (w := w) (k1 := k1) (n1 := n1) (k2 := k2) (n2 := n2) (s1 := s1) (s2 := s2) ((Below.refl _ _).drew)
      go_wp2_with fail
      go_region_held3 (fun w' => Below (((w.alloc (.cells #[.int .i64 k1, .int .i64 n1, .string s1] 29)).alloc (.cells #[.int .i64 k2, .int .i64 n2, .string s2] 29)).alloc (.cells #[.int .i64 0, .int .i64 0, .string ⟨#[]⟩] 29)).heap.size (((w.alloc (.cells #[.int .i64 k1, .int .i64 n1, .string s1] 29)).alloc (.cells #[.int .i64 k2, .int .i64 n2, .string s2] 29)).alloc (.cells #[.int .i64 0, .int .i64 0, .string ⟨#[]⟩] 29)) w' ∧ w'.cell? ⟨w.heap.size, 0, none⟩ = some (.int .i64 k1) ∧ w'.cell? ⟨w.heap.size, 1, none⟩ = some (.int .i64 n1) ∧ w'.cell? ⟨w.heap.size, 2, none⟩ = some (.string s1) ∧ w'.cell? ⟨w.heap.size + 1, 0, none⟩ = some (.int .i64 k2) ∧ w'.cell? ⟨w.heap.size + 1, 1, none⟩ = some (.int .i64 n2) ∧ w'.cell? ⟨w.heap.size + 1, 2, none⟩ = some (.string s2)) (first | exact S0 | assumption | exact keep3 (S0.1.trans (hb1.mono S0.1.size)) | exact keep3 (S0.1.trans ((hb1.trans (hb2.mono hb1.size)).mono S0.1.size)))
        (first | (go_at_call 9; (first | (with_reducible refine (vnumber_is k1 n1 x s1 _ S1.out X.out).mono ?_; rintro e w' ⟨rfl, hb1⟩) | (with_reducible refine (vnumber_is k2 n2 y s2 _ S2.out Y.out).mono ?_; rintro e w' ⟨rfl, hb2⟩))))
      have B2 := S0.1.trans ((hb1.trans (hb2.mono hb1.size)).mono S0.1.size)
      obtain ⟨-, -, -, -, -, -, c0, c1, c2, f0, f1, f2⟩ := par3 B2
      go_wp2_with (first | (go_at_call 37; refine (add_to x y d e _ DV DE).mono ?_; rintro e w' ⟨rfl, rfl⟩))
      obtain ⟨r0, r1, r2⟩ := three_set (.int .i64 0) (.int .i64 0) (.string ⟨#[]⟩) c0 c1 c2
      refine bodyPost_ret (v := .tuple #[vval 0 0 ⟨#[]⟩, .int .i64 e]) (by simp [results, Tryz.results16, go_sem, r0, r1, r2]) rfl ⟨by rw [A1.out, A2.out]; unfold rsK rsD; rw [if_neg H0.out, if_neg H0.out], below_sets (below_three B2) (by omega) _ _ _⟩
  · rw [ho]
    clear ho
    obtain ⟨d, hd⟩ : ∃ d, subV x y = d := ⟨_, rfl⟩
    obtain ⟨e, he⟩ : ∃ e, subE x y = e := ⟨_, rfl⟩
    have DV := Lib.hid hd
    have DE := Lib.hid he
    have A1 : Hid (arV 1 x y = d) := Lib.hid hd
    have A2 : Hid (arE 1 x y = e) := Lib.hid he
    clear hd he
    by_cases h0 : e = 0
    · subst h0
      go_enter Tryz.func16, Tryz.ntmps16
      have S0 := keep3 (w := w) (k1 := k1) (n1 := n1) (k2 := k2) (n2 := n2) (s1 := s1) (s2 := s2) ((Below.refl _ _).drew)
      go_wp2_with fail
      go_region_held3 (fun w' => Below (((w.alloc (.cells #[.int .i64 k1, .int .i64 n1, .string s1] 29)).alloc (.cells #[.int .i64 k2, .int .i64 n2, .string s2] 29)).alloc (.cells #[.int .i64 0, .int .i64 0, .string ⟨#[]⟩] 29)).heap.size (((w.alloc (.cells #[.int .i64 k1, .int .i64 n1, .string s1] 29)).alloc (.cells #[.int .i64 k2, .int .i64 n2, .string s2] 29)).alloc (.cells #[.int .i64 0, .int .i64 0, .string ⟨#[]⟩] 29)) w' ∧ w'.cell? ⟨w.heap.size, 0, none⟩ = some (.int .i64 k1) ∧ w'.cell? ⟨w.heap.size, 1, none⟩ = some (.int .i64 n1) ∧ w'.cell? ⟨w.heap.size, 2, none⟩ = some (.string s1) ∧ w'.cell? ⟨w.heap.size + 1, 0, none⟩ = some (.int .i64 k2) ∧ w'.cell? ⟨w.heap.size + 1, 1, none⟩ = some (.int .i64 n2) ∧ w'.cell? ⟨w.heap.size + 1, 2, none⟩ = some (.string s2)) (first | exact S0 | assumption | exact keep3 (S0.1.trans (hb1.mono S0.1.size)) | exact keep3 (S0.1.trans ((hb1.trans (hb2.mono hb1.size)).mono S0.1.size)))
        (first | (go_at_call 9; (first | (with_reducible refine (vnumber_is k1 n1 x s1 _ S1.out X.out).mono ?_; rintro e w' ⟨rfl, hb1⟩) | (with_reducible refine (vnumber_is k2 n2 y s2 _ S2.out Y.out).mono ?_; rintro e w' ⟨rfl, hb2⟩))))
      have B2 := S0.1.trans ((hb1.trans (hb2.mono hb1.size)).mono S0.1.size)
      obtain ⟨-, -, -, -, -, -, c0, c1, c2, f0, f1, f2⟩ := par3 B2
      go_wp2_with (first | (go_at_call 38; refine (sub_to x y d 0 _ DV DE).mono ?_; rintro e w' ⟨rfl, rfl⟩) | (go_at_call 18; refine (fromNumber_any _ _).mono ?_; rintro e w' ⟨rfl, hb3⟩; have B3 := B2.trans (hb3.mono B2.size); obtain ⟨-, -, -, -, -, -, d0, d1, d2, g0, g1, g2⟩ := par3 B3))
      obtain ⟨r0, r1, r2⟩ := three_set (.int .i64 1) (.int .i64 (near d)) (.string ⟨#[]⟩) d0 d1 d2
      refine bodyPost_ret (v := .tuple #[vval 1 (near d) ⟨#[]⟩, .int .i64 0]) (by simp [results, Tryz.results16, go_sem, r0, r1, r2]) rfl ⟨by rw [A1.out, A2.out]; rfl, below_sets (below_three B3) (by omega) _ _ _⟩
    · have t0 : (e == 0) = false := by rw [beq_eq_false_iff_ne]; exact h0
      have H0 := Lib.hid h0; clear h0
      go_enter Tryz.func16, Tryz.ntmps16
      have S0 := keep3 (w := w) (k1 := k1) (n1 := n1) (k2 := k2) (n2 := n2) (s1 := s1) (s2 := s2) ((Below.refl _ _).drew)
      go_wp2_with fail
      go_region_held3 (fun w' => Below (((w.alloc (.cells #[.int .i64 k1, .int .i64 n1, .string s1] 29)).alloc (.cells #[.int .i64 k2, .int .i64 n2, .string s2] 29)).alloc (.cells #[.int .i64 0, .int .i64 0, .string ⟨#[]⟩] 29)).heap.size (((w.alloc (.cells #[.int .i64 k1, .int .i64 n1, .string s1] 29)).alloc (.cells #[.int .i64 k2, .int .i64 n2, .string s2] 29)).alloc (.cells #[.int .i64 0, .int .i64 0, .string ⟨#[]⟩] 29)) w' ∧ w'.cell? ⟨w.heap.size, 0, none⟩ = some (.int .i64 k1) ∧ w'.cell? ⟨w.heap.size, 1, none⟩ = some (.int .i64 n1) ∧ w'.cell? ⟨w.heap.size, 2, none⟩ = some (.string s1) ∧ w'.cell? ⟨w.heap.size + 1, 0, none⟩ = some (.int .i64 k2) ∧ w'.cell? ⟨w.heap.size + 1, 1, none⟩ = some (.int .i64 n2) ∧ w'.cell? ⟨w.heap.size + 1, 2, none⟩ = some (.string s2)) (first | exact S0 | assumption | exact keep3 (S0.1.trans (hb1.mono S0.1.size)) | exact keep3 (S0.1.trans ((hb1.trans (hb2.mono hb1.size)).mono S0.1.size)))
        (first | (go_at_call 9; (first | (with_reducible refine (vnumber_is k1 n1 x s1 _ S1.out X.out).mono ?_; rintro e w' ⟨rfl, hb1⟩) | (with_reducible refine (vnumber_is k2 n2 y s2 _ S2.out Y.out).mono ?_; rintro e w' ⟨rfl, hb2⟩))))
      have B2 := S0.1.trans ((hb1.trans (hb2.mono hb1.size)).mono S0.1.size)
      obtain ⟨-, -, -, -, -, -, c0, c1, c2, f0, f1, f2⟩ := par3 B2
      go_wp2_with (first | (go_at_call 38; refine (sub_to x y d e _ DV DE).mono ?_; rintro e w' ⟨rfl, rfl⟩))
      obtain ⟨r0, r1, r2⟩ := three_set (.int .i64 0) (.int .i64 0) (.string ⟨#[]⟩) c0 c1 c2
      refine bodyPost_ret (v := .tuple #[vval 0 0 ⟨#[]⟩, .int .i64 e]) (by simp [results, Tryz.results16, go_sem, r0, r1, r2]) rfl ⟨by rw [A1.out, A2.out]; unfold rsK rsD; rw [if_neg H0.out, if_neg H0.out], below_sets (below_three B2) (by omega) _ _ _⟩
  · rw [ho]
    clear ho
    obtain ⟨d, hd⟩ : ∃ d, mulV x y = d := ⟨_, rfl⟩
    obtain ⟨e, he⟩ : ∃ e, mulE x y = e := ⟨_, rfl⟩
    have DV := Lib.hid hd
    have DE := Lib.hid he
    have A1 : Hid (arV 2 x y = d) := Lib.hid hd
    have A2 : Hid (arE 2 x y = e) := Lib.hid he
    clear hd he
    by_cases h0 : e = 0
    · subst h0
      go_enter Tryz.func16, Tryz.ntmps16
      have S0 := keep3 (w := w) (k1 := k1) (n1 := n1) (k2 := k2) (n2 := n2) (s1 := s1) (s2 := s2) ((Below.refl _ _).drew)
      go_wp2_with fail
      go_region_held3 (fun w' => Below (((w.alloc (.cells #[.int .i64 k1, .int .i64 n1, .string s1] 29)).alloc (.cells #[.int .i64 k2, .int .i64 n2, .string s2] 29)).alloc (.cells #[.int .i64 0, .int .i64 0, .string ⟨#[]⟩] 29)).heap.size (((w.alloc (.cells #[.int .i64 k1, .int .i64 n1, .string s1] 29)).alloc (.cells #[.int .i64 k2, .int .i64 n2, .string s2] 29)).alloc (.cells #[.int .i64 0, .int .i64 0, .string ⟨#[]⟩] 29)) w' ∧ w'.cell? ⟨w.heap.size, 0, none⟩ = some (.int .i64 k1) ∧ w'.cell? ⟨w.heap.size, 1, none⟩ = some (.int .i64 n1) ∧ w'.cell? ⟨w.heap.size, 2, none⟩ = some (.string s1) ∧ w'.cell? ⟨w.heap.size + 1, 0, none⟩ = some (.int .i64 k2) ∧ w'.cell? ⟨w.heap.size + 1, 1, none⟩ = some (.int .i64 n2) ∧ w'.cell? ⟨w.heap.size + 1, 2, none⟩ = some (.string s2)) (first | exact S0 | assumption | exact keep3 (S0.1.trans (hb1.mono S0.1.size)) | exact keep3 (S0.1.trans ((hb1.trans (hb2.mono hb1.size)).mono S0.1.size)))
        (first | (go_at_call 9; (first | (with_reducible refine (vnumber_is k1 n1 x s1 _ S1.out X.out).mono ?_; rintro e w' ⟨rfl, hb1⟩) | (with_reducible refine (vnumber_is k2 n2 y s2 _ S2.out Y.out).mono ?_; rintro e w' ⟨rfl, hb2⟩))))
      have B2 := S0.1.trans ((hb1.trans (hb2.mono hb1.size)).mono S0.1.size)
      obtain ⟨-, -, -, -, -, -, c0, c1, c2, f0, f1, f2⟩ := par3 B2
      go_wp2_with (first | (go_at_call 39; refine (mul_to x y d 0 _ DV DE).mono ?_; rintro e w' ⟨rfl, nd, rfl⟩) | (go_at_call 18; refine (fromNumber_any _ _).mono ?_; rintro e w' ⟨rfl, hb3⟩; have B3 := (below_drewN B2 nd).trans (hb3.mono (below_drewN B2 nd).size); obtain ⟨-, -, -, -, -, -, d0, d1, d2, g0, g1, g2⟩ := par3 B3))
      obtain ⟨r0, r1, r2⟩ := three_set (.int .i64 1) (.int .i64 (near d)) (.string ⟨#[]⟩) d0 d1 d2
      refine bodyPost_ret (v := .tuple #[vval 1 (near d) ⟨#[]⟩, .int .i64 0]) (by simp [results, Tryz.results16, go_sem, r0, r1, r2]) rfl ⟨by rw [A1.out, A2.out]; rfl, below_sets (below_three B3) (by omega) _ _ _⟩
    · have t0 : (e == 0) = false := by rw [beq_eq_false_iff_ne]; exact h0
      have H0 := Lib.hid h0; clear h0
      go_enter Tryz.func16, Tryz.ntmps16
      have S0 := keep3 (w := w) (k1 := k1) (n1 := n1) (k2 := k2) (n2 := n2) (s1 := s1) (s2 := s2) ((Below.refl _ _).drew)
      go_wp2_with fail
      go_region_held3 (fun w' => Below (((w.alloc (.cells #[.int .i64 k1, .int .i64 n1, .string s1] 29)).alloc (.cells #[.int .i64 k2, .int .i64 n2, .string s2] 29)).alloc (.cells #[.int .i64 0, .int .i64 0, .string ⟨#[]⟩] 29)).heap.size (((w.alloc (.cells #[.int .i64 k1, .int .i64 n1, .string s1] 29)).alloc (.cells #[.int .i64 k2, .int .i64 n2, .string s2] 29)).alloc (.cells #[.int .i64 0, .int .i64 0, .string ⟨#[]⟩] 29)) w' ∧ w'.cell? ⟨w.heap.size, 0, none⟩ = some (.int .i64 k1) ∧ w'.cell? ⟨w.heap.size, 1, none⟩ = some (.int .i64 n1) ∧ w'.cell? ⟨w.heap.size, 2, none⟩ = some (.string s1) ∧ w'.cell? ⟨w.heap.size + 1, 0, none⟩ = some (.int .i64 k2) ∧ w'.cell? ⟨w.heap.size + 1, 1, none⟩ = some (.int .i64 n2) ∧ w'.cell? ⟨w.heap.size + 1, 2, none⟩ = some (.string s2)) (first | exact S0 | assumption | exact keep3 (S0.1.trans (hb1.mono S0.1.size)) | exact keep3 (S0.1.trans ((hb1.trans (hb2.mono hb1.size)).mono S0.1.size)))
        (first | (go_at_call 9; (first | (with_reducible refine (vnumber_is k1 n1 x s1 _ S1.out X.out).mono ?_; rintro e w' ⟨rfl, hb1⟩) | (with_reducible refine (vnumber_is k2 n2 y s2 _ S2.out Y.out).mono ?_; rintro e w' ⟨rfl, hb2⟩))))
      have B2 := S0.1.trans ((hb1.trans (hb2.mono hb1.size)).mono S0.1.size)
      obtain ⟨-, -, -, -, -, -, c0, c1, c2, f0, f1, f2⟩ := par3 B2
      go_wp2_with (first | (go_at_call 39; refine (mul_to x y d e _ DV DE).mono ?_; rintro e w' ⟨rfl, nd, rfl⟩))
      obtain ⟨-, -, -, -, -, -, c0, c1, c2, f0, f1, f2⟩ := par3 (below_drewN B2 nd)
      obtain ⟨r0, r1, r2⟩ := three_set (.int .i64 0) (.int .i64 0) (.string ⟨#[]⟩) c0 c1 c2
      refine bodyPost_ret (v := .tuple #[vval 0 0 ⟨#[]⟩, .int .i64 e]) (by simp [results, Tryz.results16, go_sem, r0, r1, r2]) rfl ⟨by rw [A1.out, A2.out]; unfold rsK rsD; rw [if_neg H0.out, if_neg H0.out], below_sets (below_three (below_drewN B2 nd)) (by omega) _ _ _⟩
  · rw [ho]
    clear ho
    obtain ⟨d, hd⟩ : ∃ d, divV x y = d := ⟨_, rfl⟩
    obtain ⟨e, he⟩ : ∃ e, divE x y = e := ⟨_, rfl⟩
    have DV := Lib.hid hd
    have DE := Lib.hid he
    have A1 : Hid (arV 3 x y = d) := Lib.hid hd
    have A2 : Hid (arE 3 x y = e) := Lib.hid he
    clear hd he
    by_cases h0 : e = 0
    · subst h0
      go_enter Tryz.func16, Tryz.ntmps16
      have S0 := keep3 (w := w) (k1 := k1) (n1 := n1) (k2 := k2) (n2 := n2) (s1 := s1) (s2 := s2) ((Below.refl _ _).drew)
      go_wp2_with fail
      go_region_held3 (fun w' => Below (((w.alloc (.cells #[.int .i64 k1, .int .i64 n1, .string s1] 29)).alloc (.cells #[.int .i64 k2, .int .i64 n2, .string s2] 29)).alloc (.cells #[.int .i64 0, .int .i64 0, .string ⟨#[]⟩] 29)).heap.size (((w.alloc (.cells #[.int .i64 k1, .int .i64 n1, .string s1] 29)).alloc (.cells #[.int .i64 k2, .int .i64 n2, .string s2] 29)).alloc (.cells #[.int .i64 0, .int .i64 0, .string ⟨#[]⟩] 29)) w' ∧ w'.cell? ⟨w.heap.size, 0, none⟩ = some (.int .i64 k1) ∧ w'.cell? ⟨w.heap.size, 1, none⟩ = some (.int .i64 n1) ∧ w'.cell? ⟨w.heap.size, 2, none⟩ = some (.string s1) ∧ w'.cell? ⟨w.heap.size + 1, 0, none⟩ = some (.int .i64 k2) ∧ w'.cell? ⟨w.heap.size + 1, 1, none⟩ = some (.int .i64 n2) ∧ w'.cell? ⟨w.heap.size + 1, 2, none⟩ = some (.string s2)) (first | exact S0 | assumption | exact keep3 (S0.1.trans (hb1.mono S0.1.size)) | exact keep3 (S0.1.trans ((hb1.trans (hb2.mono hb1.size)).mono S0.1.size)))
        (first | (go_at_call 9; (first | (with_reducible refine (vnumber_is k1 n1 x s1 _ S1.out X.out).mono ?_; rintro e w' ⟨rfl, hb1⟩) | (with_reducible refine (vnumber_is k2 n2 y s2 _ S2.out Y.out).mono ?_; rintro e w' ⟨rfl, hb2⟩))))
      have B2 := S0.1.trans ((hb1.trans (hb2.mono hb1.size)).mono S0.1.size)
      obtain ⟨-, -, -, -, -, -, c0, c1, c2, f0, f1, f2⟩ := par3 B2
      go_wp2_with (first | (go_at_call 40; refine (div_to x y d 0 _ DV DE).mono ?_; rintro e w' ⟨rfl, rfl⟩) | (go_at_call 18; refine (fromNumber_any _ _).mono ?_; rintro e w' ⟨rfl, hb3⟩; have B3 := B2.trans (hb3.mono B2.size); obtain ⟨-, -, -, -, -, -, d0, d1, d2, g0, g1, g2⟩ := par3 B3))
      obtain ⟨r0, r1, r2⟩ := three_set (.int .i64 1) (.int .i64 (near d)) (.string ⟨#[]⟩) d0 d1 d2
      refine bodyPost_ret (v := .tuple #[vval 1 (near d) ⟨#[]⟩, .int .i64 0]) (by simp [results, Tryz.results16, go_sem, r0, r1, r2]) rfl ⟨by rw [A1.out, A2.out]; rfl, below_sets (below_three B3) (by omega) _ _ _⟩
    · have t0 : (e == 0) = false := by rw [beq_eq_false_iff_ne]; exact h0
      have H0 := Lib.hid h0; clear h0
      go_enter Tryz.func16, Tryz.ntmps16
      have S0 := keep3 (w := w) (k1 := k1) (n1 := n1) (k2 := k2) (n2 := n2) (s1 := s1) (s2 := s2) ((Below.refl _ _).drew)
      go_wp2_with fail
      go_region_held3 (fun w' => Below (((w.alloc (.cells #[.int .i64 k1, .int .i64 n1, .string s1] 29)).alloc (.cells #[.int .i64 k2, .int .i64 n2, .string s2] 29)).alloc (.cells #[.int .i64 0, .int .i64 0, .string ⟨#[]⟩] 29)).heap.size (((w.alloc (.cells #[.int .i64 k1, .int .i64 n1, .string s1] 29)).alloc (.cells #[.int .i64 k2, .int .i64 n2, .string s2] 29)).alloc (.cells #[.int .i64 0, .int .i64 0, .string ⟨#[]⟩] 29)) w' ∧ w'.cell? ⟨w.heap.size, 0, none⟩ = some (.int .i64 k1) ∧ w'.cell? ⟨w.heap.size, 1, none⟩ = some (.int .i64 n1) ∧ w'.cell? ⟨w.heap.size, 2, none⟩ = some (.string s1) ∧ w'.cell? ⟨w.heap.size + 1, 0, none⟩ = some (.int .i64 k2) ∧ w'.cell? ⟨w.heap.size + 1, 1, none⟩ = some (.int .i64 n2) ∧ w'.cell? ⟨w.heap.size + 1, 2, none⟩ = some (.string s2)) (first | exact S0 | assumption | exact keep3 (S0.1.trans (hb1.mono S0.1.size)) | exact keep3 (S0.1.trans ((hb1.trans (hb2.mono hb1.size)).mono S0.1.size)))
        (first | (go_at_call 9; (first | (with_reducible refine (vnumber_is k1 n1 x s1 _ S1.out X.out).mono ?_; rintro e w' ⟨rfl, hb1⟩) | (with_reducible refine (vnumber_is k2 n2 y s2 _ S2.out Y.out).mono ?_; rintro e w' ⟨rfl, hb2⟩))))
      have B2 := S0.1.trans ((hb1.trans (hb2.mono hb1.size)).mono S0.1.size)
      obtain ⟨-, -, -, -, -, -, c0, c1, c2, f0, f1, f2⟩ := par3 B2
      go_wp2_with (first | (go_at_call 40; refine (div_to x y d e _ DV DE).mono ?_; rintro e w' ⟨rfl, rfl⟩))
      obtain ⟨r0, r1, r2⟩ := three_set (.int .i64 0) (.int .i64 0) (.string ⟨#[]⟩) c0 c1 c2
      refine bodyPost_ret (v := .tuple #[vval 0 0 ⟨#[]⟩, .int .i64 e]) (by simp [results, Tryz.results16, go_sem, r0, r1, r2]) rfl ⟨by rw [A1.out, A2.out]; unfold rsK rsD; rw [if_neg H0.out, if_neg H0.out], below_sets (below_three B2) (by omega) _ _ _⟩
  · rw [ho]
    clear ho
    obtain ⟨d, hd⟩ : ∃ d, modV x y = d := ⟨_, rfl⟩
    obtain ⟨e, he⟩ : ∃ e, modE x y = e := ⟨_, rfl⟩
    have DV := Lib.hid hd
    have DE := Lib.hid he
    have A1 : Hid (arV 4 x y = d) := Lib.hid hd
    have A2 : Hid (arE 4 x y = e) := Lib.hid he
    clear hd he
    by_cases h0 : e = 0
    · subst h0
      go_enter Tryz.func16, Tryz.ntmps16
      have S0 := keep3 (w := w) (k1 := k1) (n1 := n1) (k2 := k2) (n2 := n2) (s1 := s1) (s2 := s2) ((Below.refl _ _).drew)
      go_wp2_with fail
      go_region_held3 (fun w' => Below (((w.alloc (.cells #[.int .i64 k1, .int .i64 n1, .string s1] 29)).alloc (.cells #[.int .i64 k2, .int .i64 n2, .string s2] 29)).alloc (.cells #[.int .i64 0, .int .i64 0, .string ⟨#[]⟩] 29)).heap.size (((w.alloc (.cells #[.int .i64 k1, .int .i64 n1, .string s1] 29)).alloc (.cells #[.int .i64 k2, .int .i64 n2, .string s2] 29)).alloc (.cells #[.int .i64 0, .int .i64 0, .string ⟨#[]⟩] 29)) w' ∧ w'.cell? ⟨w.heap.size, 0, none⟩ = some (.int .i64 k1) ∧ w'.cell? ⟨w.heap.size, 1, none⟩ = some (.int .i64 n1) ∧ w'.cell? ⟨w.heap.size, 2, none⟩ = some (.string s1) ∧ w'.cell? ⟨w.heap.size + 1, 0, none⟩ = some (.int .i64 k2) ∧ w'.cell? ⟨w.heap.size + 1, 1, none⟩ = some (.int .i64 n2) ∧ w'.cell? ⟨w.heap.size + 1, 2, none⟩ = some (.string s2)) (first | exact S0 | assumption | exact keep3 (S0.1.trans (hb1.mono S0.1.size)) | exact keep3 (S0.1.trans ((hb1.trans (hb2.mono hb1.size)).mono S0.1.size)))
        (first | (go_at_call 9; (first | (with_reducible refine (vnumber_is k1 n1 x s1 _ S1.out X.out).mono ?_; rintro e w' ⟨rfl, hb1⟩) | (with_reducible refine (vnumber_is k2 n2 y s2 _ S2.out Y.out).mono ?_; rintro e w' ⟨rfl, hb2⟩))))
      have B2 := S0.1.trans ((hb1.trans (hb2.mono hb1.size)).mono S0.1.size)
      obtain ⟨-, -, -, -, -, -, c0, c1, c2, f0, f1, f2⟩ := par3 B2
      go_wp2_with (first | (go_at_call 41; refine (mod_to x y d 0 _ DV DE).mono ?_; rintro e w' ⟨rfl, rfl⟩) | (go_at_call 18; refine (fromNumber_any _ _).mono ?_; rintro e w' ⟨rfl, hb3⟩; have B3 := B2.trans (hb3.mono B2.size); obtain ⟨-, -, -, -, -, -, d0, d1, d2, g0, g1, g2⟩ := par3 B3))
      obtain ⟨r0, r1, r2⟩ := three_set (.int .i64 1) (.int .i64 (near d)) (.string ⟨#[]⟩) d0 d1 d2
      refine bodyPost_ret (v := .tuple #[vval 1 (near d) ⟨#[]⟩, .int .i64 0]) (by simp [results, Tryz.results16, go_sem, r0, r1, r2]) rfl ⟨by rw [A1.out, A2.out]; rfl, below_sets (below_three B3) (by omega) _ _ _⟩
    · have t0 : (e == 0) = false := by rw [beq_eq_false_iff_ne]; exact h0
      have H0 := Lib.hid h0; clear h0
      go_enter Tryz.func16, Tryz.ntmps16
      have S0 := keep3 (w := w) (k1 := k1) (n1 := n1) (k2 := k2) (n2 := n2) (s1 := s1) (s2 := s2) ((Below.refl _ _).drew)
      go_wp2_with fail
      go_region_held3 (fun w' => Below (((w.alloc (.cells #[.int .i64 k1, .int .i64 n1, .string s1] 29)).alloc (.cells #[.int .i64 k2, .int .i64 n2, .string s2] 29)).alloc (.cells #[.int .i64 0, .int .i64 0, .string ⟨#[]⟩] 29)).heap.size (((w.alloc (.cells #[.int .i64 k1, .int .i64 n1, .string s1] 29)).alloc (.cells #[.int .i64 k2, .int .i64 n2, .string s2] 29)).alloc (.cells #[.int .i64 0, .int .i64 0, .string ⟨#[]⟩] 29)) w' ∧ w'.cell? ⟨w.heap.size, 0, none⟩ = some (.int .i64 k1) ∧ w'.cell? ⟨w.heap.size, 1, none⟩ = some (.int .i64 n1) ∧ w'.cell? ⟨w.heap.size, 2, none⟩ = some (.string s1) ∧ w'.cell? ⟨w.heap.size + 1, 0, none⟩ = some (.int .i64 k2) ∧ w'.cell? ⟨w.heap.size + 1, 1, none⟩ = some (.int .i64 n2) ∧ w'.cell? ⟨w.heap.size + 1, 2, none⟩ = some (.string s2)) (first | exact S0 | assumption | exact keep3 (S0.1.trans (hb1.mono S0.1.size)) | exact keep3 (S0.1.trans ((hb1.trans (hb2.mono hb1.size)).mono S0.1.size)))
        (first | (go_at_call 9; (first | (with_reducible refine (vnumber_is k1 n1 x s1 _ S1.out X.out).mono ?_; rintro e w' ⟨rfl, hb1⟩) | (with_reducible refine (vnumber_is k2 n2 y s2 _ S2.out Y.out).mono ?_; rintro e w' ⟨rfl, hb2⟩))))
      have B2 := S0.1.trans ((hb1.trans (hb2.mono hb1.size)).mono S0.1.size)
      obtain ⟨-, -, -, -, -, -, c0, c1, c2, f0, f1, f2⟩ := par3 B2
      go_wp2_with (first | (go_at_call 41; refine (mod_to x y d e _ DV DE).mono ?_; rintro e w' ⟨rfl, rfl⟩))
      obtain ⟨r0, r1, r2⟩ := three_set (.int .i64 0) (.int .i64 0) (.string ⟨#[]⟩) c0 c1 c2
      refine bodyPost_ret (v := .tuple #[vval 0 0 ⟨#[]⟩, .int .i64 e]) (by simp [results, Tryz.results16, go_sem, r0, r1, r2]) rfl ⟨by rw [A1.out, A2.out]; unfold rsK rsD; rw [if_neg H0.out, if_neg H0.out], below_sets (below_three B2) (by omega) _ _ _⟩
  · rw [ho]
    clear ho
    obtain ⟨z, hz⟩ : ∃ z, toInt y = z := ⟨_, rfl⟩
    have Z := Lib.hid hz
    have ZB := Lib.hid (toInt_bd y)
    rw [hz] at ZB
    obtain ⟨d, hd⟩ : ∃ d, powV x z = d := ⟨_, rfl⟩
    obtain ⟨e, he⟩ : ∃ e, powE x z = e := ⟨_, rfl⟩
    have DV := Lib.hid hd
    have DE := Lib.hid he
    have A1 : Hid (arV 5 x y = d) := Lib.hid (by show powV x (toInt y) = d; rw [hz, hd])
    have A2 : Hid (arE 5 x y = e) := Lib.hid (by show powE x (toInt y) = e; rw [hz, he])
    clear hd he hz
    by_cases h0 : e = 0
    · subst h0
      go_enter Tryz.func16, Tryz.ntmps16
      have S0 := keep3 (w := w) (k1 := k1) (n1 := n1) (k2 := k2) (n2 := n2) (s1 := s1) (s2 := s2) ((Below.refl _ _).drew)
      go_wp2_with fail
      go_region_held3 (fun w' => Below (((w.alloc (.cells #[.int .i64 k1, .int .i64 n1, .string s1] 29)).alloc (.cells #[.int .i64 k2, .int .i64 n2, .string s2] 29)).alloc (.cells #[.int .i64 0, .int .i64 0, .string ⟨#[]⟩] 29)).heap.size (((w.alloc (.cells #[.int .i64 k1, .int .i64 n1, .string s1] 29)).alloc (.cells #[.int .i64 k2, .int .i64 n2, .string s2] 29)).alloc (.cells #[.int .i64 0, .int .i64 0, .string ⟨#[]⟩] 29)) w' ∧ w'.cell? ⟨w.heap.size, 0, none⟩ = some (.int .i64 k1) ∧ w'.cell? ⟨w.heap.size, 1, none⟩ = some (.int .i64 n1) ∧ w'.cell? ⟨w.heap.size, 2, none⟩ = some (.string s1) ∧ w'.cell? ⟨w.heap.size + 1, 0, none⟩ = some (.int .i64 k2) ∧ w'.cell? ⟨w.heap.size + 1, 1, none⟩ = some (.int .i64 n2) ∧ w'.cell? ⟨w.heap.size + 1, 2, none⟩ = some (.string s2)) (first | exact S0 | assumption | exact keep3 (S0.1.trans (hb1.mono S0.1.size)) | exact keep3 (S0.1.trans ((hb1.trans (hb2.mono hb1.size)).mono S0.1.size)))
        (first | (go_at_call 9; (first | (with_reducible refine (vnumber_is k1 n1 x s1 _ S1.out X.out).mono ?_; rintro e w' ⟨rfl, hb1⟩) | (with_reducible refine (vnumber_is k2 n2 y s2 _ S2.out Y.out).mono ?_; rintro e w' ⟨rfl, hb2⟩))))
      have B2 := S0.1.trans ((hb1.trans (hb2.mono hb1.size)).mono S0.1.size)
      obtain ⟨-, -, -, -, -, -, c0, c1, c2, f0, f1, f2⟩ := par3 B2
      go_wp2_with (first | (go_at_call 43; refine (int_to y z _ Z).mono ?_; rintro e w' ⟨rfl, rfl⟩) | (go_at_call 42; refine (pow_to x z d 0 _ (by have := ZB.out; omega) (by have := ZB.out; omega) DV DE).mono ?_; rintro e w' ⟨rfl, nd, rfl⟩) | (go_at_call 18; refine (fromNumber_any _ _).mono ?_; rintro e w' ⟨rfl, hb3⟩; have B3 := (below_drewN B2 nd).trans (hb3.mono (below_drewN B2 nd).size); obtain ⟨-, -, -, -, -, -, d0, d1, d2, g0, g1, g2⟩ := par3 B3))
      obtain ⟨r0, r1, r2⟩ := three_set (.int .i64 1) (.int .i64 (near d)) (.string ⟨#[]⟩) d0 d1 d2
      refine bodyPost_ret (v := .tuple #[vval 1 (near d) ⟨#[]⟩, .int .i64 0]) (by simp [results, Tryz.results16, go_sem, r0, r1, r2]) rfl ⟨by rw [A1.out, A2.out]; rfl, below_sets (below_three B3) (by omega) _ _ _⟩
    · have t0 : (e == 0) = false := by rw [beq_eq_false_iff_ne]; exact h0
      have H0 := Lib.hid h0; clear h0
      go_enter Tryz.func16, Tryz.ntmps16
      have S0 := keep3 (w := w) (k1 := k1) (n1 := n1) (k2 := k2) (n2 := n2) (s1 := s1) (s2 := s2) ((Below.refl _ _).drew)
      go_wp2_with fail
      go_region_held3 (fun w' => Below (((w.alloc (.cells #[.int .i64 k1, .int .i64 n1, .string s1] 29)).alloc (.cells #[.int .i64 k2, .int .i64 n2, .string s2] 29)).alloc (.cells #[.int .i64 0, .int .i64 0, .string ⟨#[]⟩] 29)).heap.size (((w.alloc (.cells #[.int .i64 k1, .int .i64 n1, .string s1] 29)).alloc (.cells #[.int .i64 k2, .int .i64 n2, .string s2] 29)).alloc (.cells #[.int .i64 0, .int .i64 0, .string ⟨#[]⟩] 29)) w' ∧ w'.cell? ⟨w.heap.size, 0, none⟩ = some (.int .i64 k1) ∧ w'.cell? ⟨w.heap.size, 1, none⟩ = some (.int .i64 n1) ∧ w'.cell? ⟨w.heap.size, 2, none⟩ = some (.string s1) ∧ w'.cell? ⟨w.heap.size + 1, 0, none⟩ = some (.int .i64 k2) ∧ w'.cell? ⟨w.heap.size + 1, 1, none⟩ = some (.int .i64 n2) ∧ w'.cell? ⟨w.heap.size + 1, 2, none⟩ = some (.string s2)) (first | exact S0 | assumption | exact keep3 (S0.1.trans (hb1.mono S0.1.size)) | exact keep3 (S0.1.trans ((hb1.trans (hb2.mono hb1.size)).mono S0.1.size)))
        (first | (go_at_call 9; (first | (with_reducible refine (vnumber_is k1 n1 x s1 _ S1.out X.out).mono ?_; rintro e w' ⟨rfl, hb1⟩) | (with_reducible refine (vnumber_is k2 n2 y s2 _ S2.out Y.out).mono ?_; rintro e w' ⟨rfl, hb2⟩))))
      have B2 := S0.1.trans ((hb1.trans (hb2.mono hb1.size)).mono S0.1.size)
      obtain ⟨-, -, -, -, -, -, c0, c1, c2, f0, f1, f2⟩ := par3 B2
      go_wp2_with (first | (go_at_call 43; refine (int_to y z _ Z).mono ?_; rintro e w' ⟨rfl, rfl⟩) | (go_at_call 42; refine (pow_to x z d e _ (by have := ZB.out; omega) (by have := ZB.out; omega) DV DE).mono ?_; rintro e w' ⟨rfl, nd, rfl⟩))
      obtain ⟨-, -, -, -, -, -, c0, c1, c2, f0, f1, f2⟩ := par3 (below_drewN B2 nd)
      obtain ⟨r0, r1, r2⟩ := three_set (.int .i64 0) (.int .i64 0) (.string ⟨#[]⟩) c0 c1 c2
      refine bodyPost_ret (v := .tuple #[vval 0 0 ⟨#[]⟩, .int .i64 e]) (by simp [results, Tryz.results16, go_sem, r0, r1, r2]) rfl ⟨by rw [A1.out, A2.out]; unfold rsK rsD; rw [if_neg H0.out, if_neg H0.out], below_sets (below_three (below_drewN B2 nd)) (by omega) _ _ _⟩
  · rw [ho]
    clear ho
    have t0 : (op.toList == [43]) = false := by rw [str_eq, decide_eq_false_iff_not]; exact g0
    have t1 : (op.toList == [45]) = false := by rw [str_eq, decide_eq_false_iff_not]; exact g1
    have t2 : (op.toList == [42]) = false := by rw [str_eq, decide_eq_false_iff_not]; exact g2
    have t3 : (op.toList == [47]) = false := by rw [str_eq, decide_eq_false_iff_not]; exact g3
    have t4 : (op.toList == [37]) = false := by rw [str_eq, decide_eq_false_iff_not]; exact g4
    have t5 : (op.toList == [94]) = false := by rw [str_eq, decide_eq_false_iff_not]; exact g5
    clear g0 g1 g2 g3 g4 g5
    go_enter Tryz.func16, Tryz.ntmps16
    have S0 := keep3 (w := w) (k1 := k1) (n1 := n1) (k2 := k2) (n2 := n2) (s1 := s1) (s2 := s2) ((Below.refl _ _).drew)
    go_wp2_with fail
    go_region_held3 (fun w' => Below (((w.alloc (.cells #[.int .i64 k1, .int .i64 n1, .string s1] 29)).alloc (.cells #[.int .i64 k2, .int .i64 n2, .string s2] 29)).alloc (.cells #[.int .i64 0, .int .i64 0, .string ⟨#[]⟩] 29)).heap.size (((w.alloc (.cells #[.int .i64 k1, .int .i64 n1, .string s1] 29)).alloc (.cells #[.int .i64 k2, .int .i64 n2, .string s2] 29)).alloc (.cells #[.int .i64 0, .int .i64 0, .string ⟨#[]⟩] 29)) w' ∧ w'.cell? ⟨w.heap.size, 0, none⟩ = some (.int .i64 k1) ∧ w'.cell? ⟨w.heap.size, 1, none⟩ = some (.int .i64 n1) ∧ w'.cell? ⟨w.heap.size, 2, none⟩ = some (.string s1) ∧ w'.cell? ⟨w.heap.size + 1, 0, none⟩ = some (.int .i64 k2) ∧ w'.cell? ⟨w.heap.size + 1, 1, none⟩ = some (.int .i64 n2) ∧ w'.cell? ⟨w.heap.size + 1, 2, none⟩ = some (.string s2)) (first | exact S0 | assumption | exact keep3 (S0.1.trans (hb1.mono S0.1.size)) | exact keep3 (S0.1.trans ((hb1.trans (hb2.mono hb1.size)).mono S0.1.size)))
      (first | (go_at_call 9; (first | (with_reducible refine (vnumber_is k1 n1 x s1 _ S1.out X.out).mono ?_; rintro e w' ⟨rfl, hb1⟩) | (with_reducible refine (vnumber_is k2 n2 y s2 _ S2.out Y.out).mono ?_; rintro e w' ⟨rfl, hb2⟩))))
    have B2 := S0.1.trans ((hb1.trans (hb2.mono hb1.size)).mono S0.1.size)
    obtain ⟨-, -, -, -, -, -, c0, c1, c2, f0, f1, f2⟩ := par3 B2
    go_wp2
    obtain ⟨r0, r1, r2⟩ := three_set (.int .i64 0) (.int .i64 0) (.string ⟨#[]⟩) c0 c1 c2
    refine bodyPost_ret (v := .tuple #[vval 0 0 ⟨#[]⟩, .int .i64 7]) (by simp [results, Tryz.results16, go_sem, r0, r1, r2]) rfl ⟨rfl, below_sets (below_three B2) (by omega) _ _ _⟩
end Go.Proofs.YtjngkapfngempaaGreatDoor
