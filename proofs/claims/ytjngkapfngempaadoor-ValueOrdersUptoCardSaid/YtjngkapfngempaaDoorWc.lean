/- walks: Mul -/
import Derived.Test.YtjngkapfngempaaDoorWb
namespace Go.Proofs.YtjngkapfngempaaDoor
open Go.RowKit
open Dcm
theorem mul64_any (x y hi lo N : Nat) (hx : x < 18446744073709551616) (hy : y < 18446744073709551616) (hN : N = x * y) (hhi : hi = N / 18446744073709551616) (hlo : lo = N % 18446744073709551616) (w : World) :
    Calls Tryd.prog 62 #[.int .u64 x, .int .u64 y] w fun e w' => e = .returned (.tuple #[.int .u64 (hi : Int), .int .u64 (lo : Int)]) ∧ w = w' := by
  subst hhi hlo hN
  exact (Tryd.bits_Mul64 x y hx hy w).mono fun _ _ ⟨h, h'⟩ => ⟨h, h'.symm⟩
theorem size_nat (d : Int) (x : Nat) (w : World) (hx : d.natAbs = x) (h1 : -10000000000000 ≤ d) (h2 : d ≤ 10000000000000) :
    Calls Tryd.prog 63 #[.int .i64 d] w fun e w' => e = .returned (.int .u64 (x : Int)) ∧ w = w' :=
  (size_any d w h1 h2).mono fun _ _ ⟨h, h'⟩ => ⟨by rw [h, sz_natAbs, hx], h'⟩

/-- what the product is made of -/
structure MulF (a b : Int) (x y hi lo N : Nat) : Prop where
  hx : a.natAbs = x
  hy : b.natAbs = y
  hN : N = x * y
  hhi : hi = N / 18446744073709551616
  hlo : lo = N % 18446744073709551616
theorem MulF.cN {a b : Int} {x y hi lo N : Nat} (F : MulF a b x y hi lo N) : (a * b).natAbs = N := by rw [prod_abs, F.hx, F.hy, F.hN]
theorem MulF.rec_ {a b : Int} {x y hi lo N : Nat} (F : MulF a b x y hi lo N) : (hi : Int) * 18446744073709551616 + lo = N := by
  have h1 := F.hhi
  have h2 := F.hlo
  clear F; omega
theorem MulF.big {a b : Int} {x y hi lo N : Nat} (F : MulF a b x y hi lo N) (h : 10000 ≤ hi) : 10000000000000 < N / 10000 := by
  have h1 := F.hhi
  clear F; omega
theorem MulF.lo_lt {a b : Int} {x y hi lo N : Nat} (F : MulF a b x y hi lo N) : lo < 18446744073709551616 := by
  have h1 := F.hlo
  clear F; omega
theorem div64_q (Q N hi lo : Nat) (hQ : Q = N / 10000) (h1 : hi < 10000) (hl : lo < 18446744073709551616) (hN : (hi : Int) * 18446744073709551616 + lo = N) (w : World) :
    Calls Tryd.prog 64 #[.int .u64 (hi : Int), .int .u64 (lo : Int), .int .u64 10000] w fun e w' => ∃ r, e = .returned (.tuple #[.int .u64 (Q : Int), .int .u64 r]) ∧ ∃ n, w' = w.drewN n := by
  rw [hQ]; exact div64_any N hi lo h1 hl hN w
set_option maxHeartbeats 4000000 in
theorem mul_any (a b : Int) (w : World) :
    Calls Tryd.prog 36 #[.int .i64 a, .int .i64 b] w fun e w' => e = .returned (.tuple #[.int .i64 (mulV a b), .int .i64 (mulE a b)]) ∧ ∃ n, w' = w.drewN n := by
  cases ha : vldB a
  · go_enter Tryd.func36, Tryd.ntmps36
    go_wp2_with (go_at_call 60; refine (valid_any _ _).mono ?_; rintro e w' ⟨rfl, rfl⟩)
    go_ret2
    exact ⟨ret_ii (by simp [mulV, bothB, ha]) (by simp [mulE, bothB, ha]), 0, rfl⟩
  · cases hb : vldB b
    · go_enter Tryd.func36, Tryd.ntmps36
      go_wp2_with (go_at_call 60; refine (valid_any _ _).mono ?_; rintro e w' ⟨rfl, rfl⟩)
      go_ret2
      exact ⟨ret_ii (by simp [mulV, bothB, ha, hb]) (by simp [mulE, bothB, ha, hb]), 0, rfl⟩
    · obtain ⟨a1, a2⟩ := vld_iff.1 ha
      obtain ⟨b1, b2⟩ := vld_iff.1 hb
      obtain ⟨x, y, hi, lo, N, F⟩ : ∃ x y hi lo N, MulF a b x y hi lo N := ⟨_, _, _, _, _, rfl, rfl, rfl, rfl, rfl⟩
      have hx : x < 18446744073709551616 := by have := F.hx; clear F; omega
      have hy : y < 18446744073709551616 := by have := F.hy; clear F; omega
      have Hx := Lib.hid hx; clear hx
      have Hy := Lib.hid hy; clear hy
      by_cases hh : 10000 ≤ hi
      · have fb : vldB ((a * b).tdiv 10000) = false := fit_big _ N F.cN (F.big hh)
        have Fb := Lib.hid fb; clear fb
        have hd : decide ((10000 : Int) ≤ (hi : Int)) = true := by simp; omega
        go_enter Tryd.func36, Tryd.ntmps36
        go_wp2_with (first | (go_at_call 60; refine (valid_any _ _).mono ?_; rintro e w' ⟨rfl, rfl⟩) | (go_at_call 63; (first | (with_reducible refine (size_nat a x _ F.hx a1 a2).mono ?_) | (with_reducible refine (size_nat b y _ F.hy b1 b2).mono ?_)); rintro e w' ⟨rfl, rfl⟩) | (go_at_call 62; refine (mul64_any x y hi lo N Hx.out Hy.out F.hN F.hhi F.hlo _).mono ?_; rintro e w' ⟨rfl, rfl⟩))
        go_ret2
        exact ⟨ret_ii (by simp [mulV, bothB, ha, hb, fitV, Fb.out]) (by simp [mulE, bothB, ha, hb, fitE, Fb.out]), 0, rfl⟩
      · have hd : decide ((10000 : Int) ≤ (hi : Int)) = false := by simp; omega
        have hh' : hi < 10000 := by omega
        have Hh := Lib.hid hh'; clear hh' hh
        obtain ⟨Q, hQ⟩ : ∃ Q, Q = N / 10000 := ⟨_, rfl⟩
        have HQ := Lib.hid hQ; clear hQ
        by_cases hq : 10000000000000 < Q
        · have fb : vldB ((a * b).tdiv 10000) = false := fit_big _ N F.cN (by rw [← HQ.out]; exact hq)
          have Fb := Lib.hid fb; clear fb
          have hd2 : decide ((10000000000000 : Int) < (Q : Int)) = true := by simp; omega
          clear hq
          go_enter Tryd.func36, Tryd.ntmps36
          go_wp2_with (first | (go_at_call 60; refine (valid_any _ _).mono ?_; rintro e w' ⟨rfl, rfl⟩) | (go_at_call 63; (first | (with_reducible refine (size_nat a x _ F.hx a1 a2).mono ?_) | (with_reducible refine (size_nat b y _ F.hy b1 b2).mono ?_)); rintro e w' ⟨rfl, rfl⟩) | (go_at_call 62; refine (mul64_any x y hi lo N Hx.out Hy.out F.hN F.hhi F.hlo _).mono ?_; rintro e w' ⟨rfl, rfl⟩) | (go_at_call 64; refine (div64_q Q N hi lo HQ.out Hh.out F.lo_lt F.rec_ _).mono ?_; rintro e w' ⟨r, rfl, n, rfl⟩))
          go_ret2
          exact ⟨ret_ii (by simp [mulV, bothB, ha, hb, fitV, Fb.out]) (by simp [mulE, bothB, ha, hb, fitE, Fb.out]), n, rfl⟩
        · have hq' : Q ≤ 10000000000000 := by omega
          clear hq
          have fb : vldB ((a * b).tdiv 10000) = true := fit_in _ N F.cN (by rw [← HQ.out]; exact hq')
          have Fb := Lib.hid fb; clear fb
          have P : Hid (0 ≤ a * b → (a * b).tdiv 10000 = (Q : Int)) := Lib.hid (fun h => by rw [tdiv_pos _ N F.cN h, HQ.out])
          have Ng : Hid (a * b ≤ 0 → (a * b).tdiv 10000 = -(Q : Int)) := Lib.hid (fun h => by rw [tdiv_neg _ N F.cN h, HQ.out])
          cases sa : decide (a < 0) <;> cases sb : decide (b < 0)
          all_goals
            go_enter Tryd.func36, Tryd.ntmps36
            go_wp2_with (first | (go_at_call 60; refine (valid_any _ _).mono ?_; rintro e w' ⟨rfl, rfl⟩) | (go_at_call 63; (first | (with_reducible refine (size_nat a x _ F.hx a1 a2).mono ?_) | (with_reducible refine (size_nat b y _ F.hy b1 b2).mono ?_)); rintro e w' ⟨rfl, rfl⟩) | (go_at_call 62; refine (mul64_any x y hi lo N Hx.out Hy.out F.hN F.hhi F.hlo _).mono ?_; rintro e w' ⟨rfl, rfl⟩) | (go_at_call 64; refine (div64_q Q N hi lo HQ.out Hh.out F.lo_lt F.rec_ _).mono ?_; rintro e w' ⟨r, rfl, n, rfl⟩))
            go_ret2
            refine ⟨ret_ii ?_ (by simp [mulE, bothB, ha, hb, fitE, Fb.out]), n, rfl⟩
            simp only [mulV, bothB, ha, hb, fitV, Fb.out, Bool.and_self, if_true]
            first
              | exact (P.out (mul_nonneg' a b (.inl ⟨of_decide_eq_true sa, of_decide_eq_true sb⟩))).symm
              | exact (P.out (mul_nonneg' a b (.inr ⟨Int.not_lt.1 (of_decide_eq_false sa), Int.not_lt.1 (of_decide_eq_false sb)⟩))).symm
              | exact (Ng.out (mul_nonpos' a b (.inl ⟨of_decide_eq_true sa, Int.not_lt.1 (of_decide_eq_false sb)⟩))).symm
              | exact (Ng.out (mul_nonpos' a b (.inr ⟨Int.not_lt.1 (of_decide_eq_false sa), of_decide_eq_true sb⟩))).symm
end Go.Proofs.YtjngkapfngempaaDoor
