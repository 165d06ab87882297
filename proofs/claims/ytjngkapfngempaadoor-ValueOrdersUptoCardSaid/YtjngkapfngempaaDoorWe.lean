/- walks: powers -/
import Derived.Test.YtjngkapfngempaaDoorWd
import Derived.Test.YtjngkapfngempaaDoorPlain2
namespace Go.Proofs.YtjngkapfngempaaDoor
open Go.RowKit
open Dcm
set_option maxHeartbeats 1000000 in
theorem rpower_any (a : Int) (N : Nat) (hN : N ≤ 64) (w : World) :
    Calls Tryd.prog 88 #[.int .i64 a, .int .i64 (N : Int)] w fun e w' => e = .returned (.tuple #[.int .i64 (pwV a N 10000), .int .i64 (pwE a N 10000)]) ∧ w = w' := by
  go_enter Tryd.func88, Tryd.ntmps88
  go_wp2
  go_loop [6, 7] (fun p i => ∃ (k : Nat) (P : Int), k ≤ N ∧ i = .int .i64 k ∧ p = .int .i64 P ∧ PInv a N k P) (fun _ i => N - (intOf i).toNat)
  case atStart => exact ⟨0, 10000, by omega, rfl, rfl, PInv.start a N⟩
  case round =>
    obtain ⟨k, P, hk, rfl, rfl, hI⟩ := hrel
    by_cases hlt : k < N
    · by_cases he : mulE P a = 0
      · have R := hI.step hlt he
        have he' : (mulE P a != 0) = false := by simpa using he
        have He := Lib.hid he; clear he
        go_wp2_with (go_at_call 67; refine (rmul_any _ _ _).mono ?_; rintro e w' ⟨rfl, rfl⟩)
        go_round
        case rel => exact ⟨k + 1, _, by omega, by go_num, rfl, R⟩
        case measure => simp [intOf]; omega
      · have R := hI.stop hlt he
        have he' : (mulE P a != 0) = true := by simpa using he
        clear he
        have HR := Lib.hid R; clear R
        go_wp2_with (go_at_call 67; refine (rmul_any _ _ _).mono ?_; rintro e w' ⟨rfl, rfl⟩)
        go_ret2
        exact ⟨ret_ii HR.out.1.symm HR.out.2.symm, rfl⟩
    · obtain rfl : k = N := by omega
      have HR := Lib.hid hI.done
      go_wp2
      go_ret2
      exact ⟨ret_ii HR.out.1.symm HR.out.2.symm, rfl⟩
set_option maxHeartbeats 1000000 in
theorem rpow_any (a n : Int) (w : World) (n1 : -9223372036854775808 ≤ n) (n2 : n ≤ 9223372036854775807) :
    Calls Tryd.prog 70 #[.int .i64 a, .int .i64 n] w fun e w' => e = .returned (.tuple #[.int .i64 (powV a n), .int .i64 (powE a n)]) ∧ w = w' := by
  cases ho : powOk a n
  · have H := Lib.hid (pow_no a n ho)
    cases ha : vldB a
    · clear ho
      go_enter Tryd.func70, Tryd.ntmps70
      go_wp2_with (go_at_call 86; refine (rvalid_any _ _).mono ?_; rintro e w' ⟨rfl, rfl⟩)
      go_ret2
      exact ⟨ret_ii H.out.1.symm H.out.2.symm, rfl⟩
    · have hn : n < -64 ∨ 64 < n := by simp [powOk, ha] at ho; omega
      clear ho
      rcases hn with hn | hn
      all_goals
        go_enter Tryd.func70, Tryd.ntmps70
        go_wp2_with (go_at_call 86; refine (rvalid_any _ _).mono ?_; rintro e w' ⟨rfl, rfl⟩)
        go_ret2
        exact ⟨ret_ii H.out.1.symm H.out.2.symm, rfl⟩
  · obtain ⟨⟨ha, h1⟩, h2⟩ : (vldB a = true ∧ -64 ≤ n) ∧ n ≤ 64 := by simpa [powOk] using ho
    clear ho n1 n2
    by_cases h0 : 0 ≤ n
    · obtain ⟨N, rfl⟩ := Int.eq_ofNat_of_zero_le h0
      have hN : N ≤ 64 := by omega
      have H := Lib.hid (pow_pos a N ha hN)
      go_enter Tryd.func70, Tryd.ntmps70
      go_wp2_with (first | (go_at_call 86; refine (rvalid_any _ _).mono ?_; rintro e w' ⟨rfl, rfl⟩) | (go_at_call 88; refine (rpower_any a N hN _).mono ?_; rintro e w' ⟨rfl, rfl⟩))
      go_ret2
      exact ⟨ret_ii H.out.1.symm H.out.2.symm, rfl⟩
    · obtain ⟨N, hN⟩ : ∃ N : Nat, n = -(N : Int) := ⟨(-n).toNat, by omega⟩
      subst hN
      have hN : N ≤ 64 := by omega
      have hN0 : 0 < N := by omega
      cases he : decide (pwE a N 10000 = 0)
      · have H := Lib.hid (pow_neg_no a N ha hN hN0 (of_decide_eq_false he))
        have he' : (pwE a N 10000 != 0) = true := by simpa using he
        clear he
        go_enter Tryd.func70, Tryd.ntmps70
        go_wp2_with (first | (go_at_call 86; refine (rvalid_any _ _).mono ?_; rintro e w' ⟨rfl, rfl⟩) | (go_at_call 88; refine (rpower_any a N hN _).mono ?_; rintro e w' ⟨rfl, rfl⟩))
        go_ret2
        exact ⟨ret_ii H.out.1.symm H.out.2.symm, rfl⟩
      · have H := Lib.hid (pow_neg_ok a N ha hN hN0 (of_decide_eq_true he))
        have he' : (pwE a N 10000 != 0) = false := by simpa using he
        clear he
        go_enter Tryd.func70, Tryd.ntmps70
        go_wp2_with (first | (go_at_call 86; refine (rvalid_any _ _).mono ?_; rintro e w' ⟨rfl, rfl⟩) | (go_at_call 88; refine (rpower_any a N hN _).mono ?_; rintro e w' ⟨rfl, rfl⟩) | (go_at_call 68; refine (rdiv_any _ _ _).mono ?_; rintro e w' ⟨rfl, rfl⟩))
        go_ret2
        exact ⟨ret_ii H.out.1.symm H.out.2.symm, rfl⟩
end Go.Proofs.YtjngkapfngempaaDoor
