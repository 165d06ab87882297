/- walks: the program's Pow, and rounding -/
import Derived.Test.YtjngkapfngempaaDoorWe
namespace Go.Proofs.YtjngkapfngempaaDoor
open Go.RowKit
open Dcm
set_option maxHeartbeats 2000000 in
theorem pow_any (a n : Int) (w : World) (n1 : -9223372036854775808 ≤ n) (n2 : n ≤ 9223372036854775807) :
    Calls Tryd.prog 39 #[.int .i64 a, .int .i64 n] w fun e w' => e = .returned (.tuple #[.int .i64 (powV a n), .int .i64 (powE a n)]) ∧ ∃ n, w' = w.drewN n := by
  cases ho : powOk a n
  · have H := Lib.hid (pow_no a n ho)
    cases ha : vldB a
    · clear ho
      go_enter Tryd.func39, Tryd.ntmps39
      go_wp2_with (go_at_call 60; refine (valid_any _ _).mono ?_; rintro e w' ⟨rfl, rfl⟩)
      go_ret2
      exact ⟨ret_ii H.out.1.symm H.out.2.symm, 0, rfl⟩
    · have hn : n < -64 ∨ 64 < n := by simp [powOk, ha] at ho; omega
      clear ho
      rcases hn with hn | hn
      all_goals
        go_enter Tryd.func39, Tryd.ntmps39
        go_wp2_with (go_at_call 60; refine (valid_any _ _).mono ?_; rintro e w' ⟨rfl, rfl⟩)
        go_ret2
        exact ⟨ret_ii H.out.1.symm H.out.2.symm, 0, rfl⟩
  · obtain ⟨⟨ha, h1⟩, h2⟩ : (vldB a = true ∧ -64 ≤ n) ∧ n ≤ 64 := by simpa [powOk] using ho
    clear ho n1 n2
    by_cases h0 : 0 ≤ n
    · obtain ⟨N, rfl⟩ := Int.eq_ofNat_of_zero_le h0
      have hN : N ≤ 64 := by omega
      have H := Lib.hid (pow_pos a N ha hN)
      go_enter Tryd.func39, Tryd.ntmps39
      go_wp2_with (first | (go_at_call 60; refine (valid_any _ _).mono ?_; rintro e w' ⟨rfl, rfl⟩))
      go_loopw [6, 23] (fun p i wr => ∃ (k : Nat) (P : Int) (m : Nat), k ≤ N ∧ i = .int .i64 k ∧ p = .int .i64 P ∧ PInv a N k P ∧ wr = w.drewN m) (fun _ i _ => N - (intOf i).toNat)
      case atStart => exact ⟨0, 10000, 0, by omega, rfl, rfl, PInv.start a N, rfl⟩
      case round =>
        obtain ⟨k, P, m, hk, rfl, rfl, hI, rfl⟩ := hrel
        by_cases hlt : k < N
        · by_cases he : mulE P a = 0
          · have R := hI.step hlt he
            have he' : (mulE P a != 0) = false := by simpa using he
            have He := Lib.hid he; clear he
            go_wp2_with (go_at_call 36; refine (mul_any _ _ _).mono ?_; rintro e w' ⟨rfl, m', rfl⟩)
            go_roundw
            case rel => exact ⟨k + 1, _, _, by omega, by go_num, rfl, R, rfl⟩
            case measure => simp [intOf]; omega
          · have R := hI.stop hlt he
            have he' : (mulE P a != 0) = true := by simpa using he
            clear he
            have HR := Lib.hid R; clear R
            go_wp2_with (go_at_call 36; refine (mul_any _ _ _).mono ?_; rintro e w' ⟨rfl, m', rfl⟩)
            go_ret2
            exact ⟨ret_ii (H.out.1.trans HR.out.1).symm (H.out.2.trans HR.out.2).symm, _, rfl⟩
        · obtain rfl : k = N := by omega
          have HR := Lib.hid hI.done
          go_wp2
          go_ret2
          exact ⟨ret_ii (H.out.1.trans HR.out.1).symm (H.out.2.trans HR.out.2).symm, _, rfl⟩
    · obtain ⟨N, hN⟩ : ∃ N : Nat, n = -(N : Int) := ⟨(-n).toNat, by omega⟩
      subst hN
      have hN : N ≤ 64 := by omega
      have hN0 : 0 < N := by omega
      go_enter Tryd.func39, Tryd.ntmps39
      go_wp2_with (first | (go_at_call 60; refine (valid_any _ _).mono ?_; rintro e w' ⟨rfl, rfl⟩))
      go_loopw [6, 23] (fun p i wr => ∃ (k : Nat) (P : Int) (m : Nat), k ≤ N ∧ i = .int .i64 k ∧ p = .int .i64 P ∧ PInv a N k P ∧ wr = w.drewN m) (fun _ i _ => N - (intOf i).toNat)
      case atStart => exact ⟨0, 10000, 0, by omega, rfl, rfl, PInv.start a N, rfl⟩
      case round =>
        obtain ⟨k, P, m, hk, rfl, rfl, hI, rfl⟩ := hrel
        by_cases hlt : k < N
        · by_cases he : mulE P a = 0
          · have R := hI.step hlt he
            have he' : (mulE P a != 0) = false := by simpa using he
            have He := Lib.hid he; clear he
            go_wp2_with (go_at_call 36; refine (mul_any _ _ _).mono ?_; rintro e w' ⟨rfl, m', rfl⟩)
            go_roundw
            case rel => exact ⟨k + 1, _, _, by omega, by go_num, rfl, R, rfl⟩
            case measure => simp [intOf]; omega
          · have R := hI.stop hlt he
            have H := Lib.hid (pow_neg_no a N ha hN hN0 (by rw [R.2]; exact he))
            have he' : (mulE P a != 0) = true := by simpa using he
            clear he
            have HR := Lib.hid R; clear R
            go_wp2_with (go_at_call 36; refine (mul_any _ _ _).mono ?_; rintro e w' ⟨rfl, m', rfl⟩)
            go_ret2
            exact ⟨ret_ii H.out.1.symm (H.out.2.trans HR.out.2).symm, _, rfl⟩
        · obtain rfl : k = N := by omega
          have HR := Lib.hid hI.done
          have H := Lib.hid (pow_neg_ok a k ha hN hN0 HR.out.2)
          go_wp2_with (go_at_call 37; refine (div_any _ _ _).mono ?_; rintro e w' ⟨rfl, rfl⟩)
          go_ret2
          exact ⟨ret_ii (by rw [H.out.1, HR.out.1]) (by rw [H.out.2, HR.out.1]), _, rfl⟩
end Go.Proofs.YtjngkapfngempaaDoor
