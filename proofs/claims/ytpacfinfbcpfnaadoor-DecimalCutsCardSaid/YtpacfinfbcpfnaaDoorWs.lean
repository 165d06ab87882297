/- walks: the laws without the reference -/
import Derived.Test.YtpacfinfbcpfnaaDoorWq
import Derived.Test.YtpacfinfbcpfnaaDoorPlain4
namespace Go.Proofs.YtpacfinfbcpfnaaDoor
open Go.RowKit
open Dcm Byt
theorem lsize_is (d z : Int) (w : World) (hz : sz d = z) (h1 : -1000000000000000000 ≤ d) (h2 : d ≤ 1000000000000000000) :
    Calls Tryd.prog 22 #[.int .i64 d] w fun e w' => e = .returned (.int .i64 z) ∧ w = w' := by rw [← hz]; exact lsize_any d w h1 h2
theorem valid_at (d : Int) (w : World) (h : vldB d = true) : Calls Tryd.prog 20 #[.int .i64 d] w fun e w' => e = .returned (.bool true) ∧ w = w' := by rw [← h]; exact valid_any d w
set_option maxHeartbeats 4000000 in
theorem law_nearest (d p : Int) (w : World) (h : Env w) :
    Calls Tryd.prog 6 #[.int .i64 d, .int .i64 p] w fun e w' => e = .returned (.bool true) ∧ Below w.heap.size w w' := by
  have H := Lib.hid h; clear h
  by_cases ho : (-10000000000000 ≤ d ∧ d ≤ 10000000000000) ∧ 0 ≤ p ∧ p ≤ 4
  · obtain ⟨⟨d1, d2⟩, p1, p2⟩ := ho
    obtain ⟨k, rfl⟩ := Int.eq_ofNat_of_zero_le p1
    have hk4 : k ≤ 4 := by omega
    obtain ⟨u, hu⟩ : ∃ u, unitN k = u := ⟨_, rfl⟩
    have hc : u = 10000 ∨ u = 1000 ∨ u = 100 ∨ u = 10 ∨ u = 1 := by
      rw [← hu]
      rcases (show k = 0 ∨ k = 1 ∨ k = 2 ∨ k = 3 ∨ k = 4 from by omega) with rfl | rfl | rfl | rfl | rfl <;> decide
    obtain ⟨r, R⟩ := nearest d k u d1 d2 hu hc
    have u1 : 1 ≤ u := by omega
    have u2 : u ≤ 10000 := by omega
    have r1 := R.lo
    have r2 := R.hi
    have hv := Lib.hid (vld_iff.2 ⟨r1, r2⟩)
    obtain ⟨z, hz⟩ : ∃ z, sz (r - d) = z := ⟨_, rfl⟩
    obtain ⟨x, hx⟩ : ∃ z, sz r = z := ⟨_, rfl⟩
    obtain ⟨y, hy⟩ : ∃ z, sz d = z := ⟨_, rfl⟩
    have half := R.half
    have tie := R.tie
    rw [hz] at half tie
    rw [hx, hy] at tie
    have z0 : 0 ≤ z := by rw [← hz]; unfold sz; omega
    have md : r.tmod u = 0 := R.md
    have HZ := Lib.hid hz; clear hz
    have HX := Lib.hid hx; clear hx
    have HY := Lib.hid hy; clear hy
    have HU := Lib.hid hu; clear hu hc
    go_enter Tryd.func6, Tryd.ntmps6
    go_wp2
    go_loop [5, 6] (fun v i => ∃ j : Nat, j ≤ k ∧ i = .int .i64 j ∧ v = .int .i64 (unitN j)) (fun _ i => k - (intOf i).toNat)
    case atStart => exact ⟨0, by omega, rfl, rfl⟩
    case round =>
      obtain ⟨j, hj, rfl, rfl⟩ := hrel
      by_cases hlt : j < k
      · have hd : unitN (j + 1) = unitN j / 10 := by
          rcases (show j = 0 ∨ j = 1 ∨ j = 2 ∨ j = 3 from by omega) with rfl | rfl | rfl | rfl <;> decide
        have h0 : 0 ≤ unitN j := by
          rcases (show j = 0 ∨ j = 1 ∨ j = 2 ∨ j = 3 from by omega) with rfl | rfl | rfl | rfl <;> decide
        have h1 : unitN j ≤ 10000 := by
          rcases (show j = 0 ∨ j = 1 ∨ j = 2 ∨ j = 3 from by omega) with rfl | rfl | rfl | rfl <;> decide
        have HD := Lib.hid hd; clear hd
        clear md
        go_wp2
        go_round
        case rel => exact ⟨j + 1, by omega, by go_num, by rw [HD.out]⟩
        case measure => simp [intOf]; omega
      · obtain rfl : j = k := by omega
        have hu : unitN j = u := HU.out
        rcases tie with tie | tie
        all_goals
          go_wp2_with (first
            | (go_at_call 21; (first | (with_reducible refine (round_at d _ r _ H.out.u R.eq).mono ?_) | (with_reducible refine (round_at r _ r _ H.out.u R.again).mono ?_)); rintro e w' ⟨rfl, rfl⟩)
            | (go_at_call 20; refine (valid_at _ _ hv.out).mono ?_; rintro e w' ⟨rfl, rfl⟩)
            | (go_at_call 22; (first | (with_reducible refine (lsize_is (r - d) z _ HZ.out (by omega) (by omega)).mono ?_) | (with_reducible refine (lsize_is r x _ HX.out (by omega) (by omega)).mono ?_) | (with_reducible refine (lsize_is d y _ HY.out (by omega) (by omega)).mono ?_)); rintro e w' ⟨rfl, rfl⟩)
            | (go_at_call 13; refine (awake_any _ H.out).mono ?_; rintro e w' ⟨rfl, hb⟩))
          all_goals go_ret
          all_goals exact ⟨rfl, hb⟩
  · go_enter Tryd.func6, Tryd.ntmps6
    go_wp2_with (go_at_call 13; refine (awake_any _ H.out).mono ?_; rintro e w' ⟨rfl, hb⟩)
    all_goals go_ret
    all_goals exact ⟨rfl, hb⟩
end Go.Proofs.YtpacfinfbcpfnaaDoor
