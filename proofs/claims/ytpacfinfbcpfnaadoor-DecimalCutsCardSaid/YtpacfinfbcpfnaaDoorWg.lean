/- walks: rounding -/
import Derived.Test.YtpacfinfbcpfnaaDoorWa
import Derived.Test.YtpacfinfbcpfnaaDoorPlain2
namespace Go.Proofs.YtpacfinfbcpfnaaDoor
open Go.RowKit
open Dcm
structure Units (w : World) : Prop where
  u0 : w.cell? ⟨0, 0, none⟩ = some (.int .i64 10000)
  u1 : w.cell? ⟨0, 1, none⟩ = some (.int .i64 1000)
  u2 : w.cell? ⟨0, 2, none⟩ = some (.int .i64 100)
  u3 : w.cell? ⟨0, 3, none⟩ = some (.int .i64 10)
  u4 : w.cell? ⟨0, 4, none⟩ = some (.int .i64 1)
theorem Units.drewN {w : World} (h : Units w) (n : Nat) : Units (w.drewN n) := ⟨h.u0, h.u1, h.u2, h.u3, h.u4⟩
theorem unit_cases (p : Int) : (p ≤ 0 ∧ unitI p = 10000) ∨ (p = 1 ∧ unitI p = 1000) ∨ (p = 2 ∧ unitI p = 100) ∨ (p = 3 ∧ unitI p = 10) ∨ (4 ≤ p ∧ unitI p = 1) := by
  unfold unitI
  by_cases h0 : p ≤ 0
  · simp [h0]
  · by_cases h1 : p = 1
    · simp [h1]
    · by_cases h2 : p = 2
      · simp [h2]
      · by_cases h3 : p = 3
        · simp [h3]
        · simp [h0, h1, h2, h3]; omega
theorem round_lt (d p : Int) (h : near d < 0) : roundD d p = -((-(near d) + (unitI p) / 2) / (unitI p) * (unitI p)) := by
  have := (near_neg d).1 h
  simp [roundD, this]
theorem round_ge (d p : Int) (h : 0 ≤ near d) : roundD d p = (near d + (unitI p) / 2) / (unitI p) * (unitI p) := by
  have : ¬ d < 0 := fun h' => by have := (near_neg d).2 h'; omega
  simp [roundD, this]

theorem round_lt' (d p N u : Int) (hN : near d = N) (h : N < 0) (hu : unitI p = u) : roundD d p = -((-N + u / 2) / u * u) := by rw [← hN, ← hu]; exact round_lt d p (by rw [hN]; exact h)
theorem round_ge' (d p N u : Int) (hN : near d = N) (h : 0 ≤ N) (hu : unitI p = u) : roundD d p = (N + u / 2) / u * u := by rw [← hN, ← hu]; exact round_ge d p (by rw [hN]; exact h)
theorem near_is (d N : Int) (w : World) (hN : near d = N) :
    Calls Tryd.prog 48 #[.int .i64 d] w fun e w' => e = .returned (.int .i64 N) ∧ w = w' := by rw [← hN]; exact near_any d w
theorem rnear_is (d N : Int) (w : World) (hN : near d = N) :
    Calls Tryd.prog 50 #[.int .i64 d] w fun e w' => e = .returned (.int .i64 N) ∧ w = w' := by rw [← hN]; exact rnear_any d w
set_option maxHeartbeats 2000000 in
theorem round_any (d p : Int) (w : World) (hu : Units w) :
    Calls Tryd.prog 21 #[.int .i64 d, .int .i64 p] w fun e w' => e = .returned (.int .i64 (roundD d p)) ∧ w = w' := by
  obtain ⟨N, hN⟩ : ∃ N, near d = N := ⟨_, rfl⟩
  have n1 := near_lo d
  have n2 := near_hi d
  rw [hN] at n1 n2
  obtain ⟨u0, u1, u2, u3, u4⟩ := hu
  have HN := Lib.hid hN; clear hN
  rcases (show N < 0 ∨ 0 ≤ N from by omega) with hn | hn
  · rcases unit_cases p with ⟨hp, e⟩ | ⟨rfl, e⟩ | ⟨rfl, e⟩ | ⟨rfl, e⟩ | ⟨hp, e⟩
    all_goals
      have R := Lib.hid (round_lt' d _ N _ HN.out hn e); clear e
      go_enter Tryd.func21, Tryd.ntmps21
      go_wp2_with (go_at_call 48; refine (near_is _ _ _ HN.out).mono ?_; rintro e w' ⟨rfl, rfl⟩)
      go_ret
      exact ⟨ret_int (by rw [R.out]; simp), rfl⟩
  · rcases unit_cases p with ⟨hp, e⟩ | ⟨rfl, e⟩ | ⟨rfl, e⟩ | ⟨rfl, e⟩ | ⟨hp, e⟩
    all_goals
      have R := Lib.hid (round_ge' d _ N _ HN.out hn e); clear e
      go_enter Tryd.func21, Tryd.ntmps21
      go_wp2_with (go_at_call 48; refine (near_is _ _ _ HN.out).mono ?_; rintro e w' ⟨rfl, rfl⟩)
      go_ret
      exact ⟨ret_int (by rw [R.out]; simp), rfl⟩
def unitN (k : Nat) : Int := unitI k
theorem unitN_0 : unitN 0 = 10000 := rfl
theorem unitN_1 : unitN 1 = 1000 := rfl
theorem unitN_2 : unitN 2 = 100 := rfl
theorem unitN_3 : unitN 3 = 10 := rfl
theorem unitN_4 : unitN 4 = 1 := rfl
theorem unit_stop (p : Int) (k : Nat) (hk : k ≤ 4) (h1 : k = 0 ∨ (k : Int) ≤ p) (h2 : k = 4 ∨ p ≤ k) : unitN k = unitI p := by
  unfold unitN
  rcases h1 with rfl | h1
  · rcases h2 with h2 | h2
    · omega
    · rcases unit_cases p with ⟨hp, e⟩ | ⟨rfl, e⟩ | ⟨rfl, e⟩ | ⟨rfl, e⟩ | ⟨hp, e⟩ <;> first | omega | (rw [e]; rfl)
  · rcases h2 with rfl | h2
    · rcases unit_cases p with ⟨hp, e⟩ | ⟨rfl, e⟩ | ⟨rfl, e⟩ | ⟨rfl, e⟩ | ⟨hp, e⟩ <;> first | omega | (rw [e]; rfl)
    · rw [show p = (k : Int) from by omega]
set_option maxHeartbeats 1000000 in
theorem unit_any (p : Int) (w : World) :
    Calls Tryd.prog 56 #[.int .i64 p] w fun e w' => e = .returned (.int .i64 (unitI p)) ∧ w = w' := by
  go_enter Tryd.func56, Tryd.ntmps56
  go_wp2
  go_loop [3, 4] (fun u i => ∃ k : Nat, k ≤ 4 ∧ (k = 0 ∨ (k : Int) ≤ p) ∧ i = .int .i64 k ∧ u = .int .i64 (unitN k)) (fun _ i => 4 - (intOf i).toNat)
  case atStart => exact ⟨0, by omega, .inl rfl, rfl, rfl⟩
  case round =>
    obtain ⟨k, hk, hp, rfl, rfl⟩ := hrel
    by_cases hs : k = 4 ∨ p ≤ k
    · have R := Lib.hid (unit_stop p k hk hp hs)
      rcases hs with rfl | hs
      · clear hp
        go_wp2
        all_goals go_ret
        all_goals exact ⟨ret_int R.out, rfl⟩
      · clear hp
        go_wp2
        all_goals go_ret
        all_goals exact ⟨ret_int R.out, rfl⟩
    · have hk4 : k < 4 := by omega
      have hkp : (k : Int) < p := by omega
      clear hs hp
      obtain ⟨e, he⟩ : ∃ e, unitN k = e := ⟨_, rfl⟩
      have hd : unitN (k + 1) = unitN k / 10 := by
        rcases (show k = 0 ∨ k = 1 ∨ k = 2 ∨ k = 3 from by omega) with rfl | rfl | rfl | rfl <;> decide
      have h0 : 0 ≤ unitN k := by
        rcases (show k = 0 ∨ k = 1 ∨ k = 2 ∨ k = 3 from by omega) with rfl | rfl | rfl | rfl <;> decide
      clear he
      have h1 : unitN k ≤ 10000 := by
        rcases (show k = 0 ∨ k = 1 ∨ k = 2 ∨ k = 3 from by omega) with rfl | rfl | rfl | rfl <;> decide
      have HD := Lib.hid hd; clear hd
      go_wp2
      go_round
      case rel => exact ⟨k + 1, by omega, .inr (by omega), by go_num, by rw [HD.out]⟩
      case measure => simp [intOf]; omega
theorem rround_lt (N : Int) (h : N < 0) : sz N = -N := by unfold sz; omega
theorem rround_ge (N : Int) (h : 0 ≤ N) : sz N = N := by unfold sz; omega
theorem rsize_is (N S : Int) (w : World) (h : sz N = S) (h1 : -10000000000000 ≤ N) (h2 : N ≤ 10000000000000) :
    Calls Tryd.prog 51 #[.int .i64 N] w fun e w' => e = .returned (.int .i64 S) ∧ w = w' := by rw [← h]; exact rsize_any N w h1 h2
theorem unit_is (p u : Int) (w : World) (h : unitI p = u) :
    Calls Tryd.prog 56 #[.int .i64 p] w fun e w' => e = .returned (.int .i64 u) ∧ w = w' := by rw [← h]; exact unit_any p w
set_option maxHeartbeats 2000000 in
theorem rround_any (d p : Int) (w : World) :
    Calls Tryd.prog 29 #[.int .i64 d, .int .i64 p] w fun e w' => e = .returned (.int .i64 (roundD d p)) ∧ w = w' := by
  obtain ⟨N, hN⟩ : ∃ N, near d = N := ⟨_, rfl⟩
  have n1 := near_lo d
  have n2 := near_hi d
  rw [hN] at n1 n2
  have HN := Lib.hid hN; clear hN
  rcases (show N < 0 ∨ 0 ≤ N from by omega) with hn | hn
  · have S := Lib.hid (rround_lt N hn)
    rcases unit_cases p with ⟨hp, e⟩ | ⟨rfl, e⟩ | ⟨rfl, e⟩ | ⟨rfl, e⟩ | ⟨hp, e⟩
    all_goals
      have R := Lib.hid (round_lt' d _ N _ HN.out hn e)
      have E := Lib.hid e; clear e
      go_enter Tryd.func29, Tryd.ntmps29
      go_wp2_with (first | (go_at_call 50; refine (rnear_is _ _ _ HN.out).mono ?_; rintro e w' ⟨rfl, rfl⟩) | (go_at_call 51; refine (rsize_is _ _ _ S.out n1 n2).mono ?_; rintro e w' ⟨rfl, rfl⟩) | (go_at_call 56; refine (unit_is _ _ _ E.out).mono ?_; rintro e w' ⟨rfl, rfl⟩))
      go_ret
      exact ⟨ret_int (by rw [R.out]; simp), rfl⟩
  · have S := Lib.hid (rround_ge N hn)
    rcases unit_cases p with ⟨hp, e⟩ | ⟨rfl, e⟩ | ⟨rfl, e⟩ | ⟨rfl, e⟩ | ⟨hp, e⟩
    all_goals
      have R := Lib.hid (round_ge' d _ N _ HN.out hn e)
      have E := Lib.hid e; clear e
      go_enter Tryd.func29, Tryd.ntmps29
      go_wp2_with (first | (go_at_call 50; refine (rnear_is _ _ _ HN.out).mono ?_; rintro e w' ⟨rfl, rfl⟩) | (go_at_call 51; refine (rsize_is _ _ _ S.out n1 n2).mono ?_; rintro e w' ⟨rfl, rfl⟩) | (go_at_call 56; refine (unit_is _ _ _ E.out).mono ?_; rintro e w' ⟨rfl, rfl⟩))
      go_ret
      exact ⟨ret_int (by rw [R.out]; simp), rfl⟩
end Go.Proofs.YtpacfinfbcpfnaaDoor
