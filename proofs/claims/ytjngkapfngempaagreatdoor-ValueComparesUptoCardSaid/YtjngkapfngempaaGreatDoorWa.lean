/- walks -/
import Derived.Test.YtjngkapfngempaaGreatDoorRows
import Derived.Test.YtjngkapfngempaaGreatDoorPlain
import Derived.WalkKit
import Derived.WalkSpells
import Derived.WalkLawsBesides
import Derived.Lib.Hide
namespace Go.Proofs.YtjngkapfngempaaGreatDoor
open Go.RowKit
open Dcm

theorem ret_int {k : IntKind} {a b : Int} (h : a = b) : Ending.returned (.int k a) = .returned (.int k b) := by rw [h]
theorem ret_bool {a b : Bool} (h : a = b) : Ending.returned (.bool a) = .returned (.bool b) := by rw [h]
theorem ret_ii {k l : IntKind} {a b c d : Int} (h : a = b) (h' : c = d) : Ending.returned (.tuple #[.int k a, .int l c]) = .returned (.tuple #[.int k b, .int l d]) := by rw [h, h']

theorem valid_any (d : Int) (w : World) :
    Calls Tryz.prog 60 #[.int .i64 d] w fun e w' => e = .returned (.bool (vldB d)) ∧ w = w' := by
  go_enter Tryz.func60, Tryz.ntmps60
  go_wp2
  all_goals go_ret
  all_goals exact ⟨ret_bool (by simp [vldB]; try omega), rfl⟩
theorem near_any (d : Int) (w : World) :
    Calls Tryz.prog 50 #[.int .i64 d] w fun e w' => e = .returned (.int .i64 (near d)) ∧ w = w' := by
  go_enter Tryz.func50, Tryz.ntmps50
  go_wp2
  all_goals go_ret
  all_goals exact ⟨ret_int (by unfold near; omega), rfl⟩
theorem rnear_any (d : Int) (w : World) :
    Calls Tryz.prog 55 #[.int .i64 d] w fun e w' => e = .returned (.int .i64 (near d)) ∧ w = w' := by
  go_enter Tryz.func55, Tryz.ntmps55
  go_wp2
  all_goals go_ret
  all_goals exact ⟨ret_int (by unfold near; omega), rfl⟩
theorem size_any (d : Int) (w : World) (h1 : -10000000000000 ≤ d) (h2 : d ≤ 10000000000000) :
    Calls Tryz.prog 63 #[.int .i64 d] w fun e w' => e = .returned (.int .u64 (sz d)) ∧ w = w' := by
  go_enter Tryz.func63, Tryz.ntmps63
  go_wp2
  all_goals go_ret
  all_goals exact ⟨ret_int (by unfold sz; omega), rfl⟩
theorem rsize_any (d : Int) (w : World) (h1 : -10000000000000 ≤ d) (h2 : d ≤ 10000000000000) :
    Calls Tryz.prog 56 #[.int .i64 d] w fun e w' => e = .returned (.int .i64 (sz d)) ∧ w = w' := by
  go_enter Tryz.func56, Tryz.ntmps56
  go_wp2
  all_goals go_ret
  all_goals exact ⟨ret_int (by unfold sz; omega), rfl⟩
theorem w64 {n : Int} (h1 : -1000000000000000000 ≤ n) (h2 : n ≤ 1000000000000000000) : wrap64 n = n := by unfold wrap64; omega
theorem wdiv {x b : Int} (h : -1000000000000000000 ≤ x ∧ x ≤ 1000000000000000000) : wrap64 (x.tdiv b) = x.tdiv b :=
  w64 (tdiv_bd x b _ h.1 h.2).1 (tdiv_bd x b _ h.1 h.2).2
theorem wmod {x b : Int} (h : -100000000000000000 ≤ x ∧ x ≤ 100000000000000000) : wrap64 (x - wrap64 (wrap64 (x.tdiv b) * b)) = x.tmod b := by
  have := tmod_bd x b _ h.1 h.2
  rw [wdiv (by omega), tdiv_mul, w64 (n := x - x.tmod b) (by omega) (by omega), w64 (n := x - (x - x.tmod b)) (by omega) (by omega)]
  omega
theorem fit_any (d : Int) (w : World) :
    Calls Tryz.prog 61 #[.int .i64 d] w fun e w' => e = .returned (.tuple #[.int .i64 (fitV d), .int .i64 (fitE d)]) ∧ w = w' := by
  cases hv : vldB d
  all_goals
    go_enter Tryz.func61, Tryz.ntmps61
    go_wp2_with (go_at_call 60; refine (valid_any _ _).mono ?_; rintro e w' ⟨rfl, rfl⟩)
    go_ret2
    exact ⟨ret_ii (by simp [fitV, hv]) (by simp [fitE, hv]), rfl⟩
theorem add_any (a b : Int) (w : World) :
    Calls Tryz.prog 37 #[.int .i64 a, .int .i64 b] w fun e w' => e = .returned (.tuple #[.int .i64 (addV a b), .int .i64 (addE a b)]) ∧ w = w' := by
  cases ha : vldB a
  · go_enter Tryz.func37, Tryz.ntmps37
    go_wp2_with (go_at_call 60; refine (valid_any _ _).mono ?_; rintro e w' ⟨rfl, rfl⟩)
    go_ret2
    exact ⟨ret_ii (by simp [addV, bothB, ha]) (by simp [addE, bothB, ha]), rfl⟩
  · cases hb : vldB b
    · go_enter Tryz.func37, Tryz.ntmps37
      go_wp2_with (go_at_call 60; refine (valid_any _ _).mono ?_; rintro e w' ⟨rfl, rfl⟩)
      go_ret2
      exact ⟨ret_ii (by simp [addV, bothB, ha, hb]) (by simp [addE, bothB, ha, hb]), rfl⟩
    · have h1 := vld_iff.1 ha
      have h2 := vld_iff.1 hb
      go_enter Tryz.func37, Tryz.ntmps37
      go_wp2_with (first | (go_at_call 60; refine (valid_any _ _).mono ?_; rintro e w' ⟨rfl, rfl⟩) | (go_at_call 61; refine (fit_any _ _).mono ?_; rintro e w' ⟨rfl, rfl⟩))
      go_ret2
      exact ⟨ret_ii (by simp [addV, bothB, ha, hb]) (by simp [addE, bothB, ha, hb]), rfl⟩
theorem sub_any (a b : Int) (w : World) :
    Calls Tryz.prog 38 #[.int .i64 a, .int .i64 b] w fun e w' => e = .returned (.tuple #[.int .i64 (subV a b), .int .i64 (subE a b)]) ∧ w = w' := by
  cases ha : vldB a
  · go_enter Tryz.func38, Tryz.ntmps38
    go_wp2_with (go_at_call 60; refine (valid_any _ _).mono ?_; rintro e w' ⟨rfl, rfl⟩)
    go_ret2
    exact ⟨ret_ii (by simp [subV, bothB, ha]) (by simp [subE, bothB, ha]), rfl⟩
  · cases hb : vldB b
    · go_enter Tryz.func38, Tryz.ntmps38
      go_wp2_with (go_at_call 60; refine (valid_any _ _).mono ?_; rintro e w' ⟨rfl, rfl⟩)
      go_ret2
      exact ⟨ret_ii (by simp [subV, bothB, ha, hb]) (by simp [subE, bothB, ha, hb]), rfl⟩
    · have h1 := vld_iff.1 ha
      have h2 := vld_iff.1 hb
      go_enter Tryz.func38, Tryz.ntmps38
      go_wp2_with (first | (go_at_call 60; refine (valid_any _ _).mono ?_; rintro e w' ⟨rfl, rfl⟩) | (go_at_call 61; refine (fit_any _ _).mono ?_; rintro e w' ⟨rfl, rfl⟩))
      go_ret2
      exact ⟨ret_ii (by simp [subV, bothB, ha, hb]) (by simp [subE, bothB, ha, hb]), rfl⟩
theorem div_any (a b : Int) (w : World) :
    Calls Tryz.prog 40 #[.int .i64 a, .int .i64 b] w fun e w' => e = .returned (.tuple #[.int .i64 (divV a b), .int .i64 (divE a b)]) ∧ w = w' := by
  cases ha : vldB a
  · go_enter Tryz.func40, Tryz.ntmps40
    go_wp2_with (go_at_call 60; refine (valid_any _ _).mono ?_; rintro e w' ⟨rfl, rfl⟩)
    go_ret2
    exact ⟨ret_ii (by simp [divV, bothB, ha]) (by simp [divE, bothB, ha]), rfl⟩
  · cases hb : vldB b
    · go_enter Tryz.func40, Tryz.ntmps40
      go_wp2_with (go_at_call 60; refine (valid_any _ _).mono ?_; rintro e w' ⟨rfl, rfl⟩)
      go_ret2
      exact ⟨ret_ii (by simp [divV, bothB, ha, hb]) (by simp [divE, bothB, ha, hb]), rfl⟩
    · have h1 := vld_iff.1 ha
      have h2 := vld_iff.1 hb
      by_cases h0 : b = 0
      · subst h0
        go_enter Tryz.func40, Tryz.ntmps40
        go_wp2_with (first | (go_at_call 60; refine (valid_any _ _).mono ?_; rintro e w' ⟨rfl, rfl⟩) | (go_at_call 61; refine (fit_any _ _).mono ?_; rintro e w' ⟨rfl, rfl⟩))
        go_ret2
        exact ⟨ret_ii (by simp [divV, bothB, ha, hb]) (by simp [divE, bothB, ha, hb]), rfl⟩
      · have hz : (b == 0) = false := by simpa using h0
        go_enter Tryz.func40, Tryz.ntmps40
        go_wp2_with (first | (go_at_call 60; refine (valid_any _ _).mono ?_; rintro e w' ⟨rfl, rfl⟩) | (go_at_call 61; refine (fit_any _ _).mono ?_; rintro e w' ⟨rfl, rfl⟩))
        go_ret2
        exact ⟨ret_ii (by simp [divV, bothB, ha, hb, h0]; rw [wdiv (by omega)]) (by simp [divE, bothB, ha, hb, h0]; rw [wdiv (by omega)]), rfl⟩
theorem mod_any (a b : Int) (w : World) :
    Calls Tryz.prog 41 #[.int .i64 a, .int .i64 b] w fun e w' => e = .returned (.tuple #[.int .i64 (modV a b), .int .i64 (modE a b)]) ∧ w = w' := by
  cases ha : vldB a
  · go_enter Tryz.func41, Tryz.ntmps41
    go_wp2_with (go_at_call 60; refine (valid_any _ _).mono ?_; rintro e w' ⟨rfl, rfl⟩)
    go_ret2
    exact ⟨ret_ii (by simp [modV, bothB, ha]) (by simp [modE, bothB, ha]), rfl⟩
  · cases hb : vldB b
    · go_enter Tryz.func41, Tryz.ntmps41
      go_wp2_with (go_at_call 60; refine (valid_any _ _).mono ?_; rintro e w' ⟨rfl, rfl⟩)
      go_ret2
      exact ⟨ret_ii (by simp [modV, bothB, ha, hb]) (by simp [modE, bothB, ha, hb]), rfl⟩
    · have h1 := vld_iff.1 ha
      have h2 := vld_iff.1 hb
      by_cases h0 : b = 0
      · subst h0
        go_enter Tryz.func41, Tryz.ntmps41
        go_wp2_with (first | (go_at_call 60; refine (valid_any _ _).mono ?_; rintro e w' ⟨rfl, rfl⟩) | (go_at_call 61; refine (fit_any _ _).mono ?_; rintro e w' ⟨rfl, rfl⟩))
        go_ret2
        exact ⟨ret_ii (by simp [modV, bothB, ha, hb]) (by simp [modE, bothB, ha, hb]), rfl⟩
      · have hz : (b == 0) = false := by simpa using h0
        go_enter Tryz.func41, Tryz.ntmps41
        go_wp2_with (first | (go_at_call 60; refine (valid_any _ _).mono ?_; rintro e w' ⟨rfl, rfl⟩) | (go_at_call 61; refine (fit_any _ _).mono ?_; rintro e w' ⟨rfl, rfl⟩))
        go_ret2
        exact ⟨ret_ii (by simp [modV, bothB, ha, hb, h0]) (by simp [modE, bothB, ha, hb, h0]), rfl⟩
theorem int_any (d : Int) (w : World) :
    Calls Tryz.prog 43 #[.int .i64 d] w fun e w' => e = .returned (.int .i64 (toInt d)) ∧ w = w' := by
  have h1 := near_lo d
  have h2 := near_hi d
  go_enter Tryz.func43, Tryz.ntmps43
  go_wp2_with (go_at_call 50; refine (near_any _ _).mono ?_; rintro e w' ⟨rfl, rfl⟩)
  go_ret
  exact ⟨ret_int (by simp [toInt]), rfl⟩
end Go.Proofs.YtjngkapfngempaaGreatDoor
