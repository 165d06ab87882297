/- walks -/
import Derived.Test.YtjngkapfngempaaDoorRows
import Derived.Test.YtjngkapfngempaaDoorPlain
import Derived.WalkKit
import Derived.WalkSpells
import Derived.WalkLawsBesides
import Derived.Lib.Hide
namespace Go.Proofs.YtjngkapfngempaaDoor
open Go.RowKit
open Dcm

theorem ret_int {k : IntKind} {a b : Int} (h : a = b) : Ending.returned (.int k a) = .returned (.int k b) := by rw [h]
theorem ret_bool {a b : Bool} (h : a = b) : Ending.returned (.bool a) = .returned (.bool b) := by rw [h]
theorem ret_ii {k l : IntKind} {a b c d : Int} (h : a = b) (h' : c = d) : Ending.returned (.tuple #[.int k a, .int l c]) = .returned (.tuple #[.int k b, .int l d]) := by rw [h, h']

theorem valid_any (d : Int) (w : World) :
    Calls Tryd.prog 60 #[.int .i64 d] w fun e w' => e = .returned (.bool (vldB d)) ∧ w = w' := by
  go_enter Tryd.func60, Tryd.ntmps60
  go_wp2
  all_goals go_ret
  all_goals exact ⟨ret_bool (by simp [vldB]; try omega), rfl⟩
theorem rvalid_any (d : Int) (w : World) :
    Calls Tryd.prog 86 #[.int .i64 d] w fun e w' => e = .returned (.bool (vldB d)) ∧ w = w' := by
  go_enter Tryd.func86, Tryd.ntmps86
  go_wp2
  all_goals go_ret
  all_goals exact ⟨ret_bool (by simp [vldB]; try omega), rfl⟩
theorem near_any (d : Int) (w : World) :
    Calls Tryd.prog 54 #[.int .i64 d] w fun e w' => e = .returned (.int .i64 (near d)) ∧ w = w' := by
  go_enter Tryd.func54, Tryd.ntmps54
  go_wp2
  all_goals go_ret
  all_goals exact ⟨ret_int (by unfold near; omega), rfl⟩
theorem rnear_any (d : Int) (w : World) :
    Calls Tryd.prog 56 #[.int .i64 d] w fun e w' => e = .returned (.int .i64 (near d)) ∧ w = w' := by
  go_enter Tryd.func56, Tryd.ntmps56
  go_wp2
  all_goals go_ret
  all_goals exact ⟨ret_int (by unfold near; omega), rfl⟩
theorem size_any (d : Int) (w : World) (h1 : -10000000000000 ≤ d) (h2 : d ≤ 10000000000000) :
    Calls Tryd.prog 63 #[.int .i64 d] w fun e w' => e = .returned (.int .u64 (sz d)) ∧ w = w' := by
  go_enter Tryd.func63, Tryd.ntmps63
  go_wp2
  all_goals go_ret
  all_goals exact ⟨ret_int (by unfold sz; omega), rfl⟩
theorem rsize_any (d : Int) (w : World) (h1 : -10000000000000 ≤ d) (h2 : d ≤ 10000000000000) :
    Calls Tryd.prog 57 #[.int .i64 d] w fun e w' => e = .returned (.int .i64 (sz d)) ∧ w = w' := by
  go_enter Tryd.func57, Tryd.ntmps57
  go_wp2
  all_goals go_ret
  all_goals exact ⟨ret_int (by unfold sz; omega), rfl⟩
theorem w64 {n : Int} (h1 : -1000000000000000000 ≤ n) (h2 : n ≤ 1000000000000000000) : wrap64 n = n := by unfold wrap64; omega
theorem wdiv {x b : Int} (h : -1000000000000000000 ≤ x ∧ x ≤ 1000000000000000000) : wrap64 (x.tdiv b) = x.tdiv b :=
  w64 (tdiv_bd x b _ h.1 h.2).1 (tdiv_bd x b _ h.1 h.2).2
theorem wmod {x b : Int} (h : -100000000000000000 ≤ x ∧ x ≤ 100000000000000000) : wrap64 (x - wrap64 (wrap64 (x.tdiv b) * b)) = x.tmod b := by
  have := tmod_bd x b _ h.1 h.2
  rw [wdiv (by omega), tdiv_mul, w64 (n := x - x.tmod b) (by omega) (by omega), w64 (n := x - (x - x.tmod b)) (by omega) (by omega)]
  omega
theorem fit_any (d : Int) (w : World) :
    Calls Tryd.prog 61 #[.int .i64 d] w fun e w' => e = .returned (.tuple #[.int .i64 (fitV d), .int .i64 (fitE d)]) ∧ w = w' := by
  cases hv : vldB d
  all_goals
    go_enter Tryd.func61, Tryd.ntmps61
    go_wp2_with (go_at_call 60; refine (valid_any _ _).mono ?_; rintro e w' ⟨rfl, rfl⟩)
    go_ret2
    exact ⟨ret_ii (by simp [fitV, hv]) (by simp [fitE, hv]), rfl⟩
theorem rfits_any (d : Int) (w : World) :
    Calls Tryd.prog 87 #[.int .i64 d] w fun e w' => e = .returned (.tuple #[.int .i64 (fitV d), .int .i64 (fitE d)]) ∧ w = w' := by
  cases hv : vldB d
  all_goals
    go_enter Tryd.func87, Tryd.ntmps87
    go_wp2_with (go_at_call 86; refine (rvalid_any _ _).mono ?_; rintro e w' ⟨rfl, rfl⟩)
    go_ret2
    exact ⟨ret_ii (by simp [fitV, hv]) (by simp [fitE, hv]), rfl⟩
theorem add_any (a b : Int) (w : World) :
    Calls Tryd.prog 34 #[.int .i64 a, .int .i64 b] w fun e w' => e = .returned (.tuple #[.int .i64 (addV a b), .int .i64 (addE a b)]) ∧ w = w' := by
  cases ha : vldB a
  · go_enter Tryd.func34, Tryd.ntmps34
    go_wp2_with (go_at_call 60; refine (valid_any _ _).mono ?_; rintro e w' ⟨rfl, rfl⟩)
    go_ret2
    exact ⟨ret_ii (by simp [addV, bothB, ha]) (by simp [addE, bothB, ha]), rfl⟩
  · cases hb : vldB b
    · go_enter Tryd.func34, Tryd.ntmps34
      go_wp2_with (go_at_call 60; refine (valid_any _ _).mono ?_; rintro e w' ⟨rfl, rfl⟩)
      go_ret2
      exact ⟨ret_ii (by simp [addV, bothB, ha, hb]) (by simp [addE, bothB, ha, hb]), rfl⟩
    · have h1 := vld_iff.1 ha
      have h2 := vld_iff.1 hb
      go_enter Tryd.func34, Tryd.ntmps34
      go_wp2_with (first | (go_at_call 60; refine (valid_any _ _).mono ?_; rintro e w' ⟨rfl, rfl⟩) | (go_at_call 61; refine (fit_any _ _).mono ?_; rintro e w' ⟨rfl, rfl⟩))
      go_ret2
      exact ⟨ret_ii (by simp [addV, bothB, ha, hb]) (by simp [addE, bothB, ha, hb]), rfl⟩
theorem radd_any (a b : Int) (w : World) :
    Calls Tryd.prog 65 #[.int .i64 a, .int .i64 b] w fun e w' => e = .returned (.tuple #[.int .i64 (addV a b), .int .i64 (addE a b)]) ∧ w = w' := by
  cases ha : vldB a
  · go_enter Tryd.func65, Tryd.ntmps65
    go_wp2_with (go_at_call 86; refine (rvalid_any _ _).mono ?_; rintro e w' ⟨rfl, rfl⟩)
    go_ret2
    exact ⟨ret_ii (by simp [addV, bothB, ha]) (by simp [addE, bothB, ha]), rfl⟩
  · cases hb : vldB b
    · go_enter Tryd.func65, Tryd.ntmps65
      go_wp2_with (go_at_call 86; refine (rvalid_any _ _).mono ?_; rintro e w' ⟨rfl, rfl⟩)
      go_ret2
      exact ⟨ret_ii (by simp [addV, bothB, ha, hb]) (by simp [addE, bothB, ha, hb]), rfl⟩
    · have h1 := vld_iff.1 ha
      have h2 := vld_iff.1 hb
      go_enter Tryd.func65, Tryd.ntmps65
      go_wp2_with (first | (go_at_call 86; refine (rvalid_any _ _).mono ?_; rintro e w' ⟨rfl, rfl⟩) | (go_at_call 87; refine (rfits_any _ _).mono ?_; rintro e w' ⟨rfl, rfl⟩))
      go_ret2
      exact ⟨ret_ii (by simp [addV, bothB, ha, hb]) (by simp [addE, bothB, ha, hb]), rfl⟩
theorem sub_any (a b : Int) (w : World) :
    Calls Tryd.prog 35 #[.int .i64 a, .int .i64 b] w fun e w' => e = .returned (.tuple #[.int .i64 (subV a b), .int .i64 (subE a b)]) ∧ w = w' := by
  cases ha : vldB a
  · go_enter Tryd.func35, Tryd.ntmps35
    go_wp2_with (go_at_call 60; refine (valid_any _ _).mono ?_; rintro e w' ⟨rfl, rfl⟩)
    go_ret2
    exact ⟨ret_ii (by simp [subV, bothB, ha]) (by simp [subE, bothB, ha]), rfl⟩
  · cases hb : vldB b
    · go_enter Tryd.func35, Tryd.ntmps35
      go_wp2_with (go_at_call 60; refine (valid_any _ _).mono ?_; rintro e w' ⟨rfl, rfl⟩)
      go_ret2
      exact ⟨ret_ii (by simp [subV, bothB, ha, hb]) (by simp [subE, bothB, ha, hb]), rfl⟩
    · have h1 := vld_iff.1 ha
      have h2 := vld_iff.1 hb
      go_enter Tryd.func35, Tryd.ntmps35
      go_wp2_with (first | (go_at_call 60; refine (valid_any _ _).mono ?_; rintro e w' ⟨rfl, rfl⟩) | (go_at_call 61; refine (fit_any _ _).mono ?_; rintro e w' ⟨rfl, rfl⟩))
      go_ret2
      exact ⟨ret_ii (by simp [subV, bothB, ha, hb]) (by simp [subE, bothB, ha, hb]), rfl⟩
theorem rsub_any (a b : Int) (w : World) :
    Calls Tryd.prog 66 #[.int .i64 a, .int .i64 b] w fun e w' => e = .returned (.tuple #[.int .i64 (subV a b), .int .i64 (subE a b)]) ∧ w = w' := by
  cases ha : vldB a
  · go_enter Tryd.func66, Tryd.ntmps66
    go_wp2_with (go_at_call 86; refine (rvalid_any _ _).mono ?_; rintro e w' ⟨rfl, rfl⟩)
    go_ret2
    exact ⟨ret_ii (by simp [subV, bothB, ha]) (by simp [subE, bothB, ha]), rfl⟩
  · cases hb : vldB b
    · go_enter Tryd.func66, Tryd.ntmps66
      go_wp2_with (go_at_call 86; refine (rvalid_any _ _).mono ?_; rintro e w' ⟨rfl, rfl⟩)
      go_ret2
      exact ⟨ret_ii (by simp [subV, bothB, ha, hb]) (by simp [subE, bothB, ha, hb]), rfl⟩
    · have h1 := vld_iff.1 ha
      have h2 := vld_iff.1 hb
      go_enter Tryd.func66, Tryd.ntmps66
      go_wp2_with (first | (go_at_call 86; refine (rvalid_any _ _).mono ?_; rintro e w' ⟨rfl, rfl⟩) | (go_at_call 87; refine (rfits_any _ _).mono ?_; rintro e w' ⟨rfl, rfl⟩))
      go_ret2
      exact ⟨ret_ii (by simp [subV, bothB, ha, hb]) (by simp [subE, bothB, ha, hb]), rfl⟩
theorem div_any (a b : Int) (w : World) :
    Calls Tryd.prog 37 #[.int .i64 a, .int .i64 b] w fun e w' => e = .returned (.tuple #[.int .i64 (divV a b), .int .i64 (divE a b)]) ∧ w = w' := by
  cases ha : vldB a
  · go_enter Tryd.func37, Tryd.ntmps37
    go_wp2_with (go_at_call 60; refine (valid_any _ _).mono ?_; rintro e w' ⟨rfl, rfl⟩)
    go_ret2
    exact ⟨ret_ii (by simp [divV, bothB, ha]) (by simp [divE, bothB, ha]), rfl⟩
  · cases hb : vldB b
    · go_enter Tryd.func37, Tryd.ntmps37
      go_wp2_with (go_at_call 60; refine (valid_any _ _).mono ?_; rintro e w' ⟨rfl, rfl⟩)
      go_ret2
      exact ⟨ret_ii (by simp [divV, bothB, ha, hb]) (by simp [divE, bothB, ha, hb]), rfl⟩
    · have h1 := vld_iff.1 ha
      have h2 := vld_iff.1 hb
      by_cases h0 : b = 0
      · subst h0
        go_enter Tryd.func37, Tryd.ntmps37
        go_wp2_with (first | (go_at_call 60; refine (valid_any _ _).mono ?_; rintro e w' ⟨rfl, rfl⟩) | (go_at_call 61; refine (fit_any _ _).mono ?_; rintro e w' ⟨rfl, rfl⟩))
        go_ret2
        exact ⟨ret_ii (by simp [divV, bothB, ha, hb]) (by simp [divE, bothB, ha, hb]), rfl⟩
      · have hz : (b == 0) = false := by simpa using h0
        go_enter Tryd.func37, Tryd.ntmps37
        go_wp2_with (first | (go_at_call 60; refine (valid_any _ _).mono ?_; rintro e w' ⟨rfl, rfl⟩) | (go_at_call 61; refine (fit_any _ _).mono ?_; rintro e w' ⟨rfl, rfl⟩))
        go_ret2
        exact ⟨ret_ii (by simp [divV, bothB, ha, hb, h0]; rw [wdiv (by omega)]) (by simp [divE, bothB, ha, hb, h0]; rw [wdiv (by omega)]), rfl⟩
theorem rdiv_any (a b : Int) (w : World) :
    Calls Tryd.prog 68 #[.int .i64 a, .int .i64 b] w fun e w' => e = .returned (.tuple #[.int .i64 (divV a b), .int .i64 (divE a b)]) ∧ w = w' := by
  cases ha : vldB a
  · go_enter Tryd.func68, Tryd.ntmps68
    go_wp2_with (go_at_call 86; refine (rvalid_any _ _).mono ?_; rintro e w' ⟨rfl, rfl⟩)
    go_ret2
    exact ⟨ret_ii (by simp [divV, bothB, ha]) (by simp [divE, bothB, ha]), rfl⟩
  · cases hb : vldB b
    · go_enter Tryd.func68, Tryd.ntmps68
      go_wp2_with (go_at_call 86; refine (rvalid_any _ _).mono ?_; rintro e w' ⟨rfl, rfl⟩)
      go_ret2
      exact ⟨ret_ii (by simp [divV, bothB, ha, hb]) (by simp [divE, bothB, ha, hb]), rfl⟩
    · have h1 := vld_iff.1 ha
      have h2 := vld_iff.1 hb
      by_cases h0 : b = 0
      · subst h0
        go_enter Tryd.func68, Tryd.ntmps68
        go_wp2_with (first | (go_at_call 86; refine (rvalid_any _ _).mono ?_; rintro e w' ⟨rfl, rfl⟩) | (go_at_call 87; refine (rfits_any _ _).mono ?_; rintro e w' ⟨rfl, rfl⟩))
        go_ret2
        exact ⟨ret_ii (by simp [divV, bothB, ha, hb]) (by simp [divE, bothB, ha, hb]), rfl⟩
      · have hz : (b == 0) = false := by simpa using h0
        go_enter Tryd.func68, Tryd.ntmps68
        go_wp2_with (first | (go_at_call 86; refine (rvalid_any _ _).mono ?_; rintro e w' ⟨rfl, rfl⟩) | (go_at_call 87; refine (rfits_any _ _).mono ?_; rintro e w' ⟨rfl, rfl⟩))
        go_ret2
        exact ⟨ret_ii (by simp [divV, bothB, ha, hb, h0]; rw [wdiv (by omega)]) (by simp [divE, bothB, ha, hb, h0]; rw [wdiv (by omega)]), rfl⟩
theorem mod_any (a b : Int) (w : World) :
    Calls Tryd.prog 38 #[.int .i64 a, .int .i64 b] w fun e w' => e = .returned (.tuple #[.int .i64 (modV a b), .int .i64 (modE a b)]) ∧ w = w' := by
  cases ha : vldB a
  · go_enter Tryd.func38, Tryd.ntmps38
    go_wp2_with (go_at_call 60; refine (valid_any _ _).mono ?_; rintro e w' ⟨rfl, rfl⟩)
    go_ret2
    exact ⟨ret_ii (by simp [modV, bothB, ha]) (by simp [modE, bothB, ha]), rfl⟩
  · cases hb : vldB b
    · go_enter Tryd.func38, Tryd.ntmps38
      go_wp2_with (go_at_call 60; refine (valid_any _ _).mono ?_; rintro e w' ⟨rfl, rfl⟩)
      go_ret2
      exact ⟨ret_ii (by simp [modV, bothB, ha, hb]) (by simp [modE, bothB, ha, hb]), rfl⟩
    · have h1 := vld_iff.1 ha
      have h2 := vld_iff.1 hb
      by_cases h0 : b = 0
      · subst h0
        go_enter Tryd.func38, Tryd.ntmps38
        go_wp2_with (first | (go_at_call 60; refine (valid_any _ _).mono ?_; rintro e w' ⟨rfl, rfl⟩) | (go_at_call 61; refine (fit_any _ _).mono ?_; rintro e w' ⟨rfl, rfl⟩))
        go_ret2
        exact ⟨ret_ii (by simp [modV, bothB, ha, hb]) (by simp [modE, bothB, ha, hb]), rfl⟩
      · have hz : (b == 0) = false := by simpa using h0
        go_enter Tryd.func38, Tryd.ntmps38
        go_wp2_with (first | (go_at_call 60; refine (valid_any _ _).mono ?_; rintro e w' ⟨rfl, rfl⟩) | (go_at_call 61; refine (fit_any _ _).mono ?_; rintro e w' ⟨rfl, rfl⟩))
        go_ret2
        exact ⟨ret_ii (by simp [modV, bothB, ha, hb, h0]) (by simp [modE, bothB, ha, hb, h0]), rfl⟩
theorem rmod_any (a b : Int) (w : World) :
    Calls Tryd.prog 69 #[.int .i64 a, .int .i64 b] w fun e w' => e = .returned (.tuple #[.int .i64 (modV a b), .int .i64 (modE a b)]) ∧ w = w' := by
  cases ha : vldB a
  · go_enter Tryd.func69, Tryd.ntmps69
    go_wp2_with (go_at_call 86; refine (rvalid_any _ _).mono ?_; rintro e w' ⟨rfl, rfl⟩)
    go_ret2
    exact ⟨ret_ii (by simp [modV, bothB, ha]) (by simp [modE, bothB, ha]), rfl⟩
  · cases hb : vldB b
    · go_enter Tryd.func69, Tryd.ntmps69
      go_wp2_with (go_at_call 86; refine (rvalid_any _ _).mono ?_; rintro e w' ⟨rfl, rfl⟩)
      go_ret2
      exact ⟨ret_ii (by simp [modV, bothB, ha, hb]) (by simp [modE, bothB, ha, hb]), rfl⟩
    · have h1 := vld_iff.1 ha
      have h2 := vld_iff.1 hb
      by_cases h0 : b = 0
      · subst h0
        go_enter Tryd.func69, Tryd.ntmps69
        go_wp2_with (first | (go_at_call 86; refine (rvalid_any _ _).mono ?_; rintro e w' ⟨rfl, rfl⟩) | (go_at_call 87; refine (rfits_any _ _).mono ?_; rintro e w' ⟨rfl, rfl⟩))
        go_ret2
        exact ⟨ret_ii (by simp [modV, bothB, ha, hb]) (by simp [modE, bothB, ha, hb]), rfl⟩
      · have hz : (b == 0) = false := by simpa using h0
        go_enter Tryd.func69, Tryd.ntmps69
        go_wp2_with (first | (go_at_call 86; refine (rvalid_any _ _).mono ?_; rintro e w' ⟨rfl, rfl⟩) | (go_at_call 87; refine (rfits_any _ _).mono ?_; rintro e w' ⟨rfl, rfl⟩))
        go_ret2
        exact ⟨ret_ii (by simp [modV, bothB, ha, hb, h0]; rw [wmod (by omega)]) (by simp [modE, bothB, ha, hb, h0]), rfl⟩

theorem int_any (d : Int) (w : World) :
    Calls Tryd.prog 40 #[.int .i64 d] w fun e w' => e = .returned (.int .i64 (toInt d)) ∧ w = w' := by
  have h1 := near_lo d
  have h2 := near_hi d
  go_enter Tryd.func40, Tryd.ntmps40
  go_wp2_with (go_at_call 54; refine (near_any _ _).mono ?_; rintro e w' ⟨rfl, rfl⟩)
  go_ret
  exact ⟨ret_int (by simp [toInt]), rfl⟩
theorem rint_any (d : Int) (w : World) :
    Calls Tryd.prog 71 #[.int .i64 d] w fun e w' => e = .returned (.int .i64 (toInt d)) ∧ w = w' := by
  have h1 := near_lo d
  have h2 := near_hi d
  go_enter Tryd.func71, Tryd.ntmps71
  go_wp2_with (go_at_call 56; refine (rnear_any _ _).mono ?_; rintro e w' ⟨rfl, rfl⟩)
  go_ret
  exact ⟨ret_int (by simp [toInt]), rfl⟩
end Go.Proofs.YtjngkapfngempaaDoor
