/- walks: the reference's Mul, powers -/
import Derived.Test.YtjngkapfngempaaDoorWc
namespace Go.Proofs.YtjngkapfngempaaDoor
open Go.RowKit
open Dcm
set_option maxHeartbeats 1000000 in
theorem rmul_any (a b : Int) (w : World) :
    Calls Tryd.prog 67 #[.int .i64 a, .int .i64 b] w fun e w' => e = .returned (.tuple #[.int .i64 (mulV a b), .int .i64 (mulE a b)]) ∧ w = w' := by
  cases ha : vldB a
  · go_enter Tryd.func67, Tryd.ntmps67
    go_wp2_with (go_at_call 86; refine (rvalid_any _ _).mono ?_; rintro e w' ⟨rfl, rfl⟩)
    go_ret2
    exact ⟨ret_ii (by simp [mulV, bothB, ha]) (by simp [mulE, bothB, ha]), rfl⟩
  · cases hb : vldB b
    · go_enter Tryd.func67, Tryd.ntmps67
      go_wp2_with (go_at_call 86; refine (rvalid_any _ _).mono ?_; rintro e w' ⟨rfl, rfl⟩)
      go_ret2
      exact ⟨ret_ii (by simp [mulV, bothB, ha, hb]) (by simp [mulE, bothB, ha, hb]), rfl⟩
    · obtain ⟨a1, a2⟩ := vld_iff.1 ha
      obtain ⟨b1, b2⟩ := vld_iff.1 hb
      by_cases h0 : a = 0
      · subst h0
        go_enter Tryd.func67, Tryd.ntmps67
        go_wp2_with (first | (go_at_call 86; refine (rvalid_any _ _).mono ?_; rintro e w' ⟨rfl, rfl⟩) | (go_at_call 87; refine (rfits_any _ _).mono ?_; rintro e w' ⟨rfl, rfl⟩))
        go_ret2
        exact ⟨ret_ii (by simp [mulV, bothB, ha, hb]) (by simp [mulE, bothB, ha, hb]), rfl⟩
      · have hz : (a != 0) = true := by simpa using h0
        have s1 := sz_gt a h0
        have s2 := (sz_le a a1 a2).2
        by_cases hg : 100000000000009999 / sz a < sz b
        · have Fb := Lib.hid (sz_mul_gt a b h0 hg)
          have hd : decide (100000000000009999 / sz a < sz b) = true := by simpa using hg
          clear hg
          go_enter Tryd.func67, Tryd.ntmps67
          go_wp2_with (first | (go_at_call 86; refine (rvalid_any _ _).mono ?_; rintro e w' ⟨rfl, rfl⟩) | (go_at_call 57; (first | (with_reducible refine (rsize_any a _ a1 a2).mono ?_) | (with_reducible refine (rsize_any b _ b1 b2).mono ?_)); rintro e w' ⟨rfl, rfl⟩) | (go_at_call 87; refine (rfits_any _ _).mono ?_; rintro e w' ⟨rfl, rfl⟩))
          go_ret2
          exact ⟨ret_ii (by simp [mulV, bothB, ha, hb, fitV, Fb.out]) (by simp [mulE, bothB, ha, hb, fitE, Fb.out]), rfl⟩
        · obtain ⟨p1, p2⟩ := sz_mul_le a b h0 (Int.not_lt.1 hg)
          have hd : decide (100000000000009999 / sz a < sz b) = false := by simpa using hg
          clear hg
          go_enter Tryd.func67, Tryd.ntmps67
          go_wp2_with (first | (go_at_call 86; refine (rvalid_any _ _).mono ?_; rintro e w' ⟨rfl, rfl⟩) | (go_at_call 57; (first | (with_reducible refine (rsize_any a _ a1 a2).mono ?_) | (with_reducible refine (rsize_any b _ b1 b2).mono ?_)); rintro e w' ⟨rfl, rfl⟩) | (go_at_call 87; refine (rfits_any _ _).mono ?_; rintro e w' ⟨rfl, rfl⟩))
          go_ret2
          exact ⟨ret_ii (by simp [mulV, bothB, ha, hb]) (by simp [mulE, bothB, ha, hb]), rfl⟩
end Go.Proofs.YtjngkapfngempaaDoor
