/- walks: digits, values -/
import Derived.Test.YtjngkapfngempaaDoorWa
import Derived.Test.YtjngkapfngempaaDoorByt
namespace Go.Proofs.YtjngkapfngempaaDoor
open Go.RowKit
open Dcm Byt
set_option linter.unusedVariables false
theorem ret_ib {k : IntKind} {a b : Int} {c d : Bool} (h : a = b) (h' : c = d) : Ending.returned (.tuple #[.int k a, .bool c]) = .returned (.tuple #[.int k b, .bool d]) := by rw [h, h']
set_option maxHeartbeats 1000000 in
theorem digits_any (s : ByteArray) (w : World) (hs : s.size ≤ 9223372036854775807) :
    Calls Tryd.prog 50 #[.string s] w fun e w' => e = .returned (.int .i64 (run dg s.data.toList : Nat)) ∧ w = w' := by
  go_enter Tryd.func50, Tryd.ntmps50
  go_wp2
  go_loop [3] (fun n => ∃ k : Nat, k ≤ s.size ∧ n = .int .i64 k ∧ k + run dg (s.data.toList.drop k) = run dg s.data.toList) (fun n => s.size - (intOf n).toNat)
  case atStart => exact ⟨0, Nat.zero_le _, rfl, by simp⟩
  case round =>
    obtain ⟨k, hk, rfl, hI⟩ := hrel
    have H := Lib.hid hI; clear hI
    by_cases hlt : k < s.size
    · have R := Lib.hid (run_lt dg s k hlt)
      rcases dg_cases s[k] with ⟨hd, h1, h2⟩ | ⟨hd, h1⟩ | ⟨hd, h1, h2⟩
      · have D := Lib.hid hd; clear hd
        go_wp2
        go_round
        case rel => exact ⟨k + 1, by omega, by go_num, by have := H.out; rw [R.out, D.out, if_pos rfl] at this; omega⟩
        case measure => simp [intOf]; omega
      · have D := Lib.hid hd; clear hd
        go_wp2
        go_ret
        exact ⟨ret_int (by have := H.out; rw [R.out, D.out, if_neg (by simp)] at this; omega), rfl⟩
      · have D := Lib.hid hd; clear hd
        go_wp2
        go_ret
        exact ⟨ret_int (by have := H.out; rw [R.out, D.out, if_neg (by simp)] at this; omega), rfl⟩
    · have R := Lib.hid (run_ge dg s k (by omega))
      go_wp2
      go_ret
      exact ⟨ret_int (by have := H.out; rw [R.out] at this; omega), rfl⟩
end Go.Proofs.YtjngkapfngempaaDoor
namespace Go.Proofs.YtjngkapfngempaaDoor
open Go.RowKit
open Dcm Byt
set_option linter.unusedVariables false
set_option maxHeartbeats 1000000 in
theorem rdigits_any (s : ByteArray) (at_ : Nat) (w : World) (hs : s.size ≤ 9223372036854775807) (ha : at_ ≤ s.size) :
    Calls Tryd.prog 52 #[.string s, .int .i64 (at_ : Int)] w fun e w' => e = .returned (.int .i64 ((at_ + run dg (s.data.toList.drop at_) : Nat) : Int)) ∧ w = w' := by
  go_enter Tryd.func52, Tryd.ntmps52
  go_wp2
  go_loop [1] (fun n => ∃ k : Nat, k ≤ s.size ∧ n = .int .i64 k ∧ k + run dg (s.data.toList.drop k) = at_ + run dg (s.data.toList.drop at_)) (fun n => s.size - (intOf n).toNat)
  case atStart => exact ⟨at_, ha, rfl, by simp⟩
  case round =>
    obtain ⟨k, hk, rfl, hI⟩ := hrel
    have H := Lib.hid hI; clear hI
    by_cases hlt : k < s.size
    · have R := Lib.hid (run_lt dg s k hlt)
      rcases dg_cases s[k] with ⟨hd, h1, h2⟩ | ⟨hd, h1⟩ | ⟨hd, h1, h2⟩
      · have D := Lib.hid hd; clear hd
        go_wp2
        go_round
        case rel => exact ⟨k + 1, by omega, by go_num, by have := H.out; rw [R.out, D.out, if_pos rfl] at this; omega⟩
        case measure => simp [intOf]; omega
      · have D := Lib.hid hd; clear hd
        go_wp2
        go_ret
        exact ⟨ret_int (by have := H.out; rw [R.out, D.out, if_neg (by simp)] at this; omega), rfl⟩
      · have D := Lib.hid hd; clear hd
        go_wp2
        go_ret
        exact ⟨ret_int (by have := H.out; rw [R.out, D.out, if_neg (by simp)] at this; omega), rfl⟩
    · have R := Lib.hid (run_ge dg s k (by omega))
      go_wp2
      go_ret
      exact ⟨ret_int (by have := H.out; rw [R.out] at this; omega), rfl⟩
set_option maxHeartbeats 1000000 in
theorem fraction_any (s : ByteArray) (w : World) (hs : s.size ≤ 9223372036854775807) (hd : Hid (∀ c ∈ s.data.toList, dg c = true)) :
    Calls Tryd.prog 76 #[.string s] w fun e w' => e = .returned (.int .i64 (fr 4 s.data.toList 0)) ∧ w = w' := by
  go_enter Tryd.func76, Tryd.ntmps76
  go_wp2
  go_loop [3, 5] (fun d i => ∃ (k : Nat) (D : Int), k ≤ 4 ∧ i = .int .i64 k ∧ d = .int .i64 D ∧ FrI s.data.toList 0 k D) (fun _ i => 4 - (intOf i).toNat)
  case atStart => exact ⟨0, 0, by omega, rfl, rfl, FrI.start _ 0 (by omega)⟩
  case round =>
    obtain ⟨k, D, hk, rfl, rfl, hI⟩ := hrel
    have h0 := hI.lo
    by_cases hlt : k < 4
    · have h1 := hI.bd hlt (by omega)
      simp only [Int.zero_add] at h1
      by_cases hks : k < s.size
      · have R := hI.hit hd.out hlt hks
        obtain ⟨c1, c2⟩ := dig_get s hd.out k hks
        go_wp2
        go_round
        case rel => exact ⟨k + 1, _, by omega, by go_num, by rw [Int.mul_comm], R⟩
        case measure => simp [intOf]; omega
      · have R := hI.miss hlt (by omega)
        go_wp2
        go_round
        case rel => exact ⟨k + 1, _, by omega, by go_num, by rw [Int.mul_comm], R⟩
        case measure => simp [intOf]; omega
    · obtain rfl : k = 4 := by omega
      have R := Lib.hid hI.done
      go_wp2
      go_ret
      exact ⟨ret_int R.out, rfl⟩
theorem value_none (a f : List UInt8) (h : val a 0 = none) : valueV a f = 10000000000001 := by simp [valueV, h]
theorem value_some (a f : List UInt8) (v : Int) (h : val a 0 = some v) : valueV a f = min 10000000000001 (v * 10000 + fr 4 f 0) := by simp [valueV, h]
theorem number_none (a f : List UInt8) (h : val a 0 = none) : numberV a f = 0 ∧ numberB a f = false := by simp [numberV, numberB, h]
theorem number_some (a f : List UInt8) (v : Int) (h : val a 0 = some v) : numberV a f = fr 4 f v ∧ numberB a f = decide (fr 4 f v ≤ 10000000000000) := by simp [numberV, numberB, h]
set_option maxHeartbeats 1000000 in
theorem value_any (s f : ByteArray) (w : World) (hs : s.size ≤ 9223372036854775807) (hf : f.size ≤ 9223372036854775807) (hd : Hid (∀ c ∈ s.data.toList, dg c = true)) (hfd : Hid (∀ c ∈ f.data.toList, dg c = true)) :
    Calls Tryd.prog 51 #[.string s, .string f] w fun e w' => e = .returned (.int .i64 (valueV s.data.toList f.data.toList)) ∧ w = w' := by
  obtain ⟨f1, f2⟩ := fr4_bd _ hfd.out
  go_enter Tryd.func51, Tryd.ntmps51
  go_wp2
  go_loop [5, 9] (fun d i => ∃ (k : Nat) (D : Int), k ≤ s.size ∧ i = .int .i64 k ∧ d = .int .i64 D ∧ VaI s.data.toList k D) (fun _ i => s.size - (intOf i).toNat)
  case atStart => exact ⟨0, 0, by omega, rfl, rfl, VaI.start _⟩
  case round =>
    obtain ⟨k, D, hk, rfl, rfl, hI⟩ := hrel
    have h0 := hI.lo
    have h1 := hI.hi
    by_cases hlt : k < s.size
    · obtain ⟨c1, c2⟩ := dig_get s hd.out k hlt
      by_cases hb : 1000000000 < 10 * D + ((s[k].toNat : Int) - 48)
      · have R := Lib.hid (value_none _ f.data.toList (hI.stop hlt hb))
        go_wp2
        go_ret
        exact ⟨ret_int R.out.symm, rfl⟩
      · have R := hI.step hd.out hlt hb
        go_wp2
        go_round
        case rel => exact ⟨k + 1, _, by omega, by go_num, rfl, R⟩
        case measure => simp [intOf]; omega
    · have R := Lib.hid (value_some _ f.data.toList D (hI.done (by omega)))
      go_wp2_with (go_at_call 76; refine (fraction_any _ _ hf hfd).mono ?_; rintro e w' ⟨rfl, rfl⟩)
      all_goals go_ret
      all_goals exact ⟨ret_int (by rw [R.out]; omega), rfl⟩
set_option maxHeartbeats 2000000 in
theorem number_any (s f : ByteArray) (w : World) (hs : s.size ≤ 9223372036854775807) (hf : f.size ≤ 9223372036854775807) (hd : Hid (∀ c ∈ s.data.toList, dg c = true)) (hfd : Hid (∀ c ∈ f.data.toList, dg c = true)) :
    Calls Tryd.prog 53 #[.string s, .string f] w fun e w' => e = .returned (.tuple #[.int .i64 (numberV s.data.toList f.data.toList), .bool (numberB s.data.toList f.data.toList)]) ∧ w = w' := by
  go_enter Tryd.func53, Tryd.ntmps53
  go_wp2
  go_loop [6, 7] (fun d i => ∃ (k : Nat) (D : Int), k ≤ s.size ∧ i = .int .i64 k ∧ d = .int .i64 D ∧ VaI s.data.toList k D) (fun _ i => s.size - (intOf i).toNat)
  case atStart => exact ⟨0, 0, by omega, rfl, rfl, VaI.start _⟩
  case round =>
    obtain ⟨k, D, hk, rfl, rfl, hI⟩ := hrel
    have h0 := hI.lo
    have h1 := hI.hi
    by_cases hlt : k < s.size
    · obtain ⟨c1, c2⟩ := dig_get s hd.out k hlt
      by_cases hb : 1000000000 < 10 * D + ((s[k].toNat : Int) - 48)
      · have R := Lib.hid (number_none _ f.data.toList (hI.stop hlt hb))
        have hb' : 1000000000 < D * 10 + ((s[k].toNat : Int) - 48) := by omega
        go_wp2
        go_ret2
        exact ⟨ret_ib R.out.1.symm R.out.2.symm, rfl⟩
      · have R := hI.step hd.out hlt hb
        have hb' : ¬ 1000000000 < D * 10 + ((s[k].toNat : Int) - 48) := by omega
        go_wp2
        go_round
        case rel => exact ⟨k + 1, _, by omega, by go_num, by rw [Int.mul_comm], R⟩
        case measure => simp [intOf]; omega
    · have R := Lib.hid (number_some _ f.data.toList D (hI.done (by omega)))
      go_wp2
      go_loop [6, 8] (fun d i => ∃ (j : Nat) (E : Int), j ≤ 4 ∧ i = .int .i64 j ∧ d = .int .i64 E ∧ FrI f.data.toList D j E) (fun _ i => 4 - (intOf i).toNat)
      case atStart => exact ⟨0, D, by omega, rfl, rfl, FrI.start _ D h0⟩
      case round =>
        obtain ⟨j, E, hj, rfl, rfl, hJ⟩ := hrel
        have e0 := hJ.lo
        by_cases hjt : j < 4
        · have e1 := hJ.bd hjt h0
          by_cases hks : j < f.size
          · have R2 := hJ.hit hfd.out hjt hks
            obtain ⟨c1, c2⟩ := dig_get f hfd.out j hks
            go_wp2
            go_round
            case rel => exact ⟨j + 1, _, by omega, by go_num, by rw [Int.mul_comm], R2⟩
            case measure => simp [intOf]; omega
          · have R2 := hJ.miss hjt (by omega)
            go_wp2
            go_round
            case rel => exact ⟨j + 1, _, by omega, by go_num, by rw [Int.mul_comm], R2⟩
            case measure => simp [intOf]; omega
        · obtain rfl : j = 4 := by omega
          have R2 := Lib.hid hJ.done
          go_wp2
          go_ret2
          exact ⟨ret_ib (by rw [R.out.1, ← R2.out]) (by rw [R.out.2, ← R2.out]), rfl⟩
end Go.Proofs.YtjngkapfngempaaDoor
