/- walks: Keyword, Builtin (written by gen_se.py) -/
import Derived.Test.YtbioflajonafdaaSd
import Derived.Test.YtbioflajonafdaaWl
import Derived.OwnWalk
namespace Go.Proofs.Ytbioflajonafdaa
open Go.RowKit
open Tx
theorem eqs_of {s : ByteArray} {l : List UInt8} (h : s.data.toList = l) (m : List UInt8) (r : Bool) (hr : decide (l = m) = r) : (s.toList == m) = r := by rw [str_eq, h, hr]
theorem eqs_not {s : ByteArray} {L : List (List UInt8)} (h : s.data.toList ∉ L) (m : List UInt8) (hm : m ∈ L) : (s.toList == m) = false := by
  rw [str_eq]; exact decide_eq_false fun x => h (by rw [x]; exact hm)
set_option maxHeartbeats 4000000 in
theorem keyword_any (s : ByteArray) (w : World) : Calls Try.prog 16 #[.string s] w fun e w' => e = .returned (.bool (decide (s.data.toList ∈ kwL))) ∧ w = w' := by
  by_cases hm : s.data.toList ∈ kwL
  · simp only [kwL, List.mem_cons, List.not_mem_nil, or_false] at hm
    rcases hm with hm | hm | hm | hm | hm | hm | hm | hm | hm | hm | hm | hm | hm | hm | hm | hm | hm | hm
    · have e0 := eqs_of hm [66, 69, 71, 73, 78] true (by decide)
      go_enter Try.func16, Try.ntmps16
      go_wp2_with fail
      go_ret
      exact ⟨by rw [hm]; rfl, rfl⟩
    · have e0 := eqs_of hm [66, 69, 71, 73, 78] false (by decide)
      have e1 := eqs_of hm [69, 78, 68] true (by decide)
      go_enter Try.func16, Try.ntmps16
      go_wp2_with fail
      go_ret
      exact ⟨by rw [hm]; rfl, rfl⟩
    · have e0 := eqs_of hm [66, 69, 71, 73, 78] false (by decide)
      have e1 := eqs_of hm [69, 78, 68] false (by decide)
      have e2 := eqs_of hm [102, 117, 110, 99, 116, 105, 111, 110] true (by decide)
      go_enter Try.func16, Try.ntmps16
      go_wp2_with fail
      go_ret
      exact ⟨by rw [hm]; rfl, rfl⟩
    · have e0 := eqs_of hm [66, 69, 71, 73, 78] false (by decide)
      have e1 := eqs_of hm [69, 78, 68] false (by decide)
      have e2 := eqs_of hm [102, 117, 110, 99, 116, 105, 111, 110] false (by decide)
      have e3 := eqs_of hm [105, 102] true (by decide)
      go_enter Try.func16, Try.ntmps16
      go_wp2_with fail
      go_ret
      exact ⟨by rw [hm]; rfl, rfl⟩
    · have e0 := eqs_of hm [66, 69, 71, 73, 78] false (by decide)
      have e1 := eqs_of hm [69, 78, 68] false (by decide)
      have e2 := eqs_of hm [102, 117, 110, 99, 116, 105, 111, 110] false (by decide)
      have e3 := eqs_of hm [105, 102] false (by decide)
      have e4 := eqs_of hm [101, 108, 115, 101] true (by decide)
      go_enter Try.func16, Try.ntmps16
      go_wp2_with fail
      go_ret
      exact ⟨by rw [hm]; rfl, rfl⟩
    · have e0 := eqs_of hm [66, 69, 71, 73, 78] false (by decide)
      have e1 := eqs_of hm [69, 78, 68] false (by decide)
      have e2 := eqs_of hm [102, 117, 110, 99, 116, 105, 111, 110] false (by decide)
      have e3 := eqs_of hm [105, 102] false (by decide)
      have e4 := eqs_of hm [101, 108, 115, 101] false (by decide)
      have e5 := eqs_of hm [119, 104, 105, 108, 101] true (by decide)
      go_enter Try.func16, Try.ntmps16
      go_wp2_with fail
      go_ret
      exact ⟨by rw [hm]; rfl, rfl⟩
    · have e0 := eqs_of hm [66, 69, 71, 73, 78] false (by decide)
      have e1 := eqs_of hm [69, 78, 68] false (by decide)
      have e2 := eqs_of hm [102, 117, 110, 99, 116, 105, 111, 110] false (by decide)
      have e3 := eqs_of hm [105, 102] false (by decide)
      have e4 := eqs_of hm [101, 108, 115, 101] false (by decide)
      have e5 := eqs_of hm [119, 104, 105, 108, 101] false (by decide)
      have e6 := eqs_of hm [102, 111, 114] true (by decide)
      go_enter Try.func16, Try.ntmps16
      go_wp2_with fail
      go_ret
      exact ⟨by rw [hm]; rfl, rfl⟩
    · have e0 := eqs_of hm [66, 69, 71, 73, 78] false (by decide)
      have e1 := eqs_of hm [69, 78, 68] false (by decide)
      have e2 := eqs_of hm [102, 117, 110, 99, 116, 105, 111, 110] false (by decide)
      have e3 := eqs_of hm [105, 102] false (by decide)
      have e4 := eqs_of hm [101, 108, 115, 101] false (by decide)
      have e5 := eqs_of hm [119, 104, 105, 108, 101] false (by decide)
      have e6 := eqs_of hm [102, 111, 114] false (by decide)
      have e7 := eqs_of hm [100, 111] true (by decide)
      go_enter Try.func16, Try.ntmps16
      go_wp2_with fail
      go_ret
      exact ⟨by rw [hm]; rfl, rfl⟩
    · have e0 := eqs_of hm [66, 69, 71, 73, 78] false (by decide)
      have e1 := eqs_of hm [69, 78, 68] false (by decide)
      have e2 := eqs_of hm [102, 117, 110, 99, 116, 105, 111, 110] false (by decide)
      have e3 := eqs_of hm [105, 102] false (by decide)
      have e4 := eqs_of hm [101, 108, 115, 101] false (by decide)
      have e5 := eqs_of hm [119, 104, 105, 108, 101] false (by decide)
      have e6 := eqs_of hm [102, 111, 114] false (by decide)
      have e7 := eqs_of hm [100, 111] false (by decide)
      have e8 := eqs_of hm [105, 110] true (by decide)
      go_enter Try.func16, Try.ntmps16
      go_wp2_with fail
      go_ret
      exact ⟨by rw [hm]; rfl, rfl⟩
    · have e0 := eqs_of hm [66, 69, 71, 73, 78] false (by decide)
      have e1 := eqs_of hm [69, 78, 68] false (by decide)
      have e2 := eqs_of hm [102, 117, 110, 99, 116, 105, 111, 110] false (by decide)
      have e3 := eqs_of hm [105, 102] false (by decide)
      have e4 := eqs_of hm [101, 108, 115, 101] false (by decide)
      have e5 := eqs_of hm [119, 104, 105, 108, 101] false (by decide)
      have e6 := eqs_of hm [102, 111, 114] false (by decide)
      have e7 := eqs_of hm [100, 111] false (by decide)
      have e8 := eqs_of hm [105, 110] false (by decide)
      have e9 := eqs_of hm [110, 101, 120, 116] true (by decide)
      go_enter Try.func16, Try.ntmps16
      go_wp2_with fail
      go_ret
      exact ⟨by rw [hm]; rfl, rfl⟩
    · have e0 := eqs_of hm [66, 69, 71, 73, 78] false (by decide)
      have e1 := eqs_of hm [69, 78, 68] false (by decide)
      have e2 := eqs_of hm [102, 117, 110, 99, 116, 105, 111, 110] false (by decide)
      have e3 := eqs_of hm [105, 102] false (by decide)
      have e4 := eqs_of hm [101, 108, 115, 101] false (by decide)
      have e5 := eqs_of hm [119, 104, 105, 108, 101] false (by decide)
      have e6 := eqs_of hm [102, 111, 114] false (by decide)
      have e7 := eqs_of hm [100, 111] false (by decide)
      have e8 := eqs_of hm [105, 110] false (by decide)
      have e9 := eqs_of hm [110, 101, 120, 116] false (by decide)
      have e10 := eqs_of hm [101, 120, 105, 116] true (by decide)
      go_enter Try.func16, Try.ntmps16
      go_wp2_with fail
      go_ret
      exact ⟨by rw [hm]; rfl, rfl⟩
    · have e0 := eqs_of hm [66, 69, 71, 73, 78] false (by decide)
      have e1 := eqs_of hm [69, 78, 68] false (by decide)
      have e2 := eqs_of hm [102, 117, 110, 99, 116, 105, 111, 110] false (by decide)
      have e3 := eqs_of hm [105, 102] false (by decide)
      have e4 := eqs_of hm [101, 108, 115, 101] false (by decide)
      have e5 := eqs_of hm [119, 104, 105, 108, 101] false (by decide)
      have e6 := eqs_of hm [102, 111, 114] false (by decide)
      have e7 := eqs_of hm [100, 111] false (by decide)
      have e8 := eqs_of hm [105, 110] false (by decide)
      have e9 := eqs_of hm [110, 101, 120, 116] false (by decide)
      have e10 := eqs_of hm [101, 120, 105, 116] false (by decide)
      have e11 := eqs_of hm [114, 101, 116, 117, 114, 110] true (by decide)
      go_enter Try.func16, Try.ntmps16
      go_wp2_with fail
      go_ret
      exact ⟨by rw [hm]; rfl, rfl⟩
    · have e0 := eqs_of hm [66, 69, 71, 73, 78] false (by decide)
      have e1 := eqs_of hm [69, 78, 68] false (by decide)
      have e2 := eqs_of hm [102, 117, 110, 99, 116, 105, 111, 110] false (by decide)
      have e3 := eqs_of hm [105, 102] false (by decide)
      have e4 := eqs_of hm [101, 108, 115, 101] false (by decide)
      have e5 := eqs_of hm [119, 104, 105, 108, 101] false (by decide)
      have e6 := eqs_of hm [102, 111, 114] false (by decide)
      have e7 := eqs_of hm [100, 111] false (by decide)
      have e8 := eqs_of hm [105, 110] false (by decide)
      have e9 := eqs_of hm [110, 101, 120, 116] false (by decide)
      have e10 := eqs_of hm [101, 120, 105, 116] false (by decide)
      have e11 := eqs_of hm [114, 101, 116, 117, 114, 110] false (by decide)
      have e12 := eqs_of hm [98, 114, 101, 97, 107] true (by decide)
      go_enter Try.func16, Try.ntmps16
      go_wp2_with fail
      go_ret
      exact ⟨by rw [hm]; rfl, rfl⟩
    · have e0 := eqs_of hm [66, 69, 71, 73, 78] false (by decide)
      have e1 := eqs_of hm [69, 78, 68] false (by decide)
      have e2 := eqs_of hm [102, 117, 110, 99, 116, 105, 111, 110] false (by decide)
      have e3 := eqs_of hm [105, 102] false (by decide)
      have e4 := eqs_of hm [101, 108, 115, 101] false (by decide)
      have e5 := eqs_of hm [119, 104, 105, 108, 101] false (by decide)
      have e6 := eqs_of hm [102, 111, 114] false (by decide)
      have e7 := eqs_of hm [100, 111] false (by decide)
      have e8 := eqs_of hm [105, 110] false (by decide)
      have e9 := eqs_of hm [110, 101, 120, 116] false (by decide)
      have e10 := eqs_of hm [101, 120, 105, 116] false (by decide)
      have e11 := eqs_of hm [114, 101, 116, 117, 114, 110] false (by decide)
      have e12 := eqs_of hm [98, 114, 101, 97, 107] false (by decide)
      have e13 := eqs_of hm [99, 111, 110, 116, 105, 110, 117, 101] true (by decide)
      go_enter Try.func16, Try.ntmps16
      go_wp2_with fail
      go_ret
      exact ⟨by rw [hm]; rfl, rfl⟩
    · have e0 := eqs_of hm [66, 69, 71, 73, 78] false (by decide)
      have e1 := eqs_of hm [69, 78, 68] false (by decide)
      have e2 := eqs_of hm [102, 117, 110, 99, 116, 105, 111, 110] false (by decide)
      have e3 := eqs_of hm [105, 102] false (by decide)
      have e4 := eqs_of hm [101, 108, 115, 101] false (by decide)
      have e5 := eqs_of hm [119, 104, 105, 108, 101] false (by decide)
      have e6 := eqs_of hm [102, 111, 114] false (by decide)
      have e7 := eqs_of hm [100, 111] false (by decide)
      have e8 := eqs_of hm [105, 110] false (by decide)
      have e9 := eqs_of hm [110, 101, 120, 116] false (by decide)
      have e10 := eqs_of hm [101, 120, 105, 116] false (by decide)
      have e11 := eqs_of hm [114, 101, 116, 117, 114, 110] false (by decide)
      have e12 := eqs_of hm [98, 114, 101, 97, 107] false (by decide)
      have e13 := eqs_of hm [99, 111, 110, 116, 105, 110, 117, 101] false (by decide)
      have e14 := eqs_of hm [100, 101, 108, 101, 116, 101] true (by decide)
      go_enter Try.func16, Try.ntmps16
      go_wp2_with fail
      go_ret
      exact ⟨by rw [hm]; rfl, rfl⟩
    · have e0 := eqs_of hm [66, 69, 71, 73, 78] false (by decide)
      have e1 := eqs_of hm [69, 78, 68] false (by decide)
      have e2 := eqs_of hm [102, 117, 110, 99, 116, 105, 111, 110] false (by decide)
      have e3 := eqs_of hm [105, 102] false (by decide)
      have e4 := eqs_of hm [101, 108, 115, 101] false (by decide)
      have e5 := eqs_of hm [119, 104, 105, 108, 101] false (by decide)
      have e6 := eqs_of hm [102, 111, 114] false (by decide)
      have e7 := eqs_of hm [100, 111] false (by decide)
      have e8 := eqs_of hm [105, 110] false (by decide)
      have e9 := eqs_of hm [110, 101, 120, 116] false (by decide)
      have e10 := eqs_of hm [101, 120, 105, 116] false (by decide)
      have e11 := eqs_of hm [114, 101, 116, 117, 114, 110] false (by decide)
      have e12 := eqs_of hm [98, 114, 101, 97, 107] false (by decide)
      have e13 := eqs_of hm [99, 111, 110, 116, 105, 110, 117, 101] false (by decide)
      have e14 := eqs_of hm [100, 101, 108, 101, 116, 101] false (by decide)
      have e15 := eqs_of hm [112, 114, 105, 110, 116] true (by decide)
      go_enter Try.func16, Try.ntmps16
      go_wp2_with fail
      go_ret
      exact ⟨by rw [hm]; rfl, rfl⟩
    · have e0 := eqs_of hm [66, 69, 71, 73, 78] false (by decide)
      have e1 := eqs_of hm [69, 78, 68] false (by decide)
      have e2 := eqs_of hm [102, 117, 110, 99, 116, 105, 111, 110] false (by decide)
      have e3 := eqs_of hm [105, 102] false (by decide)
      have e4 := eqs_of hm [101, 108, 115, 101] false (by decide)
      have e5 := eqs_of hm [119, 104, 105, 108, 101] false (by decide)
      have e6 := eqs_of hm [102, 111, 114] false (by decide)
      have e7 := eqs_of hm [100, 111] false (by decide)
      have e8 := eqs_of hm [105, 110] false (by decide)
      have e9 := eqs_of hm [110, 101, 120, 116] false (by decide)
      have e10 := eqs_of hm [101, 120, 105, 116] false (by decide)
      have e11 := eqs_of hm [114, 101, 116, 117, 114, 110] false (by decide)
      have e12 := eqs_of hm [98, 114, 101, 97, 107] false (by decide)
      have e13 := eqs_of hm [99, 111, 110, 116, 105, 110, 117, 101] false (by decide)
      have e14 := eqs_of hm [100, 101, 108, 101, 116, 101] false (by decide)
      have e15 := eqs_of hm [112, 114, 105, 110, 116] false (by decide)
      have e16 := eqs_of hm [112, 114, 105, 110, 116, 102] true (by decide)
      go_enter Try.func16, Try.ntmps16
      go_wp2_with fail
      go_ret
      exact ⟨by rw [hm]; rfl, rfl⟩
    · have e0 := eqs_of hm [66, 69, 71, 73, 78] false (by decide)
      have e1 := eqs_of hm [69, 78, 68] false (by decide)
      have e2 := eqs_of hm [102, 117, 110, 99, 116, 105, 111, 110] false (by decide)
      have e3 := eqs_of hm [105, 102] false (by decide)
      have e4 := eqs_of hm [101, 108, 115, 101] false (by decide)
      have e5 := eqs_of hm [119, 104, 105, 108, 101] false (by decide)
      have e6 := eqs_of hm [102, 111, 114] false (by decide)
      have e7 := eqs_of hm [100, 111] false (by decide)
      have e8 := eqs_of hm [105, 110] false (by decide)
      have e9 := eqs_of hm [110, 101, 120, 116] false (by decide)
      have e10 := eqs_of hm [101, 120, 105, 116] false (by decide)
      have e11 := eqs_of hm [114, 101, 116, 117, 114, 110] false (by decide)
      have e12 := eqs_of hm [98, 114, 101, 97, 107] false (by decide)
      have e13 := eqs_of hm [99, 111, 110, 116, 105, 110, 117, 101] false (by decide)
      have e14 := eqs_of hm [100, 101, 108, 101, 116, 101] false (by decide)
      have e15 := eqs_of hm [112, 114, 105, 110, 116] false (by decide)
      have e16 := eqs_of hm [112, 114, 105, 110, 116, 102] false (by decide)
      have e17 := eqs_of hm [103, 101, 116, 108, 105, 110, 101] true (by decide)
      go_enter Try.func16, Try.ntmps16
      go_wp2_with fail
      go_ret
      exact ⟨by rw [hm]; rfl, rfl⟩
  · have e0 := eqs_not hm [66, 69, 71, 73, 78] (by decide)
    have e1 := eqs_not hm [69, 78, 68] (by decide)
    have e2 := eqs_not hm [102, 117, 110, 99, 116, 105, 111, 110] (by decide)
    have e3 := eqs_not hm [105, 102] (by decide)
    have e4 := eqs_not hm [101, 108, 115, 101] (by decide)
    have e5 := eqs_not hm [119, 104, 105, 108, 101] (by decide)
    have e6 := eqs_not hm [102, 111, 114] (by decide)
    have e7 := eqs_not hm [100, 111] (by decide)
    have e8 := eqs_not hm [105, 110] (by decide)
    have e9 := eqs_not hm [110, 101, 120, 116] (by decide)
    have e10 := eqs_not hm [101, 120, 105, 116] (by decide)
    have e11 := eqs_not hm [114, 101, 116, 117, 114, 110] (by decide)
    have e12 := eqs_not hm [98, 114, 101, 97, 107] (by decide)
    have e13 := eqs_not hm [99, 111, 110, 116, 105, 110, 117, 101] (by decide)
    have e14 := eqs_not hm [100, 101, 108, 101, 116, 101] (by decide)
    have e15 := eqs_not hm [112, 114, 105, 110, 116] (by decide)
    have e16 := eqs_not hm [112, 114, 105, 110, 116, 102] (by decide)
    have e17 := eqs_not hm [103, 101, 116, 108, 105, 110, 101] (by decide)
    go_enter Try.func16, Try.ntmps16
    go_wp2_with fail
    go_ret
    exact ⟨by rw [decide_eq_false hm]; rfl, rfl⟩
def biL : List (List UInt8) := [[108, 101, 110, 103, 116, 104], [115, 117, 98, 115, 116, 114], [115, 112, 108, 105, 116], [115, 117, 98], [103, 115, 117, 98], [105, 110, 100, 101, 120], [109, 97, 116, 99, 104], [116, 111, 108, 111, 119, 101, 114], [116, 111, 117, 112, 112, 101, 114], [105, 110, 116], [115, 112, 114, 105, 110, 116, 102]]
def biV (l : List UInt8) : Int × Int × Bool :=
  if l = [108, 101, 110, 103, 116, 104] then (0, 1, true) else if l ∈ [[115, 117, 98, 115, 116, 114], [115, 112, 108, 105, 116], [115, 117, 98], [103, 115, 117, 98]] then (2, 3, true) else if l ∈ [[105, 110, 100, 101, 120], [109, 97, 116, 99, 104]] then (2, 2, true) else if l ∈ [[116, 111, 108, 111, 119, 101, 114], [116, 111, 117, 112, 112, 101, 114], [105, 110, 116]] then (1, 1, true) else if l = [115, 112, 114, 105, 110, 116, 102] then (1, 1024, true) else (0, 0, false)
theorem biV_no {l : List UInt8} (h : l ∉ biL) : biV l = (0, 0, false) := by
  simp only [biL, List.mem_cons, List.not_mem_nil, or_false, not_or] at h
  simp [biV, h]
set_option maxHeartbeats 4000000 in
theorem builtin_any (s : ByteArray) (w : World) : Calls Try.prog 21 #[.string s] w fun e w' => e = .returned (.tuple #[.int .i64 (biV s.data.toList).1, .int .i64 (biV s.data.toList).2.1, .bool (biV s.data.toList).2.2]) ∧ w = w' := by
  by_cases hm : s.data.toList ∈ biL
  · simp only [biL, List.mem_cons, List.not_mem_nil, or_false] at hm
    rcases hm with hm | hm | hm | hm | hm | hm | hm | hm | hm | hm | hm
    · have e0 := eqs_of hm [108, 101, 110, 103, 116, 104] true (by decide)
      go_enter Try.func21, Try.ntmps21
      go_wp2_with fail
      go_ret3
      exact ⟨by rw [hm]; rfl, rfl⟩
    · have e0 := eqs_of hm [108, 101, 110, 103, 116, 104] false (by decide)
      have e1 := eqs_of hm [115, 117, 98, 115, 116, 114] true (by decide)
      go_enter Try.func21, Try.ntmps21
      go_wp2_with fail
      go_ret3
      exact ⟨by rw [hm]; rfl, rfl⟩
    · have e0 := eqs_of hm [108, 101, 110, 103, 116, 104] false (by decide)
      have e1 := eqs_of hm [115, 117, 98, 115, 116, 114] false (by decide)
      have e2 := eqs_of hm [115, 112, 108, 105, 116] true (by decide)
      go_enter Try.func21, Try.ntmps21
      go_wp2_with fail
      go_ret3
      exact ⟨by rw [hm]; rfl, rfl⟩
    · have e0 := eqs_of hm [108, 101, 110, 103, 116, 104] false (by decide)
      have e1 := eqs_of hm [115, 117, 98, 115, 116, 114] false (by decide)
      have e2 := eqs_of hm [115, 112, 108, 105, 116] false (by decide)
      have e3 := eqs_of hm [115, 117, 98] true (by decide)
      go_enter Try.func21, Try.ntmps21
      go_wp2_with fail
      go_ret3
      exact ⟨by rw [hm]; rfl, rfl⟩
    · have e0 := eqs_of hm [108, 101, 110, 103, 116, 104] false (by decide)
      have e1 := eqs_of hm [115, 117, 98, 115, 116, 114] false (by decide)
      have e2 := eqs_of hm [115, 112, 108, 105, 116] false (by decide)
      have e3 := eqs_of hm [115, 117, 98] false (by decide)
      have e4 := eqs_of hm [103, 115, 117, 98] true (by decide)
      go_enter Try.func21, Try.ntmps21
      go_wp2_with fail
      go_ret3
      exact ⟨by rw [hm]; rfl, rfl⟩
    · have e0 := eqs_of hm [108, 101, 110, 103, 116, 104] false (by decide)
      have e1 := eqs_of hm [115, 117, 98, 115, 116, 114] false (by decide)
      have e2 := eqs_of hm [115, 112, 108, 105, 116] false (by decide)
      have e3 := eqs_of hm [115, 117, 98] false (by decide)
      have e4 := eqs_of hm [103, 115, 117, 98] false (by decide)
      have e5 := eqs_of hm [105, 110, 100, 101, 120] true (by decide)
      go_enter Try.func21, Try.ntmps21
      go_wp2_with fail
      go_ret3
      exact ⟨by rw [hm]; rfl, rfl⟩
    · have e0 := eqs_of hm [108, 101, 110, 103, 116, 104] false (by decide)
      have e1 := eqs_of hm [115, 117, 98, 115, 116, 114] false (by decide)
      have e2 := eqs_of hm [115, 112, 108, 105, 116] false (by decide)
      have e3 := eqs_of hm [115, 117, 98] false (by decide)
      have e4 := eqs_of hm [103, 115, 117, 98] false (by decide)
      have e5 := eqs_of hm [105, 110, 100, 101, 120] false (by decide)
      have e6 := eqs_of hm [109, 97, 116, 99, 104] true (by decide)
      go_enter Try.func21, Try.ntmps21
      go_wp2_with fail
      go_ret3
      exact ⟨by rw [hm]; rfl, rfl⟩
    · have e0 := eqs_of hm [108, 101, 110, 103, 116, 104] false (by decide)
      have e1 := eqs_of hm [115, 117, 98, 115, 116, 114] false (by decide)
      have e2 := eqs_of hm [115, 112, 108, 105, 116] false (by decide)
      have e3 := eqs_of hm [115, 117, 98] false (by decide)
      have e4 := eqs_of hm [103, 115, 117, 98] false (by decide)
      have e5 := eqs_of hm [105, 110, 100, 101, 120] false (by decide)
      have e6 := eqs_of hm [109, 97, 116, 99, 104] false (by decide)
      have e7 := eqs_of hm [116, 111, 108, 111, 119, 101, 114] true (by decide)
      go_enter Try.func21, Try.ntmps21
      go_wp2_with fail
      go_ret3
      exact ⟨by rw [hm]; rfl, rfl⟩
    · have e0 := eqs_of hm [108, 101, 110, 103, 116, 104] false (by decide)
      have e1 := eqs_of hm [115, 117, 98, 115, 116, 114] false (by decide)
      have e2 := eqs_of hm [115, 112, 108, 105, 116] false (by decide)
      have e3 := eqs_of hm [115, 117, 98] false (by decide)
      have e4 := eqs_of hm [103, 115, 117, 98] false (by decide)
      have e5 := eqs_of hm [105, 110, 100, 101, 120] false (by decide)
      have e6 := eqs_of hm [109, 97, 116, 99, 104] false (by decide)
      have e7 := eqs_of hm [116, 111, 108, 111, 119, 101, 114] false (by decide)
      have e8 := eqs_of hm [116, 111, 117, 112, 112, 101, 114] true (by decide)
      go_enter Try.func21, Try.ntmps21
      go_wp2_with fail
      go_ret3
      exact ⟨by rw [hm]; rfl, rfl⟩
    · have e0 := eqs_of hm [108, 101, 110, 103, 116, 104] false (by decide)
      have e1 := eqs_of hm [115, 117, 98, 115, 116, 114] false (by decide)
      have e2 := eqs_of hm [115, 112, 108, 105, 116] false (by decide)
      have e3 := eqs_of hm [115, 117, 98] false (by decide)
      have e4 := eqs_of hm [103, 115, 117, 98] false (by decide)
      have e5 := eqs_of hm [105, 110, 100, 101, 120] false (by decide)
      have e6 := eqs_of hm [109, 97, 116, 99, 104] false (by decide)
      have e7 := eqs_of hm [116, 111, 108, 111, 119, 101, 114] false (by decide)
      have e8 := eqs_of hm [116, 111, 117, 112, 112, 101, 114] false (by decide)
      have e9 := eqs_of hm [105, 110, 116] true (by decide)
      go_enter Try.func21, Try.ntmps21
      go_wp2_with fail
      go_ret3
      exact ⟨by rw [hm]; rfl, rfl⟩
    · have e0 := eqs_of hm [108, 101, 110, 103, 116, 104] false (by decide)
      have e1 := eqs_of hm [115, 117, 98, 115, 116, 114] false (by decide)
      have e2 := eqs_of hm [115, 112, 108, 105, 116] false (by decide)
      have e3 := eqs_of hm [115, 117, 98] false (by decide)
      have e4 := eqs_of hm [103, 115, 117, 98] false (by decide)
      have e5 := eqs_of hm [105, 110, 100, 101, 120] false (by decide)
      have e6 := eqs_of hm [109, 97, 116, 99, 104] false (by decide)
      have e7 := eqs_of hm [116, 111, 108, 111, 119, 101, 114] false (by decide)
      have e8 := eqs_of hm [116, 111, 117, 112, 112, 101, 114] false (by decide)
      have e9 := eqs_of hm [105, 110, 116] false (by decide)
      have e10 := eqs_of hm [115, 112, 114, 105, 110, 116, 102] true (by decide)
      go_enter Try.func21, Try.ntmps21
      go_wp2_with fail
      go_ret3
      exact ⟨by rw [hm]; rfl, rfl⟩
  · have e0 := eqs_not hm [108, 101, 110, 103, 116, 104] (by decide)
    have e1 := eqs_not hm [115, 117, 98, 115, 116, 114] (by decide)
    have e2 := eqs_not hm [115, 112, 108, 105, 116] (by decide)
    have e3 := eqs_not hm [115, 117, 98] (by decide)
    have e4 := eqs_not hm [103, 115, 117, 98] (by decide)
    have e5 := eqs_not hm [105, 110, 100, 101, 120] (by decide)
    have e6 := eqs_not hm [109, 97, 116, 99, 104] (by decide)
    have e7 := eqs_not hm [116, 111, 108, 111, 119, 101, 114] (by decide)
    have e8 := eqs_not hm [116, 111, 117, 112, 112, 101, 114] (by decide)
    have e9 := eqs_not hm [105, 110, 116] (by decide)
    have e10 := eqs_not hm [115, 112, 114, 105, 110, 116, 102] (by decide)
    go_enter Try.func21, Try.ntmps21
    go_wp2_with fail
    go_ret3
    exact ⟨by rw [biV_no hm]; rfl, rfl⟩
end Go.Proofs.Ytbioflajonafdaa
