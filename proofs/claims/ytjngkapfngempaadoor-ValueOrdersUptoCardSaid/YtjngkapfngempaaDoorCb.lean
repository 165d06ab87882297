/- walks: values: comparison of numbers -/
import Derived.Test.YtjngkapfngempaaDoorCa
import Derived.Test.YtjngkapfngempaaDoorVe
namespace Go.Proofs.YtjngkapfngempaaDoor
open Go.RowKit
open Dcm Byt Vl
/-- -1, 0 or 1 -/
def cmp3 (x y : Int) : Int := if x < y then -1 else if y < x then 1 else 0
theorem isnan_any (x : Int) (w : World) : Calls Tryd.prog 72 #[.int .i64 x] w fun e w' => e = .returned (.bool false) ∧ w = w' := by
  go_enter Tryd.func72, Tryd.ntmps72
  go_wp2
  go_ret
  exact ⟨rfl, rfl⟩
theorem cmp_any (x y : Int) (w : World) : Calls Tryd.prog 44 #[.int .i64 x, .int .i64 y] w fun e w' => e = .returned (.int .i64 (cmp3 x y)) ∧ w = w' := by
  by_cases h1 : x < y
  · have e : cmp3 x y = -1 := if_pos h1
    rw [e]; clear e
    go_enter Tryd.func44, Tryd.ntmps44
    go_wp2_with (go_at_call 72; refine (isnan_any _ _).mono ?_; rintro e w' ⟨rfl, rfl⟩)
    go_ret
    exact ⟨rfl, rfl⟩
  · by_cases h2 : y < x
    · have e : cmp3 x y = 1 := by unfold cmp3; rw [if_neg h1, if_pos h2]
      rw [e]; clear e
      go_enter Tryd.func44, Tryd.ntmps44
      go_wp2_with (go_at_call 72; refine (isnan_any _ _).mono ?_; rintro e w' ⟨rfl, rfl⟩)
      go_ret
      exact ⟨rfl, rfl⟩
    · have e : cmp3 x y = 0 := by unfold cmp3; rw [if_neg h1, if_neg h2]
      rw [e]; clear e
      go_enter Tryd.func44, Tryd.ntmps44
      go_wp2_with (go_at_call 72; refine (isnan_any _ _).mono ?_; rintro e w' ⟨rfl, rfl⟩)
      go_ret
      exact ⟨rfl, rfl⟩
theorem known_any (k n : Int) (s : ByteArray) (b : Bool) (w : World) (hb : Hid (decide (1 ≤ k ∧ k ≤ 3) = b)) :
    Calls Tryd.prog 43 #[vval k n s] w fun e w' => e = .returned (.bool b) ∧ Below w.heap.size w w' := by
  have B0 := Below.refl w.heap.size w
  rw [← hb.out]; clear hb
  by_cases h1 : 1 ≤ k
  · by_cases h3 : k ≤ 3
    · rw [decide_eq_true ⟨h1, h3⟩]
      go_enter Tryd.func43, Tryd.ntmps43
      go_wp2
      go_ret
      exact ⟨rfl, B0.alloc (Nat.le_refl _) _⟩
    · rw [decide_eq_false (fun h => h3 h.2)]
      go_enter Tryd.func43, Tryd.ntmps43
      go_wp2
      go_ret
      exact ⟨rfl, B0.alloc (Nat.le_refl _) _⟩
  · rw [decide_eq_false (fun h => h1 h.1)]
    go_enter Tryd.func43, Tryd.ntmps43
    go_wp2
    go_ret
    exact ⟨rfl, B0.alloc (Nat.le_refl _) _⟩
theorem keepC {w w' : World} {o : Obj} {k1 n1 k2 n2 : Int} {s1 s2 : ByteArray} (h : Below (((w.alloc o).alloc (.cells #[.int .i64 k1, .int .i64 n1, .string s1] 24)).alloc (.cells #[.int .i64 k2, .int .i64 n2, .string s2] 24)).heap.size (((w.alloc o).alloc (.cells #[.int .i64 k1, .int .i64 n1, .string s1] 24)).alloc (.cells #[.int .i64 k2, .int .i64 n2, .string s2] 24)) w') :
    Below (((w.alloc o).alloc (.cells #[.int .i64 k1, .int .i64 n1, .string s1] 24)).alloc (.cells #[.int .i64 k2, .int .i64 n2, .string s2] 24)).heap.size (((w.alloc o).alloc (.cells #[.int .i64 k1, .int .i64 n1, .string s1] 24)).alloc (.cells #[.int .i64 k2, .int .i64 n2, .string s2] 24)) w' ∧ w'.cell? ⟨w.heap.size + 1, 0, none⟩ = some (.int .i64 k1) ∧ w'.cell? ⟨w.heap.size + 1, 1, none⟩ = some (.int .i64 n1) ∧ w'.cell? ⟨w.heap.size + 1, 2, none⟩ = some (.string s1) ∧ w'.cell? ⟨w.heap.size + 1 + 1, 0, none⟩ = some (.int .i64 k2) ∧ w'.cell? ⟨w.heap.size + 1 + 1, 1, none⟩ = some (.int .i64 n2) ∧ w'.cell? ⟨w.heap.size + 1 + 1, 2, none⟩ = some (.string s2) := by
  have p := par2 (w := w.alloc o) h
  rw [World.size_alloc] at p
  exact ⟨h, p⟩
set_option maxHeartbeats 4000000 in
theorem vcompare_num (a0 a2 a3 : ByteArray) (v1 v4 v5 : Value) (k1 n1 k2 n2 x y : Int) (s1 s2 : ByteArray) (w : World) (h1 : k1 ≠ 2) (h2 : k2 ≠ 2) (hs1 : s1.size ≤ 9223372036854775807) (hs2 : s2.size ≤ 9223372036854775807)
    (hx : Hid (numV k1 n1 s1.data.toList = x)) (hy : Hid (numV k2 n2 s2.data.toList = y)) :
    Calls Tryd.prog 23 #[lval a0 v1 a2 a3 v4 v5, vval k1 n1 s1, vval k2 n2 s2] w fun e w' => e = .returned (.int .i64 (cmp3 x y)) ∧ Below w.heap.size w w' := by
  have S1 := Lib.hid hs1; clear hs1
  have S2 := Lib.hid hs2; clear hs2
  have t1 : (k1 != 2) = true := by rw [bne_iff_ne]; exact h1
  have t2 : (k2 != 2) = true := by rw [bne_iff_ne]; exact h2
  by_cases hk : (k1 = k2 ∧ n1 = n2) ∧ s1 = s2
  · obtain ⟨⟨rfl, rfl⟩, rfl⟩ := hk
    obtain rfl : x = y := by rw [← hx.out, ← hy.out]
    have e : cmp3 x x = 0 := by unfold cmp3; rw [if_neg (Int.lt_irrefl x), if_neg (Int.lt_irrefl x)]
    have S0 := keepC (w := w) (o := .cells #[.string a0, v1, .string a2, .string a3, v4, v5] 41) (k1 := k1) (n1 := n1) (k2 := k1) (n2 := n1) (s1 := s1) (s2 := s1) ((Below.refl _ _).drew)
    by_cases hk : 1 ≤ k1 ∧ k1 ≤ 3
    · have KB := Lib.hid (decide_eq_true hk)
      clear hk h1 h2
      go_enter Tryd.func23, Tryd.ntmps23
      go_wp2_with (first | (go_at_call 43; refine (known_any k1 n1 s1 true _ KB).mono ?_; rintro e w1 ⟨rfl, hb1⟩))
      go_ret
      exact ⟨by rw [e]; rfl, below_three hb1⟩
    · have KB := Lib.hid (decide_eq_false hk)
      clear hk h1 h2
      go_enter Tryd.func23, Tryd.ntmps23
      go_wp2_with (first | (go_at_call 43; refine (known_any k1 n1 s1 false _ KB).mono ?_; rintro e w1 ⟨rfl, hb1⟩; have S1' := keepC hb1; obtain ⟨-, c0, c1, c2, d0, d1, d2⟩ := S1'; have S0 := keepC hb1.drew))
      go_region_held3 (fun w' => Below (((w.alloc (.cells #[.string a0, v1, .string a2, .string a3, v4, v5] 41)).alloc (.cells #[.int .i64 k1, .int .i64 n1, .string s1] 24)).alloc (.cells #[.int .i64 k1, .int .i64 n1, .string s1] 24)).heap.size (((w.alloc (.cells #[.string a0, v1, .string a2, .string a3, v4, v5] 41)).alloc (.cells #[.int .i64 k1, .int .i64 n1, .string s1] 24)).alloc (.cells #[.int .i64 k1, .int .i64 n1, .string s1] 24)) w' ∧ w'.cell? ⟨w.heap.size + 1, 0, none⟩ = some (.int .i64 k1) ∧ w'.cell? ⟨w.heap.size + 1, 1, none⟩ = some (.int .i64 n1) ∧ w'.cell? ⟨w.heap.size + 1, 2, none⟩ = some (.string s1) ∧ w'.cell? ⟨w.heap.size + 1 + 1, 0, none⟩ = some (.int .i64 k1) ∧ w'.cell? ⟨w.heap.size + 1 + 1, 1, none⟩ = some (.int .i64 n1) ∧ w'.cell? ⟨w.heap.size + 1 + 1, 2, none⟩ = some (.string s1)) (first | exact S0)
        (first | (go_at_call 9; (first | (with_reducible refine (vnumber_is k1 n1 x s1 _ S1.out hx.out).mono ?_; rintro e w' ⟨rfl, hb⟩; have S0 := keepC (S0.1.trans (hb.mono S0.1.size))) | (with_reducible refine (vnumber_is k1 n1 x s1 _ S2.out hy.out).mono ?_; rintro e w' ⟨rfl, hb⟩; have S0 := keepC (S0.1.trans (hb.mono S0.1.size))))) | (go_at_call 44; refine (cmp_any x x _).mono ?_; rintro e w' ⟨rfl, rfl⟩))
      go_wp2_with fail
      go_ret
      exact ⟨by rw [e]; rfl, below_three S0.1⟩
  · have hc : (k1 ≠ k2) ∨ (k1 = k2 ∧ n1 ≠ n2) ∨ ((k1 = k2 ∧ n1 = n2) ∧ s1.toList ≠ s2.toList) := by
      by_cases e1 : k1 = k2
      · by_cases e2 : n1 = n2
        · refine .inr (.inr ⟨⟨e1, e2⟩, fun e3 => hk ⟨⟨e1, e2⟩, ?_⟩⟩)
          rcases s1 with ⟨⟨l1⟩⟩; rcases s2 with ⟨⟨l2⟩⟩
          rw [Lib.toList_data, Lib.toList_data] at e3
          exact congrArg (fun l => ByteArray.mk ⟨l⟩) e3
        · exact .inr (.inl ⟨e1, e2⟩)
      · exact .inl e1
    clear hk h1 h2
    rcases hc with hc | ⟨rfl, hc⟩ | ⟨⟨rfl, rfl⟩, hc⟩
    · have S0 := keepC (w := w) (o := .cells #[.string a0, v1, .string a2, .string a3, v4, v5] 41) (k1 := k1) (n1 := n1) (k2 := k2) (n2 := n2) (s1 := s1) (s2 := s2) ((Below.refl _ _).drew)
      go_enter Tryd.func23, Tryd.ntmps23
      go_wp2_with fail
      go_region_held3 (fun w' => Below (((w.alloc (.cells #[.string a0, v1, .string a2, .string a3, v4, v5] 41)).alloc (.cells #[.int .i64 k1, .int .i64 n1, .string s1] 24)).alloc (.cells #[.int .i64 k2, .int .i64 n2, .string s2] 24)).heap.size (((w.alloc (.cells #[.string a0, v1, .string a2, .string a3, v4, v5] 41)).alloc (.cells #[.int .i64 k1, .int .i64 n1, .string s1] 24)).alloc (.cells #[.int .i64 k2, .int .i64 n2, .string s2] 24)) w' ∧ w'.cell? ⟨w.heap.size + 1, 0, none⟩ = some (.int .i64 k1) ∧ w'.cell? ⟨w.heap.size + 1, 1, none⟩ = some (.int .i64 n1) ∧ w'.cell? ⟨w.heap.size + 1, 2, none⟩ = some (.string s1) ∧ w'.cell? ⟨w.heap.size + 1 + 1, 0, none⟩ = some (.int .i64 k2) ∧ w'.cell? ⟨w.heap.size + 1 + 1, 1, none⟩ = some (.int .i64 n2) ∧ w'.cell? ⟨w.heap.size + 1 + 1, 2, none⟩ = some (.string s2)) (first | exact S0)
        (first | (go_at_call 9; (first | (with_reducible refine (vnumber_is k1 n1 x s1 _ S1.out hx.out).mono ?_; rintro e w' ⟨rfl, hb⟩; have S0 := keepC (S0.1.trans (hb.mono S0.1.size))) | (with_reducible refine (vnumber_is k2 n2 y s2 _ S2.out hy.out).mono ?_; rintro e w' ⟨rfl, hb⟩; have S0 := keepC (S0.1.trans (hb.mono S0.1.size))))) | (go_at_call 44; refine (cmp_any x y _).mono ?_; rintro e w' ⟨rfl, rfl⟩))
      go_wp2_with fail
      go_ret
      exact ⟨rfl, below_three S0.1⟩
    · have S0 := keepC (w := w) (o := .cells #[.string a0, v1, .string a2, .string a3, v4, v5] 41) (k1 := k1) (n1 := n1) (k2 := k1) (n2 := n2) (s1 := s1) (s2 := s2) ((Below.refl _ _).drew)
      go_enter Tryd.func23, Tryd.ntmps23
      go_wp2_with fail
      go_region_held3 (fun w' => Below (((w.alloc (.cells #[.string a0, v1, .string a2, .string a3, v4, v5] 41)).alloc (.cells #[.int .i64 k1, .int .i64 n1, .string s1] 24)).alloc (.cells #[.int .i64 k1, .int .i64 n2, .string s2] 24)).heap.size (((w.alloc (.cells #[.string a0, v1, .string a2, .string a3, v4, v5] 41)).alloc (.cells #[.int .i64 k1, .int .i64 n1, .string s1] 24)).alloc (.cells #[.int .i64 k1, .int .i64 n2, .string s2] 24)) w' ∧ w'.cell? ⟨w.heap.size + 1, 0, none⟩ = some (.int .i64 k1) ∧ w'.cell? ⟨w.heap.size + 1, 1, none⟩ = some (.int .i64 n1) ∧ w'.cell? ⟨w.heap.size + 1, 2, none⟩ = some (.string s1) ∧ w'.cell? ⟨w.heap.size + 1 + 1, 0, none⟩ = some (.int .i64 k1) ∧ w'.cell? ⟨w.heap.size + 1 + 1, 1, none⟩ = some (.int .i64 n2) ∧ w'.cell? ⟨w.heap.size + 1 + 1, 2, none⟩ = some (.string s2)) (first | exact S0)
        (first | (go_at_call 9; (first | (with_reducible refine (vnumber_is k1 n1 x s1 _ S1.out hx.out).mono ?_; rintro e w' ⟨rfl, hb⟩; have S0 := keepC (S0.1.trans (hb.mono S0.1.size))) | (with_reducible refine (vnumber_is k1 n2 y s2 _ S2.out hy.out).mono ?_; rintro e w' ⟨rfl, hb⟩; have S0 := keepC (S0.1.trans (hb.mono S0.1.size))))) | (go_at_call 44; refine (cmp_any x y _).mono ?_; rintro e w' ⟨rfl, rfl⟩))
      go_wp2_with fail
      go_ret
      exact ⟨rfl, below_three S0.1⟩
    · have S0 := keepC (w := w) (o := .cells #[.string a0, v1, .string a2, .string a3, v4, v5] 41) (k1 := k1) (n1 := n1) (k2 := k1) (n2 := n1) (s1 := s1) (s2 := s2) ((Below.refl _ _).drew)
      go_enter Tryd.func23, Tryd.ntmps23
      go_wp2_with fail
      go_region_held3 (fun w' => Below (((w.alloc (.cells #[.string a0, v1, .string a2, .string a3, v4, v5] 41)).alloc (.cells #[.int .i64 k1, .int .i64 n1, .string s1] 24)).alloc (.cells #[.int .i64 k1, .int .i64 n1, .string s2] 24)).heap.size (((w.alloc (.cells #[.string a0, v1, .string a2, .string a3, v4, v5] 41)).alloc (.cells #[.int .i64 k1, .int .i64 n1, .string s1] 24)).alloc (.cells #[.int .i64 k1, .int .i64 n1, .string s2] 24)) w' ∧ w'.cell? ⟨w.heap.size + 1, 0, none⟩ = some (.int .i64 k1) ∧ w'.cell? ⟨w.heap.size + 1, 1, none⟩ = some (.int .i64 n1) ∧ w'.cell? ⟨w.heap.size + 1, 2, none⟩ = some (.string s1) ∧ w'.cell? ⟨w.heap.size + 1 + 1, 0, none⟩ = some (.int .i64 k1) ∧ w'.cell? ⟨w.heap.size + 1 + 1, 1, none⟩ = some (.int .i64 n1) ∧ w'.cell? ⟨w.heap.size + 1 + 1, 2, none⟩ = some (.string s2)) (first | exact S0)
        (first | (go_at_call 9; (first | (with_reducible refine (vnumber_is k1 n1 x s1 _ S1.out hx.out).mono ?_; rintro e w' ⟨rfl, hb⟩; have S0 := keepC (S0.1.trans (hb.mono S0.1.size))) | (with_reducible refine (vnumber_is k1 n1 y s2 _ S2.out hy.out).mono ?_; rintro e w' ⟨rfl, hb⟩; have S0 := keepC (S0.1.trans (hb.mono S0.1.size))))) | (go_at_call 44; refine (cmp_any x y _).mono ?_; rintro e w' ⟨rfl, rfl⟩))
      go_wp2_with fail
      go_ret
      exact ⟨rfl, below_three S0.1⟩
end Go.Proofs.YtjngkapfngempaaDoor
