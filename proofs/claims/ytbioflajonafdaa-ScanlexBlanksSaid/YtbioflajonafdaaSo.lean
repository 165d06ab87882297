/- walks: the reference's mark, token (written by gen_so.py) -/
import Derived.Test.YtbioflajonafdaaSn
import Derived.Test.YtbioflajonafdaaWm
namespace Go.Proofs.Ytbioflajonafdaa
open Go.RowKit
open Tx
theorem tw_words : wrds (ByteArray.mk #[43, 61, 32, 45, 61, 32, 42, 61, 32, 47, 61, 32, 37, 61, 32, 94, 61, 32, 61, 61, 32, 60, 61, 32, 62, 61, 32, 33, 61, 32, 33, 126, 32, 43, 43, 32, 45, 45, 32, 38, 38, 32, 124, 124, 32, 62, 62]).data.toList = twL := by rfl
theorem on_words : wrds (ByteArray.mk #[123, 32, 125, 32, 40, 32, 41, 32, 91, 32, 93, 32, 59, 32, 44, 32, 43, 32, 45, 32, 42, 32, 47, 32, 37, 32, 94, 32, 33, 32, 60, 32, 62, 32, 63, 32, 58, 32, 126, 32, 36, 32, 61]).data.toList = onL.map (fun c => [c]) := by rfl
set_option maxHeartbeats 4000000 in
theorem rmark_any (s : ByteArray) (a : Nat) (w : World) (hs : s.size ≤ 8192) (ha : a < s.size) :
    Calls Try.prog 51 #[.string s, .int .i64 (a : Int)] w fun e w' => RetO a e (markM s a) ∧ Below w.heap.size w w' := by
  have i1 : (0 : Int) ≤ (a : Int) := by omega
  have i2 : (a : Int) + 1 ≤ (s.size : Int) := by omega
  have i6 : (a : Int) ≤ (a : Int) + 1 := by omega
  have i7 : (a : Int) ≤ (a : Int) + 2 := by omega
  have i9 : ((a : Int) + 1).toNat = a + 1 := by omega
  have i10 : ((a : Int) + 2).toNat = a + 2 := by omega
  have wr1 : IntKind.i64.wrap ((a : Int) + 1) = (a : Int) + 1 := by rw [IntKind.wrap_i64]; omega
  have wr2 : IntKind.i64.wrap ((a : Int) + 2) = (a : Int) + 2 := by rw [IntKind.wrap_i64]; omega
  obtain ⟨u1, hu1⟩ : ∃ u1, s.extract a (a + 1) = u1 := ⟨_, rfl⟩
  have one : u1.data.toList = [(pk s a).toUInt8] := by
    rw [← hu1, Byt.ext_mid, Byt.drop_lt s a ha, show a + 1 - a = 1 by omega, pk_at ha]
    simp
  have onI : ∀ c : UInt8, ([c] ∈ onL.map (fun c => [c])) ↔ c ∈ onL := fun c => by simp
  have D1 : decide (u1.data.toList ∈ onL.map (fun c => [c])) = decide ((pk s a).toUInt8 ∈ onL) := by rw [one]; exact decide_eq_decide.2 (onI _)
  by_cases h2 : a + 2 ≤ s.size
  · have i3 : (a : Int) + 2 ≤ (s.size : Int) := by omega
    obtain ⟨u2, hu2⟩ : ∃ u2, s.extract a (a + 2) = u2 := ⟨_, rfl⟩
    have mn : min (a + 2) s.size = a + 2 := by omega
    by_cases m2 : u2.data.toList ∈ twL
    · have O : Hid (markM s a = .tk 7 u2 0 (a + 2)) := Lib.hid (by unfold markM; rw [mn, hu2, if_pos m2])
      have H2 : Hid (decide (u2.data.toList ∈ wrds (ByteArray.mk #[43, 61, 32, 45, 61, 32, 42, 61, 32, 47, 61, 32, 37, 61, 32, 94, 61, 32, 61, 61, 32, 60, 61, 32, 62, 61, 32, 33, 61, 32, 33, 126, 32, 43, 43, 32, 45, 45, 32, 38, 38, 32, 124, 124, 32, 62, 62]).data.toList) = true) := Lib.hid (by rw [tw_words]; exact decide_eq_true m2)
      clear m2 mn D1 one onI
      go_enter Try.func51, Try.ntmps51
      go_wp2_with (first | (go_at_call 30; (with_reducible refine (among_any u2 (ByteArray.mk #[43, 61, 32, 45, 61, 32, 42, 61, 32, 47, 61, 32, 37, 61, 32, 94, 61, 32, 61, 61, 32, 60, 61, 32, 62, 61, 32, 33, 61, 32, 33, 126, 32, 43, 43, 32, 45, 45, 32, 38, 38, 32, 124, 124, 32, 62, 62]) _ (by decide) true H2.out).mono ?_); rintro e w1 ⟨rfl, hb1⟩; obtain ⟨e0, B1⟩ := one_new hb1; have e0 : Four w1 w.heap.size _ _ _ _ _ := e0; obtain ⟨c0, c1, c2, c3, g0, g1, g2, g3⟩ := e0.at; have B1' := Lib.hid B1; have E0 := Lib.hid e0))
      obtain ⟨r0, r1, r2, r3, -, -, -, -⟩ := (e0.sets (.int .i64 7) (.string u2) (.int .i64 0) (.int .i64 a)).at
      exact bodyPost_ret (v := .tuple #[tokV ⟨7, u2, 0, a⟩, .int .i64 (a + 2), .int .i64 0, .int .i64 0]) (by simp [results, Try.results51, go_sem, r0, r1, r2, r3]) rfl ⟨RetO.of O.out (by simp only [RetO]; simp), sets_below B1 (Nat.le_refl _) _ _ _ _⟩
    have H2 : Hid (decide (u2.data.toList ∈ wrds (ByteArray.mk #[43, 61, 32, 45, 61, 32, 42, 61, 32, 47, 61, 32, 37, 61, 32, 94, 61, 32, 61, 61, 32, 60, 61, 32, 62, 61, 32, 33, 61, 32, 33, 126, 32, 43, 43, 32, 45, 45, 32, 38, 38, 32, 124, 124, 32, 62, 62]).data.toList) = false) := Lib.hid (by rw [tw_words]; exact decide_eq_false m2)
    by_cases m1 : (pk s a).toUInt8 ∈ onL
    · have O : Hid (markM s a = .tk 7 u1 0 (a + 1)) := Lib.hid (by unfold markM; rw [mn, hu2, if_neg m2, if_pos m1, hu1])
      have H1 : Hid (decide (u1.data.toList ∈ wrds (ByteArray.mk #[123, 32, 125, 32, 40, 32, 41, 32, 91, 32, 93, 32, 59, 32, 44, 32, 43, 32, 45, 32, 42, 32, 47, 32, 37, 32, 94, 32, 33, 32, 60, 32, 62, 32, 63, 32, 58, 32, 126, 32, 36, 32, 61]).data.toList) = true) := Lib.hid (by rw [on_words, D1]; exact decide_eq_true m1)
      clear m2 mn m1 D1 one onI
      go_enter Try.func51, Try.ntmps51
      go_wp2_with (first | (go_at_call 30; (with_reducible refine (among_any u2 (ByteArray.mk #[43, 61, 32, 45, 61, 32, 42, 61, 32, 47, 61, 32, 37, 61, 32, 94, 61, 32, 61, 61, 32, 60, 61, 32, 62, 61, 32, 33, 61, 32, 33, 126, 32, 43, 43, 32, 45, 45, 32, 38, 38, 32, 124, 124, 32, 62, 62]) _ (by decide) false H2.out).mono ?_); rintro e w1 ⟨rfl, hb1⟩; obtain ⟨e0, B1⟩ := one_new hb1; have e0 : Four w1 w.heap.size _ _ _ _ _ := e0; obtain ⟨c0, c1, c2, c3, g0, g1, g2, g3⟩ := e0.at; have B1' := Lib.hid B1; have E0 := Lib.hid e0) | (go_at_call 30; (with_reducible refine (among_any u1 (ByteArray.mk #[123, 32, 125, 32, 40, 32, 41, 32, 91, 32, 93, 32, 59, 32, 44, 32, 43, 32, 45, 32, 42, 32, 47, 32, 37, 32, 94, 32, 33, 32, 60, 32, 62, 32, 63, 32, 58, 32, 126, 32, 36, 32, 61]) _ (by decide) true H1.out).mono ?_); rintro e w2 ⟨rfl, hb2⟩; have e2 := E0.out.below hb2 (Nat.lt_of_lt_of_le (Nat.lt_succ_self _) (by have := hb1.size; rw [World.size_alloc] at this; exact this)); obtain ⟨d0, d1, d2, d3, h0, h1, h2, h3⟩ := e2.at; have B2 := Lib.hid (B1'.out.trans (hb2.mono B1'.out.size))))
      obtain ⟨r0, r1, r2, r3, -, -, -, -⟩ := (e2.sets (.int .i64 7) (.string u1) (.int .i64 0) (.int .i64 a)).at
      exact bodyPost_ret (v := .tuple #[tokV ⟨7, u1, 0, a⟩, .int .i64 (a + 1), .int .i64 0, .int .i64 0]) (by simp [results, Try.results51, go_sem, r0, r1, r2, r3]) rfl ⟨RetO.of O.out (by simp only [RetO]; simp), sets_below B2.out (Nat.le_refl _) _ _ _ _⟩
    · have O : Hid (markM s a = .er 1 a) := Lib.hid (by unfold markM; rw [mn, hu2, if_neg m2, if_neg m1])
      have H1 : Hid (decide (u1.data.toList ∈ wrds (ByteArray.mk #[123, 32, 125, 32, 40, 32, 41, 32, 91, 32, 93, 32, 59, 32, 44, 32, 43, 32, 45, 32, 42, 32, 47, 32, 37, 32, 94, 32, 33, 32, 60, 32, 62, 32, 63, 32, 58, 32, 126, 32, 36, 32, 61]).data.toList) = false) := Lib.hid (by rw [on_words, D1]; exact decide_eq_false m1)
      clear m2 mn m1 D1 one onI
      go_enter Try.func51, Try.ntmps51
      go_wp2_with (first | (go_at_call 30; (with_reducible refine (among_any u2 (ByteArray.mk #[43, 61, 32, 45, 61, 32, 42, 61, 32, 47, 61, 32, 37, 61, 32, 94, 61, 32, 61, 61, 32, 60, 61, 32, 62, 61, 32, 33, 61, 32, 33, 126, 32, 43, 43, 32, 45, 45, 32, 38, 38, 32, 124, 124, 32, 62, 62]) _ (by decide) false H2.out).mono ?_); rintro e w1 ⟨rfl, hb1⟩; obtain ⟨e0, B1⟩ := one_new hb1; have e0 : Four w1 w.heap.size _ _ _ _ _ := e0; obtain ⟨c0, c1, c2, c3, g0, g1, g2, g3⟩ := e0.at; have B1' := Lib.hid B1; have E0 := Lib.hid e0) | (go_at_call 30; (with_reducible refine (among_any u1 (ByteArray.mk #[123, 32, 125, 32, 40, 32, 41, 32, 91, 32, 93, 32, 59, 32, 44, 32, 43, 32, 45, 32, 42, 32, 47, 32, 37, 32, 94, 32, 33, 32, 60, 32, 62, 32, 63, 32, 58, 32, 126, 32, 36, 32, 61]) _ (by decide) false H1.out).mono ?_); rintro e w2 ⟨rfl, hb2⟩; have e2 := E0.out.below hb2 (Nat.lt_of_lt_of_le (Nat.lt_succ_self _) (by have := hb1.size; rw [World.size_alloc] at this; exact this)); obtain ⟨d0, d1, d2, d3, h0, h1, h2, h3⟩ := e2.at; have B2 := Lib.hid (B1'.out.trans (hb2.mono B1'.out.size))))
      obtain ⟨r0, r1, r2, r3, -, -, -, -⟩ := (e2.sets (.int .i64 0) (.string ⟨#[]⟩) (.int .i64 0) (.int .i64 0)).at
      exact bodyPost_ret (v := .tuple #[tokV ⟨0, ⟨#[]⟩, 0, 0⟩, .int .i64 a, .int .i64 1, .int .i64 a]) (by simp [results, Try.results51, go_sem, r0, r1, r2, r3]) rfl ⟨RetO.of O.out ⟨⟨0, ⟨#[]⟩, 0, 0⟩, a, rfl⟩, sets_below B2.out (Nat.le_refl _) _ _ _ _⟩
  · have i3 : ¬ (a : Int) + 2 ≤ (s.size : Int) := by omega
    have no : (s.extract a (min (a + 2) s.size)).data.toList ∉ twL := by
      intro x
      have q := (tw_len x).1
      rw [Byt.ext_mid, List.length_take, List.length_drop, ← size_len] at q
      omega
    by_cases m1 : (pk s a).toUInt8 ∈ onL
    · have O : Hid (markM s a = .tk 7 u1 0 (a + 1)) := Lib.hid (by unfold markM; rw [if_neg no, if_pos m1, hu1])
      have H1 : Hid (decide (u1.data.toList ∈ wrds (ByteArray.mk #[123, 32, 125, 32, 40, 32, 41, 32, 91, 32, 93, 32, 59, 32, 44, 32, 43, 32, 45, 32, 42, 32, 47, 32, 37, 32, 94, 32, 33, 32, 60, 32, 62, 32, 63, 32, 58, 32, 126, 32, 36, 32, 61]).data.toList) = true) := Lib.hid (by rw [on_words, D1]; exact decide_eq_true m1)
      clear m1 no D1 one onI
      go_enter Try.func51, Try.ntmps51
      go_wp2_with (first | (go_at_call 30; (with_reducible refine (among_any u1 (ByteArray.mk #[123, 32, 125, 32, 40, 32, 41, 32, 91, 32, 93, 32, 59, 32, 44, 32, 43, 32, 45, 32, 42, 32, 47, 32, 37, 32, 94, 32, 33, 32, 60, 32, 62, 32, 63, 32, 58, 32, 126, 32, 36, 32, 61]) _ (by decide) true H1.out).mono ?_); rintro e w1 ⟨rfl, hb1⟩; obtain ⟨e0, B1⟩ := one_new hb1; have e0 : Four w1 w.heap.size _ _ _ _ _ := e0; obtain ⟨c0, c1, c2, c3, g0, g1, g2, g3⟩ := e0.at; have B1' := Lib.hid B1; have E0 := Lib.hid e0))
      obtain ⟨r0, r1, r2, r3, -, -, -, -⟩ := (e0.sets (.int .i64 7) (.string u1) (.int .i64 0) (.int .i64 a)).at
      exact bodyPost_ret (v := .tuple #[tokV ⟨7, u1, 0, a⟩, .int .i64 (a + 1), .int .i64 0, .int .i64 0]) (by simp [results, Try.results51, go_sem, r0, r1, r2, r3]) rfl ⟨RetO.of O.out (by simp only [RetO]; simp), sets_below B1 (Nat.le_refl _) _ _ _ _⟩
    · have O : Hid (markM s a = .er 1 a) := Lib.hid (by unfold markM; rw [if_neg no, if_neg m1])
      have H1 : Hid (decide (u1.data.toList ∈ wrds (ByteArray.mk #[123, 32, 125, 32, 40, 32, 41, 32, 91, 32, 93, 32, 59, 32, 44, 32, 43, 32, 45, 32, 42, 32, 47, 32, 37, 32, 94, 32, 33, 32, 60, 32, 62, 32, 63, 32, 58, 32, 126, 32, 36, 32, 61]).data.toList) = false) := Lib.hid (by rw [on_words, D1]; exact decide_eq_false m1)
      clear m1 no D1 one onI
      go_enter Try.func51, Try.ntmps51
      go_wp2_with (first | (go_at_call 30; (with_reducible refine (among_any u1 (ByteArray.mk #[123, 32, 125, 32, 40, 32, 41, 32, 91, 32, 93, 32, 59, 32, 44, 32, 43, 32, 45, 32, 42, 32, 47, 32, 37, 32, 94, 32, 33, 32, 60, 32, 62, 32, 63, 32, 58, 32, 126, 32, 36, 32, 61]) _ (by decide) false H1.out).mono ?_); rintro e w1 ⟨rfl, hb1⟩; obtain ⟨e0, B1⟩ := one_new hb1; have e0 : Four w1 w.heap.size _ _ _ _ _ := e0; obtain ⟨c0, c1, c2, c3, g0, g1, g2, g3⟩ := e0.at; have B1' := Lib.hid B1; have E0 := Lib.hid e0))
      obtain ⟨r0, r1, r2, r3, -, -, -, -⟩ := (e0.sets (.int .i64 0) (.string ⟨#[]⟩) (.int .i64 0) (.int .i64 0)).at
      exact bodyPost_ret (v := .tuple #[tokV ⟨0, ⟨#[]⟩, 0, 0⟩, .int .i64 a, .int .i64 1, .int .i64 a]) (by simp [results, Try.results51, go_sem, r0, r1, r2, r3]) rfl ⟨RetO.of O.out ⟨⟨0, ⟨#[]⟩, 0, 0⟩, a, rfl⟩, sets_below B1 (Nat.le_refl _) _ _ _ _⟩
/-- the token at an offset, where no line feed is -/
def tokD (s : ByteArray) (a : Nat) (dv : Bool) : Out :=
  if dgn (pk s a) ∨ pk s a = 46 ∧ dgn (pk s (a + 1)) then numM s a
  else if lt (pk s a) then wordM s a
  else if pk s a = 34 then quoM s 34 a
  else if pk s a = 47 ∧ dv = false then quoM s 47 a
  else markM s a
theorem tokM_D {s : ByteArray} {a : Nat} (T : List Tok) (h : pk s a ≠ 10) : tokM s a T = tokD s a (dvs T) := by
  unfold tokM tokD; rw [if_neg h]
theorem RetO.ret {a : Nat} {e : Ending} {o : Out} (h : RetO a e o) : ∃ t x y z, e = .returned (.tuple #[tokV t, .int .i64 x, .int .i64 y, .int .i64 z]) := by
  cases o with
  | tk k t n b => exact ⟨_, _, _, _, h⟩
  | er x k => obtain ⟨t, z, h⟩ := h; exact ⟨_, _, _, _, h⟩
  | sk b => cases h
theorem rprefix_is (u : ByteArray) (w : World) (d : Int) (n : Nat) (hs : u.size ≤ 8192) (hd : Byt.preV u.data.toList = d) (hn : Byt.preN u.data.toList = n) :
    Calls Try.prog 46 #[.string u] w fun e w' => e = .returned (.tuple #[.int .i64 d, .int .i64 n]) ∧ w = w' := by
  rw [← hd, ← hn]; exact rprefix_any u w (by omega)
theorem roperand_is (t : Tok) (r : Bool) (hr : opd t = r) (w : World) : Calls Try.prog 49 #[tokV t] w fun e w' => e = .returned (.bool r) ∧ Below w.heap.size w w' := by
  rw [← hr]; exact roperand_any t w
set_option maxHeartbeats 4000000 in
theorem rtoken_any (s : ByteArray) (a : Nat) (bt : Tok) (w : World) (hs : s.size ≤ 8192) (ha : a < s.size) :
    Calls Try.prog 29 #[.string s, .int .i64 (a : Int), tokV bt] w fun e w' => RetO a e (tokD s a (opd bt)) ∧ Below w.heap.size w w' := by
  have i1 : (0 : Int) ≤ (a : Int) := by omega
  have i2 : (a : Int) < (s.size : Int) := by omega
  have i4 : (a : Int) ≤ (s.size : Int) := by omega
  have PA := pk_at ha
  have c256 : s[a].toNat < 256 := UInt8.toNat_lt _
  obtain ⟨c, hc⟩ : ∃ c, s[a].toNat = c := ⟨_, rfl⟩
  have hp : pk s a = c := PA.trans hc
  have HP := Lib.hid hp
  obtain ⟨bk, bx, bn, ba⟩ := bt
  have N2 := fun (w1 : World) (hb1 : Below ((w.alloc (.cells #[.int .i64 bk, .string bx, .int .i64 bn, .int .i64 ba] 32)).alloc (.cells #[.int .i64 0, .string ⟨#[]⟩, .int .i64 0, .int .i64 0] 32)).heap.size ((w.alloc (.cells #[.int .i64 bk, .string bx, .int .i64 bn, .int .i64 ba] 32)).alloc (.cells #[.int .i64 0, .string ⟨#[]⟩, .int .i64 0, .int .i64 0] 32)) w1) => two_new hb1
  have N2 := Lib.hid N2
  have AL : Hid (∀ o1 o2, Below w.heap.size w ((w.alloc o1).alloc o2)) := Lib.hid fun o1 o2 => ((Below.refl _ _).alloc (Nat.le_refl _) _).alloc (by simp) _
  obtain ⟨e1, B1⟩ : Four ((w.alloc (.cells #[.int .i64 bk, .string bx, .int .i64 bn, .int .i64 ba] 32)).alloc (.cells #[.int .i64 0, .string ⟨#[]⟩, .int .i64 0, .int .i64 0] 32)) (w.heap.size + 1) 32 (.int .i64 0) (.string ⟨#[]⟩) (.int .i64 0) (.int .i64 0) ∧ Below w.heap.size w ((w.alloc (.cells #[.int .i64 bk, .string bx, .int .i64 bn, .int .i64 ba] 32)).alloc (.cells #[.int .i64 0, .string ⟨#[]⟩, .int .i64 0, .int .i64 0] 32)) := ⟨(N2.out _ (Below.refl _ _)).2.1, (N2.out _ (Below.refl _ _)).2.2⟩
  have E1 := Lib.hid e1
  have B1 := Lib.hid B1
  clear e1 hp PA
  have NUM : (dgn c = true ∨ c = 46 ∧ dgn (pk s (a + 1)) = true) → Hid (tokD s a (opd ⟨bk, bx, bn, ba⟩) = numM s a) := fun h => Lib.hid (by unfold tokD; rw [HP.out, if_pos h])
  obtain ⟨u, hu⟩ : ∃ u, s.extract a s.size = u := ⟨_, rfl⟩
  have hul : u.data.toList = s.data.toList.drop a := by rw [← hu]; exact Lib.extract_to_end s a
  have us : u.size ≤ 8192 := by rw [size_len, hul, List.length_drop, ← size_len]; omega
  obtain ⟨d, hdd⟩ : ∃ d, Byt.preV u.data.toList = d := ⟨_, rfl⟩
  obtain ⟨n, hnn⟩ : ∃ n, Byt.preN u.data.toList = n := ⟨_, rfl⟩
  have HD := Lib.hid hdd
  have HN := Lib.hid hnn
  have US := Lib.hid us
  rw [hul] at hdd hnn
  by_cases hd : dgn c = true
  · have O := NUM (.inl hd)
    have H1 : Hid (dgn s[a].toNat = true) := Lib.hid (by rw [hc]; exact hd)
    by_cases h15 : 15 < n
    · have O : Hid (tokD s a (opd ⟨bk, bx, bn, ba⟩) = .er 3 a) := Lib.hid (by rw [O.out]; unfold numM; rw [hnn, if_pos h15])
      have i6 : (15 : Int) < (n : Int) := by omega
      clear hdd hnn hul us hc NUM
      go_enter Try.func29, Try.ntmps29
      go_wp2_with (first | (go_at_call 45; refine (rdig_is s[a].toNat true H1.out _).mono ?_; rintro e w1 ⟨rfl, rfl⟩) | (go_at_call 46; refine (rprefix_is u _ d n US.out HD.out HN.out).mono ?_; rintro e w1 ⟨rfl, rfl⟩; obtain ⟨c0, c1, c2, c3, g0, g1, g2, g3⟩ := E1.out.at))
      exact bodyPost_ret (v := .tuple #[tokV ⟨0, ⟨#[]⟩, 0, 0⟩, .int .i64 a, .int .i64 3, .int .i64 a]) (by simp [results, Try.results29, go_sem]) rfl ⟨RetO.of O.out ⟨⟨0, ⟨#[]⟩, 0, 0⟩, a, rfl⟩, AL.out _ _⟩
    have O : Hid (tokD s a (opd ⟨bk, bx, bn, ba⟩) = .tk 1 ⟨#[]⟩ d (a + n)) := Lib.hid (by rw [O.out]; unfold numM; rw [hnn, hdd, if_neg h15])
    have i6 : ¬ (15 : Int) < (n : Int) := by omega
    have wr1 : IntKind.i64.wrap ((a : Int) + (n : Int)) = (a : Int) + (n : Int) := by rw [IntKind.wrap_i64]; omega
    clear hdd hnn hul us hc NUM
    go_enter Try.func29, Try.ntmps29
    go_wp2_with (first | (go_at_call 45; refine (rdig_is s[a].toNat true H1.out _).mono ?_; rintro e w1 ⟨rfl, rfl⟩) | (go_at_call 46; refine (rprefix_is u _ d n US.out HD.out HN.out).mono ?_; rintro e w1 ⟨rfl, rfl⟩; obtain ⟨c0, c1, c2, c3, g0, g1, g2, g3⟩ := E1.out.at))
    exact bodyPost_ret (v := .tuple #[tokV ⟨1, ⟨#[]⟩, d, a⟩, .int .i64 ((a : Int) + (n : Int)), .int .i64 0, .int .i64 0]) (by simp [results, Try.results29, go_sem]) rfl ⟨RetO.of O.out (by simp only [RetO]; simp), AL.out _ _⟩
  have hd' : dgn c = false := by simpa using hd
  have H1 : Hid (dgn s[a].toNat = false) := Lib.hid (by rw [hc]; exact hd')
  have nl : ¬ (dgn c = true) := hd
  by_cases h46 : c = 46
  · subst h46
    have t46 : ((s[a].toNat : Int) == 46) = true := by rw [beq_iff_eq]; omega
    by_cases hl1 : a + 1 < s.size
    · have i8 : (a : Int) + 1 < (s.size : Int) := by omega
      have i9 : (0 : Int) ≤ (a : Int) + 1 := by omega
      have wr9 : IntKind.i64.wrap ((a : Int) + 1) = (a : Int) + 1 := by rw [IntKind.wrap_i64]; omega
      have i10 : ((a : Int) + 1).toNat = a + 1 := by omega
      have P1 := pk_at hl1
      cases hq : dgn s[a + 1].toNat with
      | true =>
        have O := NUM (.inr ⟨rfl, by rw [P1]; exact hq⟩)
        have H2 := Lib.hid hq
        clear hq P1
        by_cases h15 : 15 < n
        · have O : Hid (tokD s a (opd ⟨bk, bx, bn, ba⟩) = .er 3 a) := Lib.hid (by rw [O.out]; unfold numM; rw [hnn, if_pos h15])
          have i6 : (15 : Int) < (n : Int) := by omega
          clear hdd hnn hul us hc NUM
          go_enter Try.func29, Try.ntmps29
          go_wp2_with (first | (go_at_call 45; (with_reducible refine (rdig_is s[a].toNat false H1.out _).mono ?_); rintro e w1 ⟨rfl, rfl⟩) | (go_at_call 45; (with_reducible refine (rdig_is s[a + 1].toNat true H2.out _).mono ?_); rintro e w1 ⟨rfl, rfl⟩) | (go_at_call 46; refine (rprefix_is u _ d n US.out HD.out HN.out).mono ?_; rintro e w1 ⟨rfl, rfl⟩; obtain ⟨c0, c1, c2, c3, g0, g1, g2, g3⟩ := E1.out.at))
          exact bodyPost_ret (v := .tuple #[tokV ⟨0, ⟨#[]⟩, 0, 0⟩, .int .i64 a, .int .i64 3, .int .i64 a]) (by simp [results, Try.results29, go_sem]) rfl ⟨RetO.of O.out ⟨⟨0, ⟨#[]⟩, 0, 0⟩, a, rfl⟩, AL.out _ _⟩
        have O : Hid (tokD s a (opd ⟨bk, bx, bn, ba⟩) = .tk 1 ⟨#[]⟩ d (a + n)) := Lib.hid (by rw [O.out]; unfold numM; rw [hnn, hdd, if_neg h15])
        have i6 : ¬ (15 : Int) < (n : Int) := by omega
        have wr1 : IntKind.i64.wrap ((a : Int) + (n : Int)) = (a : Int) + (n : Int) := by rw [IntKind.wrap_i64]; omega
        clear hdd hnn hul us hc NUM
        go_enter Try.func29, Try.ntmps29
        go_wp2_with (first | (go_at_call 45; (with_reducible refine (rdig_is s[a].toNat false H1.out _).mono ?_); rintro e w1 ⟨rfl, rfl⟩) | (go_at_call 45; (with_reducible refine (rdig_is s[a + 1].toNat true H2.out _).mono ?_); rintro e w1 ⟨rfl, rfl⟩) | (go_at_call 46; refine (rprefix_is u _ d n US.out HD.out HN.out).mono ?_; rintro e w1 ⟨rfl, rfl⟩; obtain ⟨c0, c1, c2, c3, g0, g1, g2, g3⟩ := E1.out.at))
        exact bodyPost_ret (v := .tuple #[tokV ⟨1, ⟨#[]⟩, d, a⟩, .int .i64 ((a : Int) + (n : Int)), .int .i64 0, .int .i64 0]) (by simp [results, Try.results29, go_sem]) rfl ⟨RetO.of O.out (by simp only [RetO]; simp), AL.out _ _⟩
      | false =>
        have O : Hid (tokD s a (opd ⟨bk, bx, bn, ba⟩) = markM s a) := Lib.hid (by unfold tokD; rw [HP.out, P1, hq, if_neg (by rw [hd']; simp), if_neg (by decide), if_neg (by decide), if_neg (by simp)])
        have H2 := Lib.hid hq
        have H3 : Hid (lt s[a].toNat = false) := Lib.hid (by rw [hc]; decide)
        have t34 : ((s[a].toNat : Int) == 34) = false := by rw [beq_eq_false_iff_ne]; omega
        have t47 : ((s[a].toNat : Int) == 47) = false := by rw [beq_eq_false_iff_ne]; omega
        clear hq P1 hc hdd hnn hul us NUM
        go_enter Try.func29, Try.ntmps29
        go_wp2_with (first | (go_at_call 45; (with_reducible refine (rdig_is s[a].toNat false H1.out _).mono ?_); rintro e w1 ⟨rfl, rfl⟩) | (go_at_call 45; (with_reducible refine (rdig_is s[a + 1].toNat false H2.out _).mono ?_); rintro e w1 ⟨rfl, rfl⟩) | (go_at_call 47; refine (rlet_is s[a].toNat false (UInt8.toNat_lt _) H3.out _).mono ?_; rintro e w1 ⟨rfl, rfl⟩) | (go_at_call 51; refine (rmark_any s a _ hs ha).mono ?_; rintro e w3 ⟨R3, hb3⟩; obtain ⟨e1, e2, B1⟩ := two_new hb3; have e2 : Four w3 (w.heap.size + 1) _ _ _ _ _ := e2; obtain ⟨c0, c1, c2, c3, g0, g1, g2, g3⟩ := e2.at; have B3 := Lib.hid B1; have E2 := Lib.hid e2; obtain ⟨t, x, y, z, rfl⟩ := R3.ret; have R3 := Lib.hid R3))
        obtain ⟨r0, r1, r2, r3, -, -, -, -⟩ := (E2.out.sets (.int .i64 t.k) (.string t.t) (.int .i64 t.n) (.int .i64 t.a)).at
        exact bodyPost_ret (v := .tuple #[tokV t, .int .i64 x, .int .i64 y, .int .i64 z]) (by simp [results, Try.results29, go_sem, r0, r1, r2, r3]) rfl ⟨RetO.of O.out R3.out, sets_below B3.out (Nat.le_succ _) _ _ _ _⟩
    · have i8 : ¬ (a : Int) + 1 < (s.size : Int) := by omega
      have wr9 : IntKind.i64.wrap ((a : Int) + 1) = (a : Int) + 1 := by rw [IntKind.wrap_i64]; omega
      have O : Hid (tokD s a (opd ⟨bk, bx, bn, ba⟩) = markM s a) := Lib.hid (by unfold tokD; rw [HP.out, pk_ge (show s.size ≤ a + 1 by omega), if_neg (by decide), if_neg (by decide), if_neg (by decide), if_neg (by simp)])
      have H3 : Hid (lt s[a].toNat = false) := Lib.hid (by rw [hc]; decide)
      have t34 : ((s[a].toNat : Int) == 34) = false := by rw [beq_eq_false_iff_ne]; omega
      have t47 : ((s[a].toNat : Int) == 47) = false := by rw [beq_eq_false_iff_ne]; omega
      clear hc hdd hnn hul us NUM
      go_enter Try.func29, Try.ntmps29
      go_wp2_with (first | (go_at_call 45; (with_reducible refine (rdig_is s[a].toNat false H1.out _).mono ?_); rintro e w1 ⟨rfl, rfl⟩) | (go_at_call 47; refine (rlet_is s[a].toNat false (UInt8.toNat_lt _) H3.out _).mono ?_; rintro e w1 ⟨rfl, rfl⟩) | (go_at_call 51; refine (rmark_any s a _ hs ha).mono ?_; rintro e w3 ⟨R3, hb3⟩; obtain ⟨e1, e2, B1⟩ := two_new hb3; have e2 : Four w3 (w.heap.size + 1) _ _ _ _ _ := e2; obtain ⟨c0, c1, c2, c3, g0, g1, g2, g3⟩ := e2.at; have B3 := Lib.hid B1; have E2 := Lib.hid e2; obtain ⟨t, x, y, z, rfl⟩ := R3.ret; have R3 := Lib.hid R3))
      obtain ⟨r0, r1, r2, r3, -, -, -, -⟩ := (E2.out.sets (.int .i64 t.k) (.string t.t) (.int .i64 t.n) (.int .i64 t.a)).at
      exact bodyPost_ret (v := .tuple #[tokV t, .int .i64 x, .int .i64 y, .int .i64 z]) (by simp [results, Try.results29, go_sem, r0, r1, r2, r3]) rfl ⟨RetO.of O.out R3.out, sets_below B3.out (Nat.le_succ _) _ _ _ _⟩
  have t46 : ((s[a].toNat : Int) == 46) = false := by rw [beq_eq_false_iff_ne]; omega
  have ND : ¬ (dgn c = true ∨ c = 46 ∧ dgn (pk s (a + 1)) = true) := by rintro (x | x); exact hd x; exact h46 x.1
  clear hdd hnn hul us NUM
  by_cases hl : lt c = true
  · have O : Hid (tokD s a (opd ⟨bk, bx, bn, ba⟩) = wordM s a) := Lib.hid (by unfold tokD; rw [HP.out, if_neg ND, if_pos hl])
    have H3 : Hid (lt s[a].toNat = true) := Lib.hid (by rw [hc]; exact hl)
    clear hc ND hl
    go_enter Try.func29, Try.ntmps29
    go_wp2_with (first | (go_at_call 45; (with_reducible refine (rdig_is s[a].toNat false H1.out _).mono ?_); rintro e w1 ⟨rfl, rfl⟩) | (go_at_call 47; refine (rlet_is s[a].toNat true (UInt8.toNat_lt _) H3.out _).mono ?_; rintro e w1 ⟨rfl, rfl⟩) | (go_at_call 48; refine (rword_any s a _ hs ha).mono ?_; rintro e w3 ⟨R3, hb3⟩; obtain ⟨e1, e2, B1⟩ := two_new hb3; have e2 : Four w3 (w.heap.size + 1) _ _ _ _ _ := e2; obtain ⟨c0, c1, c2, c3, g0, g1, g2, g3⟩ := e2.at; have B3 := Lib.hid B1; have E2 := Lib.hid e2; obtain ⟨t, x, y, z, rfl⟩ := R3.ret; have R3 := Lib.hid R3))
    obtain ⟨r0, r1, r2, r3, -, -, -, -⟩ := (E2.out.sets (.int .i64 t.k) (.string t.t) (.int .i64 t.n) (.int .i64 t.a)).at
    exact bodyPost_ret (v := .tuple #[tokV t, .int .i64 x, .int .i64 y, .int .i64 z]) (by simp [results, Try.results29, go_sem, r0, r1, r2, r3]) rfl ⟨RetO.of O.out R3.out, sets_below B3.out (Nat.le_succ _) _ _ _ _⟩
  have hl' : lt c = false := by simpa using hl
  have H3 : Hid (lt s[a].toNat = false) := Lib.hid (by rw [hc]; exact hl')
  by_cases h34 : c = 34
  · subst h34
    have O : Hid (tokD s a (opd ⟨bk, bx, bn, ba⟩) = quoM s 34 a) := Lib.hid (by unfold tokD; rw [HP.out, if_neg ND, if_neg hl, if_pos rfl])
    have t34 : ((s[a].toNat : Int) == 34) = true := by rw [beq_iff_eq]; omega
    clear hc ND hl hl'
    go_enter Try.func29, Try.ntmps29
    go_wp2_with (first | (go_at_call 45; (with_reducible refine (rdig_is s[a].toNat false H1.out _).mono ?_); rintro e w1 ⟨rfl, rfl⟩) | (go_at_call 47; refine (rlet_is s[a].toNat false (UInt8.toNat_lt _) H3.out _).mono ?_; rintro e w1 ⟨rfl, rfl⟩) | (go_at_call 50; refine (rquoted_any s a 34 _ hs ha HP.out (.inl rfl)).mono ?_; rintro e w3 ⟨R3, hb3⟩; obtain ⟨e1, e2, B1⟩ := two_new hb3; have e2 : Four w3 (w.heap.size + 1) _ _ _ _ _ := e2; obtain ⟨c0, c1, c2, c3, g0, g1, g2, g3⟩ := e2.at; have B3 := Lib.hid B1; have E2 := Lib.hid e2; obtain ⟨t, x, y, z, rfl⟩ := R3.ret; have R3 := Lib.hid R3))
    obtain ⟨r0, r1, r2, r3, -, -, -, -⟩ := (E2.out.sets (.int .i64 t.k) (.string t.t) (.int .i64 t.n) (.int .i64 t.a)).at
    exact bodyPost_ret (v := .tuple #[tokV t, .int .i64 x, .int .i64 y, .int .i64 z]) (by simp [results, Try.results29, go_sem, r0, r1, r2, r3]) rfl ⟨RetO.of O.out R3.out, sets_below B3.out (Nat.le_succ _) _ _ _ _⟩
  have t34 : ((s[a].toNat : Int) == 34) = false := by rw [beq_eq_false_iff_ne]; omega
  by_cases h47 : c = 47
  · subst h47
    have t47 : ((s[a].toNat : Int) == 47) = true := by rw [beq_iff_eq]; omega
    cases ho : opd ⟨bk, bx, bn, ba⟩ with
    | false =>
      have O : Hid (tokD s a false = quoM s 47 a) := Lib.hid (by unfold tokD; rw [HP.out, if_neg ND, if_neg hl, if_neg h34, if_pos ⟨rfl, rfl⟩])
      have HO := Lib.hid ho
      clear hc ND hl hl' ho
      go_enter Try.func29, Try.ntmps29
      go_wp2_with (first | (go_at_call 45; (with_reducible refine (rdig_is s[a].toNat false H1.out _).mono ?_); rintro e w1 ⟨rfl, rfl⟩) | (go_at_call 47; refine (rlet_is s[a].toNat false (UInt8.toNat_lt _) H3.out _).mono ?_; rintro e w1 ⟨rfl, rfl⟩) | (go_at_call 49; refine (roperand_is ⟨bk, bx, bn, ba⟩ false HO.out _).mono ?_; rintro e w2 ⟨rfl, hb2⟩) | (go_at_call 50; refine (rquoted_any s a 47 _ hs ha HP.out (.inr rfl)).mono ?_; rintro e w3 ⟨R3, hb4⟩; have hb3 := hb2.trans (hb4.mono hb2.size); obtain ⟨e1, e2, B1⟩ := two_new hb3; have e2 : Four w3 (w.heap.size + 1) _ _ _ _ _ := e2; obtain ⟨c0, c1, c2, c3, g0, g1, g2, g3⟩ := e2.at; have B3 := Lib.hid B1; have E2 := Lib.hid e2; obtain ⟨t, x, y, z, rfl⟩ := R3.ret; have R3 := Lib.hid R3))
      obtain ⟨r0, r1, r2, r3, -, -, -, -⟩ := (E2.out.sets (.int .i64 t.k) (.string t.t) (.int .i64 t.n) (.int .i64 t.a)).at
      exact bodyPost_ret (v := .tuple #[tokV t, .int .i64 x, .int .i64 y, .int .i64 z]) (by simp [results, Try.results29, go_sem, r0, r1, r2, r3]) rfl ⟨RetO.of O.out R3.out, sets_below B3.out (Nat.le_succ _) _ _ _ _⟩
    | true =>
      have O : Hid (tokD s a true = markM s a) := Lib.hid (by unfold tokD; rw [HP.out, if_neg ND, if_neg hl, if_neg h34, if_neg (by rintro ⟨_, x⟩; cases x)])
      have HO := Lib.hid ho
      clear hc ND hl hl' ho
      go_enter Try.func29, Try.ntmps29
      go_wp2_with (first | (go_at_call 45; (with_reducible refine (rdig_is s[a].toNat false H1.out _).mono ?_); rintro e w1 ⟨rfl, rfl⟩) | (go_at_call 47; refine (rlet_is s[a].toNat false (UInt8.toNat_lt _) H3.out _).mono ?_; rintro e w1 ⟨rfl, rfl⟩) | (go_at_call 49; refine (roperand_is ⟨bk, bx, bn, ba⟩ true HO.out _).mono ?_; rintro e w2 ⟨rfl, hb2⟩) | (go_at_call 51; refine (rmark_any s a _ hs ha).mono ?_; rintro e w3 ⟨R3, hb4⟩; have hb3 := hb2.trans (hb4.mono hb2.size); obtain ⟨e1, e2, B1⟩ := two_new hb3; have e2 : Four w3 (w.heap.size + 1) _ _ _ _ _ := e2; obtain ⟨c0, c1, c2, c3, g0, g1, g2, g3⟩ := e2.at; have B3 := Lib.hid B1; have E2 := Lib.hid e2; obtain ⟨t, x, y, z, rfl⟩ := R3.ret; have R3 := Lib.hid R3))
      obtain ⟨r0, r1, r2, r3, -, -, -, -⟩ := (E2.out.sets (.int .i64 t.k) (.string t.t) (.int .i64 t.n) (.int .i64 t.a)).at
      exact bodyPost_ret (v := .tuple #[tokV t, .int .i64 x, .int .i64 y, .int .i64 z]) (by simp [results, Try.results29, go_sem, r0, r1, r2, r3]) rfl ⟨RetO.of O.out R3.out, sets_below B3.out (Nat.le_succ _) _ _ _ _⟩
  · have O : Hid (tokD s a (opd ⟨bk, bx, bn, ba⟩) = markM s a) := Lib.hid (by unfold tokD; rw [HP.out, if_neg ND, if_neg hl, if_neg h34, if_neg (by rintro ⟨x, _⟩; exact h47 x)])
    have t47 : ((s[a].toNat : Int) == 47) = false := by rw [beq_eq_false_iff_ne]; omega
    clear hc ND hl hl'
    go_enter Try.func29, Try.ntmps29
    go_wp2_with (first | (go_at_call 45; (with_reducible refine (rdig_is s[a].toNat false H1.out _).mono ?_); rintro e w1 ⟨rfl, rfl⟩) | (go_at_call 47; refine (rlet_is s[a].toNat false (UInt8.toNat_lt _) H3.out _).mono ?_; rintro e w1 ⟨rfl, rfl⟩) | (go_at_call 51; refine (rmark_any s a _ hs ha).mono ?_; rintro e w3 ⟨R3, hb3⟩; obtain ⟨e1, e2, B1⟩ := two_new hb3; have e2 : Four w3 (w.heap.size + 1) _ _ _ _ _ := e2; obtain ⟨c0, c1, c2, c3, g0, g1, g2, g3⟩ := e2.at; have B3 := Lib.hid B1; have E2 := Lib.hid e2; obtain ⟨t, x, y, z, rfl⟩ := R3.ret; have R3 := Lib.hid R3))
    obtain ⟨r0, r1, r2, r3, -, -, -, -⟩ := (E2.out.sets (.int .i64 t.k) (.string t.t) (.int .i64 t.n) (.int .i64 t.a)).at
    exact bodyPost_ret (v := .tuple #[tokV t, .int .i64 x, .int .i64 y, .int .i64 z]) (by simp [results, Try.results29, go_sem, r0, r1, r2, r3]) rfl ⟨RetO.of O.out R3.out, sets_below B3.out (Nat.le_succ _) _ _ _ _⟩
end Go.Proofs.Ytbioflajonafdaa
