/- walks: token (written by gen_si.py) -/
import Derived.Test.YtbioflajonafdaaSh
namespace Go.Proofs.Ytbioflajonafdaa
open Go.RowKit
open Tx
theorem pk_256 (s : ByteArray) (i : Nat) : pk s i < 256 := by
  unfold pk; split
  · exact UInt8.toNat_lt _
  · omega
theorem peek_0 (p : Nat) (s : ByteArray) (j c : Nat) (v : Value) (T : List Tok) (er pos : Int) (w : World) (h : LX p s j v T er pos w) (hs : s.size ≤ 8192) (ha : j ≤ s.size) (hc : pk s (j + 0) = c) :
    Calls Try.prog 35 #[.pointer (some ⟨p, 0, none⟩), .int .i64 0] w fun e w' => e = .returned (.int .u8 (c : Int)) ∧ LX p s j v T er pos w' ∧ Below w.heap.size w w' :=
  peek_is p s j 0 c v T er pos w h hs ha (by omega) hc
theorem peek_1 (p : Nat) (s : ByteArray) (j c : Nat) (v : Value) (T : List Tok) (er pos : Int) (w : World) (h : LX p s j v T er pos w) (hs : s.size ≤ 8192) (ha : j ≤ s.size) (hc : pk s (j + 1) = c) :
    Calls Try.prog 35 #[.pointer (some ⟨p, 0, none⟩), .int .i64 1] w fun e w' => e = .returned (.int .u8 (c : Int)) ∧ LX p s j v T er pos w' ∧ Below w.heap.size w w' :=
  peek_is p s j 1 c v T er pos w h hs ha (by omega) hc
theorem digx_is (x : Int) (c : Nat) (r : Bool) (hx : x = (c : Int)) (hr : dgn c = r) (w : World) : Calls Try.prog 38 #[.int .u8 x] w fun e w' => e = .returned (.bool r) ∧ w = w' := by
  rw [hx, ← hr]; exact sdigit_any c w
set_option maxHeartbeats 4000000 in
theorem stoken_any (p : Nat) (s : ByteArray) (a : Nat) (v : Value) (T : List Tok) (pos : Int) (w : World) (h : LX p s a v T 0 pos w) (hs : s.size ≤ 8192) (ha : a < s.size) (hT : T.length ≤ 1048576) :
    Calls Try.prog 26 #[.pointer (some ⟨p, 0, none⟩)] w fun e w' => e = .returned (.tuple #[]) ∧ OutP p s T a pos w' (tokM s a T) ∧ Below p w w' := by
  have HX := Lib.hid h
  have HT := Lib.hid hT
  have PB : p ≤ w.heap.size := by have := h.size; omega
  obtain ⟨c, hc⟩ : ∃ c, pk s a = c := ⟨_, rfl⟩
  have HC : Hid (pk s (a + 0) = c) := Lib.hid hc
  have c256 : c < 256 := by rw [← hc]; exact pk_256 s a
  have wr1 : IntKind.i64.wrap ((a : Int) + 1) = (a : Int) + 1 := by rw [IntKind.wrap_i64]; omega
  clear h hT
  by_cases h10 : c = 10
  · subst h10
    cases hf : aft skL T with
    | true =>
      have O : Hid (tokM s a T = .sk (a + 1)) := Lib.hid (by unfold tokM; rw [if_pos hc, hf]; rfl)
      have HF := Lib.hid hf
      clear hc hf
      go_enter Try.func26, Try.ntmps26
      go_wp2_with (go_at_call 35; refine (peek_is p s a 0 10 v T 0 pos _ HX.out hs (by omega) (by omega) HC.out).mono ?_; rintro e w1 ⟨rfl, L1, hb1⟩; obtain ⟨-, c1, -, -, -, f1⟩ := L1.cells; have L1' := Lib.hid L1; have B1 := Lib.hid (hb1.mono PB); clear L1)
      have BA := Lib.hid ((Below.refl w1.heap.size w1).alloc (Nat.le_refl _) (.cells #[.string ⟨#[44]⟩, .string ⟨#[123]⟩, .string ⟨#[38, 38]⟩, .string ⟨#[124, 124]⟩, .string ⟨#[100, 111]⟩, .string ⟨#[101, 108, 115, 101]⟩] 9))
      go_wp2_with (go_at_call 37; refine (after_any p s a T _ 0 pos _ (L1'.out.below BA.out) HT.out _ [⟨#[44]⟩, ⟨#[123]⟩, ⟨#[38, 38]⟩, ⟨#[124, 124]⟩, ⟨#[100, 111]⟩, ⟨#[101, 108, 115, 101]⟩] (by decide) (strs_new _ _ _ (by decide) _ rfl) true HF.out).mono ?_; rintro er w2 ⟨rfl, L2, hb2⟩; obtain ⟨-, d1, -, -, -, d1f⟩ := L2.cells; have L2' := Lib.hid L2; have B2 := Lib.hid (B1.out.trans ((BA.out.mono (by have := L1'.out.size; omega)).trans (hb2.mono (by have := L1'.out.size; simp; omega)))); clear L2)
      (try simp only [Exit.inBlock, Exit.then]); refine bodyPost_ret (results_none rfl _ _ _) rfl ?_
      exact ⟨rfl, OutP.of O.out ⟨v, (L2'.out.set1 _).1.cast (by omega)⟩, B2.out.trans (L2'.out.set1 _).2⟩
    | false =>
      have O : Hid (tokM s a T = .tk 8 ⟨#[]⟩ 0 (a + 1)) := Lib.hid (by unfold tokM; rw [if_pos hc, hf]; rfl)
      have HF := Lib.hid hf
      clear hc hf
      go_enter Try.func26, Try.ntmps26
      go_wp2_with (go_at_call 35; refine (peek_is p s a 0 10 v T 0 pos _ HX.out hs (by omega) (by omega) HC.out).mono ?_; rintro e w1 ⟨rfl, L1, hb1⟩; obtain ⟨-, c1, -, -, -, f1⟩ := L1.cells; have L1' := Lib.hid L1; have B1 := Lib.hid (hb1.mono PB); clear L1)
      have BA := Lib.hid ((Below.refl w1.heap.size w1).alloc (Nat.le_refl _) (.cells #[.string ⟨#[44]⟩, .string ⟨#[123]⟩, .string ⟨#[38, 38]⟩, .string ⟨#[124, 124]⟩, .string ⟨#[100, 111]⟩, .string ⟨#[101, 108, 115, 101]⟩] 9))
      go_wp2_with (first | (go_at_call 37; refine (after_any p s a T _ 0 pos _ (L1'.out.below BA.out) HT.out _ [⟨#[44]⟩, ⟨#[123]⟩, ⟨#[38, 38]⟩, ⟨#[124, 124]⟩, ⟨#[100, 111]⟩, ⟨#[101, 108, 115, 101]⟩] (by decide) (strs_new _ _ _ (by decide) _ rfl) false HF.out).mono ?_; rintro er w2 ⟨rfl, L2, hb2⟩; obtain ⟨-, d1, -, -, -, d1f⟩ := L2.cells; have L2' := Lib.hid L2; have B2 := Lib.hid (B1.out.trans ((BA.out.mono (by have := L1'.out.size; omega)).trans (hb2.mono (by have := L1'.out.size; simp; omega)))); clear L2) | (go_at_call 25; refine (put_any p s a (a + 1) v T ⟨8, ⟨#[]⟩, 0, 0⟩ 0 pos _ L2'.out HT.out).mono ?_; rintro er w3 ⟨rfl, hb3, v3, L3⟩))
      go_end0
      exact ⟨rfl, OutP.of O.out ⟨v3, L3.cast (by omega)⟩, B2.out.trans hb3⟩
  have t10 : ((c : Int) == 10) = false := by rw [beq_eq_false_iff_ne]; omega
  by_cases hd : dgn c = true
  · have O : Hid (tokM s a T = numM s a) := Lib.hid (by unfold tokM; rw [hc, if_neg h10, if_pos (.inl hd)])
    have H1 := Lib.hid hd
    clear hc hd
    go_enter Try.func26, Try.ntmps26
    go_wp2_with (first | (go_at_call 35; refine (peek_is p s a 0 c v T 0 pos _ HX.out hs (by omega) (by omega) HC.out).mono ?_; rintro e w1 ⟨rfl, L1, hb1⟩; obtain ⟨-, c1, -, -, -, f1⟩ := L1.cells; have L1' := Lib.hid L1; have B1 := Lib.hid (hb1.mono PB); clear L1) | (go_at_call 38; refine (digch_is c true H1.out _).mono ?_; rintro e w9 ⟨rfl, rfl⟩) | (go_at_call 39; refine (snumber_any p s a v T pos _ L1'.out hs ha HT.out).mono ?_; rintro e w3 ⟨rfl, P3, hb3⟩))
    go_end0
    exact ⟨rfl, OutP.of O.out P3, B1.out.trans hb3⟩
  have hd' : dgn c = false := by simpa using hd
  have H1 := Lib.hid hd'
  by_cases h46 : c = 46
  · subst h46
    obtain ⟨d, hd1⟩ : ∃ d, pk s (a + 1) = d := ⟨_, rfl⟩
    have HD := Lib.hid hd1
    cases hdd : dgn d with
    | true =>
      have O : Hid (tokM s a T = numM s a) := Lib.hid (by unfold tokM; rw [hc, if_neg h10, if_pos (.inr ⟨rfl, by rw [hd1]; exact hdd⟩)])
      have H2 := Lib.hid hdd
      clear hc hd hd' hd1 hdd
      go_enter Try.func26, Try.ntmps26
      go_wp2_with (first | (go_at_call 35; with_reducible refine (peek_0 p s a 46 v T 0 pos _ HX.out hs (by omega) HC.out).mono ?_; rintro e w1 ⟨rfl, L1, hb1⟩; obtain ⟨-, c1, -, -, -, f1⟩ := L1.cells; have L1' := Lib.hid L1; have B1 := Lib.hid (hb1.mono PB); clear L1) | (go_at_call 35; with_reducible refine (peek_1 p s a d v T 0 pos _ L1'.out hs (by omega) HD.out).mono ?_; rintro e w2 ⟨rfl, L2, hb2⟩; have L2' := Lib.hid L2; have B2 := Lib.hid (B1.out.trans (hb2.mono (by have := L1'.out.size; omega))); clear L2) | (go_at_call 38; with_reducible refine (digx_is 46 46 false (by omega) H1.out _).mono ?_; rintro e w9 ⟨rfl, rfl⟩) | (go_at_call 38; with_reducible refine (digx_is (d : Int) d true (by omega) H2.out _).mono ?_; rintro e w9 ⟨rfl, rfl⟩) | (go_at_call 39; refine (snumber_any p s a v T pos _ L2'.out hs ha HT.out).mono ?_; rintro e w3 ⟨rfl, P3, hb3⟩))
      go_end0
      exact ⟨rfl, OutP.of O.out P3, B2.out.trans hb3⟩
    | false =>
      have O : Hid (tokM s a T = markM s a) := Lib.hid (by unfold tokM; rw [hc, if_neg h10, if_neg (by rw [hd', hd1, hdd]; simp), if_neg (by decide), if_neg (by decide), if_neg (by simp)])
      have H2 := Lib.hid hdd
      have H3 : Hid (lt 46 = false) := Lib.hid (by decide)
      clear hc hd hd' hd1 hdd
      go_enter Try.func26, Try.ntmps26
      go_wp2_with (first | (go_at_call 35; with_reducible refine (peek_0 p s a 46 v T 0 pos _ HX.out hs (by omega) HC.out).mono ?_; rintro e w1 ⟨rfl, L1, hb1⟩; obtain ⟨-, c1, -, -, -, f1⟩ := L1.cells; have L1' := Lib.hid L1; have B1 := Lib.hid (hb1.mono PB); clear L1) | (go_at_call 35; with_reducible refine (peek_1 p s a d v T 0 pos _ L1'.out hs (by omega) HD.out).mono ?_; rintro e w2 ⟨rfl, L2, hb2⟩; have L2' := Lib.hid L2; have B2 := Lib.hid (B1.out.trans (hb2.mono (by have := L1'.out.size; omega))); clear L2) | (go_at_call 38; with_reducible refine (digx_is 46 46 false (by omega) H1.out _).mono ?_; rintro e w9 ⟨rfl, rfl⟩) | (go_at_call 38; with_reducible refine (digx_is (d : Int) d false (by omega) H2.out _).mono ?_; rintro e w9 ⟨rfl, rfl⟩) | (go_at_call 40; refine (wordch_is 46 false (by decide) H3.out _).mono ?_; rintro e w9 ⟨rfl, rfl⟩) | (go_at_call 44; refine (smark_any p s a v T pos _ L2'.out hs ha HT.out).mono ?_; rintro e w3 ⟨rfl, P3, hb3⟩))
      go_end0
      exact ⟨rfl, OutP.of O.out P3, B2.out.trans hb3⟩
  have t46 : ((c : Int) == 46) = false := by rw [beq_eq_false_iff_ne]; omega
  have ND : ¬ (dgn c = true ∨ c = 46 ∧ dgn (pk s (a + 1)) = true) := by rintro (x | x); exact hd x; exact h46 x.1
  by_cases hl : lt c = true
  · have O : Hid (tokM s a T = wordM s a) := Lib.hid (by unfold tokM; rw [hc, if_neg h10, if_neg ND, if_pos hl])
    have H3 := Lib.hid hl
    clear hc hd hd' hl ND
    go_enter Try.func26, Try.ntmps26
    go_wp2_with (first | (go_at_call 35; refine (peek_is p s a 0 c v T 0 pos _ HX.out hs (by omega) (by omega) HC.out).mono ?_; rintro e w1 ⟨rfl, L1, hb1⟩; obtain ⟨-, c1, -, -, -, f1⟩ := L1.cells; have L1' := Lib.hid L1; have B1 := Lib.hid (hb1.mono PB); clear L1) | (go_at_call 38; refine (digch_is c false H1.out _).mono ?_; rintro e w9 ⟨rfl, rfl⟩) | (go_at_call 40; refine (wordch_is c true c256 H3.out _).mono ?_; rintro e w9 ⟨rfl, rfl⟩) | (go_at_call 41; refine (sword_any p s a v T pos _ L1'.out hs ha HT.out).mono ?_; rintro e w3 ⟨rfl, P3, hb3⟩))
    go_end0
    exact ⟨rfl, OutP.of O.out P3, B1.out.trans hb3⟩
  have hl' : lt c = false := by simpa using hl
  have H3 := Lib.hid hl'
  by_cases h34 : c = 34
  · subst h34
    have O : Hid (tokM s a T = quoM s 34 a) := Lib.hid (by unfold tokM; rw [hc, if_neg h10, if_neg ND, if_neg hl, if_pos rfl])
    clear hc hd hd' hl hl' ND
    go_enter Try.func26, Try.ntmps26
    go_wp2_with (first | (go_at_call 35; refine (peek_is p s a 0 34 v T 0 pos _ HX.out hs (by omega) (by omega) HC.out).mono ?_; rintro e w1 ⟨rfl, L1, hb1⟩; obtain ⟨-, c1, -, -, -, f1⟩ := L1.cells; have L1' := Lib.hid L1; have B1 := Lib.hid (hb1.mono PB); clear L1) | (go_at_call 38; refine (digch_is 34 false H1.out _).mono ?_; rintro e w9 ⟨rfl, rfl⟩) | (go_at_call 40; refine (wordch_is 34 false (by decide) H3.out _).mono ?_; rintro e w9 ⟨rfl, rfl⟩) | (go_at_call 42; refine (squoted_any p s a 34 v T pos _ L1'.out hs ha HT.out (by decide)).mono ?_; rintro e w3 ⟨rfl, P3, hb3⟩))
    go_end0
    exact ⟨rfl, OutP.of O.out P3, B1.out.trans hb3⟩
  have t34 : ((c : Int) == 34) = false := by rw [beq_eq_false_iff_ne]; omega
  by_cases h47 : c = 47
  · subst h47
    cases hv : dvs T with
    | false =>
      have O : Hid (tokM s a T = quoM s 47 a) := Lib.hid (by unfold tokM; rw [hc, if_neg h10, if_neg ND, if_neg hl, if_neg h34, if_pos ⟨rfl, hv⟩])
      have HV := Lib.hid hv
      clear hc hd hd' hl hl' ND hv
      go_enter Try.func26, Try.ntmps26
      go_wp2_with (first | (go_at_call 35; refine (peek_is p s a 0 47 v T 0 pos _ HX.out hs (by omega) (by omega) HC.out).mono ?_; rintro e w1 ⟨rfl, L1, hb1⟩; obtain ⟨-, c1, -, -, -, f1⟩ := L1.cells; have L1' := Lib.hid L1; have B1 := Lib.hid (hb1.mono PB); clear L1) | (go_at_call 38; refine (digch_is 47 false H1.out _).mono ?_; rintro e w9 ⟨rfl, rfl⟩) | (go_at_call 40; refine (wordch_is 47 false (by decide) H3.out _).mono ?_; rintro e w9 ⟨rfl, rfl⟩) | (go_at_call 43; refine (divides_any p s a T v 0 pos _ L1'.out HT.out false HV.out).mono ?_; rintro er w2 ⟨rfl, L2, hb2⟩; have L2' := Lib.hid L2; have B2 := Lib.hid (B1.out.trans (hb2.mono (by have := L1'.out.size; omega))); clear L2) | (go_at_call 42; refine (squoted_any p s a 47 v T pos _ L2'.out hs ha HT.out (by decide)).mono ?_; rintro e w3 ⟨rfl, P3, hb3⟩))
      go_end0
      exact ⟨rfl, OutP.of O.out P3, B2.out.trans hb3⟩
    | true =>
      have O : Hid (tokM s a T = markM s a) := Lib.hid (by unfold tokM; rw [hc, if_neg h10, if_neg ND, if_neg hl, if_neg h34, if_neg (by rw [hv]; simp)])
      have HV := Lib.hid hv
      clear hc hd hd' hl hl' ND hv
      go_enter Try.func26, Try.ntmps26
      go_wp2_with (first | (go_at_call 35; refine (peek_is p s a 0 47 v T 0 pos _ HX.out hs (by omega) (by omega) HC.out).mono ?_; rintro e w1 ⟨rfl, L1, hb1⟩; obtain ⟨-, c1, -, -, -, f1⟩ := L1.cells; have L1' := Lib.hid L1; have B1 := Lib.hid (hb1.mono PB); clear L1) | (go_at_call 38; refine (digch_is 47 false H1.out _).mono ?_; rintro e w9 ⟨rfl, rfl⟩) | (go_at_call 40; refine (wordch_is 47 false (by decide) H3.out _).mono ?_; rintro e w9 ⟨rfl, rfl⟩) | (go_at_call 43; refine (divides_any p s a T v 0 pos _ L1'.out HT.out true HV.out).mono ?_; rintro er w2 ⟨rfl, L2, hb2⟩; have L2' := Lib.hid L2; have B2 := Lib.hid (B1.out.trans (hb2.mono (by have := L1'.out.size; omega))); clear L2) | (go_at_call 44; refine (smark_any p s a v T pos _ L2'.out hs ha HT.out).mono ?_; rintro e w3 ⟨rfl, P3, hb3⟩))
      go_end0
      exact ⟨rfl, OutP.of O.out P3, B2.out.trans hb3⟩
  · have t47 : ((c : Int) == 47) = false := by rw [beq_eq_false_iff_ne]; omega
    have O : Hid (tokM s a T = markM s a) := Lib.hid (by unfold tokM; rw [hc, if_neg h10, if_neg ND, if_neg hl, if_neg h34, if_neg (by rintro ⟨x, _⟩; exact h47 x)])
    clear hc hd hd' hl hl' ND
    go_enter Try.func26, Try.ntmps26
    go_wp2_with (first | (go_at_call 35; refine (peek_is p s a 0 c v T 0 pos _ HX.out hs (by omega) (by omega) HC.out).mono ?_; rintro e w1 ⟨rfl, L1, hb1⟩; obtain ⟨-, c1, -, -, -, f1⟩ := L1.cells; have L1' := Lib.hid L1; have B1 := Lib.hid (hb1.mono PB); clear L1) | (go_at_call 38; refine (digch_is c false H1.out _).mono ?_; rintro e w9 ⟨rfl, rfl⟩) | (go_at_call 40; refine (wordch_is c false c256 H3.out _).mono ?_; rintro e w9 ⟨rfl, rfl⟩) | (go_at_call 44; refine (smark_any p s a v T pos _ L1'.out hs ha HT.out).mono ?_; rintro e w3 ⟨rfl, P3, hb3⟩))
    go_end0
    exact ⟨rfl, OutP.of O.out P3, B1.out.trans hb3⟩
end Go.Proofs.Ytbioflajonafdaa
