/- walks: the reference's digit, letter, last, Skips, operand, closing -/
import Derived.Test.YtbioflajonafdaaSk
import Derived.Test.YtbioflajonafdaaPb
namespace Go.Proofs.Ytbioflajonafdaa
open Go.RowKit
open Tx
abbrev tokV (t : Tok) : Value := .agg #[.int .i64 t.k, .string t.t, .int .i64 t.n, .int .i64 t.a]
theorem rdig_any (c : Nat) (w : World) : Calls Try.prog 45 #[.int .u8 (c : Int)] w fun e w' => e = .returned (.bool (dgn c)) ∧ w = w' := by
  by_cases h1 : 48 ≤ c
  · have i1 : (48 : Int) ≤ (c : Int) := by omega
    by_cases h2 : c ≤ 57
    · have e : dgn c = true := by simp [dgn, h1, h2]
      have i2 : (c : Int) ≤ 57 := by omega
      rw [e]
      go_enter Try.func45, Try.ntmps45
      go_wp2_with fail
      go_ret
      simp
    · have e : dgn c = false := by simp [dgn, h2]
      have i2 : ¬ (c : Int) ≤ 57 := by omega
      rw [e]
      go_enter Try.func45, Try.ntmps45
      go_wp2_with fail
      go_ret
      simp
  · have e : dgn c = false := by simp [dgn, h1]
    have i1 : ¬ (48 : Int) ≤ (c : Int) := by omega
    rw [e]
    go_enter Try.func45, Try.ntmps45
    go_wp2_with fail
    go_ret
    simp
theorem rlet_any (c : Nat) (_hc : c < 256) (w : World) : Calls Try.prog 47 #[.int .u8 (c : Int)] w fun e w' => e = .returned (.bool (lt c)) ∧ w = w' := by
  by_cases h1 : c < 65
  · have e : lt c = false := by simp [lt]; omega
    have i1 : ¬ (97 : Int) ≤ (c : Int) := by omega
    have i2 : ¬ (65 : Int) ≤ (c : Int) := by omega
    have i3 : ((c : Int) == 95) = false := by rw [beq_eq_false_iff_ne]; omega
    rw [e]
    go_enter Try.func47, Try.ntmps47
    go_wp2_with fail
    go_ret
    simp
  by_cases h2 : c ≤ 90
  · have e : lt c = true := by simp [lt]; omega
    have i1 : ¬ (97 : Int) ≤ (c : Int) := by omega
    have i2 : (65 : Int) ≤ (c : Int) := by omega
    have i3 : (c : Int) ≤ 90 := by omega
    rw [e]
    go_enter Try.func47, Try.ntmps47
    go_wp2_with fail
    go_ret
    simp
  by_cases h3 : c < 97
  · have e : lt c = decide (c = 95) := by simp [lt]; omega
    have i1 : ¬ (97 : Int) ≤ (c : Int) := by omega
    have i2 : (65 : Int) ≤ (c : Int) := by omega
    have i3 : ¬ (c : Int) ≤ 90 := by omega
    by_cases h5 : c = 95
    · subst h5
      rw [e]
      go_enter Try.func47, Try.ntmps47
      go_wp2_with fail
      go_ret
      simp
    · have i4 : ((c : Int) == 95) = false := by rw [beq_eq_false_iff_ne]; omega
      rw [e, decide_eq_false h5]
      go_enter Try.func47, Try.ntmps47
      go_wp2_with fail
      go_ret
      simp
  by_cases h4 : c ≤ 122
  · have e : lt c = true := by simp [lt]; omega
    have i1 : (97 : Int) ≤ (c : Int) := by omega
    have i3 : (c : Int) ≤ 122 := by omega
    rw [e]
    go_enter Try.func47, Try.ntmps47
    go_wp2_with fail
    go_ret
    simp
  · have e : lt c = false := by simp [lt]; omega
    have i1 : (97 : Int) ≤ (c : Int) := by omega
    have i2 : ¬ (c : Int) ≤ 122 := by omega
    have i4 : (65 : Int) ≤ (c : Int) := by omega
    have i5 : ¬ (c : Int) ≤ 90 := by omega
    have i3 : ((c : Int) == 95) = false := by rw [beq_eq_false_iff_ne]; omega
    rw [e]
    go_enter Try.func47, Try.ntmps47
    go_wp2_with fail
    go_ret
    simp
theorem rlet_is (c : Nat) (r : Bool) (hc : c < 256) (hr : lt c = r) (w : World) : Calls Try.prog 47 #[.int .u8 (c : Int)] w fun e w' => e = .returned (.bool r) ∧ w = w' := by
  rw [← hr]; exact rlet_any c hc w
theorem rdig_is (c : Nat) (r : Bool) (hr : dgn c = r) (w : World) : Calls Try.prog 45 #[.int .u8 (c : Int)] w fun e w' => e = .returned (.bool r) ∧ w = w' := by
  rw [← hr]; exact rdig_any c w
def lastT (T : List Tok) : Tok := (T.getLast?).getD ⟨0, ⟨#[]⟩, 0, 0⟩
theorem Toks.nil {w : World} {B : Nat} {v : Value} (h : Toks w B v []) : ∃ gg cp, v = .slice gg 0 cp := by
  rcases h.2 with ⟨hv, -⟩ | ⟨g, cap, cur, hv, -⟩
  · exact ⟨none, 0, hv⟩
  · exact ⟨_, cap, hv⟩
set_option maxHeartbeats 1000000 in
theorem rlast_any (T : List Tok) (v : Value) (B : Nat) (w : World) (h : Toks w B v T) (hl : T.length ≤ 1048576) :
    Calls Try.prog 28 #[v] w fun e w' => e = .returned (tokV (lastT T)) ∧ Below w.heap.size w w' := by
  rcases List.eq_nil_or_concat T with rfl | ⟨T0, t, rfl⟩
  · obtain ⟨gg, cp, rfl⟩ := h.nil
    clear h
    go_enter Try.func28, Try.ntmps28
    go_wp2_with fail
    exact bodyPost_ret (v := tokV (lastT [])) (by simp [results, Try.results28, go_sem, lastT]) rfl ⟨rfl, (Below.refl _ _).alloc (Nat.le_refl _) _⟩
  · rw [List.concat_eq_append] at h hl ⊢
    have hl : T0.length + 1 ≤ 1048576 := by simpa using hl
    obtain ⟨g, cap, hv, -, hg, -, -, hc⟩ := h.cell (by simp)
    obtain ⟨k0, k1, k2, k3⟩ := hc T0.length t (by simp)
    have hn : (T0 ++ [t]).length = T0.length + 1 := by simp
    rw [hn] at hv
    subst hv
    clear h hc
    have LT : lastT (T0 ++ [t]) = t := by simp [lastT]
    rw [LT]
    have i1 : ¬ ((T0.length : Int) + 1 = 0) := by omega
    have i2 : (0 : Int) ≤ (T0.length : Int) := by omega
    have i3 : (T0.length : Int) < (T0.length : Int) + 1 := by omega
    have wr2 : IntKind.i64.wrap (T0.length : Int) = (T0.length : Int) := by rw [IntKind.wrap_i64]; omega
    have wr : IntKind.i64.wrap ((T0.length : Int) + 1 - 1) = (T0.length : Int) := by rw [IntKind.wrap_i64]; omega
    go_enter Try.func28, Try.ntmps28
    go_wp2_with fail
    exact bodyPost_ret (v := tokV t) (by simp [results, Try.results28, go_sem]) rfl ⟨rfl, (Below.refl _ _).alloc (Nat.le_refl _) _⟩
theorem skM_words : wrds (ByteArray.mk #[44, 32, 123, 32, 38, 38, 32, 124, 124]).data.toList = skM := by rfl
theorem skW_words : wrds (ByteArray.mk #[100, 111, 32, 101, 108, 115, 101]).data.toList = skW := by rfl
theorem dvL_words : wrds (ByteArray.mk #[41, 32, 93, 32, 43, 43, 32, 45, 45]).data.toList = dvL := by rfl
set_option maxHeartbeats 1000000 in
theorem rskips_any (t : Tok) (w : World) : Calls Try.prog 13 #[tokV t] w fun e w' => e = .returned (.bool (skp t)) ∧ Below w.heap.size w w' := by
  obtain ⟨k, x, n, b⟩ := t
  have B0 := Lib.hid ((Below.refl w.heap.size w).alloc (Nat.le_refl _) (.cells #[.int .i64 k, .string x, .int .i64 n, .int .i64 b] 32))
  by_cases h7 : k = 7
  · subst h7
    by_cases hm : x.data.toList ∈ skM
    · have R : Hid (skp ⟨7, x, n, b⟩ = true) := Lib.hid (by simp [skp, hm])
      have H1 : Hid (decide (x.data.toList ∈ wrds (ByteArray.mk #[44, 32, 123, 32, 38, 38, 32, 124, 124]).data.toList) = true) := Lib.hid (by rw [skM_words]; exact decide_eq_true hm)
      clear hm
      go_enter Try.func13, Try.ntmps13
      go_wp2_with (first | (go_at_call 30; with_reducible refine (among_any x (ByteArray.mk #[44, 32, 123, 32, 38, 38, 32, 124, 124]) _ (by decide) true H1.out).mono ?_; rintro e w1 ⟨rfl, hb1⟩))
      go_ret
      exact ⟨by rw [R.out]; rfl, below_step hb1⟩
    · have R : Hid (skp ⟨7, x, n, b⟩ = false) := Lib.hid (by simp [skp, hm])
      have H1 : Hid (decide (x.data.toList ∈ wrds (ByteArray.mk #[44, 32, 123, 32, 38, 38, 32, 124, 124]).data.toList) = false) := Lib.hid (by rw [skM_words]; exact decide_eq_false hm)
      clear hm
      go_enter Try.func13, Try.ntmps13
      go_wp2_with (first | (go_at_call 30; with_reducible refine (among_any x (ByteArray.mk #[44, 32, 123, 32, 38, 38, 32, 124, 124]) _ (by decide) false H1.out).mono ?_; rintro e w1 ⟨rfl, hb1⟩; have e0 := (hb1.block w.heap.size (by simp)).trans (heap_alloc_new w _); have q0 := blk_cell e0 0; have q1 := blk_cell e0 1; simp only [List.getElem?_toArray, List.getElem?_cons_zero, List.getElem?_cons_succ] at q0 q1; have B1 := Lib.hid (below_step hb1)))
      go_ret
      exact ⟨by rw [R.out]; rfl, B1.out⟩
  have e7 : (k == 7) = false := by rw [beq_eq_false_iff_ne]; exact h7
  by_cases h6 : k = 6
  · subst h6
    by_cases hm : x.data.toList ∈ skW
    · have R : Hid (skp ⟨6, x, n, b⟩ = true) := Lib.hid (by simp [skp, hm])
      have H1 : Hid (decide (x.data.toList ∈ wrds (ByteArray.mk #[100, 111, 32, 101, 108, 115, 101]).data.toList) = true) := Lib.hid (by rw [skW_words]; exact decide_eq_true hm)
      clear hm
      go_enter Try.func13, Try.ntmps13
      go_wp2_with (first | (go_at_call 30; with_reducible refine (among_any x (ByteArray.mk #[100, 111, 32, 101, 108, 115, 101]) _ (by decide) true H1.out).mono ?_; rintro e w1 ⟨rfl, hb1⟩))
      go_ret
      exact ⟨by rw [R.out]; rfl, below_step hb1⟩
    · have R : Hid (skp ⟨6, x, n, b⟩ = false) := Lib.hid (by simp [skp, hm])
      have H1 : Hid (decide (x.data.toList ∈ wrds (ByteArray.mk #[100, 111, 32, 101, 108, 115, 101]).data.toList) = false) := Lib.hid (by rw [skW_words]; exact decide_eq_false hm)
      clear hm
      go_enter Try.func13, Try.ntmps13
      go_wp2_with (first | (go_at_call 30; with_reducible refine (among_any x (ByteArray.mk #[100, 111, 32, 101, 108, 115, 101]) _ (by decide) false H1.out).mono ?_; rintro e w1 ⟨rfl, hb1⟩))
      go_ret
      exact ⟨by rw [R.out]; rfl, below_step hb1⟩
  · have R : Hid (skp ⟨k, x, n, b⟩ = false) := Lib.hid (by simp [skp, h6, h7])
    have e6 : (k == 6) = false := by rw [beq_eq_false_iff_ne]; exact h6
    go_enter Try.func13, Try.ntmps13
    go_wp2_with fail
    go_ret
    exact ⟨by rw [R.out]; rfl, B0.out⟩
set_option maxHeartbeats 1000000 in
theorem roperand_any (t : Tok) (w : World) : Calls Try.prog 49 #[tokV t] w fun e w' => e = .returned (.bool (opd t)) ∧ Below w.heap.size w w' := by
  obtain ⟨k, x, n, b⟩ := t
  have B0 := Lib.hid ((Below.refl w.heap.size w).alloc (Nat.le_refl _) (.cells #[.int .i64 k, .string x, .int .i64 n, .int .i64 b] 32))
  by_cases h1 : k = 1
  · subst h1
    have R : Hid (opd ⟨1, x, n, b⟩ = true) := Lib.hid (by simp [opd])
    go_enter Try.func49, Try.ntmps49
    go_wp2_with fail
    go_ret
    exact ⟨by rw [R.out]; rfl, B0.out⟩
  have e1 : (k == 1) = false := by rw [beq_eq_false_iff_ne]; exact h1
  by_cases h2 : k = 2
  · subst h2
    have R : Hid (opd ⟨2, x, n, b⟩ = true) := Lib.hid (by simp [opd])
    go_enter Try.func49, Try.ntmps49
    go_wp2_with fail
    go_ret
    exact ⟨by rw [R.out]; rfl, B0.out⟩
  have e2 : (k == 2) = false := by rw [beq_eq_false_iff_ne]; exact h2
  by_cases h3 : k = 3
  · subst h3
    have R : Hid (opd ⟨3, x, n, b⟩ = true) := Lib.hid (by simp [opd])
    go_enter Try.func49, Try.ntmps49
    go_wp2_with fail
    go_ret
    exact ⟨by rw [R.out]; rfl, B0.out⟩
  have e3 : (k == 3) = false := by rw [beq_eq_false_iff_ne]; exact h3
  by_cases h4 : k = 4
  · subst h4
    have R : Hid (opd ⟨4, x, n, b⟩ = true) := Lib.hid (by simp [opd])
    go_enter Try.func49, Try.ntmps49
    go_wp2_with fail
    go_ret
    exact ⟨by rw [R.out]; rfl, B0.out⟩
  have e4 : (k == 4) = false := by rw [beq_eq_false_iff_ne]; exact h4
  by_cases h7 : k = 7
  · subst h7
    obtain ⟨r, hr⟩ : ∃ r, decide (x.data.toList ∈ dvL) = r := ⟨_, rfl⟩
    have R : Hid (opd ⟨7, x, n, b⟩ = r) := Lib.hid (by rw [← hr]; simp [opd])
    have H1 : Hid (decide (x.data.toList ∈ wrds (ByteArray.mk #[41, 32, 93, 32, 43, 43, 32, 45, 45]).data.toList) = r) := Lib.hid (by rw [dvL_words]; exact hr)
    clear hr
    go_enter Try.func49, Try.ntmps49
    go_wp2_with (first | (go_at_call 30; with_reducible refine (among_any x (ByteArray.mk #[41, 32, 93, 32, 43, 43, 32, 45, 45]) _ (by decide) r H1.out).mono ?_; rintro e w1 ⟨rfl, hb1⟩))
    go_ret
    exact ⟨by rw [R.out]; rfl, below_step hb1⟩
  · have R : Hid (opd ⟨k, x, n, b⟩ = false) := Lib.hid (by simp [opd, h1, h2, h3, h4, h7])
    have e7 : (k == 7) = false := by rw [beq_eq_false_iff_ne]; exact h7
    go_enter Try.func49, Try.ntmps49
    go_wp2_with fail
    go_ret
    exact ⟨by rw [R.out]; rfl, B0.out⟩
set_option maxHeartbeats 2000000 in
theorem rclosing_any (s : ByteArray) (a c : Nat) (w : World) (hs : s.size ≤ 8192) (ha : a < s.size) (hc : pk s a = c) (c10 : c ≠ 10) (r : Int) (hr : clzI s c (a + 1) = r) :
    Calls Try.prog 62 #[.string s, .int .i64 (a : Int)] w fun e w' => e = .returned (.int .i64 r) ∧ Below w.heap.size w w' := by
  have hc' : s[a].toNat = c := by rw [← pk_at ha]; exact hc
  have wr0 : IntKind.i64.wrap ((a : Int) + 1) = (a : Int) + 1 := by rw [IntKind.wrap_i64]; omega
  have HR := Lib.hid hr
  have j1 : (0 : Int) ≤ (a : Int) := by omega
  have j2 : (a : Int) < (s.size : Int) := by omega
  clear hr hc
  go_enter Try.func62, Try.ntmps62
  go_wp2_with fail
  go_loopw [5] (fun i wr => ∃ j : Nat, i = .int .i64 j ∧ j ≤ s.size + 1 ∧ Hid (clzI s c j = r) ∧ Hid (Below w.heap.size w wr)) (fun i _ => s.size + 2 - (intOf i).toNat)
  case atStart => exact ⟨a + 1, by go_num, by omega, HR, Lib.hid (Below.refl _ _)⟩
  case round =>
    obtain ⟨j, rfl, hj, HJ, HB⟩ := hrel
    have E := Lib.hid (clzI_eq s c j)
    have wr1 : IntKind.i64.wrap ((j : Int) + 1) = (j : Int) + 1 := by rw [IntKind.wrap_i64]; omega
    by_cases hlt : j < s.size
    · have i1 : (0 : Int) ≤ (j : Int) := by omega
      have i2 : (j : Int) < (s.size : Int) := by omega
      have PK := Lib.hid (pk_at hlt)
      by_cases k2 : s[j].toNat = 10
      · have R : Hid (r = -1) := Lib.hid (by rw [← HJ.out, E.out, if_neg (by omega), if_neg (by rw [PK.out]; omega), if_pos (by rw [PK.out]; exact k2)])
        have t2 : ((s[j].toNat : Int) != 10) = false := by rw [bne_eq_false_iff_eq]; omega
        go_wp2_with fail
        have BB := HB.out
        go_ret
        exact ⟨by rw [R.out]; rfl, BB⟩
      have t2 : ((s[j].toNat : Int) != 10) = true := by rw [bne_iff_ne]; omega
      by_cases k1 : s[j].toNat = c
      · have R : Hid (r = j) := Lib.hid (by rw [← HJ.out, E.out, if_neg (by omega), if_pos (by rw [PK.out]; exact k1)])
        have t1 : ((s[j].toNat : Int) == (s[a].toNat : Int)) = true := by rw [beq_iff_eq]; omega
        go_wp2_with fail
        go_quiet (fail)
        go_wp2_with fail
        have BB := tx_below_drewN HB.out nq
        go_ret
        exact ⟨by rw [R.out]; rfl, BB⟩
      have t1 : ((s[j].toNat : Int) == (s[a].toNat : Int)) = false := by rw [beq_eq_false_iff_ne]; omega
      by_cases k3 : s[j].toNat = 92
      · have t3 : ((s[j].toNat : Int) == 92) = true := by rw [beq_iff_eq]; omega
        have wr2 : IntKind.i64.wrap ((j : Int) + 1 + 1) = (j : Int) + 1 + 1 := by rw [IntKind.wrap_i64]; omega
        by_cases hl1 : j + 1 < s.size
        · have PK1 := Lib.hid (pk_at hl1)
          have i3 : (0 : Int) ≤ (j : Int) + 1 := by omega
          have i4 : (j : Int) + 1 < (s.size : Int) := by omega
          by_cases k4 : s[j + 1].toNat = 10
          · have R : Hid (r = -1) := Lib.hid (by rw [← HJ.out, E.out, if_neg (by omega), if_neg (by rw [PK.out]; exact k1), if_neg (by rw [PK.out]; exact k2), if_pos (by rw [PK.out]; exact k3), if_pos (by rw [PK1.out]; exact k4)])
            have t4 : ((s[j + 1].toNat : Int) == 10) = true := by rw [beq_iff_eq]; omega
            go_wp2_with fail
            go_quiet (fail)
            go_wp2_with fail
            have BB := tx_below_drewN HB.out nq
            go_ret
            exact ⟨by rw [R.out]; rfl, BB⟩
          · have R : Hid (clzI s c (j + 2) = r) := Lib.hid (by rw [← HJ.out, E.out, if_neg (by omega), if_neg (by rw [PK.out]; exact k1), if_neg (by rw [PK.out]; exact k2), if_pos (by rw [PK.out]; exact k3), if_neg (by rw [PK1.out]; exact k4)])
            have t4 : ((s[j + 1].toNat : Int) == 10) = false := by rw [beq_eq_false_iff_ne]; omega
            go_wp2_with fail
            go_quiet (fail)
            go_wp2_with fail
            have BB := tx_below_drewN HB.out nq
            go_roundw
            case rel => exact ⟨j + 2, by go_num, by omega, R, Lib.hid BB⟩
            case measure => simp [intOf]; omega
        · have R : Hid (clzI s c (j + 2) = r) := Lib.hid (by rw [← HJ.out, E.out, if_neg (by omega), if_neg (by rw [PK.out]; exact k1), if_neg (by rw [PK.out]; exact k2), if_pos (by rw [PK.out]; exact k3), if_neg (by rw [pk_ge (by omega)]; decide)])
          have i4 : ¬ (j : Int) + 1 < (s.size : Int) := by omega
          go_wp2_with fail
          go_quiet (fail)
          go_wp2_with fail
          have BB := tx_below_drewN HB.out nq
          go_roundw
          case rel => exact ⟨j + 2, by go_num, by omega, R, Lib.hid BB⟩
          case measure => simp [intOf]; omega
      · have t3 : ((s[j].toNat : Int) == 92) = false := by rw [beq_eq_false_iff_ne]; omega
        have R : Hid (clzI s c (j + 1) = r) := Lib.hid (by rw [← HJ.out, E.out, if_neg (by omega), if_neg (by rw [PK.out]; exact k1), if_neg (by rw [PK.out]; exact k2), if_neg (by rw [PK.out]; exact k3)])
        go_wp2_with fail
        go_quiet (fail)
        go_wp2_with fail
        have BB := tx_below_drewN HB.out nq
        go_roundw
        case rel => exact ⟨j + 1, by go_num, by omega, R, Lib.hid BB⟩
        case measure => simp [intOf]; omega
    · have i2 : ¬ (j : Int) < (s.size : Int) := by omega
      have R : Hid (r = -1) := Lib.hid (by rw [← HJ.out, E.out, if_pos (by omega)])
      go_wp2_with fail
      have BB := HB.out
      go_ret
      exact ⟨by rw [R.out]; rfl, BB⟩
end Go.Proofs.Ytbioflajonafdaa
