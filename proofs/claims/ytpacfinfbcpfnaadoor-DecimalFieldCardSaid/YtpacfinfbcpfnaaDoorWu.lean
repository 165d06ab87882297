/- walks: the law of sums, products and remainders -/
import Derived.Test.YtpacfinfbcpfnaaDoorWs
namespace Go.Proofs.YtpacfinfbcpfnaaDoor
open Go.RowKit
open Dcm Byt
theorem add_at (a b v e : Int) (w : World) (hv : addV a b = v ∧ addE a b = e) : Calls Tryd.prog 30 #[.int .i64 a, .int .i64 b] w fun x w' => x = .returned (.tuple #[.int .i64 v, .int .i64 e]) ∧ w = w' := by rw [← hv.1, ← hv.2]; exact add_any a b w
theorem sub_at (a b v e : Int) (w : World) (hv : subV a b = v ∧ subE a b = e) : Calls Tryd.prog 32 #[.int .i64 a, .int .i64 b] w fun x w' => x = .returned (.tuple #[.int .i64 v, .int .i64 e]) ∧ w = w' := by rw [← hv.1, ← hv.2]; exact sub_any a b w
theorem mod_at (a b v e : Int) (w : World) (hv : modV a b = v ∧ modE a b = e) : Calls Tryd.prog 36 #[.int .i64 a, .int .i64 b] w fun x w' => x = .returned (.tuple #[.int .i64 v, .int .i64 e]) ∧ w = w' := by rw [← hv.1, ← hv.2]; exact mod_any a b w
theorem ofInt_at (a v e : Int) (w : World) (hv : ofIntV a = v ∧ ofIntE a = e) : Calls Tryd.prog 25 #[.int .i64 a] w fun x w' => x = .returned (.tuple #[.int .i64 v, .int .i64 e]) ∧ w = w' := by rw [← hv.1, ← hv.2]; exact ofInt_any a w
theorem int_at (a v : Int) (w : World) (hv : toInt a = v) : Calls Tryd.prog 27 #[.int .i64 a] w fun x w' => x = .returned (.int .i64 v) ∧ w = w' := by rw [← hv]; exact int_any a w
theorem lsize_at (d z : Int) (w : World) (hz : Hid (sz d = z)) (h1 : -1000000000000000000 ≤ d) (h2 : d ≤ 1000000000000000000) :
    Calls Tryd.prog 22 #[.int .i64 d] w fun e w' => e = .returned (.int .i64 z) ∧ w = w' := by rw [← hz.out]; exact lsize_any d w h1 h2
/-- the facts of the rest, where the divisor is not 0 -/
inductive RC (a b : Int) : Prop where
  | zero (h : b = 0) (m : modV a b = 0 ∧ modE a b = 10)
  | some (m q k K p x y : Int) (h : b ≠ 0) (hm : modV a b = m ∧ modE a b = 0) (hq : divV a b = q ∧ divE a b = 0) (hk : toInt q = k) (hK : ofIntV k = K ∧ ofIntE k = 0)
      (hp : mulV b K = p ∧ mulE b K = 0) (hx : sz m = x) (hy : sz b = y) (lt : x < y) (hs : addV p m = a ∧ addE p m = 0) (m1 : -1000000000 ≤ m) (m2 : m ≤ 1000000000)
      (sg : m = 0 ∨ (0 < m ∧ 0 < a) ∨ (m < 0 ∧ a ≤ 0)) : RC a b
theorem tmod_sgn2 (a b : Int) (hb : b ≠ 0) : sz (a.tmod b) < sz b ∧ (a.tmod b = 0 ∨ (0 < a.tmod b ∧ 0 < a) ∨ (a.tmod b < 0 ∧ a ≤ 0)) := by
  refine ⟨?_, ?_⟩
  · rw [sz_natAbs, sz_natAbs, Int.natAbs_tmod]
    have := Nat.mod_lt a.natAbs (show 0 < b.natAbs by omega)
    omega
  · have hp : 0 ≤ a → 0 ≤ a.tmod b := fun h => Int.tmod_nonneg _ h
    have hn : a ≤ 0 → a.tmod b ≤ 0 := fun h => by
      have := Int.tmod_nonneg b (show 0 ≤ -a by omega)
      rw [Int.neg_tmod] at this; omega
    omega
theorem rc_of (a b : Int) (ha : -1000000000 ≤ a) (ha' : a ≤ 1000000000) (hb : -1000000000 ≤ b) (hb' : b ≤ 1000000000) : RC a b := by
  by_cases h0 : b = 0
  · exact .zero h0 (mod_zero a b (by omega) (by omega) h0)
  · obtain ⟨s1, s2⟩ := tmod_sgn2 a b h0
    have mb := tmod_bd a b 1000000000 ha ha'
    have kb := tdiv_bd a b 1000000000 ha ha'
    have hq := quo_valid a b ha ha'
    have hqb := vld_iff.1 hq
    have e1 : toInt ((a * 10000).tdiv b) = a.tdiv b := by unfold toInt; rw [near_eq3 _ hqb.1 hqb.2]; exact tdiv_tdiv a b
    have pb : b * a.tdiv b = a - a.tmod b := by rw [Int.mul_comm]; exact tdiv_mul a b
    have p1 : -10000000000000 ≤ b * a.tdiv b ∧ b * a.tdiv b ≤ 10000000000000 := by omega
    exact .some (a.tmod b) ((a * 10000).tdiv b) (a.tdiv b) (a.tdiv b * 10000) (b * a.tdiv b) (sz (a.tmod b)) (sz b) h0
      (mod_ok a b (by omega) (by omega) (by omega) (by omega) h0)
      (div_ok a b _ (by omega) (by omega) (by omega) (by omega) h0 rfl hqb.1 hqb.2) e1
      (ofInt_ok _ kb.1 kb.2)
      (mul_ok b (a.tdiv b * 10000) _ (by omega) (by omega) (by omega) (by omega) (mul_10000' b (a.tdiv b)) p1.1 p1.2)
      rfl rfl s1
      (add_ok _ _ a p1.1 p1.2 (by omega) (by omega) (by omega) (by omega) (by omega)) mb.1 mb.2 s2
set_option maxHeartbeats 4000000 in
theorem rest_any (a b : Int) (w : World) (a1 : -1000000000 ≤ a) (a2 : a ≤ 1000000000) (b1 : -1000000000 ≤ b) (b2 : b ≤ 1000000000) :
    Calls Tryd.prog 40 #[.int .i64 a, .int .i64 b] w fun e w' => e = .returned (.bool true) ∧ ∃ n, w' = w.drewN n := by
  rcases rc_of a b a1 a2 b1 b2 with @⟨h, hm⟩ | @⟨m, q, k, K, p, x, y, h, hm, hq, hk, hK, hp, hx, hy, lt, hs, m1, m2, sg⟩
  · subst h
    have M := Lib.hid hm; clear hm
    clear a1 a2 b1 b2
    go_enter Tryd.func40, Tryd.ntmps40
    go_wp2_with (go_at_call 36; refine (mod_at a 0 0 10 _ M.out).mono ?_; rintro e w' ⟨rfl, rfl⟩)
    go_ret
    exact ⟨rfl, 0, rfl⟩
  · have M := Lib.hid hm; clear hm
    have Q := Lib.hid hq; clear hq
    have KK := Lib.hid hk; clear hk
    have KO := Lib.hid hK; clear hK
    have P := Lib.hid hp; clear hp
    have S := Lib.hid hs; clear hs
    have X := Lib.hid hx; clear hx
    have Y := Lib.hid hy; clear hy
    have R := Lib.hid (And.intro m1 m2); clear m1 m2
    have B := Lib.hid (And.intro b1 b2); clear b1 b2
    clear a1 a2
    have h' : (b == 0) = false := by rw [beq_eq_false_iff_ne]; exact h
    clear h
    rcases sg with sg | ⟨sg, sa⟩ | ⟨sg, sa⟩
    · subst sg
      go_enter Tryd.func40, Tryd.ntmps40
      go_wp2_with (first
        | (go_at_call 36; refine (mod_at a b 0 0 _ M.out).mono ?_; rintro e w' ⟨rfl, rfl⟩)
        | (go_at_call 24; refine (div_at a b q 0 _ Q.out).mono ?_; rintro e w' ⟨rfl, rfl⟩)
        | (go_at_call 27; refine (int_at q k _ KK.out).mono ?_; rintro e w' ⟨rfl, rfl⟩)
        | (go_at_call 25; refine (ofInt_at k K 0 _ KO.out).mono ?_; rintro e w' ⟨rfl, rfl⟩)
        | (go_at_call 23; refine (mul_at b K p 0 _ P.out).mono ?_; rintro e w' ⟨rfl, n, rfl⟩)
        | (go_at_call 22; (first | (with_reducible refine (lsize_at 0 x _ X (by omega) (by omega)).mono ?_) | (with_reducible refine (lsize_at b y _ Y (by have := B.out; omega) (by have := B.out; omega)).mono ?_)); rintro e w' ⟨rfl, rfl⟩)
        | (go_at_call 30; refine (add_at p 0 a 0 _ S.out).mono ?_; rintro e w' ⟨rfl, rfl⟩))
      go_ret
      exact ⟨rfl, n, rfl⟩
    · have sm : (m == 0) = false := by rw [beq_eq_false_iff_ne]; omega
      go_enter Tryd.func40, Tryd.ntmps40
      go_wp2_with (first
        | (go_at_call 36; refine (mod_at a b m 0 _ M.out).mono ?_; rintro e w' ⟨rfl, rfl⟩)
        | (go_at_call 24; refine (div_at a b q 0 _ Q.out).mono ?_; rintro e w' ⟨rfl, rfl⟩)
        | (go_at_call 27; refine (int_at q k _ KK.out).mono ?_; rintro e w' ⟨rfl, rfl⟩)
        | (go_at_call 25; refine (ofInt_at k K 0 _ KO.out).mono ?_; rintro e w' ⟨rfl, rfl⟩)
        | (go_at_call 23; refine (mul_at b K p 0 _ P.out).mono ?_; rintro e w' ⟨rfl, n, rfl⟩)
        | (go_at_call 22; (first | (with_reducible refine (lsize_at m x _ X (by have := R.out; omega) (by have := R.out; omega)).mono ?_) | (with_reducible refine (lsize_at b y _ Y (by have := B.out; omega) (by have := B.out; omega)).mono ?_)); rintro e w' ⟨rfl, rfl⟩)
        | (go_at_call 30; refine (add_at p m a 0 _ S.out).mono ?_; rintro e w' ⟨rfl, rfl⟩))
      go_ret
      exact ⟨rfl, n, rfl⟩
    · have sm : (m == 0) = false := by rw [beq_eq_false_iff_ne]; omega
      have s1 : decide (0 < m) = false := decide_eq_false (by omega)
      have s2 : decide (0 < a) = false := decide_eq_false (by omega)
      go_enter Tryd.func40, Tryd.ntmps40
      go_wp2_with (first
        | (go_at_call 36; refine (mod_at a b m 0 _ M.out).mono ?_; rintro e w' ⟨rfl, rfl⟩)
        | (go_at_call 24; refine (div_at a b q 0 _ Q.out).mono ?_; rintro e w' ⟨rfl, rfl⟩)
        | (go_at_call 27; refine (int_at q k _ KK.out).mono ?_; rintro e w' ⟨rfl, rfl⟩)
        | (go_at_call 25; refine (ofInt_at k K 0 _ KO.out).mono ?_; rintro e w' ⟨rfl, rfl⟩)
        | (go_at_call 23; refine (mul_at b K p 0 _ P.out).mono ?_; rintro e w' ⟨rfl, n, rfl⟩)
        | (go_at_call 22; (first | (with_reducible refine (lsize_at m x _ X (by have := R.out; omega) (by have := R.out; omega)).mono ?_) | (with_reducible refine (lsize_at b y _ Y (by have := B.out; omega) (by have := B.out; omega)).mono ?_)); rintro e w' ⟨rfl, rfl⟩)
        | (go_at_call 30; refine (add_at p m a 0 _ S.out).mono ?_; rintro e w' ⟨rfl, rfl⟩))
      go_ret
      exact ⟨rfl, n, rfl⟩
theorem small_any (d : Int) (w : World) :
    Calls Tryd.prog 39 #[.int .i64 d] w fun e w' => e = .returned (.bool (decide (-1000000000 ≤ d) && decide (d ≤ 1000000000))) ∧ w = w' := by
  by_cases h1 : -1000000000 ≤ d
  · by_cases h2 : d ≤ 1000000000
    · go_enter Tryd.func39, Tryd.ntmps39
      go_wp2
      go_ret
      exact ⟨by simp [h1, h2], rfl⟩
    · go_enter Tryd.func39, Tryd.ntmps39
      go_wp2
      go_ret
      exact ⟨by simp [h2], rfl⟩
  · go_enter Tryd.func39, Tryd.ntmps39
    go_wp2
    go_ret
    exact ⟨by simp; omega, rfl⟩
theorem small_at (d : Int) (b : Bool) (w : World) (h : (decide (-1000000000 ≤ d) && decide (d ≤ 1000000000)) = b) :
    Calls Tryd.prog 39 #[.int .i64 d] w fun e w' => e = .returned (.bool b) ∧ w = w' := by rw [← h]; exact small_any d w
/-- the facts of the field's laws -/
structure FC (a b n c s x y p e : Int) : Prop where
  hc : ofIntV n = c ∧ ofIntE n = 0
  ab : addV a b = s ∧ addE a b = 0
  ba : addV b a = s ∧ addE b a = 0
  sb : subV s b = a ∧ subE s b = 0
  ci : toInt c = n
  cx : mulV c a = x ∧ mulE c a = 0
  cy : mulV b c = y ∧ mulE b c = 0
  cs : mulV c s = x + y ∧ mulE c s = 0
  xy : addV x y = x + y ∧ addE x y = 0
  pq : mulV a b = p ∧ mulE a b = e
  qp : mulV b a = p ∧ mulE b a = e
  dv : n ≠ 0 → divV x c = a ∧ divE x c = 0
theorem fc_of (a b n : Int) (ha : -1000000000 ≤ a) (ha' : a ≤ 1000000000) (hb : -1000000000 ≤ b) (hb' : b ≤ 1000000000) (hn : -1000 ≤ n) (hn' : n ≤ 1000) :
    ∃ c s x y z p e, FC a b n c s x y p e ∧ x + y = z := by
  have na := bd_mul n a 1000 1000000000 hn hn' ha ha'
  have nb := bd_mul n b 1000 1000000000 hn hn' hb hb'
  have ns := bd_mul n (a + b) 1000 2000000000 hn hn' (by omega) (by omega)
  have e1 : b * n = n * b := Int.mul_comm _ _
  have e2 : n * a + b * n = n * (a + b) := by rw [Int.mul_add, e1]
  have e3 : mulV b a = mulV a b ∧ mulE b a = mulE a b := by
    unfold mulV mulE
    have : bothB b a = bothB a b := by unfold bothB; rw [Bool.and_comm]
    rw [this, Int.mul_comm b a]; exact ⟨rfl, rfl⟩
  refine ⟨n * 10000, a + b, n * a, b * n, _, mulV a b, mulE a b, ⟨?_, ?_, ?_, ?_, ?_, ?_, ?_, ?_, ?_, ⟨rfl, rfl⟩, e3, ?_⟩, rfl⟩
  · exact ofInt_ok n (by omega) (by omega)
  · exact add_ok a b _ (by omega) (by omega) (by omega) (by omega) rfl (by omega) (by omega)
  · exact add_ok b a _ (by omega) (by omega) (by omega) (by omega) (by omega) (by omega) (by omega)
  · exact sub_ok _ b a (by omega) (by omega) (by omega) (by omega) (by omega) (by omega) (by omega)
  · unfold toInt; rw [near_eq3 _ (by omega) (by omega)]; exact Int.mul_tdiv_cancel _ (by decide)
  · exact mul_ok _ a _ (by omega) (by omega) (by omega) (by omega) (mul_10000 n a) (by omega) (by omega)
  · exact mul_ok b _ _ (by omega) (by omega) (by omega) (by omega) (mul_10000' b n) (by omega) (by omega)
  · rw [e2]; exact mul_ok _ _ _ (by omega) (by omega) (by omega) (by omega) (mul_10000 n (a + b)) (by omega) (by omega)
  · exact add_ok _ _ _ (by omega) (by omega) (by omega) (by omega) rfl (by omega) (by omega)
  · intro h0
    exact div_ok _ _ a (by omega) (by omega) (by omega) (by omega) (by omega) (div_back n a h0) (by omega) (by omega)
set_option maxHeartbeats 8000000 in
set_option maxRecDepth 100000 in
theorem law_field (a b n : Int) (w : World) (h : Env w) :
    Calls Tryd.prog 10 #[.int .i64 a, .int .i64 b, .int .i64 n] w fun e w' => e = .returned (.bool true) ∧ Below w.heap.size w w' := by
  have H := Lib.hid h; clear h
  by_cases hA : (decide (-1000000000 ≤ a) && decide (a ≤ 1000000000)) = true
  · by_cases hB : (decide (-1000000000 ≤ b) && decide (b ≤ 1000000000)) = true
    · by_cases hn : -1000 ≤ n ∧ n ≤ 1000
      · obtain ⟨n1, n2⟩ := hn
        have SA := Lib.hid hA
        have SB := Lib.hid hB
        simp only [Bool.and_eq_true, decide_eq_true_eq] at hA hB
        obtain ⟨c, s, x, y, z, p, e, F, hz⟩ := fc_of a b n hA.1 hA.2 hB.1 hB.2 n1 n2
        have R := Lib.hid (And.intro hA hB); clear hA hB
        have FF := Lib.hid F; clear F
        have Z := Lib.hid hz; clear hz
        have CS : Hid (mulV c s = z ∧ mulE c s = 0) := Lib.hid (by rw [← Z.out]; exact FF.out.cs)
        have XY : Hid (addV x y = z ∧ addE x y = 0) := Lib.hid (by rw [← Z.out]; exact FF.out.xy)
        by_cases h0 : n = 0
        · subst h0
          go_enter Tryd.func10, Tryd.ntmps10
          go_wp2_with (first
            | (go_at_call 39; (first | (with_reducible refine (small_at a true _ SA.out).mono ?_) | (with_reducible refine (small_at b true _ SB.out).mono ?_)); rintro e w' ⟨rfl, rfl⟩)
            | (go_at_call 25; refine (ofInt_at _ c 0 _ FF.out.hc).mono ?_; rintro e w' ⟨rfl, rfl⟩)
            | (go_at_call 27; refine (int_at c _ _ FF.out.ci).mono ?_; rintro e w' ⟨rfl, rfl⟩)
            | (go_at_call 30; (first | (with_reducible refine (add_at a b s 0 _ FF.out.ab).mono ?_) | (with_reducible refine (add_at b a s 0 _ FF.out.ba).mono ?_) | (with_reducible refine (add_at x y z 0 _ XY.out).mono ?_)); rintro e w' ⟨rfl, rfl⟩)
            | (go_at_call 32; refine (sub_at s b a 0 _ FF.out.sb).mono ?_; rintro e w' ⟨rfl, rfl⟩)
            | (go_at_call 23; (first | (with_reducible refine (mul_at c s z 0 _ CS.out).mono ?_; rintro e w' ⟨rfl, k1, rfl⟩) | (with_reducible refine (mul_at c a x 0 _ FF.out.cx).mono ?_; rintro e w' ⟨rfl, k2, rfl⟩) | (with_reducible refine (mul_at b c y 0 _ FF.out.cy).mono ?_; rintro e w' ⟨rfl, k3, rfl⟩) | (with_reducible refine (mul_at a b p e _ FF.out.pq).mono ?_; rintro e w' ⟨rfl, k4, rfl⟩) | (with_reducible refine (mul_at b a p e _ FF.out.qp).mono ?_; rintro e w' ⟨rfl, k5, rfl⟩)))
            | (go_at_call 24; refine (div_at x c a 0 _ (FF.out.dv h0)).mono ?_; rintro e w' ⟨rfl, rfl⟩)
            | (go_at_call 40; refine (rest_any a b _ R.out.1.1 R.out.1.2 R.out.2.1 R.out.2.2).mono ?_; rintro e w' ⟨rfl, k6, rfl⟩)
            | (go_at_call 13; refine (awake_any _ (H.out.drewN _)).mono ?_; rintro e w' ⟨rfl, hb⟩))
          go_ret
          exact ⟨rfl, (below_drewN (Below.refl _ _) _).trans hb⟩
        · have hz : (n != 0) = true := by rw [bne_iff_ne]; exact h0
          have H0 := Lib.hid h0; clear h0
          go_enter Tryd.func10, Tryd.ntmps10
          go_wp2_with (first
            | (go_at_call 39; (first | (with_reducible refine (small_at a true _ SA.out).mono ?_) | (with_reducible refine (small_at b true _ SB.out).mono ?_)); rintro e w' ⟨rfl, rfl⟩)
            | (go_at_call 25; refine (ofInt_at _ c 0 _ FF.out.hc).mono ?_; rintro e w' ⟨rfl, rfl⟩)
            | (go_at_call 27; refine (int_at c _ _ FF.out.ci).mono ?_; rintro e w' ⟨rfl, rfl⟩)
            | (go_at_call 30; (first | (with_reducible refine (add_at a b s 0 _ FF.out.ab).mono ?_) | (with_reducible refine (add_at b a s 0 _ FF.out.ba).mono ?_) | (with_reducible refine (add_at x y z 0 _ XY.out).mono ?_)); rintro e w' ⟨rfl, rfl⟩)
            | (go_at_call 32; refine (sub_at s b a 0 _ FF.out.sb).mono ?_; rintro e w' ⟨rfl, rfl⟩)
            | (go_at_call 23; (first | (with_reducible refine (mul_at c s z 0 _ CS.out).mono ?_; rintro e w' ⟨rfl, k1, rfl⟩) | (with_reducible refine (mul_at c a x 0 _ FF.out.cx).mono ?_; rintro e w' ⟨rfl, k2, rfl⟩) | (with_reducible refine (mul_at b c y 0 _ FF.out.cy).mono ?_; rintro e w' ⟨rfl, k3, rfl⟩) | (with_reducible refine (mul_at a b p e _ FF.out.pq).mono ?_; rintro e w' ⟨rfl, k4, rfl⟩) | (with_reducible refine (mul_at b a p e _ FF.out.qp).mono ?_; rintro e w' ⟨rfl, k5, rfl⟩)))
            | (go_at_call 24; refine (div_at x c a 0 _ (FF.out.dv H0.out)).mono ?_; rintro e w' ⟨rfl, rfl⟩)
            | (go_at_call 40; refine (rest_any a b _ R.out.1.1 R.out.1.2 R.out.2.1 R.out.2.2).mono ?_; rintro e w' ⟨rfl, k6, rfl⟩)
            | (go_at_call 13; refine (awake_any _ (H.out.drewN _)).mono ?_; rintro e w' ⟨rfl, hb⟩))
          go_ret
          exact ⟨rfl, (below_drewN (Below.refl _ _) _).trans hb⟩
      · have SA := Lib.hid hA; clear hA
        have SB := Lib.hid hB; clear hB
        go_enter Tryd.func10, Tryd.ntmps10
        go_wp2_with (first
            | (go_at_call 39; (first | (with_reducible refine (small_at a true _ SA.out).mono ?_) | (with_reducible refine (small_at b true _ SB.out).mono ?_)); rintro e w' ⟨rfl, rfl⟩)
            | (go_at_call 13; refine (awake_any _ H.out).mono ?_; rintro e w' ⟨rfl, hb⟩))
        all_goals go_ret
        all_goals exact ⟨rfl, hb⟩
    · have SA := Lib.hid hA; clear hA
      have SB : Hid ((decide (-1000000000 ≤ b) && decide (b ≤ 1000000000)) = false) := Lib.hid (by rw [← Bool.not_eq_true]; exact hB)
      clear hB
      go_enter Tryd.func10, Tryd.ntmps10
      go_wp2_with (first
          | (go_at_call 39; (first | (with_reducible refine (small_at a true _ SA.out).mono ?_) | (with_reducible refine (small_at b false _ SB.out).mono ?_)); rintro e w' ⟨rfl, rfl⟩)
          | (go_at_call 13; refine (awake_any _ H.out).mono ?_; rintro e w' ⟨rfl, hb⟩))
      all_goals go_ret
      all_goals exact ⟨rfl, hb⟩
  · have SA : Hid ((decide (-1000000000 ≤ a) && decide (a ≤ 1000000000)) = false) := Lib.hid (by rw [← Bool.not_eq_true]; exact hA)
    clear hA
    go_enter Tryd.func10, Tryd.ntmps10
    go_wp2_with (first
        | (go_at_call 39; with_reducible refine (small_at a false _ SA.out).mono ?_; rintro e w' ⟨rfl, rfl⟩)
        | (go_at_call 13; refine (awake_any _ H.out).mono ?_; rintro e w' ⟨rfl, hb⟩))
    all_goals go_ret
    all_goals exact ⟨rfl, hb⟩
end Go.Proofs.YtpacfinfbcpfnaaDoor
