/- walks: the law of cut products and quotients -/
import Derived.Test.YtpacfinfbcpfnaaDoorWs
namespace Go.Proofs.YtpacfinfbcpfnaaDoor
open Go.RowKit
open Dcm Byt
/-- what the first half tests: of the product -/
structure CutM (a b c p e L Z : Int) : Prop where
  hc : a * b = c
  mv : mulV a b = p
  me : mulE a b = e
  zc : e ≠ 0 → sz c = Z
theorem mul_cases (a b c : Int) (hc : a * b = c) (ha : -1000000000 ≤ a) (ha' : a ≤ 1000000000) (hb : -1000000000 ≤ b) (hb' : b ≤ 1000000000) :
    (mulE a b = 0 ∧ vldB (mulV a b) = true ∧ mulV a b = c.tdiv 10000) ∨ (mulE a b = 9 ∧ 10000000000000 < sz c / 10000) := by
  have hB := both_ok a b (by omega) (by omega) (by omega) (by omega)
  unfold mulE mulV
  rw [hB, if_pos rfl, if_pos rfl, hc]
  unfold fitV fitE
  by_cases h : vldB (c.tdiv 10000) = true
  · left; rw [if_pos h, if_pos h]; exact ⟨rfl, h, rfl⟩
  · right; rw [if_neg h]; exact ⟨rfl, cut_over c (by simpa using h)⟩
theorem div_cases (a b : Int) (ha : -1000000000 ≤ a) (ha' : a ≤ 1000000000) (hb : -1000000000 ≤ b) (hb' : b ≤ 1000000000) (h0 : b ≠ 0) :
    divE a b = 0 ∧ vldB (divV a b) = true ∧ divV a b = (a * 10000).tdiv b := by
  have hB := both_ok a b (by omega) (by omega) (by omega) (by omega)
  have hq := quo_valid a b ha ha'
  unfold divE divV
  rw [hB, if_pos rfl, if_pos rfl, if_neg h0, if_neg h0]
  unfold fitV fitE
  rw [hq]; exact ⟨rfl, hq, rfl⟩
theorem sz_bd (x m : Int) (h1 : -m ≤ x) (h2 : x ≤ m) : 0 ≤ sz x ∧ sz x ≤ m := by unfold sz; omega
/-- the walk's facts of the product: exact or refused -/
inductive MC (a b c : Int) : Prop where
  | exact (p t L z : Int) (mv : mulV a b = p) (me : mulE a b = 0) (v : vldB p = true) (ht : p * 10000 = t) (hL : c - t = L) (hz : sz L = z) (z0 : 0 ≤ z) (z1 : z < 10000) (l1 : -10000 < L) (l2 : L < 10000) (p1 : -10000000000000 ≤ p) (p2 : p ≤ 10000000000000)
      (sg : L = 0 ∨ (0 < L ∧ 0 < a ∧ 0 < b) ∨ (0 < L ∧ a < 0 ∧ b < 0) ∨ (L < 0 ∧ 0 < a ∧ b < 0) ∨ (L < 0 ∧ a < 0 ∧ 0 < b)) : MC a b c
  | over (p z y : Int) (mv : mulV a b = p) (me : mulE a b = 9) (hz : sz c = z) (hy : z.tdiv 10000 = y) (y1 : 10000000000000 < y) (y2 : y ≤ 100000000000000) : MC a b c
theorem mc_of (a b c : Int) (hc : a * b = c) (ha : -1000000000 ≤ a) (ha' : a ≤ 1000000000) (hb : -1000000000 ≤ b) (hb' : b ≤ 1000000000) : MC a b c := by
  rcases mul_cases a b c hc ha ha' hb hb' with ⟨h1, h2, h3⟩ | ⟨h1, h2⟩
  · obtain ⟨p, hp⟩ : ∃ p, mulV a b = p := ⟨_, rfl⟩
    rw [hp] at h2 h3
    have hv := vld_iff.1 h2
    have hL : c - p * 10000 = c.tmod 10000 := by rw [h3]; exact tdiv_mul10 c
    have hb4 := tmod_sgn c 10000 (by omega)
    have hsg : c.tmod 10000 ≠ 0 → (0 < c.tmod 10000 ↔ (0 < a ↔ 0 < b)) := fun h0 => left_sgn a b _ (by rw [hc]) h0
    have ha0 : c.tmod 10000 ≠ 0 → a ≠ 0 := by rintro h0 rfl; apply h0; rw [← hc]; simp
    have hb0 : c.tmod 10000 ≠ 0 → b ≠ 0 := by rintro h0 rfl; apply h0; rw [← hc]; simp
    have hs := sz_bd (c.tmod 10000) 9999 (by omega) (by omega)
    refine .exact p (p * 10000) (c.tmod 10000) (sz (c.tmod 10000)) hp h1 h2 rfl hL rfl hs.1 (by omega) hb4.2.2.1 hb4.2.2.2 hv.1 hv.2 ?_
    by_cases h0 : c.tmod 10000 = 0
    · exact .inl h0
    · have := hsg h0
      have := ha0 h0
      have := hb0 h0
      omega
  · have hs : 0 ≤ sz c := by unfold sz; omega
    have hc2 := abs_mul_bd a b ha ha' hb hb'
    rw [hc] at hc2
    have hs2 := sz_bd c 1000000000000000000 hc2.1 hc2.2
    refine .over (mulV a b) (sz c) (sz c / 10000) rfl h1 rfl ?_ h2 (by omega)
    exact Int.tdiv_eq_ediv_of_nonneg hs
inductive DC (a b : Int) : Prop where
  | zero (h : b = 0)
  | some (q x y z t L u : Int) (h : b ≠ 0) (dv : divV a b = q) (de : divE a b = 0) (v : vldB q = true) (hx : sz q = x) (hy : sz a = y) (hz : sz b = z) (hq : (y * 10000).tdiv z = x) (ht : q * b = t) (hL : a * 10000 - t = L) (hu : sz L = u) (hlt : u < z)
      (x1 : 0 ≤ x) (x2 : x ≤ 10000000000000) (q1 : -10000000000000 ≤ q) (q2 : q ≤ 10000000000000) (y1 : 0 ≤ y) (y2 : y ≤ 1000000000) (z1 : 0 < z) (z2 : z ≤ 1000000000) (t1 : -10000000000000 ≤ t) (t2 : t ≤ 10000000000000) (l1 : -1000000000 ≤ L) (l2 : L ≤ 1000000000)
      (sg : L = 0 ∨ (0 < L ∧ 0 < a) ∨ (L < 0 ∧ ¬ 0 < a)) : DC a b
theorem dc_of (a b : Int) (ha : -1000000000 ≤ a) (ha' : a ≤ 1000000000) (hb : -1000000000 ≤ b) (hb' : b ≤ 1000000000) : DC a b := by
  by_cases h0 : b = 0
  · exact .zero h0
  · obtain ⟨h1, h2, h3⟩ := div_cases a b ha ha' hb hb' h0
    obtain ⟨l1, l2, l3⟩ := quo_left a b h0
    have hq := quo_size a b
    have sa := sz_bd a 1000000000 ha ha'
    have sb := sz_bd b 1000000000 hb hb'
    have sb0 := sz_gt b h0
    have hm := tmod_bd (a * 10000) b 10000000000000 (by omega) (by omega)
    have hv := vld_iff.1 h2
    obtain ⟨q, hq'⟩ : ∃ q, divV a b = q := ⟨_, rfl⟩
    rw [hq'] at h2 h3 hv
    rw [← h3] at hq l1
    obtain ⟨t, ht⟩ : ∃ t, q * b = t := ⟨_, rfl⟩
    rw [ht] at l1
    have hL1 : -1000000000 ≤ (a * 10000).tmod b ∧ (a * 10000).tmod b ≤ 1000000000 := by
      have : sz ((a * 10000).tmod b) ≤ 1000000000 := by omega
      unfold sz at this; omega
    have sq := sz_bd q 10000000000000 hv.1 hv.2
    refine .some q (sz q) (sz a) (sz b) t ((a * 10000).tmod b) (sz ((a * 10000).tmod b)) h0 hq' h1 h2 rfl rfl rfl ?_ ht l1 rfl l2 sq.1 sq.2 hv.1 hv.2 sa.1 sa.2 sb0 sb.2 ?_ ?_ hL1.1 hL1.2 ?_
    · rw [hq]; exact Int.tdiv_eq_ediv_of_nonneg (by omega)
    · have : t = a * 10000 - (a * 10000).tmod b := by omega
      have := tdiv_mul (a * 10000) b
      have hd := (a * 10000).natAbs
      rw [← h3, ht] at this
      have e : t.natAbs ≤ (a * 10000).natAbs := by
        rw [← ht, h3, Int.natAbs_mul, Int.natAbs_tdiv]; exact Nat.div_mul_le_self _ _
      omega
    · have e : t.natAbs ≤ (a * 10000).natAbs := by
        rw [← ht, h3, Int.natAbs_mul, Int.natAbs_tdiv]; exact Nat.div_mul_le_self _ _
      omega
    · by_cases hz : (a * 10000).tmod b = 0
      · exact .inl hz
      · have := l3 hz; omega
theorem lsize_to (d z : Int) (w : World) (hz : Hid (sz d = z)) (h1 : -1000000000000000000 ≤ d) (h2 : d ≤ 1000000000000000000) :
    Calls Tryd.prog 22 #[.int .i64 d] w fun e w' => e = .returned (.int .i64 z) ∧ w = w' := by rw [← hz.out]; exact lsize_any d w h1 h2
set_option maxHeartbeats 16000000 in
theorem law_cuts (m n : Int) (w : World) (h : Env w) :
    Calls Tryd.prog 7 #[.int .i64 m, .int .i64 n] w fun e w' => e = .returned (.bool true) ∧ Below w.heap.size w w' := by
  have H := Lib.hid h; clear h
  obtain ⟨a, ha⟩ : ∃ a, m.tmod 1000000001 = a := ⟨_, rfl⟩
  obtain ⟨b, hb⟩ : ∃ b, n.tmod 1000000001 = b := ⟨_, rfl⟩
  have ta := tmod_sgn m 1000000001 (by omega)
  have tb := tmod_sgn n 1000000001 (by omega)
  have a1 : -1000000000 ≤ a := by omega
  have a2 : a ≤ 1000000000 := by omega
  have b1 : -1000000000 ≤ b := by omega
  have b2 : b ≤ 1000000000 := by omega
  clear ta tb
  obtain ⟨c, hc⟩ : ∃ c, a * b = c := ⟨_, rfl⟩
  obtain ⟨c1, c2⟩ := abs_mul_bd a b a1 a2 b1 b2
  rw [hc] at c1 c2
  have C := Lib.hid (And.intro c1 c2); clear c1 c2
  by_cases hb0 : b = 0
  · have MV := Lib.hid (mul_ok a 0 0 (by omega) (by omega) (by omega) (by omega) (by rw [Int.mul_zero]; rfl) (by omega) (by omega))
    have DV := Lib.hid (div_zero a 0 (by omega) (by omega) rfl)
    have V : Hid (vldB 0 = true) := Lib.hid rfl
    have HZ : Hid (sz 0 = 0) := Lib.hid rfl
    subst hb0
    clear b1 b2 hc C
    go_enter Tryd.func7, Tryd.ntmps7
    go_wp2_with (first
      | (go_at_call 23; refine (mul_at a 0 0 0 _ MV.out).mono ?_; rintro e w' ⟨rfl, k, rfl⟩)
      | (go_at_call 24; refine (div_at a 0 0 10 _ DV.out).mono ?_; rintro e w' ⟨rfl, rfl⟩)
      | (go_at_call 20; refine (valid_at _ _ V.out).mono ?_; rintro e w' ⟨rfl, rfl⟩)
      | (go_at_call 22; (with_reducible refine (lsize_to 0 0 _ HZ (by omega) (by omega)).mono ?_); rintro e w' ⟨rfl, rfl⟩)
      | (go_at_call 13; refine (awake_any _ (H.out.drewN _)).mono ?_; rintro e w' ⟨rfl, hb⟩))
    go_ret
    exact ⟨rfl, (below_drewN (Below.refl _ _) _).trans hb⟩
  rcases dc_of a b a1 a2 b1 b2 with h0 | @⟨q, qx, qy, qz, qt, qL, qu, h0, dv, de, qv, hx, hy, hqz, hq, hqt, hqL, hu, hlt, x1, x2, q1, q2, y1', y2', zz1, zz2, t1, t2, ql1, ql2, qsg⟩
  · exact absurd h0 hb0
  clear h0
  have hbz : (b == 0) = false := by rw [beq_eq_false_iff_ne]; exact hb0
  clear hb0
  have DV := Lib.hid dv; clear dv
  have DE := Lib.hid de; clear de
  have QV := Lib.hid qv; clear qv
  have HX := Lib.hid hx; clear hx
  have HY := Lib.hid hy; clear hy
  have HQZ := Lib.hid hqz; clear hqz
  have HU := Lib.hid hu; clear hu
  rcases mc_of a b c hc a1 a2 b1 b2 with @⟨p, t, L, z, mv, me, v, ht, hL, hz, z0, z1, l1, l2, p1, p2, sg⟩ | @⟨p, z, y, mv, me, hz, hy, y1, y2⟩
  · have MV := Lib.hid mv; clear mv
    have ME := Lib.hid me; clear me
    have V := Lib.hid v; clear v
    have HZ := Lib.hid hz; clear hz
    have zd : decide (10000 ≤ z) = false := decide_eq_false (by omega)
    rcases sg with sg | ⟨sg, sa, sb⟩ | ⟨sg, sa, sb⟩ | ⟨sg, sa, sb⟩ | ⟨sg, sa, sb⟩
    · subst sg
      obtain rfl : t = c := by omega
      clear hL
      obtain rfl : 0 = z := (show (0 : Int) = sz 0 from rfl).trans HZ.out
      clear zd z0 z1 l1 l2
      rcases qsg with qsg | ⟨qs, qa⟩ | ⟨qs, qa⟩
      · subst qsg
        obtain rfl : qt = a * 10000 := by omega
        clear hqL
        obtain rfl : 0 = qu := (show (0 : Int) = sz 0 from rfl).trans HU.out
        clear ql1 ql2
        go_enter Tryd.func7, Tryd.ntmps7
        go_wp2_with (first
          | (go_at_call 23; refine (mul_at a b p 0 _ ⟨MV.out, ME.out⟩).mono ?_; rintro e w' ⟨rfl, k, rfl⟩)
          | (go_at_call 24; refine (div_at a b q 0 _ ⟨DV.out, DE.out⟩).mono ?_; rintro e w' ⟨rfl, rfl⟩)
          | (go_at_call 20; (first | (with_reducible refine (valid_at p _ V.out).mono ?_) | (with_reducible refine (valid_at q _ QV.out).mono ?_)); rintro e w' ⟨rfl, rfl⟩)
          | (go_at_call 22; (first | (with_reducible refine (lsize_to _ _ _ HZ (by omega) (by omega)).mono ?_) | (with_reducible refine (lsize_to q qx _ HX (by omega) (by omega)).mono ?_) | (with_reducible refine (lsize_to a qy _ HY (by omega) (by omega)).mono ?_) | (with_reducible refine (lsize_to b qz _ HQZ (by omega) (by omega)).mono ?_) | (with_reducible refine (lsize_to _ _ _ HU (by omega) (by omega)).mono ?_)); rintro e w' ⟨rfl, rfl⟩)
          | (go_at_call 13; refine (awake_any _ (H.out.drewN _)).mono ?_; rintro e w' ⟨rfl, hb⟩))
        go_ret
        exact ⟨rfl, (below_drewN (Below.refl _ _) _).trans hb⟩
      · have qz0 : (qL == 0) = false := by rw [beq_eq_false_iff_ne]; omega
        go_enter Tryd.func7, Tryd.ntmps7
        go_wp2_with (first
          | (go_at_call 23; refine (mul_at a b p 0 _ ⟨MV.out, ME.out⟩).mono ?_; rintro e w' ⟨rfl, k, rfl⟩)
          | (go_at_call 24; refine (div_at a b q 0 _ ⟨DV.out, DE.out⟩).mono ?_; rintro e w' ⟨rfl, rfl⟩)
          | (go_at_call 20; (first | (with_reducible refine (valid_at p _ V.out).mono ?_) | (with_reducible refine (valid_at q _ QV.out).mono ?_)); rintro e w' ⟨rfl, rfl⟩)
          | (go_at_call 22; (first | (with_reducible refine (lsize_to _ _ _ HZ (by omega) (by omega)).mono ?_) | (with_reducible refine (lsize_to q qx _ HX (by omega) (by omega)).mono ?_) | (with_reducible refine (lsize_to a qy _ HY (by omega) (by omega)).mono ?_) | (with_reducible refine (lsize_to b qz _ HQZ (by omega) (by omega)).mono ?_) | (with_reducible refine (lsize_to _ _ _ HU (by omega) (by omega)).mono ?_)); rintro e w' ⟨rfl, rfl⟩)
          | (go_at_call 13; refine (awake_any _ (H.out.drewN _)).mono ?_; rintro e w' ⟨rfl, hb⟩))
        go_ret
        exact ⟨rfl, (below_drewN (Below.refl _ _) _).trans hb⟩
      · have qz0 : (qL == 0) = false := by rw [beq_eq_false_iff_ne]; omega
        have qs1 : decide (0 < qL) = false := decide_eq_false (by omega)
        have qs2 : decide (0 < a) = false := decide_eq_false (by omega)
        go_enter Tryd.func7, Tryd.ntmps7
        go_wp2_with (first
          | (go_at_call 23; refine (mul_at a b p 0 _ ⟨MV.out, ME.out⟩).mono ?_; rintro e w' ⟨rfl, k, rfl⟩)
          | (go_at_call 24; refine (div_at a b q 0 _ ⟨DV.out, DE.out⟩).mono ?_; rintro e w' ⟨rfl, rfl⟩)
          | (go_at_call 20; (first | (with_reducible refine (valid_at p _ V.out).mono ?_) | (with_reducible refine (valid_at q _ QV.out).mono ?_)); rintro e w' ⟨rfl, rfl⟩)
          | (go_at_call 22; (first | (with_reducible refine (lsize_to _ _ _ HZ (by omega) (by omega)).mono ?_) | (with_reducible refine (lsize_to q qx _ HX (by omega) (by omega)).mono ?_) | (with_reducible refine (lsize_to a qy _ HY (by omega) (by omega)).mono ?_) | (with_reducible refine (lsize_to b qz _ HQZ (by omega) (by omega)).mono ?_) | (with_reducible refine (lsize_to _ _ _ HU (by omega) (by omega)).mono ?_)); rintro e w' ⟨rfl, rfl⟩)
          | (go_at_call 13; refine (awake_any _ (H.out.drewN _)).mono ?_; rintro e w' ⟨rfl, hb⟩))
        go_ret
        exact ⟨rfl, (below_drewN (Below.refl _ _) _).trans hb⟩
    · have lz : (L == 0) = false := by rw [beq_eq_false_iff_ne]; omega
      rcases qsg with qsg | ⟨qs, qa⟩ | ⟨qs, qa⟩
      · subst qsg
        obtain rfl : qt = a * 10000 := by omega
        clear hqL
        obtain rfl : 0 = qu := (show (0 : Int) = sz 0 from rfl).trans HU.out
        clear ql1 ql2
        go_enter Tryd.func7, Tryd.ntmps7
        go_wp2_with (first
          | (go_at_call 23; refine (mul_at a b p 0 _ ⟨MV.out, ME.out⟩).mono ?_; rintro e w' ⟨rfl, k, rfl⟩)
          | (go_at_call 24; refine (div_at a b q 0 _ ⟨DV.out, DE.out⟩).mono ?_; rintro e w' ⟨rfl, rfl⟩)
          | (go_at_call 20; (first | (with_reducible refine (valid_at p _ V.out).mono ?_) | (with_reducible refine (valid_at q _ QV.out).mono ?_)); rintro e w' ⟨rfl, rfl⟩)
          | (go_at_call 22; (first | (with_reducible refine (lsize_to _ _ _ HZ (by omega) (by omega)).mono ?_) | (with_reducible refine (lsize_to q qx _ HX (by omega) (by omega)).mono ?_) | (with_reducible refine (lsize_to a qy _ HY (by omega) (by omega)).mono ?_) | (with_reducible refine (lsize_to b qz _ HQZ (by omega) (by omega)).mono ?_) | (with_reducible refine (lsize_to _ _ _ HU (by omega) (by omega)).mono ?_)); rintro e w' ⟨rfl, rfl⟩)
          | (go_at_call 13; refine (awake_any _ (H.out.drewN _)).mono ?_; rintro e w' ⟨rfl, hb⟩))
        go_ret
        exact ⟨rfl, (below_drewN (Below.refl _ _) _).trans hb⟩
      · have qz0 : (qL == 0) = false := by rw [beq_eq_false_iff_ne]; omega
        go_enter Tryd.func7, Tryd.ntmps7
        go_wp2_with (first
          | (go_at_call 23; refine (mul_at a b p 0 _ ⟨MV.out, ME.out⟩).mono ?_; rintro e w' ⟨rfl, k, rfl⟩)
          | (go_at_call 24; refine (div_at a b q 0 _ ⟨DV.out, DE.out⟩).mono ?_; rintro e w' ⟨rfl, rfl⟩)
          | (go_at_call 20; (first | (with_reducible refine (valid_at p _ V.out).mono ?_) | (with_reducible refine (valid_at q _ QV.out).mono ?_)); rintro e w' ⟨rfl, rfl⟩)
          | (go_at_call 22; (first | (with_reducible refine (lsize_to _ _ _ HZ (by omega) (by omega)).mono ?_) | (with_reducible refine (lsize_to q qx _ HX (by omega) (by omega)).mono ?_) | (with_reducible refine (lsize_to a qy _ HY (by omega) (by omega)).mono ?_) | (with_reducible refine (lsize_to b qz _ HQZ (by omega) (by omega)).mono ?_) | (with_reducible refine (lsize_to _ _ _ HU (by omega) (by omega)).mono ?_)); rintro e w' ⟨rfl, rfl⟩)
          | (go_at_call 13; refine (awake_any _ (H.out.drewN _)).mono ?_; rintro e w' ⟨rfl, hb⟩))
        go_ret
        exact ⟨rfl, (below_drewN (Below.refl _ _) _).trans hb⟩
      · exfalso; omega
    · have lz : (L == 0) = false := by rw [beq_eq_false_iff_ne]; omega
      have da : decide (0 < a) = false := decide_eq_false (by omega)
      have db : decide (0 < b) = false := decide_eq_false (by omega)
      rcases qsg with qsg | ⟨qs, qa⟩ | ⟨qs, qa⟩
      · subst qsg
        obtain rfl : qt = a * 10000 := by omega
        clear hqL
        obtain rfl : 0 = qu := (show (0 : Int) = sz 0 from rfl).trans HU.out
        clear ql1 ql2
        go_enter Tryd.func7, Tryd.ntmps7
        go_wp2_with (first
          | (go_at_call 23; refine (mul_at a b p 0 _ ⟨MV.out, ME.out⟩).mono ?_; rintro e w' ⟨rfl, k, rfl⟩)
          | (go_at_call 24; refine (div_at a b q 0 _ ⟨DV.out, DE.out⟩).mono ?_; rintro e w' ⟨rfl, rfl⟩)
          | (go_at_call 20; (first | (with_reducible refine (valid_at p _ V.out).mono ?_) | (with_reducible refine (valid_at q _ QV.out).mono ?_)); rintro e w' ⟨rfl, rfl⟩)
          | (go_at_call 22; (first | (with_reducible refine (lsize_to _ _ _ HZ (by omega) (by omega)).mono ?_) | (with_reducible refine (lsize_to q qx _ HX (by omega) (by omega)).mono ?_) | (with_reducible refine (lsize_to a qy _ HY (by omega) (by omega)).mono ?_) | (with_reducible refine (lsize_to b qz _ HQZ (by omega) (by omega)).mono ?_) | (with_reducible refine (lsize_to _ _ _ HU (by omega) (by omega)).mono ?_)); rintro e w' ⟨rfl, rfl⟩)
          | (go_at_call 13; refine (awake_any _ (H.out.drewN _)).mono ?_; rintro e w' ⟨rfl, hb⟩))
        go_ret
        exact ⟨rfl, (below_drewN (Below.refl _ _) _).trans hb⟩
      · exfalso; omega
      · have qz0 : (qL == 0) = false := by rw [beq_eq_false_iff_ne]; omega
        have qs1 : decide (0 < qL) = false := decide_eq_false (by omega)
        have qs2 : decide (0 < a) = false := decide_eq_false (by omega)
        go_enter Tryd.func7, Tryd.ntmps7
        go_wp2_with (first
          | (go_at_call 23; refine (mul_at a b p 0 _ ⟨MV.out, ME.out⟩).mono ?_; rintro e w' ⟨rfl, k, rfl⟩)
          | (go_at_call 24; refine (div_at a b q 0 _ ⟨DV.out, DE.out⟩).mono ?_; rintro e w' ⟨rfl, rfl⟩)
          | (go_at_call 20; (first | (with_reducible refine (valid_at p _ V.out).mono ?_) | (with_reducible refine (valid_at q _ QV.out).mono ?_)); rintro e w' ⟨rfl, rfl⟩)
          | (go_at_call 22; (first | (with_reducible refine (lsize_to _ _ _ HZ (by omega) (by omega)).mono ?_) | (with_reducible refine (lsize_to q qx _ HX (by omega) (by omega)).mono ?_) | (with_reducible refine (lsize_to a qy _ HY (by omega) (by omega)).mono ?_) | (with_reducible refine (lsize_to b qz _ HQZ (by omega) (by omega)).mono ?_) | (with_reducible refine (lsize_to _ _ _ HU (by omega) (by omega)).mono ?_)); rintro e w' ⟨rfl, rfl⟩)
          | (go_at_call 13; refine (awake_any _ (H.out.drewN _)).mono ?_; rintro e w' ⟨rfl, hb⟩))
        go_ret
        exact ⟨rfl, (below_drewN (Below.refl _ _) _).trans hb⟩
    · have lz : (L == 0) = false := by rw [beq_eq_false_iff_ne]; omega
      have dL : decide (0 < L) = false := decide_eq_false (by omega)
      have db : decide (0 < b) = false := decide_eq_false (by omega)
      rcases qsg with qsg | ⟨qs, qa⟩ | ⟨qs, qa⟩
      · subst qsg
        obtain rfl : qt = a * 10000 := by omega
        clear hqL
        obtain rfl : 0 = qu := (show (0 : Int) = sz 0 from rfl).trans HU.out
        clear ql1 ql2
        go_enter Tryd.func7, Tryd.ntmps7
        go_wp2_with (first
          | (go_at_call 23; refine (mul_at a b p 0 _ ⟨MV.out, ME.out⟩).mono ?_; rintro e w' ⟨rfl, k, rfl⟩)
          | (go_at_call 24; refine (div_at a b q 0 _ ⟨DV.out, DE.out⟩).mono ?_; rintro e w' ⟨rfl, rfl⟩)
          | (go_at_call 20; (first | (with_reducible refine (valid_at p _ V.out).mono ?_) | (with_reducible refine (valid_at q _ QV.out).mono ?_)); rintro e w' ⟨rfl, rfl⟩)
          | (go_at_call 22; (first | (with_reducible refine (lsize_to _ _ _ HZ (by omega) (by omega)).mono ?_) | (with_reducible refine (lsize_to q qx _ HX (by omega) (by omega)).mono ?_) | (with_reducible refine (lsize_to a qy _ HY (by omega) (by omega)).mono ?_) | (with_reducible refine (lsize_to b qz _ HQZ (by omega) (by omega)).mono ?_) | (with_reducible refine (lsize_to _ _ _ HU (by omega) (by omega)).mono ?_)); rintro e w' ⟨rfl, rfl⟩)
          | (go_at_call 13; refine (awake_any _ (H.out.drewN _)).mono ?_; rintro e w' ⟨rfl, hb⟩))
        go_ret
        exact ⟨rfl, (below_drewN (Below.refl _ _) _).trans hb⟩
      · have qz0 : (qL == 0) = false := by rw [beq_eq_false_iff_ne]; omega
        go_enter Tryd.func7, Tryd.ntmps7
        go_wp2_with (first
          | (go_at_call 23; refine (mul_at a b p 0 _ ⟨MV.out, ME.out⟩).mono ?_; rintro e w' ⟨rfl, k, rfl⟩)
          | (go_at_call 24; refine (div_at a b q 0 _ ⟨DV.out, DE.out⟩).mono ?_; rintro e w' ⟨rfl, rfl⟩)
          | (go_at_call 20; (first | (with_reducible refine (valid_at p _ V.out).mono ?_) | (with_reducible refine (valid_at q _ QV.out).mono ?_)); rintro e w' ⟨rfl, rfl⟩)
          | (go_at_call 22; (first | (with_reducible refine (lsize_to _ _ _ HZ (by omega) (by omega)).mono ?_) | (with_reducible refine (lsize_to q qx _ HX (by omega) (by omega)).mono ?_) | (with_reducible refine (lsize_to a qy _ HY (by omega) (by omega)).mono ?_) | (with_reducible refine (lsize_to b qz _ HQZ (by omega) (by omega)).mono ?_) | (with_reducible refine (lsize_to _ _ _ HU (by omega) (by omega)).mono ?_)); rintro e w' ⟨rfl, rfl⟩)
          | (go_at_call 13; refine (awake_any _ (H.out.drewN _)).mono ?_; rintro e w' ⟨rfl, hb⟩))
        go_ret
        exact ⟨rfl, (below_drewN (Below.refl _ _) _).trans hb⟩
      · exfalso; omega
    · have lz : (L == 0) = false := by rw [beq_eq_false_iff_ne]; omega
      have dL : decide (0 < L) = false := decide_eq_false (by omega)
      have da : decide (0 < a) = false := decide_eq_false (by omega)
      rcases qsg with qsg | ⟨qs, qa⟩ | ⟨qs, qa⟩
      · subst qsg
        obtain rfl : qt = a * 10000 := by omega
        clear hqL
        obtain rfl : 0 = qu := (show (0 : Int) = sz 0 from rfl).trans HU.out
        clear ql1 ql2
        go_enter Tryd.func7, Tryd.ntmps7
        go_wp2_with (first
          | (go_at_call 23; refine (mul_at a b p 0 _ ⟨MV.out, ME.out⟩).mono ?_; rintro e w' ⟨rfl, k, rfl⟩)
          | (go_at_call 24; refine (div_at a b q 0 _ ⟨DV.out, DE.out⟩).mono ?_; rintro e w' ⟨rfl, rfl⟩)
          | (go_at_call 20; (first | (with_reducible refine (valid_at p _ V.out).mono ?_) | (with_reducible refine (valid_at q _ QV.out).mono ?_)); rintro e w' ⟨rfl, rfl⟩)
          | (go_at_call 22; (first | (with_reducible refine (lsize_to _ _ _ HZ (by omega) (by omega)).mono ?_) | (with_reducible refine (lsize_to q qx _ HX (by omega) (by omega)).mono ?_) | (with_reducible refine (lsize_to a qy _ HY (by omega) (by omega)).mono ?_) | (with_reducible refine (lsize_to b qz _ HQZ (by omega) (by omega)).mono ?_) | (with_reducible refine (lsize_to _ _ _ HU (by omega) (by omega)).mono ?_)); rintro e w' ⟨rfl, rfl⟩)
          | (go_at_call 13; refine (awake_any _ (H.out.drewN _)).mono ?_; rintro e w' ⟨rfl, hb⟩))
        go_ret
        exact ⟨rfl, (below_drewN (Below.refl _ _) _).trans hb⟩
      · exfalso; omega
      · have qz0 : (qL == 0) = false := by rw [beq_eq_false_iff_ne]; omega
        have qs1 : decide (0 < qL) = false := decide_eq_false (by omega)
        have qs2 : decide (0 < a) = false := decide_eq_false (by omega)
        go_enter Tryd.func7, Tryd.ntmps7
        go_wp2_with (first
          | (go_at_call 23; refine (mul_at a b p 0 _ ⟨MV.out, ME.out⟩).mono ?_; rintro e w' ⟨rfl, k, rfl⟩)
          | (go_at_call 24; refine (div_at a b q 0 _ ⟨DV.out, DE.out⟩).mono ?_; rintro e w' ⟨rfl, rfl⟩)
          | (go_at_call 20; (first | (with_reducible refine (valid_at p _ V.out).mono ?_) | (with_reducible refine (valid_at q _ QV.out).mono ?_)); rintro e w' ⟨rfl, rfl⟩)
          | (go_at_call 22; (first | (with_reducible refine (lsize_to _ _ _ HZ (by omega) (by omega)).mono ?_) | (with_reducible refine (lsize_to q qx _ HX (by omega) (by omega)).mono ?_) | (with_reducible refine (lsize_to a qy _ HY (by omega) (by omega)).mono ?_) | (with_reducible refine (lsize_to b qz _ HQZ (by omega) (by omega)).mono ?_) | (with_reducible refine (lsize_to _ _ _ HU (by omega) (by omega)).mono ?_)); rintro e w' ⟨rfl, rfl⟩)
          | (go_at_call 13; refine (awake_any _ (H.out.drewN _)).mono ?_; rintro e w' ⟨rfl, hb⟩))
        go_ret
        exact ⟨rfl, (below_drewN (Below.refl _ _) _).trans hb⟩
  · have MV := Lib.hid mv; clear mv
    have ME := Lib.hid me; clear me
    have HZ := Lib.hid hz; clear hz
    obtain ⟨c1, c2⟩ := C.out
    clear C
    have yd : decide (y ≤ 10000000000000) = false := decide_eq_false (by omega)
    rcases qsg with qsg | ⟨qs, qa⟩ | ⟨qs, qa⟩
    · subst qsg
      obtain rfl : qt = a * 10000 := by omega
      clear hqL
      obtain rfl : 0 = qu := (show (0 : Int) = sz 0 from rfl).trans HU.out
      clear ql1 ql2
      go_enter Tryd.func7, Tryd.ntmps7
      go_wp2_with (first
        | (go_at_call 23; refine (mul_at a b p 9 _ ⟨MV.out, ME.out⟩).mono ?_; rintro e w' ⟨rfl, k, rfl⟩)
        | (go_at_call 24; refine (div_at a b q 0 _ ⟨DV.out, DE.out⟩).mono ?_; rintro e w' ⟨rfl, rfl⟩)
        | (go_at_call 20; (with_reducible refine (valid_at q _ QV.out).mono ?_); rintro e w' ⟨rfl, rfl⟩)
        | (go_at_call 22; (first | (with_reducible refine (lsize_to _ _ _ HZ (by omega) (by omega)).mono ?_) | (with_reducible refine (lsize_to q qx _ HX (by omega) (by omega)).mono ?_) | (with_reducible refine (lsize_to a qy _ HY (by omega) (by omega)).mono ?_) | (with_reducible refine (lsize_to b qz _ HQZ (by omega) (by omega)).mono ?_) | (with_reducible refine (lsize_to _ _ _ HU (by omega) (by omega)).mono ?_)); rintro e w' ⟨rfl, rfl⟩)
        | (go_at_call 13; refine (awake_any _ (H.out.drewN _)).mono ?_; rintro e w' ⟨rfl, hb⟩))
      go_ret
      exact ⟨rfl, (below_drewN (Below.refl _ _) _).trans hb⟩
    · have qz0 : (qL == 0) = false := by rw [beq_eq_false_iff_ne]; omega
      go_enter Tryd.func7, Tryd.ntmps7
      go_wp2_with (first
        | (go_at_call 23; refine (mul_at a b p 9 _ ⟨MV.out, ME.out⟩).mono ?_; rintro e w' ⟨rfl, k, rfl⟩)
        | (go_at_call 24; refine (div_at a b q 0 _ ⟨DV.out, DE.out⟩).mono ?_; rintro e w' ⟨rfl, rfl⟩)
        | (go_at_call 20; (with_reducible refine (valid_at q _ QV.out).mono ?_); rintro e w' ⟨rfl, rfl⟩)
        | (go_at_call 22; (first | (with_reducible refine (lsize_to _ _ _ HZ (by omega) (by omega)).mono ?_) | (with_reducible refine (lsize_to q qx _ HX (by omega) (by omega)).mono ?_) | (with_reducible refine (lsize_to a qy _ HY (by omega) (by omega)).mono ?_) | (with_reducible refine (lsize_to b qz _ HQZ (by omega) (by omega)).mono ?_) | (with_reducible refine (lsize_to _ _ _ HU (by omega) (by omega)).mono ?_)); rintro e w' ⟨rfl, rfl⟩)
        | (go_at_call 13; refine (awake_any _ (H.out.drewN _)).mono ?_; rintro e w' ⟨rfl, hb⟩))
      go_ret
      exact ⟨rfl, (below_drewN (Below.refl _ _) _).trans hb⟩
    · have qz0 : (qL == 0) = false := by rw [beq_eq_false_iff_ne]; omega
      have qs1 : decide (0 < qL) = false := decide_eq_false (by omega)
      have qs2 : decide (0 < a) = false := decide_eq_false (by omega)
      go_enter Tryd.func7, Tryd.ntmps7
      go_wp2_with (first
        | (go_at_call 23; refine (mul_at a b p 9 _ ⟨MV.out, ME.out⟩).mono ?_; rintro e w' ⟨rfl, k, rfl⟩)
        | (go_at_call 24; refine (div_at a b q 0 _ ⟨DV.out, DE.out⟩).mono ?_; rintro e w' ⟨rfl, rfl⟩)
        | (go_at_call 20; (with_reducible refine (valid_at q _ QV.out).mono ?_); rintro e w' ⟨rfl, rfl⟩)
        | (go_at_call 22; (first | (with_reducible refine (lsize_to _ _ _ HZ (by omega) (by omega)).mono ?_) | (with_reducible refine (lsize_to q qx _ HX (by omega) (by omega)).mono ?_) | (with_reducible refine (lsize_to a qy _ HY (by omega) (by omega)).mono ?_) | (with_reducible refine (lsize_to b qz _ HQZ (by omega) (by omega)).mono ?_) | (with_reducible refine (lsize_to _ _ _ HU (by omega) (by omega)).mono ?_)); rintro e w' ⟨rfl, rfl⟩)
        | (go_at_call 13; refine (awake_any _ (H.out.drewN _)).mono ?_; rintro e w' ⟨rfl, hb⟩))
      go_ret
      exact ⟨rfl, (below_drewN (Below.refl _ _) _).trans hb⟩
end Go.Proofs.YtpacfinfbcpfnaaDoor
