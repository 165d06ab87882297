/- walks: Mul -/
import Derived.Test.YtjngkapfngempaaDoorWa
import Derived.Test.YtjngkapfngempaaDoorShelf
import Derived.Deep.QuietTactic
import Derived.BigQuiet
namespace Go.Proofs.YtjngkapfngempaaDoor
open Go.RowKit
open Dcm

theorem lz_any (w : World) :
    Calls Tryd.prog 85 #[.int .u64 10000] w fun e w' => e = .returned (.int .i64 50) ∧ w = w' :=
  (Tryd.bits_LeadingZeros64 10000 w (by decide) (by decide)).mono fun _ _ ⟨h, h'⟩ => ⟨h.trans (by congr 2), h'.symm⟩

theorem div64_zero (lo : Nat) (hl : lo < 18446744073709551616) (w : World) :
    Calls Tryd.prog 64 #[.int .u64 0, .int .u64 (lo : Int), .int .u64 10000] w fun e w' => ∃ r, e = .returned (.tuple #[.int .u64 ((lo / 10000 : Nat) : Int), .int .u64 r]) ∧ ∃ n, w' = w.drewN n := by
  go_enter Tryd.func64, Tryd.ntmps64
  go_wp2
  go_quiet (fail)
  go_wp2
  go_ret2
  exact ⟨_, rfl, _, rfl⟩

theorem and0 : bits BinOp.and IntKind.u64 11258999068426240000 4294967295 = 0 := by decide +kernel
theorem or_sum (hi k u : Nat) (h1 : hi < 10000) (hk : k < 1125899906842624) (hu : hi * 1125899906842624 + k = u) :
    bits BinOp.or IntKind.u64 ((hi : Int) * 1125899906842624) (k : Int) = (u : Int) := by
  have e : ((hi : Int) * 1125899906842624) = ((hi * 1125899906842624 : Nat) : Int) := by omega
  rw [e, u64_or_nat _ _ (by omega) (by omega), ← hu]
  have : hi * 1125899906842624 = hi <<< 50 := by rw [Nat.shiftLeft_eq]
  rw [this, ← Nat.shiftLeft_add_eq_or_of_lt (by simpa using hk)]
theorem and_zero (m : Nat) (hm : m < 16384) : bits BinOp.and IntKind.u64 ((m : Int) * 1125899906842624) 4294967295 = 0 := by
  have e : ((m : Int) * 1125899906842624) = ((m * 1125899906842624 : Nat) : Int) := by omega
  rw [e]
  have e2 : (4294967295 : Int) = ((4294967295 : Nat) : Int) := rfl
  rw [e2, u64_and_nat _ _ (by omega) (by omega)]
  have h : m * 1125899906842624 &&& 4294967295 = (m * 1125899906842624) % 2 ^ 32 := by rw [← Nat.and_two_pow_sub_one_eq_mod]
  rw [h]; omega
theorem d2 (lo k m : Nat) (hm : m < 16384) (hlo : lo = k * 16384 + m) : (lo : Int) / 16384 = k := by omega
theorem d3 (lo k m : Nat) (hm : m < 16384) (hlo : lo = k * 16384 + m) : IntKind.u64.wrap ((lo : Int) * 1125899906842624) = (m : Int) * 1125899906842624 := by
  rw [IntKind.wrap_u64]; omega
theorem d5 (m : Nat) : (m : Int) * 1125899906842624 / 4294967296 = (m : Int) * 262144 := by omega
theorem d6 (u q1 r1 : Nat) (hq : u = q1 * 2621440000 + r1) (hr : r1 < 2621440000) (hu : u < 11258999068426240000) : IntKind.u64.wrap ((u : Int).tdiv 2621440000) = q1 := by
  rw [IntKind.wrap_u64, Int.tdiv_eq_ediv_of_nonneg (by omega)]; omega
theorem d7 (u q1 r1 : Nat) (hq : u = q1 * 2621440000 + r1) (hr : r1 < 2621440000) : IntKind.u64.wrap ((u : Int) - IntKind.u64.wrap ((q1 : Int) * 2621440000)) = r1 := by
  rw [IntKind.wrap_u64, IntKind.wrap_u64]; omega
theorem d8 (u q1 r1 : Nat) (hq : u = q1 * 2621440000 + r1) (hu : u < 11258999068426240000) : (q1 : Int) < 4294967296 := by omega
theorem d9 (hi k u : Nat) (h1 : hi < 10000) (hk : k < 1125899906842624) (hu : hi * 1125899906842624 + k = u) : u < 11258999068426240000 := by omega
structure Facts (hi lo k m u q1 r1 t q0 r0 : Nat) : Prop where
  hk : k < 1125899906842624
  hm : m < 16384
  hlo : lo = k * 16384 + m
  hu : hi * 1125899906842624 + k = u
  hul : u < 11258999068426240000
  hq : u = q1 * 2621440000 + r1
  hr : r1 < 2621440000
  ht : t = r1 * 4294967296 + m * 262144
  hq0 : t = q0 * 2621440000 + r0
  hr0 : r0 < 2621440000
theorem mod3 (a b c M : Int) : ((a % M + b) % M - c % M) % M = (a + b - c) % M := by
  rw [Int.emod_add_emod, ← Int.sub_emod]
theorem lin3 (q1 r1 m : Int) : (q1 * 2621440000 + r1) * 4294967296 + m * 262144 - q1 * 11258999068426240000 = r1 * 4294967296 + m * 262144 := by omega
theorem small3 (r1 m t : Int) (ht : t = r1 * 4294967296 + m * 262144) (h0 : 0 ≤ r1) (h1 : 0 ≤ m) (hr : r1 < 2621440000) (hm : m < 16384) : t % 18446744073709551616 = t := by
  apply Int.emod_eq_of_lt <;> omega
theorem dv1 (hi lo k m u N : Int) (h1 : lo = k * 16384 + m) (h2 : hi * 1125899906842624 + k = u)
   (hN : hi * 18446744073709551616 + lo = N) : N * 262144 = u * 4294967296 + m * 262144 := by omega
theorem dv2 (u m q1 r1 t q0 r0 : Int) (h3 : u = q1 * 2621440000 + r1) (h4 : t = r1 * 4294967296 + m * 262144) (h5 : t = q0 * 2621440000 + r0) : u * 4294967296 + m * 262144 = (q1 * 4294967296 + q0) * 2621440000 + r0 := by omega
theorem dv3 (N Q r0 : Nat) (h : (N:Int) * 262144 = Q * 2621440000 + r0) (hr : r0 < 2621440000) : N / 10000 = Q := by omega
theorem Facts.t3 {hi lo k m u q1 r1 t q0 r0 : Nat} (F : Facts hi lo k m u q1 r1 t q0 r0) :
    IntKind.u64.wrap (IntKind.u64.wrap (IntKind.u64.wrap ((u : Int) * 4294967296) + (m : Int) * 262144) - IntKind.u64.wrap ((q1 : Int) * 11258999068426240000)) = (t : Int) := by
  have hm := F.hm
  have hr := F.hr
  have ht : (t : Int) = (r1 : Int) * 4294967296 + (m : Int) * 262144 := by have := F.ht; omega
  have hq : (u : Int) = (q1 : Int) * 2621440000 + (r1 : Int) := by have := F.hq; omega
  simp only [IntKind.wrap_u64]
  rw [mod3, hq, lin3, ← ht]
  exact small3 r1 m t ht (by omega) (by omega) (by omega) (by omega)
theorem Facts.t0 {hi lo k m u q1 r1 t q0 r0 : Nat} (F : Facts hi lo k m u q1 r1 t q0 r0) :
    IntKind.u64.wrap ((t : Int).tdiv 2621440000) = (q0 : Int) := by
  obtain ⟨_, hm, _, _, _, _, hr, ht, hq0, hr0⟩ := F
  rw [IntKind.wrap_u64, Int.tdiv_eq_ediv_of_nonneg (by omega)]; omega
theorem Facts.q0lt {hi lo k m u q1 r1 t q0 r0 : Nat} (F : Facts hi lo k m u q1 r1 t q0 r0) : decide ((4294967296 : Int) ≤ (q0 : Int)) = false := by
  obtain ⟨_, hm, _, _, _, _, hr, ht, hq0, hr0⟩ := F
  have : q0 < 4294967296 := by omega
  simp; omega
theorem Facts.q1lt {hi lo k m u q1 r1 t q0 r0 : Nat} (F : Facts hi lo k m u q1 r1 t q0 r0) : decide ((4294967296 : Int) ≤ (q1 : Int)) = false := by
  have := d8 u q1 r1 F.hq F.hul; simp; omega
theorem Facts.fin {hi lo k m u q1 r1 t q0 r0 : Nat} (F : Facts hi lo k m u q1 r1 t q0 r0) : IntKind.u64.wrap (IntKind.u64.wrap ((q1 : Int) * 4294967296) + (q0 : Int)) = ((q1 * 4294967296 + q0 : Nat) : Int) := by
  have h1 := d8 u q1 r1 F.hq F.hul
  obtain ⟨_, hm, _, _, _, _, hr, ht, hq0, hr0⟩ := F
  have h2 : q0 < 4294967296 := by omega
  clear hm hr ht hq0 hr0
  simp only [IntKind.wrap_u64]
  omega
set_option maxRecDepth 100000 in
set_option maxHeartbeats 2000000 in
theorem div64_pos (hi lo k m u q1 r1 t q0 r0 : Nat) (h0 : 0 < hi) (h1 : hi < 10000) (_hl : lo < 18446744073709551616) (F : Facts hi lo k m u q1 r1 t q0 r0) (w : World) :
    Calls Tryd.prog 64 #[.int .u64 (hi : Int), .int .u64 (lo : Int), .int .u64 10000] w fun e w' => ∃ r, e = .returned (.tuple #[.int .u64 ((q1 * 4294967296 + q0 : Nat) : Int), .int .u64 r]) ∧ ∃ n, w' = w.drewN n := by
  have hz : ((hi : Int) == 0) = false := by simp; omega
  have hlt : (hi : Int) < 10000 := by omega
  go_enter Tryd.func64, Tryd.ntmps64
  go_wp2_with (go_at_call 85; refine (lz_any _).mono ?_; rintro e w' ⟨rfl, rfl⟩)
  simp only [d2 lo k m F.hm F.hlo, d3 lo k m F.hm F.hlo, or_sum hi k u h1 F.hk F.hu, and_zero m F.hm, d5, and0, d6 u q1 r1 F.hq F.hr F.hul, d7 u q1 r1 F.hq F.hr]
  have b1 := F.q1lt
  clear _hl
  refine wp_loop_rounds 1 ?_
  rw [rounds_succ]
  go_wp2
  simp only [F.t3, F.t0, d7 t q0 r0 F.hq0 F.hr0]
  have b2 := F.q0lt
  refine wp_loop_rounds 1 ?_
  rw [rounds_succ]
  go_wp2
  go_ret2
  simp only [F.fin]
  exact ⟨_, rfl, 0, rfl⟩
theorem facts_of (hi lo : Nat) (h1 : hi < 10000) (_hl : lo < 18446744073709551616) : ∃ k m u q1 r1 t q0 r0, Facts hi lo k m u q1 r1 t q0 r0 := by
  obtain ⟨k, hk⟩ : ∃ k, k = lo / 16384 := ⟨_, rfl⟩
  obtain ⟨m, hm⟩ : ∃ k, k = lo % 16384 := ⟨_, rfl⟩
  obtain ⟨u, hu⟩ : ∃ u, hi * 1125899906842624 + k = u := ⟨_, rfl⟩
  obtain ⟨q1, hq1⟩ : ∃ q, q = u / 2621440000 := ⟨_, rfl⟩
  obtain ⟨r1, hr1⟩ : ∃ q, q = u % 2621440000 := ⟨_, rfl⟩
  obtain ⟨t, ht⟩ : ∃ t, t = r1 * 4294967296 + m * 262144 := ⟨_, rfl⟩
  obtain ⟨q0, hq0⟩ : ∃ q, q = t / 2621440000 := ⟨_, rfl⟩
  obtain ⟨r0, hr0⟩ : ∃ q, q = t % 2621440000 := ⟨_, rfl⟩
  have hk' : k < 1125899906842624 := by clear hu hq1 hr1 ht hq0 hr0 hm; omega
  have hm' : m < 16384 := by clear hu hq1 hr1 ht hq0 hr0 hk hk'; omega
  have hlo : lo = k * 16384 + m := by clear hu hq1 hr1 ht hq0 hr0 hk' hm'; omega
  have hq : u = q1 * 2621440000 + r1 := by clear hu ht hq0 hr0 hk hk' hm hm' hlo; omega
  have hr : r1 < 2621440000 := by clear hu ht hq0 hr0 hk hk' hm hm' hlo hq hq1; omega
  have hq' : t = q0 * 2621440000 + r0 := by clear hu ht hq1 hr1 hk hk' hm hm' hlo hq hr; omega
  have hr' : r0 < 2621440000 := by clear hu ht hq1 hr1 hk hk' hm hm' hlo hq hr hq' hq0; omega
  exact ⟨k, m, u, q1, r1, t, q0, r0, hk', hm', hlo, hu, d9 hi k u h1 hk' hu, hq, hr, ht, hq', hr'⟩
theorem div_of (N hi lo k m u q1 r1 t q0 r0 : Nat) (F : Facts hi lo k m u q1 r1 t q0 r0) (hN : (hi : Int) * 18446744073709551616 + lo = N) : N / 10000 = q1 * 4294967296 + q0 := by
  have e1 := dv1 hi lo k m u N (by have := F.hlo; omega) (by have := F.hu; omega) hN
  have e2 := dv2 u m q1 r1 t q0 r0 (by have := F.hq; omega) (by have := F.ht; omega) (by have := F.hq0; omega)
  exact dv3 N (q1 * 4294967296 + q0) r0 (by rw [e1, e2]; simp) F.hr0
theorem div64_any (N hi lo : Nat) (h1 : hi < 10000) (hl : lo < 18446744073709551616) (hN : (hi : Int) * 18446744073709551616 + lo = N) (w : World) :
    Calls Tryd.prog 64 #[.int .u64 (hi : Int), .int .u64 (lo : Int), .int .u64 10000] w fun e w' => ∃ r, e = .returned (.tuple #[.int .u64 ((N / 10000 : Nat) : Int), .int .u64 r]) ∧ ∃ n, w' = w.drewN n := by
  by_cases h0 : hi = 0
  · have e : N = lo := by subst h0; omega
    rw [e, h0]
    exact div64_zero lo hl w
  · obtain ⟨k, m, u, q1, r1, t, q0, r0, F⟩ := facts_of hi lo h1 hl
    rw [div_of N hi lo k m u q1 r1 t q0 r0 F hN]
    exact div64_pos hi lo k m u q1 r1 t q0 r0 (by omega) h1 hl F w
end Go.Proofs.YtjngkapfngempaaDoor
