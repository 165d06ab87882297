/- plain laws of decimal numbers: products and quotients -/
import Derived.Test.YtpacfinfbcpfnaaDoorPlain3
namespace Dcm
theorem abs_mul_bd (a b : Int) (ha : -1000000000 ≤ a) (ha' : a ≤ 1000000000) (hb : -1000000000 ≤ b) (hb' : b ≤ 1000000000) : -1000000000000000000 ≤ a * b ∧ a * b ≤ 1000000000000000000 := by
  have h : (a * b).natAbs ≤ 1000000000 * 1000000000 := by
    rw [Int.natAbs_mul]; exact Nat.mul_le_mul (by omega) (by omega)
  omega
theorem sgn_mul (a b : Int) (h : a * b ≠ 0) : (0 < a * b) ↔ ((0 < a) ↔ (0 < b)) := by
  have ha : a ≠ 0 := by rintro rfl; simp at h
  have hb : b ≠ 0 := by rintro rfl; simp at h
  rcases (show a < 0 ∨ 0 < a from by omega) with h1 | h1 <;> rcases (show b < 0 ∨ 0 < b from by omega) with h2 | h2
  · have := Int.mul_pos_of_neg_of_neg h1 h2; constructor <;> intro _ <;> omega
  · have := Int.mul_neg_of_neg_of_pos h1 h2; constructor <;> intro _ <;> omega
  · have := Int.mul_neg_of_pos_of_neg h1 h2; constructor <;> intro _ <;> omega
  · have := Int.mul_pos h1 h2; constructor <;> intro _ <;> omega
theorem tmod_sgn (c m : Int) (hm : 0 < m) : (0 ≤ c → 0 ≤ c.tmod m) ∧ (c ≤ 0 → c.tmod m ≤ 0) ∧ -m < c.tmod m ∧ c.tmod m < m := by
  refine ⟨fun h => Int.tmod_nonneg _ h, fun h => ?_, ?_, ?_⟩
  · have := Int.tmod_nonneg m (show 0 ≤ -c by omega)
    rw [Int.neg_tmod] at this; omega
  · have h : (c.tmod m).natAbs = c.natAbs % m.natAbs := Int.natAbs_tmod c m
    have := Nat.mod_lt c.natAbs (show 0 < m.natAbs by omega)
    omega
  · have h : (c.tmod m).natAbs = c.natAbs % m.natAbs := Int.natAbs_tmod c m
    have := Nat.mod_lt c.natAbs (show 0 < m.natAbs by omega)
    omega
theorem tdiv_mul10 (c : Int) : c - c.tdiv 10000 * 10000 = c.tmod 10000 := by rw [tdiv_mul]; omega
/-- the product's test: what is left has the product's sign -/
theorem left_sgn (a b L : Int) (hL : L = (a * b).tmod 10000) (h0 : L ≠ 0) : (0 < L) ↔ ((0 < a) ↔ (0 < b)) := by
  have h := tmod_sgn (a * b) 10000 (by omega)
  have hc : a * b ≠ 0 := by rintro e; rw [e] at hL; simp at hL; exact h0 hL
  rw [← sgn_mul a b hc]
  generalize a * b = c at *
  subst hL
  constructor <;> intro hh
  · apply Decidable.byContradiction; intro hn; have := h.2.1 (by omega); omega
  · have := h.1 (by omega); omega
theorem cut_over (c : Int) (h : vldB (c.tdiv 10000) = false) : 10000000000000 < sz c / 10000 := by
  rw [vld_not] at h
  rw [sz_natAbs]
  rcases Int.le_total 0 c with hc | hc
  · rw [tdiv_pos c _ rfl hc] at h; omega
  · rw [tdiv_neg c _ rfl hc] at h; omega
theorem sz_tdiv (x b : Int) : sz (x.tdiv b) = ((x.natAbs / b.natAbs : Nat) : Int) := by rw [sz_natAbs, Int.natAbs_tdiv]; rfl
theorem quo_size (a b : Int) : sz ((a * 10000).tdiv b) = sz a * 10000 / sz b := by
  rw [sz_tdiv, sz_natAbs, sz_natAbs, Int.natAbs_mul]; simp
theorem quo_left (a b : Int) (hb : b ≠ 0) : a * 10000 - (a * 10000).tdiv b * b = (a * 10000).tmod b ∧ sz ((a * 10000).tmod b) < sz b ∧ ((a * 10000).tmod b ≠ 0 → (0 < (a * 10000).tmod b ↔ 0 < a)) := by
  refine ⟨by rw [tdiv_mul]; omega, ?_, ?_⟩
  · rw [sz_natAbs, sz_natAbs, Int.natAbs_tmod]
    have := Nat.mod_lt (a * 10000).natAbs (show 0 < b.natAbs by omega)
    omega
  · intro h0
    have hp : 0 ≤ a → 0 ≤ (a * 10000).tmod b := fun h => Int.tmod_nonneg _ (by omega)
    have hn : a ≤ 0 → (a * 10000).tmod b ≤ 0 := fun h => by
      have := Int.tmod_nonneg b (show 0 ≤ -(a * 10000) by omega)
      rw [Int.neg_tmod] at this; omega
    constructor <;> intro hh
    · apply Decidable.byContradiction; intro hn2; have := hn (by omega); omega
    · have := hp (by omega); omega
theorem quo_valid (a b : Int) (ha : -1000000000 ≤ a) (ha' : a ≤ 1000000000) : vldB ((a * 10000).tdiv b) = true := by
  rw [vld_iff]; exact tdiv_bd _ _ _ (by omega) (by omega)
end Dcm
namespace Dcm
theorem fit_ok (x : Int) (h1 : -10000000000000 ≤ x) (h2 : x ≤ 10000000000000) : fitV x = x ∧ fitE x = 0 := by
  have h := vld_iff.2 ⟨h1, h2⟩
  unfold fitV fitE; rw [h]; exact ⟨rfl, rfl⟩
theorem both_ok (a b : Int) (h1 : -10000000000000 ≤ a) (h2 : a ≤ 10000000000000) (h3 : -10000000000000 ≤ b) (h4 : b ≤ 10000000000000) : bothB a b = true := both_iff.2 ⟨⟨h1, h2⟩, h3, h4⟩
theorem mul_ok (a b c : Int) (h1 : -10000000000000 ≤ a) (h2 : a ≤ 10000000000000) (h3 : -10000000000000 ≤ b) (h4 : b ≤ 10000000000000) (hc : (a * b).tdiv 10000 = c) (h5 : -10000000000000 ≤ c) (h6 : c ≤ 10000000000000) :
    mulV a b = c ∧ mulE a b = 0 := by
  unfold mulV mulE; rw [both_ok a b h1 h2 h3 h4, hc, if_pos rfl, if_pos rfl]; exact fit_ok c h5 h6
theorem add_ok (a b c : Int) (h1 : -10000000000000 ≤ a) (h2 : a ≤ 10000000000000) (h3 : -10000000000000 ≤ b) (h4 : b ≤ 10000000000000) (hc : a + b = c) (h5 : -10000000000000 ≤ c) (h6 : c ≤ 10000000000000) :
    addV a b = c ∧ addE a b = 0 := by
  unfold addV addE; rw [both_ok a b h1 h2 h3 h4, hc, if_pos rfl, if_pos rfl]; exact fit_ok c h5 h6
theorem sub_ok (a b c : Int) (h1 : -10000000000000 ≤ a) (h2 : a ≤ 10000000000000) (h3 : -10000000000000 ≤ b) (h4 : b ≤ 10000000000000) (hc : a - b = c) (h5 : -10000000000000 ≤ c) (h6 : c ≤ 10000000000000) :
    subV a b = c ∧ subE a b = 0 := by
  unfold subV subE; rw [both_ok a b h1 h2 h3 h4, hc, if_pos rfl, if_pos rfl]; exact fit_ok c h5 h6
theorem div_ok (a b c : Int) (h1 : -10000000000000 ≤ a) (h2 : a ≤ 10000000000000) (h3 : -10000000000000 ≤ b) (h4 : b ≤ 10000000000000) (h0 : b ≠ 0) (hc : (a * 10000).tdiv b = c) (h5 : -10000000000000 ≤ c) (h6 : c ≤ 10000000000000) :
    divV a b = c ∧ divE a b = 0 := by
  unfold divV divE; rw [both_ok a b h1 h2 h3 h4, hc, if_pos rfl, if_pos rfl, if_neg h0, if_neg h0]; exact fit_ok c h5 h6
theorem div_zero (a b : Int) (h1 : -10000000000000 ≤ a) (h2 : a ≤ 10000000000000) (h0 : b = 0) : divV a b = 0 ∧ divE a b = 10 := by
  subst h0; unfold divV divE; rw [both_ok a 0 h1 h2 (by omega) (by omega)]; exact ⟨rfl, rfl⟩
theorem mod_ok (a b : Int) (h1 : -10000000000000 ≤ a) (h2 : a ≤ 10000000000000) (h3 : -10000000000000 ≤ b) (h4 : b ≤ 10000000000000) (h0 : b ≠ 0) :
    modV a b = a.tmod b ∧ modE a b = 0 := by
  unfold modV modE; rw [both_ok a b h1 h2 h3 h4, if_pos rfl, if_pos rfl, if_neg h0, if_neg h0]; exact ⟨rfl, rfl⟩
theorem mod_zero (a b : Int) (h1 : -10000000000000 ≤ a) (h2 : a ≤ 10000000000000) (h0 : b = 0) : modV a b = 0 ∧ modE a b = 10 := by
  subst h0; unfold modV modE; rw [both_ok a 0 h1 h2 (by omega) (by omega)]; exact ⟨rfl, rfl⟩
theorem ofInt_ok (n : Int) (h1 : -1000000000 ≤ n) (h2 : n ≤ 1000000000) : ofIntV n = n * 10000 ∧ ofIntE n = 0 := by
  unfold ofIntV ofIntE; rw [if_pos ⟨h1, h2⟩, if_pos ⟨h1, h2⟩]; exact ⟨rfl, rfl⟩
theorem bd_mul (n a N A : Int) (h1 : -N ≤ n) (h2 : n ≤ N) (h3 : -A ≤ a) (h4 : a ≤ A) : -(N * A) ≤ n * a ∧ n * a ≤ N * A := by
  have hN : 0 ≤ N := by omega
  have hA : 0 ≤ A := by omega
  have h : (n * a).natAbs ≤ N.natAbs * A.natAbs := by rw [Int.natAbs_mul]; exact Nat.mul_le_mul (by omega) (by omega)
  have e : ((N.natAbs * A.natAbs : Nat) : Int) = N * A := by rw [Int.natCast_mul]; congr 1 <;> omega
  omega
theorem mul_10000 (n s : Int) : (n * 10000 * s).tdiv 10000 = n * s := by
  rw [Int.mul_right_comm]; exact Int.mul_tdiv_cancel _ (by decide)
theorem mul_10000' (b n : Int) : (b * (n * 10000)).tdiv 10000 = b * n := by
  rw [← Int.mul_assoc]; exact Int.mul_tdiv_cancel _ (by decide)
theorem div_back (n a : Int) (h : n ≠ 0) : (n * a * 10000).tdiv (n * 10000) = a := by
  rw [Int.mul_right_comm, Int.mul_comm (n * 10000) a]; exact Int.mul_tdiv_cancel _ (by omega)
theorem tdiv_tdiv_nat (A B : Nat) : (((A : Int) * 10000).tdiv (B : Int)).tdiv 10000 = (A : Int).tdiv B := by
  have h : A * 10000 / B / 10000 = A / B := by rw [Nat.div_div_eq_div_mul]; exact Nat.mul_div_mul_right A B (by decide)
  have e : (A : Int) * 10000 = ((A * 10000 : Nat) : Int) := by omega
  have e1 : ((A : Int) * 10000).tdiv (B : Int) = ((A * 10000 / B : Nat) : Int) := by rw [e]; rfl
  have e2 : (((A * 10000 / B : Nat) : Int)).tdiv 10000 = ((A * 10000 / B / 10000 : Nat) : Int) := rfl
  rw [e1, e2, h]; rfl
theorem tdiv_tdiv (a b : Int) : ((a * 10000).tdiv b).tdiv 10000 = a.tdiv b := by
  obtain ⟨A, hA⟩ : ∃ A : Nat, A = a.natAbs := ⟨_, rfl⟩
  obtain ⟨B, hB⟩ : ∃ B : Nat, B = b.natAbs := ⟨_, rfl⟩
  rcases (show a = A ∨ a = -(A : Int) from by omega) with ha | ha <;> rcases (show b = B ∨ b = -(B : Int) from by omega) with hb | hb <;> rw [ha, hb]
  · exact tdiv_tdiv_nat A B
  · rw [Int.tdiv_neg, Int.neg_tdiv, Int.tdiv_neg, tdiv_tdiv_nat]
  · rw [Int.neg_mul, Int.neg_tdiv, Int.neg_tdiv, Int.neg_tdiv, tdiv_tdiv_nat]
  · rw [Int.neg_mul, Int.neg_tdiv, Int.tdiv_neg, Int.neg_neg, Int.neg_tdiv, Int.tdiv_neg, Int.neg_neg, tdiv_tdiv_nat]
end Dcm
