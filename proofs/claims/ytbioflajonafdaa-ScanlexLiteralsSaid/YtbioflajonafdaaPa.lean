/- plain mathematics and texts of one kind, joined in one file (merge.py) -/
import Derived.Lib.IndexBytes
import Derived.Lib.ItoaNum
/- plain model of decimal numbers -/
namespace Dcm
def vldB (d : Int) : Bool := decide (-10000000000000 ≤ d) && decide (d ≤ 10000000000000)
theorem vld_iff {d : Int} : vldB d = true ↔ -10000000000000 ≤ d ∧ d ≤ 10000000000000 := by simp [vldB]
theorem vld_not {d : Int} : vldB d = false ↔ ¬ (-10000000000000 ≤ d ∧ d ≤ 10000000000000) := by rw [← vld_iff]; simp
def near (d : Int) : Int := max (-10000000000000) (min 10000000000000 d)
theorem near_lo (d : Int) : -10000000000000 ≤ near d := by unfold near; omega
theorem near_hi (d : Int) : near d ≤ 10000000000000 := by unfold near; omega
theorem near_eq1 (d : Int) (h : d ≤ -10000000000000) : near d = -10000000000000 := by unfold near; omega
theorem near_eq2 (d : Int) (h : 10000000000000 ≤ d) : near d = 10000000000000 := by unfold near; omega
theorem near_eq3 (d : Int) (h : -10000000000000 ≤ d) (h' : d ≤ 10000000000000) : near d = d := by unfold near; omega
/-- the size of a number -/
def sz (d : Int) : Int := max d (-d)
theorem sz_pos (d : Int) (h : 0 ≤ d) : sz d = d := by unfold sz; omega
theorem sz_neg (d : Int) (h : d ≤ 0) : sz d = -d := by unfold sz; omega
theorem sz_le (d : Int) (h : -10000000000000 ≤ d) (h' : d ≤ 10000000000000) : 0 ≤ sz d ∧ sz d ≤ 10000000000000 := by unfold sz; omega
def fitV (d : Int) : Int := if vldB d then d else 0
def fitE (d : Int) : Int := if vldB d then 0 else 9
def bothB (a b : Int) : Bool := vldB a && vldB b
theorem both_iff {a b : Int} : bothB a b = true ↔ (-10000000000000 ≤ a ∧ a ≤ 10000000000000) ∧ (-10000000000000 ≤ b ∧ b ≤ 10000000000000) := by simp [bothB, vld_iff]
def addV (a b : Int) : Int := if bothB a b then fitV (a + b) else 0
def addE (a b : Int) : Int := if bothB a b then fitE (a + b) else 2
def subV (a b : Int) : Int := if bothB a b then fitV (a - b) else 0
def subE (a b : Int) : Int := if bothB a b then fitE (a - b) else 2
def mulV (a b : Int) : Int := if bothB a b then fitV ((a * b).tdiv 10000) else 0
def mulE (a b : Int) : Int := if bothB a b then fitE ((a * b).tdiv 10000) else 2
def divV (a b : Int) : Int := if bothB a b then (if b = 0 then 0 else fitV ((a * 10000).tdiv b)) else 0
def divE (a b : Int) : Int := if bothB a b then (if b = 0 then 10 else fitE ((a * 10000).tdiv b)) else 2
def modV (a b : Int) : Int := if bothB a b then (if b = 0 then 0 else a.tmod b) else 0
def modE (a b : Int) : Int := if bothB a b then (if b = 0 then 10 else 0) else 2
def ofIntV (n : Int) : Int := if -1000000000 ≤ n ∧ n ≤ 1000000000 then n * 10000 else 0
def ofIntE (n : Int) : Int := if -1000000000 ≤ n ∧ n ≤ 1000000000 then 0 else 9
def toInt (d : Int) : Int := (near d).tdiv 10000
theorem tdiv_bd (x b m : Int) (h1 : -m ≤ x) (h2 : x ≤ m) : -m ≤ x.tdiv b ∧ x.tdiv b ≤ m := by
  have h : (x.tdiv b).natAbs ≤ x.natAbs := by rw [Int.natAbs_tdiv]; exact Nat.div_le_self _ _
  omega
theorem tmod_bd (x b m : Int) (h1 : -m ≤ x) (h2 : x ≤ m) : -m ≤ x.tmod b ∧ x.tmod b ≤ m := by
  have h : (x.tmod b).natAbs ≤ x.natAbs := by rw [Int.natAbs_tmod]; exact Nat.mod_le _ _
  omega
theorem tdiv_mul (x b : Int) : x.tdiv b * b = x - x.tmod b := by
  have := Int.mul_tdiv_add_tmod x b
  rw [Int.mul_comm] at this; omega
/-- the product of two sizes, and the signs -/
theorem prod_abs (a b : Int) : (a * b).natAbs = a.natAbs * b.natAbs := Int.natAbs_mul a b
theorem tdiv_pos (c : Int) (N : Nat) (h : c.natAbs = N) (hc : 0 ≤ c) : c.tdiv 10000 = ((N / 10000 : Nat) : Int) := by
  have e : c = (N : Int) := by omega
  rw [e, Int.tdiv_eq_ediv_of_nonneg (by omega)]; omega
theorem tdiv_neg (c : Int) (N : Nat) (h : c.natAbs = N) (hc : c ≤ 0) : c.tdiv 10000 = -((N / 10000 : Nat) : Int) := by
  have e : c = -(N : Int) := by omega
  rw [e, Int.neg_tdiv, Int.tdiv_eq_ediv_of_nonneg (by omega)]; omega
theorem sz_natAbs (d : Int) : sz d = (d.natAbs : Int) := by unfold sz; omega
theorem fit_big (c : Int) (N : Nat) (h : c.natAbs = N) (hN : 10000000000000 < N / 10000) : vldB (c.tdiv 10000) = false := by
  rw [vld_not]
  rcases Int.le_total 0 c with hc | hc
  · rw [tdiv_pos c N h hc]; omega
  · rw [tdiv_neg c N h hc]; omega
theorem fit_in (c : Int) (N : Nat) (h : c.natAbs = N) (hN : N / 10000 ≤ 10000000000000) : vldB (c.tdiv 10000) = true := by
  rw [vld_iff]
  rcases Int.le_total 0 c with hc | hc
  · rw [tdiv_pos c N h hc]; omega
  · rw [tdiv_neg c N h hc]; omega
theorem mul_nonneg' (a b : Int) (h : (a < 0 ∧ b < 0) ∨ (0 ≤ a ∧ 0 ≤ b)) : 0 ≤ a * b := by
  rcases h with ⟨h1, h2⟩ | ⟨h1, h2⟩
  · exact Int.le_of_lt (Int.mul_pos_of_neg_of_neg h1 h2)
  · exact Int.mul_nonneg h1 h2
theorem mul_nonpos' (a b : Int) (h : (a < 0 ∧ 0 ≤ b) ∨ (0 ≤ a ∧ b < 0)) : a * b ≤ 0 := by
  rcases h with ⟨h1, h2⟩ | ⟨h1, h2⟩
  · exact Int.mul_nonpos_of_nonpos_of_nonneg (Int.le_of_lt h1) h2
  · exact Int.mul_nonpos_of_nonneg_of_nonpos h1 (Int.le_of_lt h2)
/-- the reference's test: is the product too great? -/
theorem sz_mul_le (a b : Int) (h0 : a ≠ 0) (h : sz b ≤ 100000000000009999 / sz a) : -100000000000009999 ≤ a * b ∧ a * b ≤ 100000000000009999 := by
  have h1 : (0 : Int) < sz a := by unfold sz; omega
  have h2 : sz b * sz a ≤ 100000000000009999 := (Int.le_ediv_iff_mul_le h1).1 h
  have h3 : sz b * sz a = ((a * b).natAbs : Int) := by rw [sz_natAbs, sz_natAbs, Int.natAbs_mul, Int.natCast_mul, Int.mul_comm]
  omega
theorem sz_mul_gt (a b : Int) (h0 : a ≠ 0) (h : 100000000000009999 / sz a < sz b) : vldB ((a * b).tdiv 10000) = false := by
  have h1 : (0 : Int) < sz a := by unfold sz; omega
  have h2 : 100000000000009999 < sz b * sz a := Int.not_le.1 (fun h' => absurd ((Int.le_ediv_iff_mul_le h1).2 h') (Int.not_le.2 h))
  have h3 : sz b * sz a = ((a * b).natAbs : Int) := by rw [sz_natAbs, sz_natAbs, Int.natAbs_mul, Int.natCast_mul, Int.mul_comm]
  exact fit_big (a * b) _ rfl (by omega)
theorem sz_gt (a : Int) (h : a ≠ 0) : 0 < sz a := by unfold sz; omega
end Dcm
/- plain model of powers and rounding -/
namespace Dcm
def pwV (a : Int) : Nat → Int → Int
  | 0, p => p
  | k + 1, p => if mulE p a = 0 then pwV a k (mulV p a) else 0
def pwE (a : Int) : Nat → Int → Int
  | 0, _ => 0
  | k + 1, p => if mulE p a = 0 then pwE a k (mulV p a) else mulE p a
structure PInv (a : Int) (N k : Nat) (P : Int) : Prop where
  v : pwV a (N - k) P = pwV a N 10000
  e : pwE a (N - k) P = pwE a N 10000
theorem PInv.start (a : Int) (N : Nat) : PInv a N 0 10000 := ⟨rfl, rfl⟩
theorem PInv.step {a : Int} {N k : Nat} {P : Int} (h : PInv a N k P) (hk : k < N) (he : mulE P a = 0) : PInv a N (k + 1) (mulV P a) := by
  have e : N - k = (N - (k + 1)) + 1 := by omega
  obtain ⟨h1, h2⟩ := h
  rw [e] at h1 h2
  simp only [pwV, pwE, he, if_true] at h1 h2
  exact ⟨h1, h2⟩
theorem PInv.stop {a : Int} {N k : Nat} {P : Int} (h : PInv a N k P) (hk : k < N) (he : ¬ mulE P a = 0) : pwV a N 10000 = 0 ∧ pwE a N 10000 = mulE P a := by
  have e : N - k = (N - (k + 1)) + 1 := by omega
  obtain ⟨h1, h2⟩ := h
  rw [e] at h1 h2
  simp only [pwV, pwE, he, if_false] at h1 h2
  exact ⟨h1.symm, h2.symm⟩
theorem PInv.done {a : Int} {N : Nat} {P : Int} (h : PInv a N N P) : pwV a N 10000 = P ∧ pwE a N 10000 = 0 := by
  obtain ⟨h1, h2⟩ := h
  simp only [Nat.sub_self, pwV, pwE] at h1 h2
  exact ⟨h1.symm, h2.symm⟩
def powOk (a n : Int) : Bool := vldB a && decide (-64 ≤ n) && decide (n ≤ 64)
def powV (a n : Int) : Int :=
  if powOk a n then (if 0 ≤ n then pwV a n.toNat 10000 else if pwE a (-n).toNat 10000 = 0 then divV 10000 (pwV a (-n).toNat 10000) else 0) else 0
def powE (a n : Int) : Int :=
  if powOk a n then (if 0 ≤ n then pwE a n.toNat 10000 else if pwE a (-n).toNat 10000 = 0 then divE 10000 (pwV a (-n).toNat 10000) else pwE a (-n).toNat 10000) else 2
theorem pow_no (a n : Int) (h : powOk a n = false) : powV a n = 0 ∧ powE a n = 2 := by simp [powV, powE, h]
theorem pow_pos (a : Int) (N : Nat) (h : vldB a = true) (hN : N ≤ 64) : powV a N = pwV a N 10000 ∧ powE a N = pwE a N 10000 := by
  have : powOk a N = true := by simp [powOk, h]; omega
  simp [powV, powE, this]
theorem pow_neg_ok (a : Int) (N : Nat) (h : vldB a = true) (hN : N ≤ 64) (h0 : 0 < N) (he : pwE a N 10000 = 0) : powV a (-(N : Int)) = divV 10000 (pwV a N 10000) ∧ powE a (-(N : Int)) = divE 10000 (pwV a N 10000) := by
  have : powOk a (-(N : Int)) = true := by simp [powOk, h]; omega
  have h' : N ≠ 0 := by omega
  simp [powV, powE, this, he, h']
theorem pow_neg_no (a : Int) (N : Nat) (h : vldB a = true) (hN : N ≤ 64) (h0 : 0 < N) (he : ¬ pwE a N 10000 = 0) : powV a (-(N : Int)) = 0 ∧ powE a (-(N : Int)) = pwE a N 10000 := by
  have : powOk a (-(N : Int)) = true := by simp [powOk, h]; omega
  have h' : N ≠ 0 := by omega
  simp [powV, powE, this, he, h']
/-- the unit of the last digit that is kept -/
def unitI (p : Int) : Int := if p ≤ 0 then 10000 else if p = 1 then 1000 else if p = 2 then 100 else if p = 3 then 10 else 1
def roundD (d p : Int) : Int := if d < 0 then -((-(near d) + (unitI p) / 2) / (unitI p) * (unitI p)) else (near d + (unitI p) / 2) / (unitI p) * (unitI p)
theorem near_neg (d : Int) : near d < 0 ↔ d < 0 := by unfold near; omega
end Dcm
/- plain laws of decimal numbers -/
namespace Dcm
/-- what DecimalNearest tests, at a unit u of a number d that is valid -/
structure Near (d p u r : Int) : Prop where
  un : unitI p = u
  eq : roundD d p = r
  lo : -10000000000000 ≤ r
  hi : r ≤ 10000000000000
  md : r.tmod u = 0
  half : 2 * sz (r - d) ≤ u
  again : roundD r p = r
  tie : 2 * sz (r - d) < u ∨ sz d < sz r
theorem round_u (d p u : Int) (h1 : -10000000000000 ≤ d) (h2 : d ≤ 10000000000000) (hu : unitI p = u) :
    roundD d p = if d < 0 then -((-d + u / 2) / u * u) else (d + u / 2) / u * u := by
  unfold roundD; rw [near_eq3 d h1 h2, hu]
theorem nearest (d p u : Int) (h1 : -10000000000000 ≤ d) (h2 : d ≤ 10000000000000) (hu : unitI p = u) (hc : u = 10000 ∨ u = 1000 ∨ u = 100 ∨ u = 10 ∨ u = 1) :
    ∃ r, Near d p u r := by
  have e := round_u d p u h1 h2 hu
  refine ⟨roundD d p, hu, rfl, ?_, ?_, ?_, ?_, ?_, ?_⟩
  all_goals (rcases hc with rfl | rfl | rfl | rfl | rfl)
  all_goals (by_cases hn : d < 0)
  all_goals simp only [hn, if_true, if_false] at e
  all_goals first
    | (rw [e]; omega)
    | (rw [e]; unfold sz; omega)
    | (rw [e, Int.tmod_eq_emod_of_nonneg (by omega)]; omega)
    | (rw [e, Int.neg_tmod, Int.tmod_eq_emod_of_nonneg (by omega)]; omega)
    | (rw [round_u _ p _ (by rw [e]; omega) (by rw [e]; omega) hu, e]; split <;> omega)
end Dcm
/- plain laws of decimal numbers: products and quotients -/
namespace Dcm
theorem abs_mul_bd (a b : Int) (ha : -1000000000 ≤ a) (ha' : a ≤ 1000000000) (hb : -1000000000 ≤ b) (hb' : b ≤ 1000000000) : -1000000000000000000 ≤ a * b ∧ a * b ≤ 1000000000000000000 := by
  have h : (a * b).natAbs ≤ 1000000000 * 1000000000 := by
    rw [Int.natAbs_mul]; exact Nat.mul_le_mul (by omega) (by omega)
  omega
theorem sgn_mul (a b : Int) (h : a * b ≠ 0) : (0 < a * b) ↔ ((0 < a) ↔ (0 < b)) := by
  have ha : a ≠ 0 := by rintro rfl; simp at h
  have hb : b ≠ 0 := by rintro rfl; simp at h
  rcases (show a < 0 ∨ 0 < a from by omega) with h1 | h1 <;> rcases (show b < 0 ∨ 0 < b from by omega) with h2 | h2
  · have := Int.mul_pos_of_neg_of_neg h1 h2; constructor <;> intro _ <;> omega
  · have := Int.mul_neg_of_neg_of_pos h1 h2; constructor <;> intro _ <;> omega
  · have := Int.mul_neg_of_pos_of_neg h1 h2; constructor <;> intro _ <;> omega
  · have := Int.mul_pos h1 h2; constructor <;> intro _ <;> omega
theorem tmod_sgn (c m : Int) (hm : 0 < m) : (0 ≤ c → 0 ≤ c.tmod m) ∧ (c ≤ 0 → c.tmod m ≤ 0) ∧ -m < c.tmod m ∧ c.tmod m < m := by
  refine ⟨fun h => Int.tmod_nonneg _ h, fun h => ?_, ?_, ?_⟩
  · have := Int.tmod_nonneg m (show 0 ≤ -c by omega)
    rw [Int.neg_tmod] at this; omega
  · have h : (c.tmod m).natAbs = c.natAbs % m.natAbs := Int.natAbs_tmod c m
    have := Nat.mod_lt c.natAbs (show 0 < m.natAbs by omega)
    omega
  · have h : (c.tmod m).natAbs = c.natAbs % m.natAbs := Int.natAbs_tmod c m
    have := Nat.mod_lt c.natAbs (show 0 < m.natAbs by omega)
    omega
theorem tdiv_mul10 (c : Int) : c - c.tdiv 10000 * 10000 = c.tmod 10000 := by rw [tdiv_mul]; omega
/-- the product's test: what is left has the product's sign -/
theorem left_sgn (a b L : Int) (hL : L = (a * b).tmod 10000) (h0 : L ≠ 0) : (0 < L) ↔ ((0 < a) ↔ (0 < b)) := by
  have h := tmod_sgn (a * b) 10000 (by omega)
  have hc : a * b ≠ 0 := by rintro e; rw [e] at hL; simp at hL; exact h0 hL
  rw [← sgn_mul a b hc]
  generalize a * b = c at *
  subst hL
  constructor <;> intro hh
  · apply Decidable.byContradiction; intro hn; have := h.2.1 (by omega); omega
  · have := h.1 (by omega); omega
theorem cut_over (c : Int) (h : vldB (c.tdiv 10000) = false) : 10000000000000 < sz c / 10000 := by
  rw [vld_not] at h
  rw [sz_natAbs]
  rcases Int.le_total 0 c with hc | hc
  · rw [tdiv_pos c _ rfl hc] at h; omega
  · rw [tdiv_neg c _ rfl hc] at h; omega
theorem sz_tdiv (x b : Int) : sz (x.tdiv b) = ((x.natAbs / b.natAbs : Nat) : Int) := by rw [sz_natAbs, Int.natAbs_tdiv]; rfl
theorem quo_size (a b : Int) : sz ((a * 10000).tdiv b) = sz a * 10000 / sz b := by
  rw [sz_tdiv, sz_natAbs, sz_natAbs, Int.natAbs_mul]; simp
theorem quo_left (a b : Int) (hb : b ≠ 0) : a * 10000 - (a * 10000).tdiv b * b = (a * 10000).tmod b ∧ sz ((a * 10000).tmod b) < sz b ∧ ((a * 10000).tmod b ≠ 0 → (0 < (a * 10000).tmod b ↔ 0 < a)) := by
  refine ⟨by rw [tdiv_mul]; omega, ?_, ?_⟩
  · rw [sz_natAbs, sz_natAbs, Int.natAbs_tmod]
    have := Nat.mod_lt (a * 10000).natAbs (show 0 < b.natAbs by omega)
    omega
  · intro h0
    have hp : 0 ≤ a → 0 ≤ (a * 10000).tmod b := fun h => Int.tmod_nonneg _ (by omega)
    have hn : a ≤ 0 → (a * 10000).tmod b ≤ 0 := fun h => by
      have := Int.tmod_nonneg b (show 0 ≤ -(a * 10000) by omega)
      rw [Int.neg_tmod] at this; omega
    constructor <;> intro hh
    · apply Decidable.byContradiction; intro hn2; have := hn (by omega); omega
    · have := hp (by omega); omega
theorem quo_valid (a b : Int) (ha : -1000000000 ≤ a) (ha' : a ≤ 1000000000) : vldB ((a * 10000).tdiv b) = true := by
  rw [vld_iff]; exact tdiv_bd _ _ _ (by omega) (by omega)
end Dcm
namespace Dcm
theorem fit_ok (x : Int) (h1 : -10000000000000 ≤ x) (h2 : x ≤ 10000000000000) : fitV x = x ∧ fitE x = 0 := by
  have h := vld_iff.2 ⟨h1, h2⟩
  unfold fitV fitE; rw [h]; exact ⟨rfl, rfl⟩
theorem both_ok (a b : Int) (h1 : -10000000000000 ≤ a) (h2 : a ≤ 10000000000000) (h3 : -10000000000000 ≤ b) (h4 : b ≤ 10000000000000) : bothB a b = true := both_iff.2 ⟨⟨h1, h2⟩, h3, h4⟩
theorem mul_ok (a b c : Int) (h1 : -10000000000000 ≤ a) (h2 : a ≤ 10000000000000) (h3 : -10000000000000 ≤ b) (h4 : b ≤ 10000000000000) (hc : (a * b).tdiv 10000 = c) (h5 : -10000000000000 ≤ c) (h6 : c ≤ 10000000000000) :
    mulV a b = c ∧ mulE a b = 0 := by
  unfold mulV mulE; rw [both_ok a b h1 h2 h3 h4, hc, if_pos rfl, if_pos rfl]; exact fit_ok c h5 h6
theorem add_ok (a b c : Int) (h1 : -10000000000000 ≤ a) (h2 : a ≤ 10000000000000) (h3 : -10000000000000 ≤ b) (h4 : b ≤ 10000000000000) (hc : a + b = c) (h5 : -10000000000000 ≤ c) (h6 : c ≤ 10000000000000) :
    addV a b = c ∧ addE a b = 0 := by
  unfold addV addE; rw [both_ok a b h1 h2 h3 h4, hc, if_pos rfl, if_pos rfl]; exact fit_ok c h5 h6
theorem sub_ok (a b c : Int) (h1 : -10000000000000 ≤ a) (h2 : a ≤ 10000000000000) (h3 : -10000000000000 ≤ b) (h4 : b ≤ 10000000000000) (hc : a - b = c) (h5 : -10000000000000 ≤ c) (h6 : c ≤ 10000000000000) :
    subV a b = c ∧ subE a b = 0 := by
  unfold subV subE; rw [both_ok a b h1 h2 h3 h4, hc, if_pos rfl, if_pos rfl]; exact fit_ok c h5 h6
theorem div_ok (a b c : Int) (h1 : -10000000000000 ≤ a) (h2 : a ≤ 10000000000000) (h3 : -10000000000000 ≤ b) (h4 : b ≤ 10000000000000) (h0 : b ≠ 0) (hc : (a * 10000).tdiv b = c) (h5 : -10000000000000 ≤ c) (h6 : c ≤ 10000000000000) :
    divV a b = c ∧ divE a b = 0 := by
  unfold divV divE; rw [both_ok a b h1 h2 h3 h4, hc, if_pos rfl, if_pos rfl, if_neg h0, if_neg h0]; exact fit_ok c h5 h6
theorem div_zero (a b : Int) (h1 : -10000000000000 ≤ a) (h2 : a ≤ 10000000000000) (h0 : b = 0) : divV a b = 0 ∧ divE a b = 10 := by
  subst h0; unfold divV divE; rw [both_ok a 0 h1 h2 (by omega) (by omega)]; exact ⟨rfl, rfl⟩
theorem mod_ok (a b : Int) (h1 : -10000000000000 ≤ a) (h2 : a ≤ 10000000000000) (h3 : -10000000000000 ≤ b) (h4 : b ≤ 10000000000000) (h0 : b ≠ 0) :
    modV a b = a.tmod b ∧ modE a b = 0 := by
  unfold modV modE; rw [both_ok a b h1 h2 h3 h4, if_pos rfl, if_pos rfl, if_neg h0, if_neg h0]; exact ⟨rfl, rfl⟩
theorem mod_zero (a b : Int) (h1 : -10000000000000 ≤ a) (h2 : a ≤ 10000000000000) (h0 : b = 0) : modV a b = 0 ∧ modE a b = 10 := by
  subst h0; unfold modV modE; rw [both_ok a 0 h1 h2 (by omega) (by omega)]; exact ⟨rfl, rfl⟩
theorem ofInt_ok (n : Int) (h1 : -1000000000 ≤ n) (h2 : n ≤ 1000000000) : ofIntV n = n * 10000 ∧ ofIntE n = 0 := by
  unfold ofIntV ofIntE; rw [if_pos ⟨h1, h2⟩, if_pos ⟨h1, h2⟩]; exact ⟨rfl, rfl⟩
theorem bd_mul (n a N A : Int) (h1 : -N ≤ n) (h2 : n ≤ N) (h3 : -A ≤ a) (h4 : a ≤ A) : -(N * A) ≤ n * a ∧ n * a ≤ N * A := by
  have hN : 0 ≤ N := by omega
  have hA : 0 ≤ A := by omega
  have h : (n * a).natAbs ≤ N.natAbs * A.natAbs := by rw [Int.natAbs_mul]; exact Nat.mul_le_mul (by omega) (by omega)
  have e : ((N.natAbs * A.natAbs : Nat) : Int) = N * A := by rw [Int.natCast_mul]; congr 1 <;> omega
  omega
theorem mul_10000 (n s : Int) : (n * 10000 * s).tdiv 10000 = n * s := by
  rw [Int.mul_right_comm]; exact Int.mul_tdiv_cancel _ (by decide)
theorem mul_10000' (b n : Int) : (b * (n * 10000)).tdiv 10000 = b * n := by
  rw [← Int.mul_assoc]; exact Int.mul_tdiv_cancel _ (by decide)
theorem div_back (n a : Int) (h : n ≠ 0) : (n * a * 10000).tdiv (n * 10000) = a := by
  rw [Int.mul_right_comm, Int.mul_comm (n * 10000) a]; exact Int.mul_tdiv_cancel _ (by omega)
theorem tdiv_tdiv_nat (A B : Nat) : (((A : Int) * 10000).tdiv (B : Int)).tdiv 10000 = (A : Int).tdiv B := by
  have h : A * 10000 / B / 10000 = A / B := by rw [Nat.div_div_eq_div_mul]; exact Nat.mul_div_mul_right A B (by decide)
  have e : (A : Int) * 10000 = ((A * 10000 : Nat) : Int) := by omega
  have e1 : ((A : Int) * 10000).tdiv (B : Int) = ((A * 10000 / B : Nat) : Int) := by rw [e]; rfl
  have e2 : (((A * 10000 / B : Nat) : Int)).tdiv 10000 = ((A * 10000 / B / 10000 : Nat) : Int) := rfl
  rw [e1, e2, h]; rfl
theorem tdiv_tdiv (a b : Int) : ((a * 10000).tdiv b).tdiv 10000 = a.tdiv b := by
  obtain ⟨A, hA⟩ : ∃ A : Nat, A = a.natAbs := ⟨_, rfl⟩
  obtain ⟨B, hB⟩ : ∃ B : Nat, B = b.natAbs := ⟨_, rfl⟩
  rcases (show a = A ∨ a = -(A : Int) from by omega) with ha | ha <;> rcases (show b = B ∨ b = -(B : Int) from by omega) with hb | hb <;> rw [ha, hb]
  · exact tdiv_tdiv_nat A B
  · rw [Int.tdiv_neg, Int.neg_tdiv, Int.tdiv_neg, tdiv_tdiv_nat]
  · rw [Int.neg_mul, Int.neg_tdiv, Int.neg_tdiv, Int.neg_tdiv, tdiv_tdiv_nat]
  · rw [Int.neg_mul, Int.neg_tdiv, Int.tdiv_neg, Int.neg_neg, Int.neg_tdiv, Int.tdiv_neg, Int.neg_neg, tdiv_tdiv_nat]
end Dcm
/- plain lists of bytes -/
namespace Byt
open Go
/-- the length of the longest beginning of bytes of one kind -/
def run (p : UInt8 → Bool) : List UInt8 → Nat
  | [] => 0
  | c :: r => if p c then run p r + 1 else 0
theorem run_le (p : UInt8 → Bool) (l : List UInt8) : run p l ≤ l.length := by
  induction l with
  | nil => simp [run]
  | cons c r ih => simp only [run]; split <;> simp <;> omega
def dg (c : UInt8) : Bool := decide (48 ≤ c.toNat) && decide (c.toNat ≤ 57)
theorem dg_cases (c : UInt8) : (dg c = true ∧ (48 : Int) ≤ (c.toNat : Int) ∧ (c.toNat : Int) ≤ 57) ∨ (dg c = false ∧ (c.toNat : Int) < 48) ∨ (dg c = false ∧ (48 : Int) ≤ (c.toNat : Int) ∧ (57 : Int) < (c.toNat : Int)) := by
  unfold dg
  by_cases h1 : 48 ≤ c.toNat
  · by_cases h2 : c.toNat ≤ 57
    · left; simp [h1, h2]; omega
    · right; right; simp [h2]; omega
  · right; left; simp [h1]; omega
def bl (c : UInt8) : Bool := decide (c.toNat = 32) || decide (c.toNat = 9)
theorem size_len (s : ByteArray) : s.size = s.data.toList.length := Lib.size_eq s
theorem drop_lt (s : ByteArray) (k : Nat) (h : k < s.size) : s.data.toList.drop k = s[k] :: s.data.toList.drop (k + 1) := by
  rw [List.drop_eq_getElem_cons (by rw [← size_len]; exact h)]; rfl
theorem drop_ge (s : ByteArray) (k : Nat) (h : s.size ≤ k) : s.data.toList.drop k = [] := List.drop_eq_nil_of_le (by rw [← size_len]; exact h)
theorem run_lt (p : UInt8 → Bool) (s : ByteArray) (k : Nat) (h : k < s.size) : run p (s.data.toList.drop k) = if p s[k] then run p (s.data.toList.drop (k + 1)) + 1 else 0 := by
  rw [drop_lt s k h]; rfl
theorem run_ge (p : UInt8 → Bool) (s : ByteArray) (k : Nat) (h : s.size ≤ k) : run p (s.data.toList.drop k) = 0 := by
  rw [drop_ge s k h]; rfl
theorem ext_to (s : ByteArray) (a : Nat) : (s.extract a s.size).data.toList = s.data.toList.drop a := Lib.extract_to_end s a
theorem ext_mid (s : ByteArray) (a b : Nat) : (s.extract a b).data.toList = (s.data.toList.drop a).take (b - a) := Lib.extract_data s a b
/-- the value of a digit -/
def dv (c : UInt8) : Int := (c.toNat : Int) - 48
theorem dv_bd (c : UInt8) (h : dg c = true) : 0 ≤ dv c ∧ dv c ≤ 9 := by
  simp [dg] at h; unfold dv; omega
/-- the whole part: none if it is beyond 10^9 -/
def val : List UInt8 → Int → Option Int
  | [], d => some d
  | c :: r, d => if 1000000000 < 10 * d + dv c then none else val r (10 * d + dv c)
/-- so many digits of a list, zeros where it has ended -/
def fr : Nat → List UInt8 → Int → Int
  | 0, _, d => d
  | k + 1, [], d => fr k [] (10 * d)
  | k + 1, c :: r, d => fr k r (10 * d + dv c)
def pow10 : Nat → Int
  | 0 => 1
  | k + 1 => 10 * pow10 k
theorem fr_lin (k : Nat) : ∀ (l : List UInt8) (d : Int), fr k l d = d * pow10 k + fr k l 0 := by
  induction k with
  | zero => intro l d; simp [fr, pow10]
  | succ k ih =>
    intro l d
    cases l with
    | nil => simp only [fr, pow10]; rw [ih [] (10 * d), ih [] (10 * 0)]; simp; rw [Int.mul_comm 10 d, Int.mul_assoc]
    | cons c r =>
      simp only [fr, pow10]; rw [ih r (10 * d + dv c), ih r (10 * 0 + dv c)]
      simp only [Int.mul_zero, Int.zero_add, Int.add_mul]
      rw [Int.mul_comm 10 d, Int.mul_assoc]; omega
theorem fr4 (l : List UInt8) (d : Int) : fr 4 l d = d * 10000 + fr 4 l 0 := fr_lin 4 l d
theorem fr_bd (k : Nat) : ∀ (l : List UInt8) (_ : ∀ c ∈ l, dg c = true), 0 ≤ fr k l 0 ∧ fr k l 0 ≤ pow10 k - 1 := by
  induction k with
  | zero => intro l _; simp [fr, pow10]
  | succ k ih =>
    intro l hl
    cases l with
    | nil =>
      have := ih [] (by simp)
      simp only [fr, pow10, Int.mul_zero]
      omega
    | cons c r =>
      have h1 := ih r (fun x hx => hl x (List.mem_cons_of_mem _ hx))
      have h2 := dv_bd c (hl c (List.mem_cons_self ..))
      simp only [fr, pow10, Int.mul_zero, Int.zero_add]
      rw [fr_lin]
      have hp : 0 ≤ pow10 k := by omega
      have h3 : 0 ≤ dv c * pow10 k := Int.mul_nonneg h2.1 hp
      have h4 : dv c * pow10 k ≤ 9 * pow10 k := Int.mul_le_mul_of_nonneg_right h2.2 hp
      omega
theorem fr4_bd (l : List UInt8) (hl : ∀ c ∈ l, dg c = true) : 0 ≤ fr 4 l 0 ∧ fr 4 l 0 ≤ 9999 := by
  have := fr_bd 4 l hl
  have e : pow10 4 = 10000 := rfl
  omega
theorem val_bd : ∀ (l : List UInt8) (d v : Int), (∀ c ∈ l, dg c = true) → 0 ≤ d → d ≤ 1000000000 → val l d = some v → 0 ≤ v ∧ v ≤ 1000000000 := by
  intro l
  induction l with
  | nil => intro d v _ h0 h1 h; simp only [val, Option.some.injEq] at h; omega
  | cons c r ih =>
    intro d v hl h0 h1 h
    have h2 := dv_bd c (hl c (List.mem_cons_self ..))
    simp only [val] at h
    split at h
    · cases h
    · exact ih _ v (fun x hx => hl x (List.mem_cons_of_mem _ hx)) (by omega) (by omega) h
theorem mem_run (p : UInt8 → Bool) : ∀ (l : List UInt8) (c : UInt8), c ∈ l.take (run p l) → p c = true := by
  intro l
  induction l with
  | nil => intro c h; simp [run] at h
  | cons x r ih =>
    intro c h
    simp only [run] at h
    split at h
    · rename_i hx
      simp only [List.take_succ_cons, List.mem_cons] at h
      rcases h with rfl | h
      · exact hx
      · exact ih c h
    · simp at h
end Byt
namespace Byt
open Go
theorem mem_get (s : ByteArray) (k : Nat) (h : k < s.size) : s[k] ∈ s.data.toList := by
  have := List.getElem_mem (l := s.data.toList) (n := k) (by rw [← size_len]; exact h)
  exact this
theorem dig_get (s : ByteArray) (hd : ∀ c ∈ s.data.toList, dg c = true) (k : Nat) (h : k < s.size) : (48 : Int) ≤ (s[k].toNat : Int) ∧ (s[k].toNat : Int) ≤ 57 := by
  have := hd _ (mem_get s k h)
  rcases dg_cases s[k] with ⟨_, h1⟩ | ⟨h2, _⟩ | ⟨h2, _⟩
  · exact h1
  · rw [h2] at this; cases this
  · rw [h2] at this; cases this
theorem val_lt (s : ByteArray) (k : Nat) (d : Int) (h : k < s.size) : val (s.data.toList.drop k) d = if 1000000000 < 10 * d + ((s[k].toNat : Int) - 48) then none else val (s.data.toList.drop (k + 1)) (10 * d + ((s[k].toNat : Int) - 48)) := by
  rw [drop_lt s k h]; rfl
theorem val_ge (s : ByteArray) (k : Nat) (d : Int) (h : s.size ≤ k) : val (s.data.toList.drop k) d = some d := by
  rw [drop_ge s k h]; rfl
theorem fr_lt (s : ByteArray) (j k : Nat) (d : Int) (h : k < s.size) : fr (j + 1) (s.data.toList.drop k) d = fr j (s.data.toList.drop (k + 1)) (10 * d + ((s[k].toNat : Int) - 48)) := by
  rw [drop_lt s k h]; rfl
theorem fr_ge (s : ByteArray) (j k : Nat) (d : Int) (h : s.size ≤ k) : fr (j + 1) (s.data.toList.drop k) d = fr j (s.data.toList.drop (k + 1)) (10 * d) := by
  rw [drop_ge s k h, drop_ge s (k + 1) (by omega)]; rfl
theorem pow10_le (k : Nat) (h : k ≤ 4) : 1 ≤ pow10 k ∧ pow10 k ≤ 10000 := by
  rcases (show k = 0 ∨ k = 1 ∨ k = 2 ∨ k = 3 ∨ k = 4 from by omega) with rfl | rfl | rfl | rfl | rfl <;> decide
theorem pow10_lt (k : Nat) (h : k < 4) : pow10 k ≤ 1000 := by
  rcases (show k = 0 ∨ k = 1 ∨ k = 2 ∨ k = 3 from by omega) with rfl | rfl | rfl | rfl <;> decide
/-- the loop over the four digits of a fraction that begins at v -/
structure FrI (l : List UInt8) (v : Int) (k : Nat) (d : Int) : Prop where
  eq : fr (4 - k) (l.drop k) d = fr 4 l v
  lo : 0 ≤ d
  hi : d < (v + 1) * pow10 k
theorem FrI.start (l : List UInt8) (v : Int) (h : 0 ≤ v) : FrI l v 0 v := ⟨rfl, h, by simp [pow10]; omega⟩
theorem FrI.bd {l : List UInt8} {v : Int} {k : Nat} {d : Int} (h : FrI l v k d) (hk : k < 4) (h0 : 0 ≤ v) : d ≤ (v + 1) * 1000 := by
  have h1 := h.hi
  have h2 : (v + 1) * pow10 k ≤ (v + 1) * 1000 := Int.mul_le_mul_of_nonneg_left (pow10_lt k hk) (by omega)
  omega
theorem FrI.hit {s : ByteArray} {v : Int} {k : Nat} {d : Int} (hd : ∀ c ∈ s.data.toList, dg c = true) (h : FrI s.data.toList v k d) (hk : k < 4) (hs : k < s.size) :
    FrI s.data.toList v (k + 1) (10 * d + ((s[k].toNat : Int) - 48)) := by
  obtain ⟨h1, h2, h3⟩ := h
  have hc := dig_get s hd k hs
  refine ⟨?_, by omega, ?_⟩
  · rw [← h1, show 4 - k = (4 - (k + 1)) + 1 from by omega, fr_lt s _ k d hs]
  · simp only [pow10]
    rw [show (v + 1) * (10 * pow10 k) = 10 * ((v + 1) * pow10 k) from by rw [Int.mul_left_comm]]
    omega
theorem FrI.miss {s : ByteArray} {v : Int} {k : Nat} {d : Int} (h : FrI s.data.toList v k d) (hk : k < 4) (hs : s.size ≤ k) : FrI s.data.toList v (k + 1) (10 * d) := by
  obtain ⟨h1, h2, h3⟩ := h
  refine ⟨?_, by omega, ?_⟩
  · rw [← h1, show 4 - k = (4 - (k + 1)) + 1 from by omega, fr_ge s _ k d hs]
  · simp only [pow10]
    rw [show (v + 1) * (10 * pow10 k) = 10 * ((v + 1) * pow10 k) from by rw [Int.mul_left_comm]]
    omega
theorem FrI.done {l : List UInt8} {v d : Int} (h : FrI l v 4 d) : d = fr 4 l v := h.eq
/-- the loop over the whole part -/
structure VaI (l : List UInt8) (k : Nat) (d : Int) : Prop where
  eq : val (l.drop k) d = val l 0
  lo : 0 ≤ d
  hi : d ≤ 1000000000
theorem VaI.start (l : List UInt8) : VaI l 0 0 := ⟨rfl, by decide, by decide⟩
theorem VaI.stop {s : ByteArray} {k : Nat} {d : Int} (h : VaI s.data.toList k d) (hs : k < s.size) (hb : 1000000000 < 10 * d + ((s[k].toNat : Int) - 48)) : val s.data.toList 0 = none := by
  rw [← h.eq, val_lt s k d hs, if_pos hb]
theorem VaI.step {s : ByteArray} {k : Nat} {d : Int} (hd : ∀ c ∈ s.data.toList, dg c = true) (h : VaI s.data.toList k d) (hs : k < s.size) (hb : ¬ 1000000000 < 10 * d + ((s[k].toNat : Int) - 48)) :
    VaI s.data.toList (k + 1) (10 * d + ((s[k].toNat : Int) - 48)) := by
  have hc := dig_get s hd k hs
  have h2 := h.lo
  exact ⟨by rw [← h.eq, val_lt s k d hs, if_neg hb], by omega, by omega⟩
theorem VaI.done {s : ByteArray} {k : Nat} {d : Int} (h : VaI s.data.toList k d) (hs : s.size ≤ k) : val s.data.toList 0 = some d := by
  rw [← h.eq, val_ge s k d hs]
def valueV (a f : List UInt8) : Int := match val a 0 with
  | none => 10000000000001
  | some v => min 10000000000001 (v * 10000 + fr 4 f 0)
def numberV (a f : List UInt8) : Int := match val a 0 with
  | none => 0
  | some v => fr 4 f v
def numberB (a f : List UInt8) : Bool := match val a 0 with
  | none => false
  | some v => decide (fr 4 f v ≤ 10000000000000)
end Byt
/- the text of a number -/
namespace Byt
open Go Dcm
def wholeP (l : List UInt8) : List UInt8 := l.take (run dg l)
def fracP (l : List UInt8) : List UInt8 := l.drop (run dg l + 1)
def isAt (l : List UInt8) (k : Nat) (c : UInt8) : Bool := decide (l[k]? = some c)
def endsBy (l : List UInt8) (c : UInt8) : Bool := decide (l.getLast? = some c)
def okF (f : List UInt8) : Bool := decide (1 ≤ f.length) && decide (f.length ≤ 4) && decide (run dg f = f.length) && !(endsBy f 48)
def okP (l : List UInt8) : Bool :=
  !(decide (run dg l = 0)) && !(decide (1 < run dg l) && isAt l 0 48) && (decide (run dg l = l.length) || (isAt l (run dg l) 46 && okF (fracP l)))
theorem get_list (s : ByteArray) (k : Nat) (h : k < s.size) : s.data.toList[k]? = some s[k] := by
  rw [List.getElem?_eq_getElem (by rw [← size_len]; exact h)]; rfl
theorem get_some (s : ByteArray) (k : Nat) (h : k < s.size) (c : UInt8) : s.data.toList[k]? = some c ↔ (s[k].toNat : Int) = (c.toNat : Int) := by
  rw [get_list s k h]
  constructor
  · intro h'; injection h' with h'; rw [h']
  · intro h'; congr 1; apply UInt8.toNat_inj.1; omega
theorem last_some (s : ByteArray) (h : s.size - 1 < s.size) (c : UInt8) : s.data.toList.getLast? = some c ↔ (s[s.size - 1].toNat : Int) = (c.toNat : Int) := by
  rw [← get_some s (s.size - 1) h, List.getLast?_eq_getElem?, ← size_len]
theorem isAt_t (s : ByteArray) (k : Nat) (h : k < s.size) (c : UInt8) (h' : (s[k].toNat : Int) = (c.toNat : Int)) : isAt s.data.toList k c = true := by
  unfold isAt; rw [decide_eq_true_eq]; exact (get_some s k h c).2 h'
theorem isAt_f (s : ByteArray) (k : Nat) (h : k < s.size) (c : UInt8) (h' : ¬ (s[k].toNat : Int) = (c.toNat : Int)) : isAt s.data.toList k c = false := by
  unfold isAt; rw [decide_eq_false_iff_not]; exact fun h2 => h' ((get_some s k h c).1 h2)
theorem isAt_e (s : ByteArray) (k : Nat) (h : s.size ≤ k) (c : UInt8) : isAt s.data.toList k c = false := by
  unfold isAt; rw [decide_eq_false_iff_not, List.getElem?_eq_none (by rw [← size_len]; exact h)]; simp
theorem ends_t (s : ByteArray) (h : s.size - 1 < s.size) (c : UInt8) (h' : (s[s.size - 1].toNat : Int) = (c.toNat : Int)) : endsBy s.data.toList c = true := by
  unfold endsBy; rw [decide_eq_true_eq]; exact (last_some s h c).2 h'
theorem ends_f (s : ByteArray) (h : s.size - 1 < s.size) (c : UInt8) (h' : ¬ (s[s.size - 1].toNat : Int) = (c.toNat : Int)) : endsBy s.data.toList c = false := by
  unfold endsBy; rw [decide_eq_false_iff_not]; exact fun h2 => h' ((last_some s h c).1 h2)
theorem run_le_size (p : UInt8 → Bool) (s : ByteArray) : run p s.data.toList ≤ s.size := by rw [size_len]; exact run_le _ _
/-- the parse of a whole text -/
def negL (l : List UInt8) : Bool := isAt l 0 45
def restL (l : List UInt8) : List UInt8 := if negL l then l.drop 1 else l
def parseOk (l : List UInt8) : Bool := okP (restL l) && !(negL l && decide (restL l = [48]))
def parseN (l : List UInt8) : Int := valueV (wholeP (restL l)) (fracP (restL l))
def parseV (l : List UInt8) : Int := if parseOk l then fitV (if negL l then -(parseN l) else parseN l) else 0
def parseE (l : List UInt8) : Int := if parseOk l then fitE (if negL l then -(parseN l) else parseN l) else 1
end Byt
/- the reference's numbers -/
namespace Byt
open Go Dcm
theorem num_ok (a f : List UInt8) (h : numberB a f = true) : numberV a f = valueV a f ∧ valueV a f ≤ 10000000000000 := by
  unfold numberB at h
  unfold numberV valueV
  cases hv : val a 0 with
  | none => rw [hv] at h; cases h
  | some v =>
    rw [hv] at h
    have h := of_decide_eq_true h
    rw [fr4] at h
    simp only
    rw [fr4 f v]; omega
theorem num_no (a f : List UInt8) (h : numberB a f = false) : valueV a f = 10000000000001 := by
  unfold numberB at h
  unfold valueV
  cases hv : val a 0 with
  | none => rfl
  | some v =>
    rw [hv] at h
    have h := of_decide_eq_false h
    rw [fr4] at h
    simp only
    omega
theorem fit_no (x : Int) (h : x = 10000000000001 ∨ x = -10000000000001) : fitV x = 0 ∧ fitE x = 9 := by
  rcases h with rfl | rfl <;> decide
theorem fit_yes (x : Int) (h : -10000000000000 ≤ x) (h' : x ≤ 10000000000000) : fitV x = x ∧ fitE x = 0 := by
  have : vldB x = true := vld_iff.2 ⟨h, h'⟩
  simp [fitV, fitE, this]
theorem take_take_run (l : List UInt8) (F n : Nat) (h : run dg (l.drop F) = n) : (l.drop F).take (F + n - F) = wholeP (l.drop F) := by
  unfold wholeP; rw [h]; congr 1; omega
/-- what the reference's Parse comes to, by the tests -/
structure PIn (l : List UInt8) (neg : Bool) (t : List UInt8) : Prop where
  ng : negL l = neg
  rs : restL l = t
theorem PIn.no {l t : List UInt8} {b : Bool} (h : PIn l b t) (hk : okP t = false) : parseV l = 0 ∧ parseE l = 1 := by
  have : parseOk l = false := by unfold parseOk; rw [h.rs, hk]; rfl
  simp [parseV, parseE, this]
theorem PIn.zero {l t : List UInt8} (h : PIn l true t) (hk : t = [48]) : parseV l = 0 ∧ parseE l = 1 := by
  have : parseOk l = false := by unfold parseOk; rw [h.rs, h.ng, hk]; simp
  simp [parseV, parseE, this]
theorem PIn.big {l t : List UInt8} {b : Bool} (h : PIn l b t) (hk : okP t = true) (hz : b = true → t ≠ [48]) (hn : numberB (wholeP t) (fracP t) = false) : parseV l = 0 ∧ parseE l = 9 := by
  have h1 : parseOk l = true := by
    unfold parseOk; rw [h.rs, h.ng, hk]
    cases b with
    | false => rfl
    | true => simp [hz rfl]
  have h2 : parseN l = 10000000000001 := by unfold parseN; rw [h.rs]; exact num_no _ _ hn
  have h3 := fit_no (if negL l then -(parseN l) else parseN l) (by rw [h2]; cases negL l <;> simp)
  unfold parseV parseE
  rw [h1, if_pos rfl, if_pos rfl]; exact h3
theorem PIn.pos {l t : List UInt8} (h : PIn l false t) (hk : okP t = true) (hn : numberB (wholeP t) (fracP t) = true) (h0 : 0 ≤ valueV (wholeP t) (fracP t)) : parseV l = numberV (wholeP t) (fracP t) ∧ parseE l = 0 := by
  have h1 : parseOk l = true := by unfold parseOk; rw [h.rs, h.ng, hk]; rfl
  obtain ⟨e1, e2⟩ := num_ok _ _ hn
  have h2 : parseN l = numberV (wholeP t) (fracP t) := by unfold parseN; rw [h.rs, e1]
  have h3 := fit_yes (numberV (wholeP t) (fracP t)) (by omega) (by omega)
  unfold parseV parseE
  rw [h1, if_pos rfl, if_pos rfl, h.ng, if_neg Bool.false_ne_true, h2]; exact h3
theorem PIn.neg {l t : List UInt8} (h : PIn l true t) (hk : okP t = true) (hz : t ≠ [48]) (hn : numberB (wholeP t) (fracP t) = true) (h0 : 0 ≤ valueV (wholeP t) (fracP t)) : parseV l = -(numberV (wholeP t) (fracP t)) ∧ parseE l = 0 := by
  have h1 : parseOk l = true := by unfold parseOk; rw [h.rs, h.ng, hk]; simp [hz]
  obtain ⟨e1, e2⟩ := num_ok _ _ hn
  have h2 : parseN l = numberV (wholeP t) (fracP t) := by unfold parseN; rw [h.rs, e1]
  have h3 := fit_yes (-(numberV (wholeP t) (fracP t))) (by omega) (by omega)
  unfold parseV parseE
  rw [h1, if_pos rfl, if_pos rfl, h.ng, if_pos rfl, h2]; exact h3
end Byt
/- the number at the beginning of a text -/
namespace Byt
open Go Dcm
def preP (l : List UInt8) : Nat := if isAt l (run bl l) 45 || isAt l (run bl l) 43 then run bl l + 1 else run bl l
def preNeg (l : List UInt8) : Bool := isAt l (run bl l) 45
def preM (l : List UInt8) : Nat := run dg (l.drop (preP l))
def preK (l : List UInt8) : Nat := run dg (l.drop (preP l + preM l + 1))
def preU (l : List UInt8) : Bool := isAt l (preP l + preM l) 46 && (decide (0 < preM l) || decide (0 < preK l))
def preEmpty (l : List UInt8) : Bool := decide (preM l = 0) && !preU l
def preF (l : List UInt8) : List UInt8 := if preU l then (l.drop (preP l + preM l + 1)).take (preK l) else []
def preA (l : List UInt8) : Int := min 10000000000000 (valueV ((l.drop (preP l)).take (preM l)) (preF l))
def preV (l : List UInt8) : Int := if preEmpty l then 0 else if preNeg l then -(preA l) else preA l
def preN (l : List UInt8) : Nat := if preEmpty l then 0 else if preU l then preP l + preM l + 1 + preK l else preP l + preM l
structure PreI (l : List UInt8) (neg dot : Bool) (p n k : Nat) : Prop where
  hp : preP l = p
  hneg : preNeg l = neg
  hn : run dg (l.drop p) = n
  hk : run dg (l.drop (p + n + 1)) = k
  hd : isAt l (p + n) 46 = dot
variable {l : List UInt8} {neg dot : Bool} {p n k : Nat}
theorem PreI.m (h : PreI l neg dot p n k) : preM l = n := by unfold preM; rw [h.hp, h.hn]
theorem PreI.k' (h : PreI l neg dot p n k) : preK l = k := by unfold preK; rw [h.m, h.hp, h.hk]
theorem PreI.u (h : PreI l neg dot p n k) : preU l = (dot && (decide (0 < n) || decide (0 < k))) := by unfold preU; rw [h.m, h.k', h.hp, h.hd]
theorem PreI.empty (h : PreI l neg dot p n k) (h0 : n = 0) (h1 : dot = false ∨ k = 0) : preV l = 0 ∧ preN l = 0 := by
  have hu : preU l = false := by rw [h.u, h0]; rcases h1 with h1 | h1 <;> simp [h1]
  have he : preEmpty l = true := by unfold preEmpty; rw [h.m, hu, h0]; rfl
  unfold preV preN
  rw [he]; exact ⟨rfl, rfl⟩
theorem PreI.use (h : PreI l neg true p n k) (h0 : 0 < n ∨ 0 < k) : preV l = (if neg then -(min 10000000000000 (valueV ((l.drop p).take n) ((l.drop (p + n + 1)).take k))) else min 10000000000000 (valueV ((l.drop p).take n) ((l.drop (p + n + 1)).take k))) ∧ preN l = p + n + 1 + k := by
  have hu : preU l = true := by rw [h.u]; simpa using h0
  have he : preEmpty l = false := by unfold preEmpty; rw [hu]; simp
  unfold preV preN preA preF
  rw [he, hu, h.hneg, h.m, h.k', h.hp]; exact ⟨rfl, rfl⟩
theorem PreI.nouse (h : PreI l neg false p n k) (h0 : 0 < n) : preV l = (if neg then -(min 10000000000000 (valueV ((l.drop p).take n) [])) else min 10000000000000 (valueV ((l.drop p).take n) [])) ∧ preN l = p + n := by
  have hu : preU l = false := by rw [h.u]; rfl
  have he : preEmpty l = false := by unfold preEmpty; rw [hu, h.m]; simp; omega
  unfold preV preN preA preF
  rw [he, hu, h.hneg, h.m, h.hp]; exact ⟨rfl, rfl⟩
theorem run_hit (q : UInt8 → Bool) : ∀ (l : List UInt8) (j : Nat), j < run q l → ∃ c, l[j]? = some c ∧ q c = true := by
  intro l
  induction l with
  | nil => intro j h; simp [run] at h
  | cons x r ih =>
    intro j h
    simp only [run] at h
    split at h
    · rename_i hx
      cases j with
      | zero => exact ⟨x, rfl, hx⟩
      | succ j => exact ih j (by omega)
    · omega
theorem run_miss (q : UInt8 → Bool) : ∀ (l : List UInt8) (c : UInt8), l[run q l]? = some c → q c = false := by
  intro l
  induction l with
  | nil => intro c h; simp at h
  | cons x r ih =>
    intro c h
    simp only [run] at h
    split at h
    · exact ih c (by simpa using h)
    · rename_i hx
      simp at h
      subst h
      simpa using hx
theorem bl_hit (s : ByteArray) (j : Nat) (h : j < run bl s.data.toList) : ∃ hs : j < s.size, (s[j].toNat : Int) = 32 ∨ (s[j].toNat : Int) = 9 := by
  have hs : j < s.size := Nat.lt_of_lt_of_le h (run_le_size _ _)
  obtain ⟨c, h1, h2⟩ := run_hit bl _ j h
  rw [get_list s j hs] at h1
  injection h1 with h1
  refine ⟨hs, ?_⟩
  rw [h1]
  simp [bl] at h2
  omega
theorem bl_miss (s : ByteArray) (h : run bl s.data.toList < s.size) : ¬ ((s[run bl s.data.toList].toNat : Int) = 32) ∧ ¬ ((s[run bl s.data.toList].toNat : Int) = 9) := by
  have := run_miss bl _ _ (get_list s _ h)
  simp [bl] at this
  omega
theorem fr_take (j : Nat) : ∀ (l : List UInt8) (d : Int), fr j (l.take j) d = fr j l d := by
  induction j with
  | zero => intro l d; rfl
  | succ j ih =>
    intro l d
    cases l with
    | nil => rfl
    | cons c r => simp only [List.take_succ_cons, fr]; exact ih r _
theorem number_take (a f : List UInt8) : numberV a (f.take 4) = numberV a f ∧ numberB a (f.take 4) = numberB a f := by
  unfold numberV numberB
  cases val a 0 with
  | none => exact ⟨rfl, rfl⟩
  | some v => simp only; rw [fr_take]; exact ⟨rfl, rfl⟩
theorem num_min (a f : List UInt8) (hb : numberB a f = true) : min 10000000000000 (valueV a f) = numberV a f := by
  obtain ⟨h1, h2⟩ := num_ok a f hb
  rw [h1]; omega
theorem num_max (a f : List UInt8) (hb : numberB a f = false) : min 10000000000000 (valueV a f) = 10000000000000 := by
  rw [num_no a f hb]; rfl
end Byt
/- decimal digits -/
namespace Byt
open Go Dcm
def dgt (n : Nat) : UInt8 := UInt8.ofNat (48 + n % 10)
def low : Nat → Nat → List UInt8
  | 0, _ => []
  | i + 1, n => low i (n / 10) ++ [dgt n]
theorem low_cons (i : Nat) : ∀ n, low (i + 1) n = dgt (n / 10 ^ i) :: low i n := by
  induction i with
  | zero => intro n; simp [low]
  | succ i ih =>
    intro n
    have h1 : low (i + 1 + 1) n = low (i + 1) (n / 10) ++ [dgt n] := rfl
    have h2 : low (i + 1) n = low i (n / 10) ++ [dgt n] := rfl
    rw [h1, ih (n / 10), h2, Nat.div_div_eq_div_mul, Nat.pow_succ, Nat.mul_comm 10]
    rfl
theorem low_dec (i : Nat) : ∀ n, 10 ^ i ≤ n → n < 10 ^ (i + 1) → low (i + 1) n = Lib.decDigits n := by
  induction i with
  | zero =>
    intro n h1 h2
    rw [Lib.decDigits, dif_pos (by simpa using h2)]
    have : n % 10 = n := Nat.mod_eq_of_lt (by simpa using h2)
    simp [low, dgt, this]
  | succ i ih =>
    intro n h1 h2
    have h3 : 10 ≤ n := Nat.le_trans (by rw [Nat.pow_succ]; have := Nat.pow_pos (n := i) (show 0 < 10 by decide); omega) h1
    rw [Lib.decDigits, dif_neg (by omega)]
    have h4 := ih (n / 10) (by rw [Nat.le_div_iff_mul_le (by decide)]; rw [Nat.pow_succ] at h1; exact h1) (by rw [Nat.div_lt_iff_lt_mul (by decide)]; rw [Nat.pow_succ] at h2; exact h2)
    rw [← h4]; rfl
theorem low_zero : low 1 0 = Lib.decDigits 0 := by rw [Lib.decDigits, dif_pos (by decide)]; rfl
end Byt
namespace Byt
open Go Dcm
theorem low_length (i : Nat) : ∀ n, (low i n).length = i := by
  induction i with
  | zero => intro n; rfl
  | succ i ih => intro n; simp [low, ih]
/-- how many digits are written -/
structure Cnt (n least K : Nat) : Prop where
  le : least ≤ K
  big : K ≤ 20
  zero : n / 10 ^ K = 0
  more : ∀ k, k < K → k < least ∨ 0 < n / 10 ^ k
theorem Cnt.go {n least K k : Nat} (h : Cnt n least K) (hk : k < K) (hl : ¬ k < least) : 0 < n / 10 ^ k := by
  rcases h.more k hk with h1 | h1
  · exact absurd h1 hl
  · exact h1
theorem div_succ (n k : Nat) : n / 10 ^ k / 10 = n / 10 ^ (k + 1) := by rw [Nat.div_div_eq_div_mul, Nat.pow_succ]
theorem mk_eq (s : ByteArray) (l : List UInt8) (h : s.data.toList = l) : s = ⟨l.toArray⟩ := by
  obtain ⟨⟨x⟩⟩ := s
  simp only at h
  rw [h]
theorem app_list (a b : ByteArray) : (a ++ b).data.toList = a.data.toList ++ b.data.toList := by
  simp [ByteArray.data_append]
end Byt
/- the text of a decimal number -/
namespace Byt
open Go Dcm
def trimZ (l : List UInt8) : List UInt8 := (l.reverse.dropWhile (· == 48)).reverse
theorem trimZ_hit (l : List UInt8) : trimZ (l ++ [48]) = trimZ l := by simp [trimZ]
theorem trimZ_miss (l : List UInt8) (c : UInt8) (h : c ≠ 48) : trimZ (l ++ [c]) = l ++ [c] := by simp [trimZ, h]
theorem trimZ_nil : trimZ [] = [] := rfl
theorem dw_nil (p : UInt8 → Bool) : ∀ (l : List UInt8), l.dropWhile p = [] → ∀ c ∈ l, p c = true := by
  intro l
  induction l with
  | nil => intro _ c hc; cases hc
  | cons x r ih =>
    intro h c hc
    rw [List.dropWhile_cons] at h
    split at h
    · rename_i hx
      rcases List.mem_cons.1 hc with rfl | hc
      · exact hx
      · exact ih h c hc
    · cases h
theorem trimZ_ne : ∀ (l : List UInt8), (∃ c ∈ l, c ≠ 48) → trimZ l ≠ [] := by
  intro l ⟨c, hc, hn⟩ h
  unfold trimZ at h
  rw [List.reverse_eq_nil_iff] at h
  have := dw_nil _ _ h c (by simpa using hc)
  simp at this
  exact hn this
theorem low4 (n : Nat) : low 4 n = [dgt (n / 10 / 10 / 10), dgt (n / 10 / 10), dgt (n / 10), dgt n] := rfl
theorem dgt_mod (a b : Nat) (h : a % 10 = b % 10) : dgt a = dgt b := by unfold dgt; rw [h]
theorem low4_shift (f : Nat) : low 4 (10000 + f) = low 4 f := by
  rw [low4, low4, dgt_mod ((10000 + f) / 10 / 10 / 10) (f / 10 / 10 / 10) (by omega), dgt_mod ((10000 + f) / 10 / 10) (f / 10 / 10) (by omega), dgt_mod ((10000 + f) / 10) (f / 10) (by omega), dgt_mod (10000 + f) f (by omega)]
theorem dgt_48 (n : Nat) (h : dgt n = 48) : n % 10 = 0 := by
  have h1 : (dgt n).toNat = 48 := by rw [h]; rfl
  unfold dgt at h1
  rw [UInt8.toNat_ofNat'] at h1
  omega
theorem low4_ne (f : Nat) (h : f < 10000) (h0 : f ≠ 0) : trimZ (low 4 f) ≠ [] := by
  apply trimZ_ne
  rw [low4]
  apply Decidable.byContradiction
  intro hn
  have h1 : ∀ c ∈ [dgt (f / 10 / 10 / 10), dgt (f / 10 / 10), dgt (f / 10), dgt f], c = 48 := fun c hc => Decidable.byContradiction fun h => hn ⟨c, hc, h⟩
  have a0 := dgt_48 _ (h1 (dgt f) (by simp))
  have a1 := dgt_48 _ (h1 (dgt (f / 10)) (by simp))
  have a2 := dgt_48 _ (h1 (dgt (f / 10 / 10)) (by simp))
  have a3 := dgt_48 _ (h1 (dgt (f / 10 / 10 / 10)) (by simp))
  omega
theorem five (f : Nat) (h : f < 10000) : (Lib.decDigits (10000 + f)).drop 1 = low 4 f := by
  rw [← low_dec 4 (10000 + f) (by omega) (by omega), low_cons]
  simp [low4_shift]
theorem cnt_of (i W : Nat) (h1 : 10 ^ i ≤ W) (h2 : W < 10 ^ (i + 1)) (hi : i < 20) : Cnt W 1 (i + 1) :=
  ⟨by omega, by omega, Nat.div_eq_of_lt h2, fun k hk => .inr (Nat.div_pos (Nat.le_trans (Nat.pow_le_pow_right (by decide) (by omega)) h1) (Nat.pow_pos (by decide)))⟩
theorem cnt_any (W : Nat) (h : W ≤ 1000000000) : ∃ K, Cnt W 1 K ∧ low K W = Lib.decDigits W := by
  by_cases h0 : W = 0
  · subst h0
    exact ⟨1, ⟨by omega, by omega, rfl, fun k hk => .inl hk⟩, low_zero⟩
  · have : ∃ i, i < 20 ∧ 10 ^ i ≤ W ∧ W < 10 ^ (i + 1) := by
      by_cases a1 : W < 10
      · exact ⟨0, by omega, by omega, by omega⟩
      by_cases a2 : W < 100
      · exact ⟨1, by omega, by omega, by omega⟩
      by_cases a3 : W < 1000
      · exact ⟨2, by omega, by omega, by omega⟩
      by_cases a4 : W < 10000
      · exact ⟨3, by omega, by omega, by omega⟩
      by_cases a5 : W < 100000
      · exact ⟨4, by omega, by omega, by omega⟩
      by_cases a6 : W < 1000000
      · exact ⟨5, by omega, by omega, by omega⟩
      by_cases a7 : W < 10000000
      · exact ⟨6, by omega, by omega, by omega⟩
      by_cases a8 : W < 100000000
      · exact ⟨7, by omega, by omega, by omega⟩
      by_cases a9 : W < 1000000000
      · exact ⟨8, by omega, by omega, by omega⟩
      exact ⟨9, by omega, by omega, by omega⟩
    obtain ⟨i, hi, h1, h2⟩ := this
    exact ⟨i + 1, cnt_of i W h1 h2 hi, low_dec i W h1 h2⟩
theorem cnt_four (f : Nat) (h : f < 10000) : Cnt f 4 4 := ⟨by omega, by omega, Nat.div_eq_of_lt (by omega), fun k hk => .inl hk⟩
/-- the text of d -/
def fmtL (d : Int) : List UInt8 :=
  (if near d < 0 then [45] else []) ++ Lib.decDigits ((near d).natAbs / 10000) ++ (if (near d).natAbs % 10000 = 0 then [] else 46 :: trimZ (low 4 ((near d).natAbs % 10000)))
/-- the loop that strikes zeros at the end -/
structure TrI (R : List UInt8) (t : ByteArray) : Prop where
  eq : trimZ t.data.toList = R
  ne : R ≠ []
theorem TrI.pos {R : List UInt8} {t : ByteArray} (h : TrI R t) : 0 < t.size := by
  apply Nat.pos_of_ne_zero
  intro h0
  have h1 : t.data.toList = [] := List.eq_nil_of_length_eq_zero (by rw [← size_len]; exact h0)
  have := h.eq
  rw [h1] at this
  exact h.ne this.symm
theorem list_last (t : ByteArray) (h : t.size - 1 < t.size) : t.data.toList = t.data.toList.take (t.size - 1) ++ [t[t.size - 1]] := by
  have h1 := drop_lt t (t.size - 1) h
  have h2 := drop_ge t (t.size - 1 + 1) (by omega)
  rw [h2] at h1
  rw [← h1, List.take_append_drop]
theorem TrI.hit {R : List UInt8} {t : ByteArray} (h : TrI R t) (hl : t.size - 1 < t.size) (hc : (t[t.size - 1].toNat : Int) = 48) : TrI R (t.extract 0 (t.size - 1)) := by
  refine ⟨?_, h.ne⟩
  have h1 := h.eq
  rw [list_last t hl] at h1
  have h3 : t[t.size - 1] = 48 := by apply UInt8.toNat_inj.1; have : (48 : UInt8).toNat = 48 := rfl; omega
  rw [h3, trimZ_hit] at h1
  rw [ext_mid]; simpa using h1
theorem TrI.miss {R : List UInt8} {t : ByteArray} (h : TrI R t) (hl : t.size - 1 < t.size) (hc : ¬ (t[t.size - 1].toNat : Int) = 48) : t.data.toList = R := by
  have h1 := h.eq
  have h3 : t[t.size - 1] ≠ 48 := fun e => hc (by rw [e]; rfl)
  rw [list_last t hl, trimZ_miss _ _ h3, ← list_last t hl] at h1
  exact h1
end Byt
/- the text of a decimal number and its parse are inverse: parts -/
namespace Byt
open Go Dcm
theorem toNat_48 (k : Nat) (h : k < 10) : (UInt8.ofNat (48 + k)).toNat = 48 + k := by
  rw [UInt8.toNat_ofNat']; omega
theorem dg_48 (k : Nat) (h : k < 10) : dg (UInt8.ofNat (48 + k)) = true := by
  unfold dg; rw [toNat_48 k h]; simp; omega
theorem dv_48 (k : Nat) (h : k < 10) : dv (UInt8.ofNat (48 + k)) = k := by
  unfold dv; rw [toNat_48 k h]; omega
theorem dg_dec : ∀ (n : Nat), ∀ c ∈ Lib.decDigits n, dg c = true := by
  intro n
  induction n using Nat.strongRecOn with
  | _ n ih =>
    intro c hc
    rw [Lib.decDigits] at hc
    split at hc
    · rename_i h
      simp only [List.mem_singleton] at hc
      subst hc; exact dg_48 n h
    · rcases List.mem_append.1 hc with hc | hc
      · exact ih (n / 10) (by omega) c hc
      · simp only [List.mem_singleton] at hc
        subst hc; exact dg_48 _ (by omega)
theorem dec_ne (n : Nat) : Lib.decDigits n ≠ [] := by
  rw [Lib.decDigits]; split <;> simp
/-- no leading zero -/
theorem dec_head : ∀ (n : Nat), 1 ≤ n → (Lib.decDigits n)[0]? ≠ some 48 := by
  intro n
  induction n using Nat.strongRecOn with
  | _ n ih =>
    intro h0 hc
    rw [Lib.decDigits] at hc
    split at hc
    · rename_i h
      simp only [List.getElem?_cons_zero, Option.some.injEq] at hc
      have := toNat_48 n h
      rw [hc] at this
      have e : (48 : UInt8).toNat = 48 := rfl
      omega
    · rename_i h
      have hl : 0 < (Lib.decDigits (n / 10)).length := List.length_pos_iff.2 (dec_ne _)
      rw [List.getElem?_append_left hl] at hc
      exact ih (n / 10) (by omega) (by omega) hc
theorem dec_len (n : Nat) : 1 < (Lib.decDigits n).length → 1 ≤ n := by
  intro h
  apply Decidable.byContradiction
  intro h0
  obtain rfl : n = 0 := by omega
  rw [Lib.decDigits, dif_pos (by decide)] at h
  simp at h
theorem val_app : ∀ (a : List UInt8) (c : UInt8) (d : Int), val (a ++ [c]) d = match val a d with | none => none | some v => if 1000000000 < 10 * v + dv c then none else some (10 * v + dv c) := by
  intro a
  induction a with
  | nil => intro c d; rfl
  | cons x r ih =>
    intro c d
    simp only [List.cons_append, val]
    split
    · rfl
    · exact ih c _
theorem val_dec : ∀ (n : Nat), n ≤ 1000000000 → val (Lib.decDigits n) 0 = some (n : Int) := by
  intro n
  induction n using Nat.strongRecOn with
  | _ n ih =>
    intro hn
    rw [Lib.decDigits]
    split
    · rename_i h
      simp only [val]
      rw [dv_48 n h, if_neg (by omega)]; simp
    · rename_i h
      rw [val_app, ih (n / 10) (by omega) (by omega)]
      simp only
      rw [dv_48 _ (by omega), if_neg (by omega)]
      congr 1; omega
theorem of_dv (c : UInt8) (h : dg c = true) : ∃ k : Nat, k < 10 ∧ dv c = k ∧ c = UInt8.ofNat (48 + k) := by
  simp [dg] at h
  refine ⟨c.toNat - 48, by omega, by unfold dv; omega, ?_⟩
  apply UInt8.toNat_inj.1
  rw [toNat_48 _ (by omega)]; omega
/-- digits without a leading zero are the digits of their value -/
theorem dec_val : ∀ (m : Nat) (a : List UInt8), a.length = m → (∀ c ∈ a, dg c = true) → a ≠ [] → a[0]? ≠ some 48 → ∀ v, val a 0 = some v → ∃ n : Nat, 1 ≤ n ∧ v = n ∧ Lib.decDigits n = a := by
  intro m
  induction m with
  | zero => intro a hm _ h0; exact absurd (List.eq_nil_of_length_eq_zero hm) h0
  | succ m ih =>
    intro a hm hd h0 hz v hv
    obtain ⟨b, c, rfl⟩ : ∃ b c, a = b ++ [c] := ⟨a.dropLast, a.getLast h0, (List.dropLast_concat_getLast h0).symm⟩
    obtain ⟨k, hk, hkv, hkc⟩ := of_dv c (hd c (by simp))
    by_cases hb : b = []
    · subst hb
      simp only [List.nil_append, val] at hv
      rw [hkv] at hv
      split at hv
      · cases hv
      · injection hv with hv
        have hk0 : k ≠ 0 := by
          rintro rfl
          apply hz; rw [hkc]; rfl
        refine ⟨k, by omega, by omega, ?_⟩
        rw [Lib.decDigits, dif_pos hk, hkc]; rfl
    · have hl : 0 < b.length := List.length_pos_iff.2 hb
      rw [val_app] at hv
      split at hv
      · cases hv
      · rename_i u hu
        rw [List.getElem?_append_left hl] at hz
        obtain ⟨n, hn, rfl, hnb⟩ := ih b (by simp at hm; omega) (fun x hx => hd x (List.mem_append_left _ hx)) hb hz u hu
        split at hv
        · cases hv
        · injection hv with hv
          refine ⟨10 * n + k, by omega, by omega, ?_⟩
          rw [Lib.decDigits, dif_neg (by omega), show (10 * n + k) / 10 = n from by omega, show (10 * n + k) % 10 = k from by omega, hnb, hkc]
theorem dec_val' (a : List UInt8) (hd : ∀ c ∈ a, dg c = true) (h0 : a ≠ []) (hz : ¬ (1 < a.length ∧ a[0]? = some 48)) (v : Int) (hv : val a 0 = some v) : ∃ n : Nat, v = n ∧ Lib.decDigits n = a := by
  by_cases h : a[0]? = some 48
  · have hl : a.length = 1 := by
      have : 0 < a.length := List.length_pos_iff.2 h0
      have : ¬ 1 < a.length := fun h1 => hz ⟨h1, h⟩
      omega
    match a, hl with
    | [c], _ =>
      simp only [List.getElem?_cons_zero, Option.some.injEq] at h
      subst h
      refine ⟨0, ?_, ?_⟩
      · simp [val, dv] at hv; exact hv.symm
      · rw [Lib.decDigits, dif_pos (by decide)]; rfl
  · obtain ⟨n, _, h1, h2⟩ := dec_val _ a rfl hd h0 h v hv
    exact ⟨n, h1, h2⟩
theorem dgt_nat (n : Nat) : (dgt n).toNat = 48 + n % 10 := by unfold dgt; exact toNat_48 _ (by omega)
theorem dg_dgt (n : Nat) : dg (dgt n) = true := dg_48 _ (by omega)
theorem dv_dgt (n : Nat) : dv (dgt n) = ((n % 10 : Nat) : Int) := dv_48 _ (by omega)
theorem dgt_of (c : UInt8) (n : Nat) (_ : dg c = true) (he : dv c = ((n % 10 : Nat) : Int)) : dgt n = c := by
  apply UInt8.toNat_inj.1
  rw [dgt_nat]; unfold dv at he; omega
theorem dg_low (i : Nat) : ∀ n, ∀ c ∈ low i n, dg c = true := by
  induction i with
  | zero => intro n c hc; cases hc
  | succ i ih =>
    intro n c hc
    rcases List.mem_append.1 hc with hc | hc
    · exact ih _ c hc
    · simp only [List.mem_singleton] at hc
      subst hc; exact dg_dgt n
theorem fr_low (n : Nat) (h : n < 10000) : fr 4 (low 4 n) 0 = n := by
  rw [low4]
  simp only [fr, dv_dgt]; omega
theorem fr_zero : ∀ (k : Nat) (l : List UInt8) (d : Int), fr k (l ++ [48]) d = fr k l d := by
  intro k
  induction k with
  | zero => intro l d; rfl
  | succ k ih =>
    intro l d
    cases l with
    | nil =>
      show fr k [] (10 * d + dv 48) = fr k [] (10 * d)
      have : dv 48 = 0 := rfl
      rw [this, Int.add_zero]
    | cons c r => exact ih r _
theorem trim_split : ∀ (m : Nat) (l : List UInt8), l.length = m → (trimZ l = l ∨ ∃ b, l = b ++ [48] ∧ trimZ l = trimZ b) := by
  intro m l _
  by_cases h0 : l = []
  · left; subst h0; rfl
  · obtain ⟨b, c, rfl⟩ : ∃ b c, l = b ++ [c] := ⟨l.dropLast, l.getLast h0, (List.dropLast_concat_getLast h0).symm⟩
    by_cases hc : c = 48
    · right; subst hc; exact ⟨b, rfl, trimZ_hit b⟩
    · left; exact trimZ_miss b c hc
/-- what trimming keeps -/
theorem trim_keep : ∀ (m : Nat) (l : List UInt8), l.length = m → (∀ k d, fr k (trimZ l) d = fr k l d) ∧ (∀ c ∈ trimZ l, c ∈ l) ∧ (trimZ l).length ≤ l.length ∧ endsBy (trimZ l) 48 = false := by
  intro m
  induction m with
  | zero => intro l hl; rw [List.eq_nil_of_length_eq_zero hl]; exact ⟨fun _ _ => rfl, fun _ h => h, Nat.le_refl _, rfl⟩
  | succ m ih =>
    intro l hl
    obtain ⟨b, c, rfl⟩ : ∃ b c, l = b ++ [c] := by
      have h0 : l ≠ [] := by rintro rfl; simp at hl
      exact ⟨l.dropLast, l.getLast h0, (List.dropLast_concat_getLast h0).symm⟩
    by_cases hc : c = 48
    · subst hc
      obtain ⟨h1, h2, h3, h4⟩ := ih b (by simp at hl; omega)
      rw [trimZ_hit]
      exact ⟨fun k d => by rw [h1, fr_zero], fun c hc => List.mem_append_left _ (h2 c hc), by simp; omega, h4⟩
    · rw [trimZ_miss b c hc]
      refine ⟨fun _ _ => rfl, fun _ h => h, Nat.le_refl _, ?_⟩
      unfold endsBy; simp [hc]
theorem frac_ok (n : Nat) (h : n < 10000) (h0 : n ≠ 0) : okF (trimZ (low 4 n)) = true ∧ fr 4 (trimZ (low 4 n)) 0 = n ∧ (∀ c ∈ trimZ (low 4 n), dg c = true) := by
  obtain ⟨h1, h2, h3, h4⟩ := trim_keep _ (low 4 n) rfl
  have hd : ∀ c ∈ trimZ (low 4 n), dg c = true := fun c hc => dg_low 4 n c (h2 c hc)
  have hne := low4_ne n h h0
  have hr : ∀ l : List UInt8, (∀ c ∈ l, dg c = true) → run dg l = l.length := by
    intro l
    induction l with
    | nil => intro _; rfl
    | cons c r ih => intro h; simp only [run]; rw [if_pos (h c (by simp)), ih fun x hx => h x (by simp [hx])]; rfl
  have hp : 0 < (trimZ (low 4 n)).length := List.length_pos_iff.2 hne
  rw [low_length] at h3
  refine ⟨?_, by rw [h1, fr_low n h], hd⟩
  unfold okF
  rw [hr _ hd, h4]
  simp; omega
theorem ends_snoc (b : List UInt8) (c : UInt8) (h : endsBy (b ++ [c]) 48 = false) : c ≠ 48 := by
  rintro rfl
  simp [endsBy] at h
/-- a fraction is the text of its value -/
theorem frac_back (f : List UInt8) (hd : ∀ c ∈ f, dg c = true) (h : okF f = true) : ∃ n : Nat, n < 10000 ∧ n ≠ 0 ∧ fr 4 f 0 = n ∧ trimZ (low 4 n) = f := by
  have hb := fr4_bd f hd
  obtain ⟨n, hn⟩ := Int.eq_ofNat_of_zero_le hb.1
  unfold okF at h
  simp only [Bool.and_eq_true, decide_eq_true_eq, Bool.not_eq_true'] at h
  obtain ⟨⟨⟨l1, l2⟩, _⟩, he⟩ := h
  have key : ∀ c : UInt8, dg c = true → c ≠ 48 → dv c ≠ 0 := by
    intro c hc hn h0
    apply hn
    obtain ⟨k, _, hk, rfl⟩ := of_dv c hc
    have : k = 0 := by omega
    subst this; rfl
  refine ⟨n, by omega, ?_, hn, ?_⟩
  all_goals
    match f, l1, l2 with
    | [a], _, _ =>
      have da := dv_bd a (hd a (by simp))
      have ne := key a (hd a (by simp)) (ends_snoc [] a he)
      have na := ends_snoc [] a he
      simp only [fr] at hn
      first
        | (rintro rfl; omega)
        | (rw [low4, dgt_of a _ (hd a (by simp)) (by omega), show dgt (n / 10 / 10) = 48 from dgt_of 48 _ rfl (by show (0 : Int) = _; omega), show dgt (n / 10) = 48 from dgt_of 48 _ rfl (by show (0 : Int) = _; omega), show dgt n = 48 from dgt_of 48 _ rfl (by show (0 : Int) = _; omega)]
           rw [show [a, 48, 48, 48] = [a, 48, 48] ++ [48] from rfl, trimZ_hit, show [a, 48, 48] = [a, 48] ++ [48] from rfl, trimZ_hit, show [a, 48] = [a] ++ [48] from rfl, trimZ_hit]
           exact trimZ_miss [] a na)
    | [a, b], _, _ =>
      have da := dv_bd a (hd a (by simp))
      have db := dv_bd b (hd b (by simp))
      have ne := key b (hd b (by simp)) (ends_snoc [a] b he)
      have na := ends_snoc [a] b he
      simp only [fr] at hn
      first
        | (rintro rfl; omega)
        | (rw [low4, dgt_of a _ (hd a (by simp)) (by omega), dgt_of b _ (hd b (by simp)) (by omega), show dgt (n / 10) = 48 from dgt_of 48 _ rfl (by show (0 : Int) = _; omega), show dgt n = 48 from dgt_of 48 _ rfl (by show (0 : Int) = _; omega)]
           rw [show [a, b, 48, 48] = [a, b, 48] ++ [48] from rfl, trimZ_hit, show [a, b, 48] = [a, b] ++ [48] from rfl, trimZ_hit]
           exact trimZ_miss [a] b na)
    | [a, b, c], _, _ =>
      have da := dv_bd a (hd a (by simp))
      have db := dv_bd b (hd b (by simp))
      have dc := dv_bd c (hd c (by simp))
      have ne := key c (hd c (by simp)) (ends_snoc [a, b] c he)
      have na := ends_snoc [a, b] c he
      simp only [fr] at hn
      first
        | (rintro rfl; omega)
        | (rw [low4, dgt_of a _ (hd a (by simp)) (by omega), dgt_of b _ (hd b (by simp)) (by omega), dgt_of c _ (hd c (by simp)) (by omega), show dgt n = 48 from dgt_of 48 _ rfl (by show (0 : Int) = _; omega)]
           rw [show [a, b, c, 48] = [a, b, c] ++ [48] from rfl, trimZ_hit]
           exact trimZ_miss [a, b] c na)
    | [a, b, c, d], _, _ =>
      have da := dv_bd a (hd a (by simp))
      have db := dv_bd b (hd b (by simp))
      have dc := dv_bd c (hd c (by simp))
      have dd := dv_bd d (hd d (by simp))
      have ne := key d (hd d (by simp)) (ends_snoc [a, b, c] d he)
      have na := ends_snoc [a, b, c] d he
      simp only [fr] at hn
      first
        | (rintro rfl; omega)
        | (rw [low4, dgt_of a _ (hd a (by simp)) (by omega), dgt_of b _ (hd b (by simp)) (by omega), dgt_of c _ (hd c (by simp)) (by omega), dgt_of d _ (hd d (by simp)) (by omega)]
           exact trimZ_miss [a, b, c] d na)
theorem run_all_dg : ∀ l : List UInt8, (∀ c ∈ l, dg c = true) → run dg l = l.length := by
  intro l
  induction l with
  | nil => intro _; rfl
  | cons c r ih => intro h; simp only [run]; rw [if_pos (h c (by simp)), ih fun x hx => h x (by simp [hx])]; rfl
/-- the digits at the beginning, where what follows does not begin with a digit -/
theorem run_app : ∀ (a t : List UInt8), (∀ c ∈ a, dg c = true) → (∀ c, t[0]? = some c → dg c = false) → run dg (a ++ t) = a.length := by
  intro a t
  induction a with
  | nil =>
    intro _ h
    cases t with
    | nil => rfl
    | cons c r => simp only [List.nil_append, run]; rw [h c rfl]; rfl
  | cons c r ih =>
    intro h h'
    simp only [List.cons_append, run]
    rw [if_pos (h c (by simp)), ih (fun x hx => h x (by simp [hx])) h']; rfl
end Byt
/- the text of a decimal number and its parse are inverse -/
namespace Byt
open Go Dcm
/-- the text behind the sign: a whole part and what follows -/
structure Txt (t a g : List UInt8) (W f : Nat) : Prop where
  tx : t = a ++ (if f = 0 then [] else 46 :: g)
  dec : Lib.decDigits W = a
  fra : f ≠ 0 → trimZ (low 4 f) = g
  lt : f < 10000
  le : W ≤ 1000000000
theorem dot_no : dg 46 = false := rfl
section
variable {t a g : List UInt8} {W f : Nat}
theorem Txt.dgA (h : Txt t a g W f) : ∀ c ∈ a, dg c = true := h.dec ▸ dg_dec W
theorem Txt.neA (h : Txt t a g W f) : a ≠ [] := h.dec ▸ dec_ne W
theorem Txt.tail (_ : Txt t a g W f) : ∀ c, (if f = 0 then [] else 46 :: g)[0]? = some c → dg c = false := by
  intro c hc
  by_cases h0 : f = 0
  · rw [if_pos h0] at hc; cases hc
  · rw [if_neg h0] at hc
    simp only [List.getElem?_cons_zero, Option.some.injEq] at hc
    subst hc; exact dot_no
theorem Txt.runs (h : Txt t a g W f) : run dg t = a.length := by rw [h.tx]; exact run_app a _ h.dgA h.tail
theorem Txt.whole (h : Txt t a g W f) : wholeP t = a := by unfold wholeP; rw [h.runs, h.tx]; simp
theorem Txt.frac0 (h : Txt t a g W f) (h0 : f = 0) : fracP t = [] := by
  unfold fracP; rw [h.runs, h.tx, if_pos h0]; simp
theorem Txt.frac1 (h : Txt t a g W f) (h0 : f ≠ 0) : fracP t = g := by
  unfold fracP; rw [h.runs, h.tx, if_neg h0, ← List.drop_drop]; simp
theorem Txt.head (h : Txt t a g W f) : t[0]? = a[0]? := by
  rw [h.tx]; exact List.getElem?_append_left (List.length_pos_iff.2 h.neA)
theorem Txt.noLead (h : Txt t a g W f) : (decide (1 < a.length) && isAt t 0 48) = false := by
  rw [Bool.and_eq_false_iff]
  by_cases hl : 1 < a.length
  · right
    unfold isAt
    rw [decide_eq_false_iff_not, h.head, ← h.dec]
    exact dec_head W (dec_len W (by rw [h.dec]; exact hl))
  · left; simpa using hl
theorem Txt.ok (h : Txt t a g W f) : okP t = true := by
  unfold okP
  rw [h.runs, h.noLead]
  have h1 : (decide (a.length = 0)) = false := by rw [decide_eq_false_iff_not]; exact Nat.ne_of_gt (List.length_pos_iff.2 h.neA)
  rw [h1]
  by_cases h0 : f = 0
  · have : t.length = a.length := by rw [h.tx, if_pos h0]; simp
    rw [this]; simp
  · have e1 : isAt t a.length 46 = true := by
      unfold isAt; rw [decide_eq_true_eq, h.tx, if_neg h0]; simp
    have e2 : okF (fracP t) = true := by rw [h.frac1 h0, ← h.fra h0]; exact (frac_ok f h.lt h0).1
    rw [e1, e2]; simp
theorem Txt.valA (h : Txt t a g W f) : val a 0 = some (W : Int) := by rw [← h.dec]; exact val_dec W h.le
theorem Txt.frs (h : Txt t a g W f) : fr 4 (fracP t) 0 = f := by
  by_cases h0 : f = 0
  · rw [h.frac0 h0, h0]; rfl
  · rw [h.frac1 h0, ← h.fra h0]; exact (frac_ok f h.lt h0).2.1
theorem Txt.value (h : Txt t a g W f) (hb : W * 10000 + f ≤ 10000000000000) : valueV (wholeP t) (fracP t) = ((W * 10000 + f : Nat) : Int) := by
  unfold valueV
  rw [h.whole, h.valA]
  simp only
  rw [h.frs]; omega
theorem Txt.zero (h : Txt t a g W f) (e : t = [48]) : W = 0 ∧ f = 0 := by
  have h1 := h.whole
  have h2 := h.valA
  have h3 := h.frs
  subst e
  have e1 : wholeP [48] = [48] := rfl
  have e2 : fracP [48] = [] := rfl
  rw [e1] at h1
  rw [← h1] at h2
  rw [e2] at h3
  have e3 : val [48] 0 = some 0 := rfl
  have e4 : Byt.fr 4 [] 0 = 0 := rfl
  rw [e3] at h2
  rw [e4] at h3
  injection h2 with h2
  omega
theorem Txt.head_dg (h : Txt t a g W f) : ∃ c, t[0]? = some c ∧ dg c = true := by
  have hp : 0 < a.length := List.length_pos_iff.2 h.neA
  rw [h.head]
  exact ⟨a[0], List.getElem?_eq_getElem hp, h.dgA _ (List.getElem_mem hp)⟩
end
theorem Txt.of (W f : Nat) (hW : W ≤ 1000000000) (hf : f < 10000) : Txt (Lib.decDigits W ++ (if f = 0 then [] else 46 :: trimZ (low 4 f))) (Lib.decDigits W) (trimZ (low 4 f)) W f := ⟨rfl, rfl, fun _ => rfl, hf, hW⟩
/-- a text that is accepted is of that shape -/
theorem Txt.back (t : List UInt8) (h : okP t = true) (v : Int) (hv : val (wholeP t) 0 = some v) (hb : v ≤ 1000000000) :
    ∃ W f : Nat, Txt t (wholeP t) (fracP t) W f ∧ v = W := by
  unfold okP at h
  simp only [Bool.and_eq_true, Bool.not_eq_true', Bool.or_eq_true, decide_eq_true_eq, decide_eq_false_iff_not] at h
  obtain ⟨⟨h1, h2⟩, h3⟩ := h
  have hl : (wholeP t).length = run dg t := by unfold wholeP; rw [List.length_take]; have := run_le dg t; omega
  have hd : ∀ c ∈ wholeP t, dg c = true := fun c hc => mem_run dg t c hc
  have hne : wholeP t ≠ [] := by intro e; rw [e] at hl; simp at hl; omega
  have h0 : (wholeP t)[0]? = t[0]? := by unfold wholeP; rw [List.getElem?_take]; rw [if_pos (by omega)]
  have hz : ¬ (1 < (wholeP t).length ∧ (wholeP t)[0]? = some 48) := by
    rintro ⟨x, y⟩
    rw [hl] at x
    rw [h0] at y
    have : (decide (1 < run dg t) && isAt t 0 48) = true := by unfold isAt; rw [decide_eq_true x, decide_eq_true y]; rfl
    rw [this] at h2; cases h2
  obtain ⟨W, hW, hdec⟩ := dec_val' _ hd hne hz v hv
  rcases h3 with h3 | ⟨h3, h4⟩
  · refine ⟨W, 0, ⟨?_, hdec, fun h => absurd rfl h, by omega, by omega⟩, hW⟩
    rw [if_pos rfl, List.append_nil]; unfold wholeP; rw [h3, List.take_length]
  · have hfd : ∀ c ∈ fracP t, dg c = true := by
      unfold okF at h4
      simp only [Bool.and_eq_true, decide_eq_true_eq] at h4
      intro c hc
      have := mem_run dg (fracP t) c
      rw [h4.1.2, List.take_length] at this
      exact this hc
    obtain ⟨n, n1, n2, _, n4⟩ := frac_back _ hfd h4
    refine ⟨W, n, ⟨?_, hdec, fun _ => n4, n1, by omega⟩, hW⟩
    rw [if_neg n2]
    have e : t.drop (run dg t) = 46 :: fracP t := by
      unfold isAt at h3
      have h3 := of_decide_eq_true h3
      obtain ⟨hlt, he⟩ := List.getElem?_eq_some_iff.1 h3
      rw [List.drop_eq_getElem_cons hlt, he]; rfl
    rw [← e]; exact (List.take_append_drop _ _).symm
theorem fmt_of (d : Int) (W f : Nat) (h1 : -10000000000000 ≤ d) (h2 : d ≤ 10000000000000) (hd : d.natAbs = W * 10000 + f) (hf : f < 10000) :
    fmtL d = (if d < 0 then [45] else []) ++ (Lib.decDigits W ++ (if f = 0 then [] else 46 :: trimZ (low 4 f))) := by
  unfold fmtL
  rw [near_eq3 d h1 h2, show d.natAbs / 10000 = W from by omega, show d.natAbs % 10000 = f from by omega, List.append_assoc]
/-- Format inverts Parse -/
theorem parse_back (l : List UInt8) (h : parseE l = 0) : fmtL (parseV l) = l ∧ vldB (parseV l) = true := by
  have hok : parseOk l = true := by
    apply Decidable.byContradiction
    intro hn
    rw [Bool.not_eq_true] at hn
    unfold parseE at h
    rw [hn] at h
    simp at h
  have hV : parseV l = fitV (if negL l then -(parseN l) else parseN l) := by unfold parseV; rw [hok]; rfl
  have hE : fitE (if negL l then -(parseN l) else parseN l) = 0 := by
    unfold parseE at h; rw [hok] at h; exact h
  have hx : vldB (if negL l then -(parseN l) else parseN l) = true := by
    apply Decidable.byContradiction
    intro hn
    rw [Bool.not_eq_true] at hn
    unfold fitE at hE; rw [hn] at hE; simp at hE
  have hV2 : parseV l = if negL l then -(parseN l) else parseN l := by rw [hV]; unfold fitV; rw [hx]; rfl
  refine ⟨?_, by rw [hV2]; exact hx⟩
  have hb := vld_iff.1 hx
  unfold parseOk at hok
  simp only [Bool.and_eq_true, Bool.not_eq_true'] at hok
  obtain ⟨hok, hz⟩ := hok
  have hd : ∀ c ∈ wholeP (restL l), dg c = true := fun c hc => mem_run dg _ c hc
  have hN : parseN l = valueV (wholeP (restL l)) (fracP (restL l)) := rfl
  obtain ⟨v, hv⟩ : ∃ v, val (wholeP (restL l)) 0 = some v := by
    cases hv : val (wholeP (restL l)) 0 with
    | some v => exact ⟨v, rfl⟩
    | none =>
      have : parseN l = 10000000000001 := by rw [hN]; unfold valueV; rw [hv]
      rw [this] at hb
      split at hb <;> omega
  have hvb := val_bd _ 0 v hd (by omega) (by omega) hv
  obtain ⟨W, f, T, hW⟩ := Txt.back (restL l) hok v hv hvb.2
  have hle : W * 10000 + f ≤ 10000000000000 := by
    apply Decidable.byContradiction
    intro hn
    have : parseN l = 10000000000001 := by
      rw [hN]; unfold valueV; rw [hv]
      simp only
      rw [T.frs]; omega
    rw [this] at hb
    split at hb <;> omega
  have hN2 : parseN l = ((W * 10000 + f : Nat) : Int) := by rw [hN]; exact T.value hle
  have htx : Lib.decDigits W ++ (if f = 0 then [] else 46 :: trimZ (low 4 f)) = restL l := by
    have e : (if f = 0 then [] else 46 :: trimZ (low 4 f)) = (if f = 0 then [] else 46 :: fracP (restL l)) := by
      by_cases h0 : f = 0
      · rw [if_pos h0, if_pos h0]
      · rw [if_neg h0, if_neg h0, T.fra h0]
    rw [T.dec, e]; exact T.tx.symm
  rw [hV2, hN2]
  rw [hN2] at hb
  by_cases hn : negL l = true
  · rw [if_pos hn] at hb ⊢
    rw [fmt_of _ W f hb.1 hb.2 (by omega) T.lt, htx]
    have hne : W * 10000 + f ≠ 0 := by
      intro h0
      have hW0 : W = 0 := by omega
      have hf0 : f = 0 := by omega
      have : restL l = [48] := by
        rw [← htx, hf0, hW0]; rw [Lib.decDigits, dif_pos (by decide)]; rfl
      rw [hn, this] at hz
      simp at hz
    rw [if_pos (by omega)]
    have hr : restL l = l.drop 1 := by unfold restL; rw [if_pos hn]
    rw [hr]
    unfold negL isAt at hn
    have hn := of_decide_eq_true hn
    cases l with
    | nil => cases hn
    | cons c r =>
      simp only [List.getElem?_cons_zero, Option.some.injEq] at hn
      subst hn; rfl
  · have hr : restL l = l := by unfold restL; rw [if_neg hn]
    rw [if_neg hn] at hb ⊢
    rw [fmt_of _ W f hb.1 hb.2 (by omega) T.lt, htx, if_neg (by omega), hr]; rfl
structure Back (d : Int) (l : List UInt8) : Prop where
  fm : fmtL d = l
  pv : parseV l = d
  pe : parseE l = 0
  qv : preV l = d
  qn : preN l = l.length
theorem dg_not (c : UInt8) (h : dg c = true) : c ≠ 45 ∧ c ≠ 43 ∧ bl c = false := by
  simp only [dg, Bool.and_eq_true, decide_eq_true_eq] at h
  refine ⟨?_, ?_, ?_⟩
  · rintro rfl; exact absurd h.1 (by decide)
  · rintro rfl; exact absurd h.1 (by decide)
  · unfold bl; simp; omega
theorem run_bl (l : List UInt8) (c : UInt8) (h : l[0]? = some c) (hb : bl c = false) : run bl l = 0 := by
  cases l with
  | nil => rfl
  | cons x r =>
    simp only [List.getElem?_cons_zero, Option.some.injEq] at h
    subst h
    simp only [run]; rw [hb]; rfl
theorem fmt_back (d : Int) (h1 : -10000000000000 ≤ d) (h2 : d ≤ 10000000000000) : ∃ l, Back d l := by
  obtain ⟨W, hW⟩ : ∃ W, d.natAbs / 10000 = W := ⟨_, rfl⟩
  obtain ⟨f, hf⟩ : ∃ f, d.natAbs % 10000 = f := ⟨_, rfl⟩
  have T := Txt.of W f (by omega) (by omega)
  have hF := fmt_of d W f h1 h2 (by omega) (by omega)
  obtain ⟨t, ht⟩ : ∃ t, Lib.decDigits W ++ (if f = 0 then [] else 46 :: trimZ (low 4 f)) = t := ⟨_, rfl⟩
  rw [ht] at T hF
  obtain ⟨c, hc, hcd⟩ := T.head_dg
  obtain ⟨c1, c2, c3⟩ := dg_not c hcd
  obtain ⟨a, ha⟩ : ∃ a, Lib.decDigits W = a := ⟨_, rfl⟩
  obtain ⟨g, hg⟩ : ∃ g, trimZ (low 4 f) = g := ⟨_, rfl⟩
  rw [ha, hg] at T
  have hv := T.value (by omega)
  obtain ⟨N, hN⟩ : ∃ N, W * 10000 + f = N := ⟨_, rfl⟩
  rw [hN] at hv
  have hapos : 0 < a.length := List.length_pos_iff.2 T.neA
  obtain ⟨p, hp⟩ : ∃ p, (if d < 0 then [(45 : UInt8)] else []) = p := ⟨_, rfl⟩
  have hsg : (p = [45] ∧ d = -(N : Int) ∧ 0 < N) ∨ (p = [] ∧ d = (N : Int)) := by
    by_cases hn : d < 0
    · left; rw [if_pos hn] at hp; exact ⟨hp.symm, by omega, by omega⟩
    · right; rw [if_neg hn] at hp; exact ⟨hp.symm, by omega⟩
  rw [hp] at hF
  have hneg : negL (p ++ t) = decide (p = [45]) := by
    rcases hsg with ⟨rfl, _⟩ | ⟨rfl, _⟩
    · rfl
    · unfold negL isAt; rw [List.nil_append, hc]; simp [c1]
  have hrest : restL (p ++ t) = t := by
    unfold restL; rw [hneg]
    rcases hsg with ⟨rfl, _⟩ | ⟨rfl, _⟩
    · rfl
    · simp
  have hpok : parseOk (p ++ t) = true := by
    unfold parseOk
    rw [hneg, hrest, T.ok]
    rcases hsg with ⟨rfl, _, h0⟩ | ⟨rfl, _⟩
    · have : t ≠ [48] := by intro e; obtain ⟨x, y⟩ := T.zero e; omega
      simp [this]
    · simp
  have hpn : parseN (p ++ t) = (N : Int) := by unfold parseN; rw [hrest]; exact hv
  have hsel : (if negL (p ++ t) = true then -(parseN (p ++ t)) else parseN (p ++ t)) = d := by
    rw [hneg, hpn]
    rcases hsg with ⟨rfl, h, _⟩ | ⟨rfl, h⟩
    · simp [h]
    · simp [h]
  have hfit := fit_yes d h1 h2
  have hbl : run bl (p ++ t) = 0 := by
    rcases hsg with ⟨rfl, _⟩ | ⟨rfl, _⟩
    · rfl
    · exact run_bl _ c hc c3
  have hpp : preP (p ++ t) = p.length := by
    unfold preP; rw [hbl]
    rcases hsg with ⟨rfl, _⟩ | ⟨rfl, _⟩
    · rfl
    · unfold isAt; rw [List.nil_append, hc]; simp [c1, c2]
  have hpg : preNeg (p ++ t) = decide (p = [45]) := by unfold preNeg; rw [hbl]; exact hneg
  have hpm : preM (p ++ t) = a.length := by
    unfold preM; rw [hpp, List.drop_left]; exact T.runs
  have hk0 : (p ++ t).drop (preP (p ++ t) + preM (p ++ t) + 1) = fracP t := by
    rw [hpp, hpm, Nat.add_assoc, ← List.drop_drop, List.drop_left]
    unfold fracP; rw [T.runs]
  have hfd : ∀ x ∈ fracP t, dg x = true := by
    by_cases h0 : f = 0
    · rw [T.frac0 h0]; intro x hx; cases hx
    · rw [T.frac1 h0, ← T.fra h0]; exact (frac_ok f T.lt h0).2.2
  have hpk : preK (p ++ t) = (fracP t).length := by
    unfold preK; rw [hk0]; exact run_all_dg _ hfd
  have hat : isAt (p ++ t) (p.length + a.length) 46 = !(decide (f = 0)) := by
    unfold isAt
    rw [List.getElem?_append_right (by omega), show p.length + a.length - p.length = a.length from by omega, T.tx]
    by_cases h0 : f = 0
    · rw [if_pos h0, List.append_nil, List.getElem?_eq_none (Nat.le_refl _)]; simp [h0]
    · rw [if_neg h0]; simp [h0]
  have hpu : preU (p ++ t) = !(decide (f = 0)) := by
    unfold preU; rw [hpp, hpm, hat, decide_eq_true hapos]; simp
  have hpe : preEmpty (p ++ t) = false := by
    unfold preEmpty; rw [hpm, decide_eq_false (by omega)]; rfl
  have hpf : preF (p ++ t) = fracP t := by
    unfold preF; rw [hpu, hpk, hk0, List.take_length]
    by_cases h0 : f = 0
    · rw [T.frac0 h0]; simp
    · simp [h0]
  have hpa : preA (p ++ t) = (N : Int) := by
    unfold preA; rw [hpf, hpm, hpp, List.drop_left]
    have : t.take a.length = wholeP t := by unfold wholeP; rw [T.runs]
    rw [this, hv]; omega
  refine ⟨p ++ t, hF, ?_, ?_, ?_, ?_⟩
  · unfold parseV; rw [hpok, if_pos rfl, hsel]; exact hfit.1
  · unfold parseE; rw [hpok, if_pos rfl, hsel]; exact hfit.2
  · unfold preV; rw [hpe, hpg, hpa]
    rcases hsg with ⟨rfl, h, _⟩ | ⟨rfl, h⟩
    · simp [h]
    · simp [h]
  · unfold preN; rw [hpe, hpu, hpp, hpm, hpk]
    by_cases h0 : f = 0
    · rw [T.frac0 h0, T.tx, if_pos h0]; simp [h0]
    · rw [T.frac1 h0, T.tx, if_neg h0]; simp [h0]; omega
end Byt
