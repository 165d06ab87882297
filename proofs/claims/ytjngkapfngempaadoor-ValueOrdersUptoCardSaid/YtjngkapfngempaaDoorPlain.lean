/- plain model of decimal numbers -/
namespace Dcm
def vldB (d : Int) : Bool := decide (-10000000000000 ≤ d) && decide (d ≤ 10000000000000)
theorem vld_iff {d : Int} : vldB d = true ↔ -10000000000000 ≤ d ∧ d ≤ 10000000000000 := by simp [vldB]
theorem vld_not {d : Int} : vldB d = false ↔ ¬ (-10000000000000 ≤ d ∧ d ≤ 10000000000000) := by rw [← vld_iff]; simp
def near (d : Int) : Int := max (-10000000000000) (min 10000000000000 d)
theorem near_lo (d : Int) : -10000000000000 ≤ near d := by unfold near; omega
theorem near_hi (d : Int) : near d ≤ 10000000000000 := by unfold near; omega
theorem near_eq1 (d : Int) (h : d ≤ -10000000000000) : near d = -10000000000000 := by unfold near; omega
theorem near_eq2 (d : Int) (h : 10000000000000 ≤ d) : near d = 10000000000000 := by unfold near; omega
theorem near_eq3 (d : Int) (h : -10000000000000 ≤ d) (h' : d ≤ 10000000000000) : near d = d := by unfold near; omega
/-- the size of a number -/
def sz (d : Int) : Int := max d (-d)
theorem sz_pos (d : Int) (h : 0 ≤ d) : sz d = d := by unfold sz; omega
theorem sz_neg (d : Int) (h : d ≤ 0) : sz d = -d := by unfold sz; omega
theorem sz_le (d : Int) (h : -10000000000000 ≤ d) (h' : d ≤ 10000000000000) : 0 ≤ sz d ∧ sz d ≤ 10000000000000 := by unfold sz; omega
def fitV (d : Int) : Int := if vldB d then d else 0
def fitE (d : Int) : Int := if vldB d then 0 else 9
def bothB (a b : Int) : Bool := vldB a && vldB b
theorem both_iff {a b : Int} : bothB a b = true ↔ (-10000000000000 ≤ a ∧ a ≤ 10000000000000) ∧ (-10000000000000 ≤ b ∧ b ≤ 10000000000000) := by simp [bothB, vld_iff]
def addV (a b : Int) : Int := if bothB a b then fitV (a + b) else 0
def addE (a b : Int) : Int := if bothB a b then fitE (a + b) else 2
def subV (a b : Int) : Int := if bothB a b then fitV (a - b) else 0
def subE (a b : Int) : Int := if bothB a b then fitE (a - b) else 2
def mulV (a b : Int) : Int := if bothB a b then fitV ((a * b).tdiv 10000) else 0
def mulE (a b : Int) : Int := if bothB a b then fitE ((a * b).tdiv 10000) else 2
def divV (a b : Int) : Int := if bothB a b then (if b = 0 then 0 else fitV ((a * 10000).tdiv b)) else 0
def divE (a b : Int) : Int := if bothB a b then (if b = 0 then 10 else fitE ((a * 10000).tdiv b)) else 2
def modV (a b : Int) : Int := if bothB a b then (if b = 0 then 0 else a.tmod b) else 0
def modE (a b : Int) : Int := if bothB a b then (if b = 0 then 10 else 0) else 2
def ofIntV (n : Int) : Int := if -1000000000 ≤ n ∧ n ≤ 1000000000 then n * 10000 else 0
def ofIntE (n : Int) : Int := if -1000000000 ≤ n ∧ n ≤ 1000000000 then 0 else 9
def toInt (d : Int) : Int := (near d).tdiv 10000
theorem tdiv_bd (x b m : Int) (h1 : -m ≤ x) (h2 : x ≤ m) : -m ≤ x.tdiv b ∧ x.tdiv b ≤ m := by
  have h : (x.tdiv b).natAbs ≤ x.natAbs := by rw [Int.natAbs_tdiv]; exact Nat.div_le_self _ _
  omega
theorem tmod_bd (x b m : Int) (h1 : -m ≤ x) (h2 : x ≤ m) : -m ≤ x.tmod b ∧ x.tmod b ≤ m := by
  have h : (x.tmod b).natAbs ≤ x.natAbs := by rw [Int.natAbs_tmod]; exact Nat.mod_le _ _
  omega
theorem tdiv_mul (x b : Int) : x.tdiv b * b = x - x.tmod b := by
  have := Int.mul_tdiv_add_tmod x b
  rw [Int.mul_comm] at this; omega
/-- the product of two sizes, and the signs -/
theorem prod_abs (a b : Int) : (a * b).natAbs = a.natAbs * b.natAbs := Int.natAbs_mul a b
theorem tdiv_pos (c : Int) (N : Nat) (h : c.natAbs = N) (hc : 0 ≤ c) : c.tdiv 10000 = ((N / 10000 : Nat) : Int) := by
  have e : c = (N : Int) := by omega
  rw [e, Int.tdiv_eq_ediv_of_nonneg (by omega)]; omega
theorem tdiv_neg (c : Int) (N : Nat) (h : c.natAbs = N) (hc : c ≤ 0) : c.tdiv 10000 = -((N / 10000 : Nat) : Int) := by
  have e : c = -(N : Int) := by omega
  rw [e, Int.neg_tdiv, Int.tdiv_eq_ediv_of_nonneg (by omega)]; omega
theorem sz_natAbs (d : Int) : sz d = (d.natAbs : Int) := by unfold sz; omega
theorem fit_big (c : Int) (N : Nat) (h : c.natAbs = N) (hN : 10000000000000 < N / 10000) : vldB (c.tdiv 10000) = false := by
  rw [vld_not]
  rcases Int.le_total 0 c with hc | hc
  · rw [tdiv_pos c N h hc]; omega
  · rw [tdiv_neg c N h hc]; omega
theorem fit_in (c : Int) (N : Nat) (h : c.natAbs = N) (hN : N / 10000 ≤ 10000000000000) : vldB (c.tdiv 10000) = true := by
  rw [vld_iff]
  rcases Int.le_total 0 c with hc | hc
  · rw [tdiv_pos c N h hc]; omega
  · rw [tdiv_neg c N h hc]; omega
theorem mul_nonneg' (a b : Int) (h : (a < 0 ∧ b < 0) ∨ (0 ≤ a ∧ 0 ≤ b)) : 0 ≤ a * b := by
  rcases h with ⟨h1, h2⟩ | ⟨h1, h2⟩
  · exact Int.le_of_lt (Int.mul_pos_of_neg_of_neg h1 h2)
  · exact Int.mul_nonneg h1 h2
theorem mul_nonpos' (a b : Int) (h : (a < 0 ∧ 0 ≤ b) ∨ (0 ≤ a ∧ b < 0)) : a * b ≤ 0 := by
  rcases h with ⟨h1, h2⟩ | ⟨h1, h2⟩
  · exact Int.mul_nonpos_of_nonpos_of_nonneg (Int.le_of_lt h1) h2
  · exact Int.mul_nonpos_of_nonneg_of_nonpos h1 (Int.le_of_lt h2)
/-- the reference's test: is the product too great? -/
theorem sz_mul_le (a b : Int) (h0 : a ≠ 0) (h : sz b ≤ 100000000000009999 / sz a) : -100000000000009999 ≤ a * b ∧ a * b ≤ 100000000000009999 := by
  have h1 : (0 : Int) < sz a := by unfold sz; omega
  have h2 : sz b * sz a ≤ 100000000000009999 := (Int.le_ediv_iff_mul_le h1).1 h
  have h3 : sz b * sz a = ((a * b).natAbs : Int) := by rw [sz_natAbs, sz_natAbs, Int.natAbs_mul, Int.natCast_mul, Int.mul_comm]
  omega
theorem sz_mul_gt (a b : Int) (h0 : a ≠ 0) (h : 100000000000009999 / sz a < sz b) : vldB ((a * b).tdiv 10000) = false := by
  have h1 : (0 : Int) < sz a := by unfold sz; omega
  have h2 : 100000000000009999 < sz b * sz a := Int.not_le.1 (fun h' => absurd ((Int.le_ediv_iff_mul_le h1).2 h') (Int.not_le.2 h))
  have h3 : sz b * sz a = ((a * b).natAbs : Int) := by rw [sz_natAbs, sz_natAbs, Int.natAbs_mul, Int.natCast_mul, Int.mul_comm]
  exact fit_big (a * b) _ rfl (by omega)
theorem sz_gt (a : Int) (h : a ≠ 0) : 0 < sz a := by unfold sz; omega
end Dcm
