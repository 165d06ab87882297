/- plain model of powers and rounding -/
import Derived.Test.YtjngkapfngempaaDoorPlain
namespace Dcm
def pwV (a : Int) : Nat → Int → Int
  | 0, p => p
  | k + 1, p => if mulE p a = 0 then pwV a k (mulV p a) else 0
def pwE (a : Int) : Nat → Int → Int
  | 0, _ => 0
  | k + 1, p => if mulE p a = 0 then pwE a k (mulV p a) else mulE p a
structure PInv (a : Int) (N k : Nat) (P : Int) : Prop where
  v : pwV a (N - k) P = pwV a N 10000
  e : pwE a (N - k) P = pwE a N 10000
theorem PInv.start (a : Int) (N : Nat) : PInv a N 0 10000 := ⟨rfl, rfl⟩
theorem PInv.step {a : Int} {N k : Nat} {P : Int} (h : PInv a N k P) (hk : k < N) (he : mulE P a = 0) : PInv a N (k + 1) (mulV P a) := by
  have e : N - k = (N - (k + 1)) + 1 := by omega
  obtain ⟨h1, h2⟩ := h
  rw [e] at h1 h2
  simp only [pwV, pwE, he, if_true] at h1 h2
  exact ⟨h1, h2⟩
theorem PInv.stop {a : Int} {N k : Nat} {P : Int} (h : PInv a N k P) (hk : k < N) (he : ¬ mulE P a = 0) : pwV a N 10000 = 0 ∧ pwE a N 10000 = mulE P a := by
  have e : N - k = (N - (k + 1)) + 1 := by omega
  obtain ⟨h1, h2⟩ := h
  rw [e] at h1 h2
  simp only [pwV, pwE, he, if_false] at h1 h2
  exact ⟨h1.symm, h2.symm⟩
theorem PInv.done {a : Int} {N : Nat} {P : Int} (h : PInv a N N P) : pwV a N 10000 = P ∧ pwE a N 10000 = 0 := by
  obtain ⟨h1, h2⟩ := h
  simp only [Nat.sub_self, pwV, pwE] at h1 h2
  exact ⟨h1.symm, h2.symm⟩
def powOk (a n : Int) : Bool := vldB a && decide (-64 ≤ n) && decide (n ≤ 64)
def powV (a n : Int) : Int :=
  if powOk a n then (if 0 ≤ n then pwV a n.toNat 10000 else if pwE a (-n).toNat 10000 = 0 then divV 10000 (pwV a (-n).toNat 10000) else 0) else 0
def powE (a n : Int) : Int :=
  if powOk a n then (if 0 ≤ n then pwE a n.toNat 10000 else if pwE a (-n).toNat 10000 = 0 then divE 10000 (pwV a (-n).toNat 10000) else pwE a (-n).toNat 10000) else 2
theorem pow_no (a n : Int) (h : powOk a n = false) : powV a n = 0 ∧ powE a n = 2 := by simp [powV, powE, h]
theorem pow_pos (a : Int) (N : Nat) (h : vldB a = true) (hN : N ≤ 64) : powV a N = pwV a N 10000 ∧ powE a N = pwE a N 10000 := by
  have : powOk a N = true := by simp [powOk, h]; omega
  simp [powV, powE, this]
theorem pow_neg_ok (a : Int) (N : Nat) (h : vldB a = true) (hN : N ≤ 64) (h0 : 0 < N) (he : pwE a N 10000 = 0) : powV a (-(N : Int)) = divV 10000 (pwV a N 10000) ∧ powE a (-(N : Int)) = divE 10000 (pwV a N 10000) := by
  have : powOk a (-(N : Int)) = true := by simp [powOk, h]; omega
  have h' : N ≠ 0 := by omega
  simp [powV, powE, this, he, h']
theorem pow_neg_no (a : Int) (N : Nat) (h : vldB a = true) (hN : N ≤ 64) (h0 : 0 < N) (he : ¬ pwE a N 10000 = 0) : powV a (-(N : Int)) = 0 ∧ powE a (-(N : Int)) = pwE a N 10000 := by
  have : powOk a (-(N : Int)) = true := by simp [powOk, h]; omega
  have h' : N ≠ 0 := by omega
  simp [powV, powE, this, he, h']
/-- the unit of the last digit that is kept -/
def unitI (p : Int) : Int := if p ≤ 0 then 10000 else if p = 1 then 1000 else if p = 2 then 100 else if p = 3 then 10 else 1
def roundD (d p : Int) : Int := if d < 0 then -((-(near d) + (unitI p) / 2) / (unitI p) * (unitI p)) else (near d + (unitI p) / 2) / (unitI p) * (unitI p)
theorem near_neg (d : Int) : near d < 0 ↔ d < 0 := by unfold near; omega
end Dcm
