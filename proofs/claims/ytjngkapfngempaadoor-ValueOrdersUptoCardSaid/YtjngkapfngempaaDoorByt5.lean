/- decimal digits -/
import Derived.Test.YtjngkapfngempaaDoorByt4
import Derived.Lib.ItoaNum
namespace Byt
open Go Dcm
def dgt (n : Nat) : UInt8 := UInt8.ofNat (48 + n % 10)
def low : Nat → Nat → List UInt8
  | 0, _ => []
  | i + 1, n => low i (n / 10) ++ [dgt n]
theorem low_cons (i : Nat) : ∀ n, low (i + 1) n = dgt (n / 10 ^ i) :: low i n := by
  induction i with
  | zero => intro n; simp [low]
  | succ i ih =>
    intro n
    have h1 : low (i + 1 + 1) n = low (i + 1) (n / 10) ++ [dgt n] := rfl
    have h2 : low (i + 1) n = low i (n / 10) ++ [dgt n] := rfl
    rw [h1, ih (n / 10), h2, Nat.div_div_eq_div_mul, Nat.pow_succ, Nat.mul_comm 10]
    rfl
theorem low_dec (i : Nat) : ∀ n, 10 ^ i ≤ n → n < 10 ^ (i + 1) → low (i + 1) n = Lib.decDigits n := by
  induction i with
  | zero =>
    intro n h1 h2
    rw [Lib.decDigits, dif_pos (by simpa using h2)]
    have : n % 10 = n := Nat.mod_eq_of_lt (by simpa using h2)
    simp [low, dgt, this]
  | succ i ih =>
    intro n h1 h2
    have h3 : 10 ≤ n := Nat.le_trans (by rw [Nat.pow_succ]; have := Nat.pow_pos (n := i) (show 0 < 10 by decide); omega) h1
    rw [Lib.decDigits, dif_neg (by omega)]
    have h4 := ih (n / 10) (by rw [Nat.le_div_iff_mul_le (by decide)]; rw [Nat.pow_succ] at h1; exact h1) (by rw [Nat.div_lt_iff_lt_mul (by decide)]; rw [Nat.pow_succ] at h2; exact h2)
    rw [← h4]; rfl
theorem low_zero : low 1 0 = Lib.decDigits 0 := by rw [Lib.decDigits, dif_pos (by decide)]; rfl
end Byt
namespace Byt
open Go Dcm
theorem low_length (i : Nat) : ∀ n, (low i n).length = i := by
  induction i with
  | zero => intro n; rfl
  | succ i ih => intro n; simp [low, ih]
/-- how many digits are written -/
structure Cnt (n least K : Nat) : Prop where
  le : least ≤ K
  big : K ≤ 20
  zero : n / 10 ^ K = 0
  more : ∀ k, k < K → k < least ∨ 0 < n / 10 ^ k
theorem Cnt.go {n least K k : Nat} (h : Cnt n least K) (hk : k < K) (hl : ¬ k < least) : 0 < n / 10 ^ k := by
  rcases h.more k hk with h1 | h1
  · exact absurd h1 hl
  · exact h1
theorem div_succ (n k : Nat) : n / 10 ^ k / 10 = n / 10 ^ (k + 1) := by rw [Nat.div_div_eq_div_mul, Nat.pow_succ]
theorem mk_eq (s : ByteArray) (l : List UInt8) (h : s.data.toList = l) : s = ⟨l.toArray⟩ := by
  obtain ⟨⟨x⟩⟩ := s
  simp only at h
  rw [h]
theorem app_list (a b : ByteArray) : (a ++ b).data.toList = a.data.toList ++ b.data.toList := by
  simp [ByteArray.data_append]
end Byt
