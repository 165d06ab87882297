/- plain: escape sequences -/
import Derived.Test.YtbioflajonafdaaTplain
namespace Tx
open Go
def oct (c : UInt8) : Bool := decide (48 ≤ c.toNat) && decide (c.toNat ≤ 55)
/-- at most so many octal digits: their value, their number -/
def octGo : Nat → List UInt8 → Nat → Nat → Nat × Nat
  | 0, _, v, n => (v, n)
  | _ + 1, [], v, n => (v, n)
  | k + 1, c :: r, v, n => if oct c then octGo k r (8 * v + (c.toNat - 48)) (n + 1) else (v, n)
def lettersL : List UInt8 := [110, 116, 114, 97, 98, 102, 118]
def letB (c : UInt8) : UInt8 := if c = 110 then 10 else if c = 116 then 9 else if c = 114 then 13 else if c = 97 then 7 else if c = 98 then 8 else if c = 102 then 12 else if c = 118 then 11 else 0
def isSelf (c : UInt8) : Bool := decide (c = 92) || decide (c = 34) || decide (c = 47)
/-- the escape sequence at the beginning of a list, behind its backslash: its byte (a number below 256 where it is one), its length, whether there is one -/
def seqV : List UInt8 → Nat
  | [] => 0
  | c :: r => if letB c ≠ 0 then (letB c).toNat else if isSelf c then c.toNat else (octGo 3 (c :: r) 0 0).1 % 256
def seqN : List UInt8 → Nat
  | [] => 0
  | c :: r => if letB c ≠ 0 then 1 else if isSelf c then 1 else (octGo 3 (c :: r) 0 0).2
def seqO : List UInt8 → Bool
  | [] => false
  | c :: r => if letB c ≠ 0 then true else if isSelf c then true else decide (0 < (octGo 3 (c :: r) 0 0).2) && decide ((octGo 3 (c :: r) 0 0).1 < 256)
theorem octGo_bd : ∀ (k : Nat) (l : List UInt8) (v n : Nat), n ≤ (octGo k l v n).2 ∧ (octGo k l v n).2 ≤ n + k ∧ (octGo k l v n).2 ≤ n + l.length ∧ (octGo k l v n).1 < (v + 1) * 8 ^ k := by
  intro k
  induction k with
  | zero => intro l v n; simp only [octGo]; omega
  | succ k ih =>
    intro l v n
    have hp : 0 < 8 ^ k := Nat.pow_pos (by decide)
    have hm : (v + 1) * 8 ^ (k + 1) = 8 * ((v + 1) * 8 ^ k) := by rw [Nat.pow_succ, ← Nat.mul_assoc, Nat.mul_comm]
    cases l with
    | nil =>
      simp only [octGo, List.length_nil]
      have : v + 1 ≤ (v + 1) * 8 ^ k := Nat.le_mul_of_pos_right _ hp
      omega
    | cons c r =>
      simp only [octGo, List.length_cons]
      split
      · rename_i hc
        obtain ⟨h1, h2, h3, h4⟩ := ih r (8 * v + (c.toNat - 48)) (n + 1)
        have hd : c.toNat - 48 ≤ 7 := by simp [oct] at hc; omega
        have : (8 * v + (c.toNat - 48) + 1) * 8 ^ k ≤ (8 * (v + 1)) * 8 ^ k := Nat.mul_le_mul_right _ (by omega)
        rw [Nat.mul_assoc] at this
        omega
      · have : v + 1 ≤ (v + 1) * 8 ^ k := Nat.le_mul_of_pos_right _ hp
        omega
theorem seqN_bd (l : List UInt8) : seqN l ≤ l.length ∧ seqN l ≤ 3 := by
  cases l with
  | nil => simp [seqN]
  | cons c r =>
    have := octGo_bd 3 (c :: r) 0 0
    simp only [seqN]
    split
    · simp
    · split
      · simp
      · simp only [Nat.zero_add] at this; omega
theorem seqO_pos (l : List UInt8) (h : seqO l = true) : 0 < seqN l := by
  cases l with
  | nil => cases h
  | cons c r =>
    simp only [seqO] at h
    simp only [seqN]
    split
    · omega
    · split
      · omega
      · rename_i h1 h2
        rw [if_neg h1, if_neg h2] at h
        simp at h; omega
/-- what a text describes: its bytes, or the offset of the first backslash that is not valid -/
def une : Nat → List UInt8 → Nat → Except Nat (List UInt8)
  | 0, _, _ => .ok []
  | _ + 1, [], _ => .ok []
  | f + 1, c :: r, i =>
    if c = 92 then
      (if seqO r then
        (match une f (r.drop (seqN r)) (i + 1 + seqN r) with
          | .ok l => .ok (UInt8.ofNat (seqV r) :: l)
          | .error k => .error k)
      else .error i)
    else
      (match une f r (i + 1) with
        | .ok l => .ok (c :: l)
        | .error k => .error k)
def unesc (l : List UInt8) : Except Nat (List UInt8) := une l.length l 0
theorem une_more : ∀ (f g : Nat) (l : List UInt8) (i : Nat), l.length ≤ f → l.length ≤ g → une f l i = une g l i := by
  intro f
  induction f with
  | zero =>
    intro g l i h _
    have : l = [] := List.eq_nil_of_length_eq_zero (by omega)
    subst this
    cases g <;> rfl
  | succ f ih =>
    intro g l i h h'
    cases l with
    | nil => cases g <;> rfl
    | cons c r =>
      cases g with
      | zero => simp at h'
      | succ g =>
        simp only [List.length_cons] at h h'
        simp only [une]
        rw [ih g r (i + 1) (by omega) (by omega), ih g (r.drop (seqN r)) (i + 1 + seqN r) (by rw [List.length_drop]; omega) (by rw [List.length_drop]; omega)]
theorem une_bs (s : List UInt8) (r : List UInt8) (i : Nat) (_ : s = 92 :: r) (ho : seqO r = true) : une s.length s i = (match une (r.drop (seqN r)).length (r.drop (seqN r)) (i + 1 + seqN r) with | .ok l => .ok (UInt8.ofNat (seqV r) :: l) | .error k => .error k) := by
  subst s
  simp only [List.length_cons, une]
  rw [if_pos trivial, if_pos ho, une_more r.length (r.drop (seqN r)).length _ _ (by rw [List.length_drop]; omega) (Nat.le_refl _)]
theorem une_fail (s : List UInt8) (r : List UInt8) (i : Nat) (_ : s = 92 :: r) (ho : seqO r = false) : une s.length s i = .error i := by
  subst s
  simp only [List.length_cons, une]
  rw [if_pos trivial, ho]; rfl
theorem une_plain (s : List UInt8) (c : UInt8) (r : List UInt8) (i : Nat) (_ : s = c :: r) (hc : c ≠ 92) : une s.length s i = (match une r.length r (i + 1) with | .ok l => .ok (c :: l) | .error k => .error k) := by
  subst s
  simp only [List.length_cons, une]
  rw [if_neg hc]
end Tx
