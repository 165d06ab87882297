/- plain: positions in a text -/
import Derived.Lib.IndexBytes
import Derived.Lib.LastIndexByte
import Derived.Lib.Bytealg
namespace Tx
open Go
def pLine (l : List UInt8) : Int := 1 + ((l.count 10 : Nat) : Int)
def pCol : List UInt8 → Int → Int
  | [], c => c
  | x :: r, c => if x = 10 then pCol r 1 else pCol r (c + 1)
theorem pCol_app : ∀ (l : List UInt8) (x : UInt8) (c : Int), pCol (l ++ [x]) c = if x = 10 then 1 else pCol l c + 1 := by
  intro l
  induction l with
  | nil => intro x c; rfl
  | cons y r ih =>
    intro x c
    simp only [List.cons_append, pCol]
    split
    · exact ih x 1
    · exact ih x (c + 1)
theorem size_len (s : ByteArray) : s.size = s.data.toList.length := Lib.size_eq s
theorem take_snoc (s : ByteArray) (k : Nat) (h : k < s.size) : s.data.toList.take (k + 1) = s.data.toList.take k ++ [s[k]] := by
  rw [List.take_succ_eq_append_getElem (by rw [← size_len]; exact h)]; rfl
theorem is_nl (c : UInt8) : (c = 10) ↔ ((c.toNat : Int) = 10) := by
  constructor
  · rintro rfl; rfl
  · intro h; apply UInt8.toNat_inj.1
    have e : (10 : UInt8).toNat = 10 := rfl
    omega
theorem data_get (s : ByteArray) (k : Nat) (h : k < s.size) : s.data[k]! = s[k] := by
  have h' : k < s.data.size := h
  rw [getElem!_pos s.data k h']; rfl
theorem idx_succ (s : ByteArray) (c : Int) (k : Nat) : Lib.lastIdx s c (k + 1) = if ((s.data[k]!).toNat : Int) = c then (k : Int) else Lib.lastIdx s c k := rfl
theorem last_col (s : ByteArray) : ∀ k : Nat, k ≤ s.size → (k : Int) - Lib.lastIdx s 10 k = pCol (s.data.toList.take k) 1 := by
  intro k
  induction k with
  | zero => intro _; rfl
  | succ k ih =>
    intro h
    rw [take_snoc s k (by omega), pCol_app, ← ih (by omega)]
    rw [idx_succ, data_get s k (by omega)]
    by_cases hc : s[k] = 10
    · rw [if_pos hc, if_pos ((is_nl _).1 hc)]; omega
    · rw [if_neg hc, if_neg (fun e => hc ((is_nl _).2 e))]
      omega
theorem col_of (s : ByteArray) : (s.size : Int) - Lib.lastIndexByte s 10 = pCol s.data.toList 1 := by
  have := last_col s s.size (Nat.le_refl _)
  rw [size_len, List.take_length, ← size_len] at this
  exact this
theorem count_snoc (s : ByteArray) (k : Nat) (h : k < s.size) : (s.data.toList.take (k + 1)).count 10 = (s.data.toList.take k).count 10 + (if s[k] = 10 then 1 else 0) := by
  rw [take_snoc s k h, List.count_append]
  congr 1
  by_cases hc : s[k] = 10
  · rw [if_pos hc, hc]; rfl
  · rw [if_neg hc]; simp [hc]
/-- an offset brought into a text of n bytes -/
def clamp (at_ : Int) (n : Nat) : Nat := (min (max at_ 0) n).toNat
theorem clamp_le (a : Int) (n : Nat) : clamp a n ≤ n := by unfold clamp; omega
theorem clamp_lo (a : Int) (n : Nat) (h : a ≤ 0) : clamp a n = 0 := by unfold clamp; omega
theorem clamp_hi (a : Int) (n : Nat) (h : (n : Int) ≤ a) : clamp a n = n := by unfold clamp; omega
theorem clamp_in (a n : Nat) (h : a ≤ n) : clamp a n = a := by unfold clamp; omega
def lineAt (s : ByteArray) (a : Int) : Int := pLine (s.data.toList.take (clamp a s.size))
def colAt (s : ByteArray) (a : Int) : Int := pCol (s.data.toList.take (clamp a s.size)) 1
theorem pCol_bd : ∀ (l : List UInt8) (c : Int), 1 ≤ c → 1 ≤ pCol l c ∧ pCol l c ≤ c + l.length := by
  intro l
  induction l with
  | nil => intro c h; simp only [pCol, List.length_nil]; omega
  | cons x r ih =>
    intro c h
    simp only [pCol, List.length_cons]
    split
    · have := ih 1 (by omega); omega
    · have := ih (c + 1) (by omega); omega
end Tx
