/- plain: names, classes, collating elements of a locale -/
import Derived.WalkKit
import Derived.Lib.Hide
namespace Go.Proofs.YtbhdhcnbagjmcaaDoor
namespace Lcl
def lt (c : UInt8) : Bool := c == 95 || (97 ≤ c && c ≤ 122) || (65 ≤ c && c ≤ 90)
def dgt (c : UInt8) : Bool := 48 ≤ c && c ≤ 57
/-- the beginning of a name -/
def pre : List UInt8 → Bool
  | [] => true
  | c :: r => lt c && r.all (fun c => lt c || dgt c)
def nameB (l : List UInt8) : Bool := !l.isEmpty && pre l && decide (l.length ≤ 32)
theorem pre_snoc (l : List UInt8) (c : UInt8) : pre (l ++ [c]) = (pre l && (lt c || (!l.isEmpty && dgt c))) := by
  cases l with
  | nil => simp [pre]
  | cons a r => simp [pre, List.all_append, Bool.and_assoc]
theorem pre_take (l : List UInt8) (k : Nat) (h : pre l = true) : pre (l.take k) = true := by
  cases l with
  | nil => simp [pre]
  | cons a r =>
    cases k with
    | zero => rfl
    | succ k =>
      simp only [List.take_succ_cons, pre, Bool.and_eq_true, List.all_eq_true] at h ⊢
      exact ⟨h.1, fun x hx => h.2 x (List.mem_of_mem_take hx)⟩
/-- the kinds of bytes, as the tests part them -/
theorem kinds (c : UInt8) : (c.toNat = 95) ∨ (97 ≤ c.toNat ∧ c.toNat ≤ 122) ∨ (65 ≤ c.toNat ∧ c.toNat ≤ 90) ∨ (48 ≤ c.toNat ∧ c.toNat ≤ 57) ∨ (c.toNat < 48) ∨ (57 < c.toNat ∧ c.toNat < 65) ∨ (90 < c.toNat ∧ c.toNat < 97 ∧ c.toNat ≠ 95) ∨ (122 < c.toNat) := by omega
theorem lt_iff (c : UInt8) : lt c = true ↔ c.toNat = 95 ∨ (97 ≤ c.toNat ∧ c.toNat ≤ 122) ∨ (65 ≤ c.toNat ∧ c.toNat ≤ 90) := by
  unfold lt
  simp only [Bool.or_eq_true, Bool.and_eq_true, beq_iff_eq, decide_eq_true_eq, UInt8.le_iff_toNat_le, ← UInt8.toNat_inj]
  simp only [or_assoc]
  exact Iff.rfl
theorem dgt_iff (c : UInt8) : dgt c = true ↔ 48 ≤ c.toNat ∧ c.toNat ≤ 57 := by
  unfold dgt
  simp only [Bool.and_eq_true, decide_eq_true_eq, UInt8.le_iff_toNat_le]
  exact Iff.rfl
theorem lt_no {c : UInt8} (h : ¬ (c.toNat = 95 ∨ (97 ≤ c.toNat ∧ c.toNat ≤ 122) ∨ (65 ≤ c.toNat ∧ c.toNat ≤ 90))) : lt c = false := by
  cases e : lt c with
  | false => rfl
  | true => exact absurd ((lt_iff c).1 e) h
theorem dgt_no {c : UInt8} (h : ¬ (48 ≤ c.toNat ∧ c.toNat ≤ 57)) : dgt c = false := by
  cases e : dgt c with
  | false => rfl
  | true => exact absurd ((dgt_iff c).1 e) h
/-- the names of classes, given those that have been seen -/
def clsB (seen : List (List UInt8)) : List ByteArray → Bool
  | [] => true
  | c :: r => nameB c.data.toList && !decide (c.data.toList ∈ seen) && clsB (seen ++ [c.data.toList]) r
/-- the collating elements -/
def elB (x : ByteArray × Int) : Bool := decide (x.1.size = 2) && (decide (0 ≤ x.2) && decide (x.2 ≤ 65535))
def elsB (seen : List (List UInt8)) : List (ByteArray × Int) → Bool
  | [] => true
  | x :: r => elB x && !decide (x.1.data.toList ∈ seen) && elsB (seen ++ [x.1.data.toList]) r
def wsB (W : List Int) : Bool := W.all (fun n => decide (0 ≤ n) && decide (n ≤ 65535))
/-- a locale: its name, the weights, the two tables, the names of the classes, the elements -/
structure L where
  n : ByteArray
  W : List Int
  lo : ByteArray
  up : ByteArray
  C : List ByteArray
  E : List (ByteArray × Int)
def okB (l : L) : Bool := nameB l.n.data.toList && decide (l.W.length = 256) && decide (l.lo.size = 256) && decide (l.up.size = 256) && wsB l.W && (decide (l.C.length ≤ 24) && clsB [] l.C) && (decide (l.E.length ≤ 64) && elsB [] l.E)
end Lcl
end Go.Proofs.YtbhdhcnbagjmcaaDoor
