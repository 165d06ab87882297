/- plain values of the pattern language -/
import Derived.Test.YtjngkapfngempaaDoorByt8
namespace Vl
open Go Dcm Byt
/-- the number of a value of kind k, number n, text l -/
def numV (k n : Int) (l : List UInt8) : Int := if k = 2 then preV l else if k = 1 ∨ k = 3 then near n else 0
def textB (k n : Int) (s : ByteArray) : ByteArray := if k = 1 then ⟨(fmtL (near n)).toArray⟩ else if k = 2 ∨ k = 3 then s else ⟨#[]⟩
def truthV (k n : Int) (s : ByteArray) : Bool := if k = 2 then !(decide (s.size = 0)) else if k = 1 ∨ k = 3 then !(decide (n = 0)) else false
def blanksL (l : List UInt8) : Bool := l.all bl
def inB (l : List UInt8) : Bool := decide (0 < preN l) && blanksL (l.drop (preN l))
theorem near_near (d : Int) : near (near d) = near d := near_eq3 _ (near_lo d) (near_hi d)
theorem near_zero (d : Int) : near d = 0 ↔ d = 0 := by unfold near; omega
theorem num_2 (n : Int) (l : List UInt8) : numV 2 n l = preV l := rfl
theorem num_1 (n : Int) (l : List UInt8) : numV 1 n l = near n := rfl
theorem num_3 (n : Int) (l : List UInt8) : numV 3 n l = near n := rfl
theorem num_0 (k n : Int) (l : List UInt8) (h1 : k ≠ 1) (h2 : k ≠ 2) (h3 : k ≠ 3) : numV k n l = 0 := by
  unfold numV; rw [if_neg h2, if_neg (by omega)]
theorem preA_bd (l : List UInt8) (h : 0 ≤ preA l) : -10000000000000 ≤ preV l ∧ preV l ≤ 10000000000000 := by
  have : preA l ≤ 10000000000000 := by unfold preA; omega
  unfold preV; split <;> (try split) <;> omega
theorem valueV_pos (a f : List UInt8) (ha : ∀ c ∈ a, dg c = true) (hf : ∀ c ∈ f, dg c = true) : 0 ≤ valueV a f := by
  unfold valueV
  cases h : val a 0 with
  | none => simp
  | some v =>
    have := val_bd a 0 v ha (by omega) (by omega) h
    have := fr4_bd f hf
    simp only; omega
theorem pre_bd (l : List UInt8) : -10000000000000 ≤ preV l ∧ preV l ≤ 10000000000000 := by
  apply preA_bd
  have h1 : ∀ c ∈ (l.drop (preP l)).take (preM l), dg c = true := fun c hc => mem_run dg _ c hc
  have h2 : ∀ c ∈ preF l, dg c = true := by
    intro c hc
    unfold preF at hc
    split at hc
    · exact mem_run dg _ c hc
    · cases hc
  have := valueV_pos _ _ h1 h2
  unfold preA; omega
theorem num_bd (k n : Int) (l : List UInt8) : -10000000000000 ≤ numV k n l ∧ numV k n l ≤ 10000000000000 := by
  have h1 := near_lo n
  have h2 := near_hi n
  have h3 := pre_bd l
  unfold numV; split
  · exact h3
  · split <;> omega
theorem num_near (k n : Int) (l : List UInt8) : near (numV k n l) = numV k n l := near_eq3 _ (num_bd k n l).1 (num_bd k n l).2
theorem preN_le (l : List UInt8) : preN l ≤ l.length := by
  have a1 : run bl l ≤ l.length := run_le bl l
  have hP : preP l ≤ l.length := by
    unfold preP
    split
    · rename_i h
      have : run bl l < l.length := by
        apply Nat.lt_of_not_le
        intro hn
        have e : ∀ c, isAt l (run bl l) c = false := fun c => by
          unfold isAt; rw [List.getElem?_eq_none hn]; rfl
        rw [e, e] at h; cases h
      omega
    · exact a1
  have hM : preP l + preM l ≤ l.length := by
    unfold preM
    have := run_le dg (l.drop (preP l))
    rw [List.length_drop] at this; omega
  unfold preN
  split
  · omega
  · split
    · rename_i h
      unfold preU at h
      rw [Bool.and_eq_true] at h
      have h := h.1
      have hlt : preP l + preM l < l.length := by
        apply Nat.lt_of_not_le
        intro hn
        unfold isAt at h
        rw [List.getElem?_eq_none hn] at h; cases h
      have hk := run_le dg (l.drop (preP l + preM l + 1))
      rw [List.length_drop] at hk
      have : preK l ≤ l.length - (preP l + preM l + 1) := hk
      omega
    · exact hM
end Vl
