/- plain: the nearest place, looked for from near to far; joined lines; context at both ends -/
import Derived.Test.YtnkpigibjicmaaaDoorVplain
namespace Pt
theorem joinedP_cons (x : Ln) (r : List Ln) : joinedP (x :: r) = x.1.data.toList ++ ((if x.2 = true ∧ r = [] then [] else [10]) ++ joinedP r) := by
  cases r with
  | nil => cases h : x.2 <;> simp [joinedP, h]
  | cons y r => simp [joinedP]
/-- is a part there at a place that may be no place? -/
def fitZ (old : List Ln) (low : Nat) (p : List Ln) (t : Int) : Bool := decide (0 ≤ t) && fitB old low p t.toNat
theorem fitB_bd {old : List Ln} {low : Nat} {p : List Ln} {t : Nat} (h : fitB old low p t = true) : low ≤ t ∧ t + p.length ≤ old.length := by
  unfold fitB at h
  simp only [Bool.and_eq_true, decide_eq_true_eq] at h
  exact h.1
theorem fitZ_nat {old : List Ln} {low : Nat} {p : List Ln} (t : Nat) : fitZ old low p (t : Int) = fitB old low p t := by
  unfold fitZ
  rw [decide_eq_true (by omega), Bool.true_and, Int.toNat_natCast]
/-- no place is nearer than f -/
def FarF (old : List Ln) (low : Nat) (p : List Ln) (want f : Int) : Prop := ∀ u : Nat, fitB old low p u = true → f ≤ far u want
theorem FarF.start {old : List Ln} {low : Nat} {p : List Ln} {want f : Int} (h : f ≤ want - (old.length - p.length) ∨ f ≤ low - want ∨ f ≤ 0) : FarF old low p want f := by
  intro u hu
  have := fitB_bd hu
  unfold far
  split <;> omega
theorem FarF.next {old : List Ln} {low : Nat} {p : List Ln} {want f : Int} (h : FarF old low p want f) (h1 : fitZ old low p (want + f) = false) (h2 : fitZ old low p (want - f) = false) : FarF old low p want (f + 1) := by
  intro u hu
  have h0 := h u hu
  rcases Int.lt_or_le f (far u want) with hl | hl
  · omega
  · have e : far u want = f := by omega
    unfold far at e
    split at e
    · have : want - f = (u : Int) := by omega
      rw [this, fitZ_nat, hu] at h2; cases h2
    · have : want + f = (u : Int) := by omega
      rw [this, fitZ_nat, hu] at h1; cases h1
theorem FarF.plus {old : List Ln} {low : Nat} {p : List Ln} {want f : Int} (h : FarF old low p want f) (hf : 0 ≤ f) (h1 : fitZ old low p (want + f) = true) : ∃ t : Nat, (t : Int) = want + f ∧ findP old low want p = some t := by
  unfold fitZ at h1
  rw [Bool.and_eq_true, decide_eq_true_eq] at h1
  refine ⟨(want + f).toNat, by omega, findP_of h1.2 fun u hu => ?_⟩
  have h0 := h u hu
  have e : far ((want + f).toNat : Nat) want = f := by unfold far; split <;> omega
  rcases Int.lt_or_le f (far u want) with hl | hl
  · omega
  · refine .inr ⟨by omega, ?_⟩
    have e2 : far u want = f := by omega
    unfold far at e2
    split at e2 <;> omega
theorem FarF.minus {old : List Ln} {low : Nat} {p : List Ln} {want f : Int} (h : FarF old low p want f) (hf : 0 ≤ f) (h1 : fitZ old low p (want + f) = false) (h2 : fitZ old low p (want - f) = true) : ∃ t : Nat, (t : Int) = want - f ∧ findP old low want p = some t := by
  unfold fitZ at h2
  rw [Bool.and_eq_true, decide_eq_true_eq] at h2
  refine ⟨(want - f).toNat, by omega, findP_of h2.2 fun u hu => ?_⟩
  have h0 := h u hu
  have e : far ((want - f).toNat : Nat) want = f := by unfold far; split <;> omega
  rcases Int.lt_or_le f (far u want) with hl | hl
  · omega
  · refine .inr ⟨by omega, ?_⟩
    have e2 : far u want = f := by omega
    unfold far at e2
    split at e2
    · omega
    · have : want + f = (u : Int) := by omega
      rw [this, fitZ_nat, hu] at h1; cases h1
theorem FarF.none {old : List Ln} {low : Nat} {p : List Ln} {want f : Int} (h : FarF old low p want f) (h1 : want - low < f) (h2 : (old.length : Int) - p.length - want < f) : findP old low want p = none := by
  refine findP_none fun u => ?_
  cases hu : fitB old low p u with
  | false => rfl
  | true =>
    have h0 := h u hu
    have := fitB_bd hu
    unfold far at h0
    split at h0 <;> omega
/-- what is left of a list behind context at the end -/
theorem rev_at {α : Type} (l : List α) (j : Nat) (h : j < l.length) : l.reverse[j]? = l[l.length - 1 - j]? := by
  rw [List.getElem?_reverse h]
end Pt
