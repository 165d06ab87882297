/- plain: the difference of two lists of lines -/
import Derived.Test.YtnkpigibjicmaaaDoorVplain2
namespace Pt
section
variable {S : Type} [DecidableEq S]
/-- the least number of lines that are deleted and inserted -/
def cost : List S → List S → Nat
  | [], b => b.length
  | x :: a, [] => (x :: a).length
  | x :: a, y :: b => if x = y then min (min (cost a (y :: b) + 1) (cost (x :: a) b + 1)) (cost a b) else min (cost a (y :: b) + 1) (cost (x :: a) b + 1)
termination_by a b => a.length + b.length
theorem cost_nil (b : List S) : cost [] b = b.length := by rw [cost]
theorem cost_nil2 (a : List S) : cost a [] = a.length := by cases a <;> rw [cost] <;> rfl
theorem cost_cons (x y : S) (a b : List S) : cost (x :: a) (y :: b) = if x = y then min (min (cost a (y :: b) + 1) (cost (x :: a) b + 1)) (cost a b) else min (cost a (y :: b) + 1) (cost (x :: a) b + 1) := by rw [cost]
theorem cost_le (k : Nat) : ∀ (a b : List S), a.length + b.length ≤ k → cost a b ≤ a.length + b.length := by
  induction k with
  | zero =>
    intro a b h
    have h1 := List.eq_nil_of_length_eq_zero (show a.length = 0 by omega)
    rw [h1, cost_nil]; simp
  | succ k ih =>
    intro a b h
    match a, b with
    | [], b => rw [cost_nil]; omega
    | x :: a, [] => rw [cost_nil2]; omega
    | x :: a, y :: b =>
      have h1 := ih a (y :: b) (by simp only [List.length_cons] at h ⊢; omega)
      rw [cost_cons]
      simp only [List.length_cons] at h1 ⊢
      split <;> omega
/-- the formula of the table: the trivial way, or over a neighbour -/
theorem cost_best (a b : List S) (d r e : Nat) (hd : ∀ x a', a = x :: a' → d = cost a' b + 1) (hr : ∀ y b', b = y :: b' → r = cost a b' + 1) (he : ∀ x a' y b', a = x :: a' → b = y :: b' → x = y → e = cost a' b')
    (hd0 : a = [] → a.length + b.length ≤ d) (hr0 : b = [] → a.length + b.length ≤ r) (he0 : (∀ x a' y b', a = x :: a' → b = y :: b' → x ≠ y) → a.length + b.length ≤ e) : min (min (min (a.length + b.length) d) r) e = cost a b := by
  match a, b with
  | [], [] =>
    have h1 := hd0 rfl; have h2 := hr0 rfl; have h3 := he0 (fun x a' y b' h => by cases h)
    rw [cost_nil]; simp at *
  | [], y :: b =>
    have h1 := hd0 rfl; have h2 := hr y b rfl; have h3 := he0 (fun x a' y b' h => by cases h)
    rw [cost_nil] at h2 ⊢
    simp only [List.length_nil, List.length_cons] at *
    omega
  | x :: a, [] =>
    have h1 := hd x a rfl; have h2 := hr0 rfl; have h3 := he0 (fun x a' y b' _ h => by cases h)
    rw [cost_nil2] at h1 ⊢
    simp only [List.length_nil, List.length_cons] at *
    omega
  | x :: a, y :: b =>
    have h1 := hd x a rfl; have h2 := hr y b rfl
    have hl := cost_le _ a (y :: b) (Nat.le_refl _)
    rw [cost_cons]
    by_cases hxy : x = y
    · have h3 := he x a y b rfl rfl hxy
      rw [if_pos hxy]
      simp only [List.length_cons] at *
      omega
    · have h3 := he0 (fun x2 a2 y2 b2 q1 q2 => by cases q1; cases q2; exact hxy)
      rw [if_neg hxy]
      simp only [List.length_cons] at *
      omega
/-- the way through the table: what is kept 1, deleted 2, inserted 3 -/
def diffP : List S → List S → List (Int × S)
  | [], [] => []
  | [], y :: b => (3, y) :: diffP [] b
  | x :: a, [] => (2, x) :: diffP a []
  | x :: a, y :: b => if cost a (y :: b) + 1 = cost (x :: a) (y :: b) then (2, x) :: diffP a (y :: b) else if cost (x :: a) b + 1 = cost (x :: a) (y :: b) then (3, y) :: diffP (x :: a) b else (1, x) :: diffP a b
termination_by a b => a.length + b.length
theorem diff_nil : diffP ([] : List S) [] = [] := by rw [diffP]
/-- a line is deleted -/
theorem diff_del {x : S} {a b : List S} (h : cost a b + 1 = cost (x :: a) b) : diffP (x :: a) b = (2, x) :: diffP a b := by
  cases b with
  | nil => rw [diffP]
  | cons y b => rw [diffP, if_pos h]
theorem diff_ins {y : S} {a b : List S} (h1 : ∀ x a', a = x :: a' → cost a' (y :: b) + 1 ≠ cost a (y :: b)) (h2 : cost a b + 1 = cost a (y :: b)) : diffP a (y :: b) = (3, y) :: diffP a b := by
  cases a with
  | nil => rw [diffP]
  | cons x a => rw [diffP, if_neg (h1 x a rfl), if_pos h2]
/-- neither: the next lines are equal, and kept -/
theorem diff_keep {a b : List S} (hne : a ≠ [] ∨ b ≠ []) (h1 : ∀ x a', a = x :: a' → cost a' b + 1 ≠ cost a b) (h2 : ∀ y b', b = y :: b' → cost a b' + 1 ≠ cost a b) : ∃ x a' b', a = x :: a' ∧ b = x :: b' ∧ cost a b = cost a' b' ∧ diffP a b = (1, x) :: diffP a' b' := by
  match a, b with
  | [], [] => simp at hne
  | [], y :: b => exact absurd (by rw [cost_nil, cost_nil]; rfl) (h2 y b rfl)
  | x :: a, [] => exact absurd (by rw [cost_nil2, cost_nil2]; rfl) (h1 x a rfl)
  | x :: a, y :: b =>
    have e1 := h1 x a rfl
    have e2 := h2 y b rfl
    have hc := cost_cons x y a b
    by_cases hxy : x = y
    · subst hxy
      rw [if_pos rfl] at hc
      refine ⟨x, a, b, rfl, rfl, by omega, ?_⟩
      rw [diffP, if_neg e1, if_neg e2]
    · rw [if_neg hxy] at hc
      omega
/-- the two sides of a way -/
theorem diff_sides (k : Nat) : ∀ (a b : List S), a.length + b.length ≤ k → ((diffP a b).filter fun x => decide (x.1 = 2) || decide (x.1 = 1)).map (·.2) = a ∧ ((diffP a b).filter fun x => decide (x.1 = 3) || decide (x.1 = 1)).map (·.2) = b := by
  induction k with
  | zero =>
    intro a b h
    have h1 := List.eq_nil_of_length_eq_zero (show a.length = 0 by omega)
    have h2 := List.eq_nil_of_length_eq_zero (show b.length = 0 by omega)
    rw [h1, h2, diff_nil]; simp
  | succ k ih =>
    intro a b h
    by_cases hd : ∃ x a', a = x :: a' ∧ cost a' b + 1 = cost a b
    · obtain ⟨x, a', rfl, hc⟩ := hd
      obtain ⟨i1, i2⟩ := ih a' b (by simp only [List.length_cons] at h; omega)
      rw [diff_del hc]
      simp [i1, i2]
    · have h1 : ∀ x a', a = x :: a' → cost a' b + 1 ≠ cost a b := fun x a' e hc => hd ⟨x, a', e, hc⟩
      by_cases hi : ∃ y b', b = y :: b' ∧ cost a b' + 1 = cost a b
      · obtain ⟨y, b', rfl, hc⟩ := hi
        obtain ⟨i1, i2⟩ := ih a b' (by simp only [List.length_cons] at h; omega)
        rw [diff_ins h1 hc]
        simp [i1, i2]
      · have h2 : ∀ y b', b = y :: b' → cost a b' + 1 ≠ cost a b := fun y b' e hc => hi ⟨y, b', e, hc⟩
        by_cases hne : a ≠ [] ∨ b ≠ []
        · obtain ⟨x, a', b', rfl, rfl, -, e⟩ := diff_keep hne h1 h2
          obtain ⟨i1, i2⟩ := ih a' b' (by simp only [List.length_cons] at h; omega)
          rw [e]
          simp [i1, i2]
        · have ha : a = [] := Decidable.byContradiction fun q => hne (.inl q)
          have hb : b = [] := Decidable.byContradiction fun q => hne (.inr q)
          rw [ha, hb, diff_nil]; simp
theorem diff_ops (k : Nat) : ∀ (a b : List S), a.length + b.length ≤ k → ∀ x ∈ diffP a b, x.1 = 1 ∨ x.1 = 2 ∨ x.1 = 3 := by
  induction k with
  | zero =>
    intro a b h
    have h1 := List.eq_nil_of_length_eq_zero (show a.length = 0 by omega)
    have h2 := List.eq_nil_of_length_eq_zero (show b.length = 0 by omega)
    rw [h1, h2, diff_nil]; simp
  | succ k ih =>
    intro a b h z hz
    by_cases hd : ∃ x a', a = x :: a' ∧ cost a' b + 1 = cost a b
    · obtain ⟨x, a', rfl, hc⟩ := hd
      rw [diff_del hc] at hz
      rcases List.mem_cons.1 hz with hz | hz
      · rw [hz]; exact .inr (.inl rfl)
      · exact ih a' b (by simp only [List.length_cons] at h; omega) z hz
    · have h1 : ∀ x a', a = x :: a' → cost a' b + 1 ≠ cost a b := fun x a' e hc => hd ⟨x, a', e, hc⟩
      by_cases hi : ∃ y b', b = y :: b' ∧ cost a b' + 1 = cost a b
      · obtain ⟨y, b', rfl, hc⟩ := hi
        rw [diff_ins h1 hc] at hz
        rcases List.mem_cons.1 hz with hz | hz
        · rw [hz]; exact .inr (.inr rfl)
        · exact ih a b' (by simp only [List.length_cons] at h; omega) z hz
      · have h2 : ∀ y b', b = y :: b' → cost a b' + 1 ≠ cost a b := fun y b' e hc => hi ⟨y, b', e, hc⟩
        by_cases hne : a ≠ [] ∨ b ≠ []
        · obtain ⟨x, a', b', rfl, rfl, -, e⟩ := diff_keep hne h1 h2
          rw [e] at hz
          rcases List.mem_cons.1 hz with hz | hz
          · rw [hz]; exact .inl rfl
          · exact ih a' b' (by simp only [List.length_cons] at h; omega) z hz
        · have ha : a = [] := Decidable.byContradiction fun q => hne (.inl q)
          have hb : b = [] := Decidable.byContradiction fun q => hne (.inr q)
          rw [ha, hb, diff_nil] at hz; simp at hz
end
end Pt
