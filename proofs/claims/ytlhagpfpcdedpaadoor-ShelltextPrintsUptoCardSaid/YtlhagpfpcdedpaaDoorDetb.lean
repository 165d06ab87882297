/- as XDet, for a region that stores as well: what holds of the world may hang on the operations that have come up; slot b + i belongs to operation op i -/
import Derived.Test.YtlhagpfpcdedpaaDoorDet
namespace Go.Proofs.YtlhagpfpcdedpaaDoor
open Go.RowKit
def DetB (S : (Nat → Bool) → World → Prop) (b n : Nat) (op : Nat → Nat) (val : Nat → Value) (a0 : Act) (d : Nat → Bool) (a : Act) (w : World) : Prop :=
  S d w ∧ b + n ≤ a0.tmps.size ∧ ∃ u, a = putR a0 b u n ∧ ∀ i, i < n → d (op i) = true → u i = val i
section
variable {S : (Nat → Bool) → World → Prop} {b n : Nat} {op : Nat → Nat} {val : Nat → Value} {a0 a : Act} {d : Nat → Bool} {w w' : World}
theorem DetB.start {m : Nat} (h : S (fun j => !decide (j < m)) w) (hs : b + n ≤ a0.tmps.size) (ho : ∀ i, i < n → op i < m) : DetB S b n op val a0 (fun j => !decide (j < m)) a0 w :=
  ⟨h, hs, _, putR_self a0 b n hs, fun i hi hd => by have := ho i hi; simp [this] at hd⟩
theorem DetB.slot (h : DetB S b n op val a0 d a w) (i : Nat) (hi : i < n) (hd : d (op i) = true) : a.tmps[b + i]? = some (val i) := by
  obtain ⟨_, hs, u, rfl, hu⟩ := h
  rw [putR_at a0 b u n hs, if_pos (by omega), Nat.add_sub_cancel_left, hu i hi hd]
theorem DetB.other (h : DetB S b n op val a0 d a w) (j : Nat) (hj : j < b) : a.tmps[j]? = a0.tmps[j]? := by
  obtain ⟨_, hs, u, rfl, _⟩ := h
  rw [putR_at a0 b u n hs, if_neg (by omega)]
theorem DetB.put (h : DetB S b n op val a0 d a w) (i : Nat) (hi : i < n) (hj : ∀ j, j < n → j ≠ i → (op j == op i) = false) (k : Nat) (hk : k = b + i) (v : Value) (hv : v = val i) (hw : S (upd d (op i)) w') : DetB S b n op val a0 (upd d (op i)) (a.put (some k) v) w' := by
  obtain ⟨_, hs, u, rfl, hu⟩ := h
  subst hk hv
  refine ⟨hw, hs, _, putR_put a0 b n u i _ hi hs, fun j hj' hd => ?_⟩
  unfold updV
  by_cases e : j = i
  · rw [if_pos e, e]
  · rw [if_neg e]
    exact hu j hj' (by rw [upd_ne d (hj j hj' e)] at hd; exact hd)
theorem DetB.keep (h : DetB S b n op val a0 d a w) (o : Nat) (hj : ∀ j, j < n → (op j == o) = false) (hw : S (upd d o) w') : DetB S b n op val a0 (upd d o) a w' := by
  obtain ⟨_, hs, u, rfl, hu⟩ := h
  exact ⟨hw, hs, u, rfl, fun j hj' hd => hu j hj' (by rw [upd_ne d (hj j hj')] at hd; exact hd)⟩
theorem DetB.done (h : DetB S b n op val a0 d a w) (hd : ∀ i, d i = true) : S d w ∧ a = putR a0 b val n := by
  obtain ⟨hw, hs, u, rfl, hu⟩ := h
  refine ⟨hw, act_ext (Array.ext_getElem? fun j => ?_) (by rw [putR_defers, putR_defers])⟩
  rw [putR_at a0 b u n hs, putR_at a0 b val n hs]
  split
  · rename_i e
    rw [hu (j - b) (by omega) (hd _)]
  · rfl
end
end Go.Proofs.YtlhagpfpcdedpaaDoor
