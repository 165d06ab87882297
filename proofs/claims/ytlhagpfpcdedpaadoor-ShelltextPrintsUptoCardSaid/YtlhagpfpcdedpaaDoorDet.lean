/- a region whose order is drawn, whose operations write neighbouring slots and give each a value that is known ahead: each operation is shown once -/
import Derived.Test.YtlhagpfpcdedpaaDoorReg
namespace Go.Proofs.YtlhagpfpcdedpaaDoor
open Go.RowKit
/-- the frame with u 0, u 1 .. in the n slots from b on -/
def putR (a : Act) (b : Nat) (u : Nat → Value) : Nat → Act
  | 0 => a
  | n + 1 => (putR a b u n).put (some (b + n)) (u n)
theorem put_tmps (a : Act) (j : Nat) (v : Value) : (a.put (some j) v).tmps = a.tmps.setIfInBounds j v := rfl
theorem put_defers (a : Act) (j : Nat) (v : Value) : (a.put (some j) v).defers = a.defers := rfl
theorem putR_size (a : Act) (b : Nat) (u : Nat → Value) : ∀ n, (putR a b u n).tmps.size = a.tmps.size
  | 0 => rfl
  | n + 1 => by rw [putR, put_tmps, Array.size_setIfInBounds, putR_size a b u n]
theorem putR_defers (a : Act) (b : Nat) (u : Nat → Value) : ∀ n, (putR a b u n).defers = a.defers
  | 0 => rfl
  | n + 1 => by rw [putR, put_defers, putR_defers a b u n]
theorem putR_at (a : Act) (b : Nat) (u : Nat → Value) : ∀ n, b + n ≤ a.tmps.size → ∀ j, (putR a b u n).tmps[j]? = if b ≤ j ∧ j < b + n then some (u (j - b)) else a.tmps[j]?
  | 0, _, j => by rw [if_neg (by omega)]; rfl
  | n + 1, h, j => by
    rw [putR, put_tmps, Array.getElem?_setIfInBounds, putR_size, putR_at a b u n (by omega) j]
    by_cases e : b + n = j
    · subst e
      rw [if_pos rfl, if_pos (by omega), if_pos (by omega), Nat.add_sub_cancel_left]
    · rw [if_neg e]
      by_cases e2 : b ≤ j ∧ j < b + n
      · rw [if_pos e2, if_pos (by omega)]
      · rw [if_neg e2, if_neg (by omega)]
theorem act_ext {a a' : Act} (h : a.tmps = a'.tmps) (h2 : a.defers = a'.defers) : a = a' := by
  cases a; cases a'; simp only at h h2; subst h h2; rfl
def updV (u : Nat → Value) (i : Nat) (v : Value) : Nat → Value := fun j => if j = i then v else u j
theorem putR_put (a : Act) (b n : Nat) (u : Nat → Value) (i : Nat) (v : Value) (hi : i < n) (h : b + n ≤ a.tmps.size) : (putR a b u n).put (some (b + i)) v = putR a b (updV u i v) n := by
  refine act_ext (Array.ext_getElem? fun j => ?_) (by rw [put_defers, putR_defers, putR_defers])
  rw [put_tmps, Array.getElem?_setIfInBounds, putR_size, putR_at a b u n h, putR_at a b _ n h]
  by_cases e : b + i = j
  · subst e
    rw [if_pos rfl, if_pos (by omega), if_pos (by omega), Nat.add_sub_cancel_left]
    simp [updV]
  · rw [if_neg e]
    by_cases e2 : b ≤ j ∧ j < b + n
    · rw [if_pos e2, if_pos e2]
      simp [updV, show ¬ j - b = i by omega]
    · rw [if_neg e2, if_neg e2]
theorem putR_self (a : Act) (b n : Nat) (h : b + n ≤ a.tmps.size) : a = putR a b (fun i => a.tmps.getD (b + i) undef) n := by
  refine act_ext (Array.ext_getElem? fun j => ?_) (by rw [putR_defers])
  rw [putR_at a b _ n h]
  split
  · rename_i e
    have hj : j < a.tmps.size := by omega
    rw [show b + (j - b) = j by omega, Array.getD_eq_getD_getElem?, Array.getElem?_eq_getElem hj]; rfl
  · rfl
/-- what holds on the way: the world is one of S, the slots of the operations that have come up hold their values -/
def DetI (S : World → Prop) (b n : Nat) (val : Nat → Value) (a0 : Act) (d : Nat → Bool) (a : Act) (w : World) : Prop :=
  S w ∧ b + n ≤ a0.tmps.size ∧ ∃ u, a = putR a0 b u n ∧ ∀ i, i < n → d i = true → u i = val i
section
variable {S : World → Prop} {b n : Nat} {val : Nat → Value} {a0 a : Act} {d : Nat → Bool} {w w' : World}
theorem DetI.start (h : S w) (hs : b + n ≤ a0.tmps.size) : DetI S b n val a0 (fun j => !decide (j < n)) a0 w :=
  ⟨h, hs, _, putR_self a0 b n hs, fun i hi hd => by simp [hi] at hd⟩
theorem DetI.slot (h : DetI S b n val a0 d a w) (i : Nat) (hi : i < n) (hd : d i = true) : a.tmps[b + i]? = some (val i) := by
  obtain ⟨_, hs, u, rfl, hu⟩ := h
  rw [putR_at a0 b u n hs, if_pos (by omega), Nat.add_sub_cancel_left, hu i hi hd]
theorem DetI.other (h : DetI S b n val a0 d a w) (j : Nat) (hj : j < b) : a.tmps[j]? = a0.tmps[j]? := by
  obtain ⟨_, hs, u, rfl, _⟩ := h
  rw [putR_at a0 b u n hs, if_neg (by omega)]
theorem DetI.put (h : DetI S b n val a0 d a w) (i : Nat) (hi : i < n) (k : Nat) (hk : k = b + i) (v : Value) (hv : v = val i) (hw : S w') : DetI S b n val a0 (upd d i) (a.put (some k) v) w' := by
  obtain ⟨_, hs, u, rfl, hu⟩ := h
  subst hk hv
  refine ⟨hw, hs, _, putR_put a0 b n u i _ hi hs, fun j hj hd => ?_⟩
  unfold updV
  by_cases e : j = i
  · rw [if_pos e, e]
  · rw [if_neg e]
    exact hu j hj (by rw [upd_ne d (by simpa using e)] at hd; exact hd)
theorem DetI.done (h : DetI S b n val a0 d a w) (hd : ∀ i, d i = true) : S w ∧ a = putR a0 b val n := by
  obtain ⟨hw, hs, u, rfl, hu⟩ := h
  refine ⟨hw, act_ext (Array.ext_getElem? fun j => ?_) (by rw [putR_defers, putR_defers])⟩
  rw [putR_at a0 b u n hs, putR_at a0 b val n hs]
  split
  · rename_i e
    rw [hu (j - b) (by omega) (hd _)]
  · rfl
end
theorem eval_slot {a : Act} {k : Nat} {v : Value} (h : a.tmps[k]? = some v) : a.tmps.getD k undef = v := by
  rw [Array.getD_eq_getD_getElem?, h]; rfl
end Go.Proofs.YtlhagpfpcdedpaaDoor
