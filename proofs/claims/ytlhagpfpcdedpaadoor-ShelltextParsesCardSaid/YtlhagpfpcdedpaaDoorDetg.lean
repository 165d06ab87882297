/- as XDetb, for a region that makes memory as well: some slots get values that are not known ahead (S speaks of them) -/
import Derived.Test.YtlhagpfpcdedpaaDoorDetb
namespace Go.Proofs.YtlhagpfpcdedpaaDoor
open Go.RowKit
def DetG (S : (Nat → Value) → (Nat → Bool) → World → Prop) (b n : Nat) (op : Nat → Nat) (kn : Nat → Bool) (val : Nat → Value) (a0 : Act) (d : Nat → Bool) (a : Act) (w : World) : Prop :=
  b + n ≤ a0.tmps.size ∧ ∃ u, a = putR a0 b u n ∧ S u d w ∧ ∀ i, i < n → kn i = true → d (op i) = true → u i = val i
section
variable {S : (Nat → Value) → (Nat → Bool) → World → Prop} {b n : Nat} {op : Nat → Nat} {kn : Nat → Bool} {val : Nat → Value} {a0 a : Act} {d : Nat → Bool} {w w' : World}
theorem DetG.start {m : Nat} (h : ∀ u, S u (fun j => !decide (j < m)) w) (hs : b + n ≤ a0.tmps.size) (ho : ∀ i, i < n → kn i = true → op i < m) : DetG S b n op kn val a0 (fun j => !decide (j < m)) a0 w :=
  ⟨hs, _, putR_self a0 b n hs, h _, fun i hi hk hd => by have := ho i hi hk; simp [this] at hd⟩
theorem putR_slot {b n : Nat} {a0 : Act} {u : Nat → Value} (hs : b + n ≤ a0.tmps.size) (i : Nat) (hi : i < n) : (putR a0 b u n).tmps[b + i]? = some (u i) := by
  rw [putR_at a0 b u n hs, if_pos (by omega), Nat.add_sub_cancel_left]
theorem DetG.slot (h : DetG S b n op kn val a0 d a w) (i : Nat) (hi : i < n) (hk : kn i = true) (hd : d (op i) = true) : a.tmps[b + i]? = some (val i) := by
  obtain ⟨hs, u, rfl, _, hu⟩ := h
  rw [putR_slot hs i hi, hu i hi hk hd]
theorem DetG.other (h : DetG S b n op kn val a0 d a w) (j : Nat) (hj : j < b) : a.tmps[j]? = a0.tmps[j]? := by
  obtain ⟨hs, u, rfl, _⟩ := h
  rw [putR_at a0 b u n hs, if_neg (by omega)]
theorem DetG.put (h : DetG S b n op kn val a0 d a w) (i : Nat) (hi : i < n) (hj : ∀ j, j < n → j ≠ i → (op j == op i) = false) (k : Nat) (hk : k = b + i) (v : Value) (hv : kn i = true → v = val i) (hw : ∀ u, S u d w → S (updV u i v) (upd d (op i)) w') : DetG S b n op kn val a0 (upd d (op i)) (a.put (some k) v) w' := by
  obtain ⟨hs, u, rfl, hS, hu⟩ := h
  subst hk
  refine ⟨hs, _, putR_put a0 b n u i _ hi hs, hw u hS, fun j hj' hkn hd => ?_⟩
  unfold updV
  by_cases e : j = i
  · rw [if_pos e]; subst e; exact hv hkn
  · rw [if_neg e]
    exact hu j hj' hkn (by rw [upd_ne d (hj j hj' e)] at hd; exact hd)
theorem DetG.keep (h : DetG S b n op kn val a0 d a w) (o : Nat) (hj : ∀ j, j < n → (op j == o) = false) (hw : ∀ u, S u d w → S u (upd d o) w') : DetG S b n op kn val a0 (upd d o) a w' := by
  obtain ⟨hs, u, rfl, hS, hu⟩ := h
  exact ⟨hs, u, rfl, hw u hS, fun j hj' hkn hd => hu j hj' hkn (by rw [upd_ne d (hj j hj')] at hd; exact hd)⟩
theorem DetG.get (h : DetG S b n op kn val a0 d a w) : ∃ u, S u d w ∧ ∀ i, i < n → a.tmps[b + i]? = some (u i) := by
  obtain ⟨hs, u, rfl, hS, _⟩ := h
  exact ⟨u, hS, fun i hi => putR_slot hs i hi⟩
theorem DetG.keepu (h : DetG S b n op kn val a0 d a w) (o : Nat) (hj : ∀ j, j < n → (op j == o) = false) {x : Value} (i0 : Nat) (hi0 : i0 < n) (hx : a.tmps[b + i0]? = some x) (hw : ∀ u, u i0 = x → S u d w → S u (upd d o) w') : DetG S b n op kn val a0 (upd d o) a w' := by
  obtain ⟨hs, u, rfl, hS, hu⟩ := h
  rw [putR_slot hs i0 hi0] at hx
  exact ⟨hs, u, rfl, hw u (Option.some.inj hx) hS, fun j hj' hkn hd => hu j hj' hkn (by rw [upd_ne d (hj j hj')] at hd; exact hd)⟩
theorem DetG.done (h : DetG S b n op kn val a0 d a w) (hd : ∀ i, d i = true) : ∃ u, a = putR a0 b u n ∧ S u d w ∧ ∀ i, i < n → kn i = true → u i = val i := by
  obtain ⟨hs, u, rfl, hS, hu⟩ := h
  exact ⟨u, rfl, hS, fun i hi hk => hu i hi hk (hd _)⟩
end
end Go.Proofs.YtlhagpfpcdedpaaDoor
