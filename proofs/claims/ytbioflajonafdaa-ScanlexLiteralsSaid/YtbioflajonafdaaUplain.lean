/- plain: what Escape makes is printable, no shorter than the text, and Unescape inverts it -/
import Derived.Test.YtbioflajonafdaaUa
namespace Go.Proofs.Ytbioflajonafdaa
open Go.RowKit
open Tx
theorem esc1_print (c x : UInt8) (h : x ∈ esc1 c) : 32 ≤ x.toNat ∧ x.toNat ≤ 126 := by
  have hc := c.toNat_lt
  unfold esc1 at h
  by_cases h0 : escL c ≠ 0
  · rcases esc_cases c h0 with ⟨_, e⟩ | ⟨_, e⟩ | ⟨_, e⟩ | ⟨_, e⟩ | ⟨_, e⟩ | ⟨_, e⟩ | ⟨_, e⟩ <;>
      (unfold esc1 at e; rw [e] at h; simp at h; rcases h with rfl | rfl <;> decide)
  · rw [if_neg h0] at h
    by_cases h1 : c = 92
    · rw [if_pos h1] at h; simp at h; subst h; decide
    · rw [if_neg h1] at h
      by_cases h2 : 32 ≤ c.toNat ∧ c.toNat ≤ 126
      · rw [if_pos h2] at h; simp at h; subst h; exact h2
      · rw [if_neg h2] at h
        simp only [oct3, List.mem_cons, List.not_mem_nil, or_false] at h
        rcases h with rfl | rfl | rfl | rfl
        · decide
        all_goals (rw [UInt8.toNat_ofNat']; omega)
theorem esc_print (l : List UInt8) (x : UInt8) (h : x ∈ esc l) : 32 ≤ x.toNat ∧ x.toNat ≤ 126 := by
  unfold esc at h
  obtain ⟨c, _, hx⟩ := List.mem_flatMap.1 h
  exact esc1_print c x hx
theorem esc1_one (c : UInt8) : 1 ≤ (esc1 c).length ∧ ((esc1 c).length = 1 → esc1 c = [c]) := by
  unfold esc1
  split
  · simp
  · split
    · simp
    · split
      · simp
      · simp [oct3]
theorem esc_ge (l : List UInt8) : l.length ≤ (esc l).length ∧ ((esc l).length = l.length → esc l = l) := by
  induction l with
  | nil => exact ⟨Nat.le_refl _, fun _ => rfl⟩
  | cons c r ih =>
    have h1 := esc1_one c
    have e : esc (c :: r) = esc1 c ++ esc r := by simp [esc]
    rw [e, List.length_append, List.length_cons]
    refine ⟨by omega, fun h => ?_⟩
    rw [h1.2 (by omega), ih.2 (by omega)]; rfl
theorem oct_dig (n k : Nat) (h : n ≤ 7) (hk : k = 48 + n) : letB (UInt8.ofNat k) = 0 ∧ isSelf (UInt8.ofNat k) = false ∧ oct (UInt8.ofNat k) = true ∧ (UInt8.ofNat k).toNat - 48 = n := by
  subst hk
  have : n = 0 ∨ n = 1 ∨ n = 2 ∨ n = 3 ∨ n = 4 ∨ n = 5 ∨ n = 6 ∨ n = 7 := by omega
  rcases this with rfl | rfl | rfl | rfl | rfl | rfl | rfl | rfl <;> decide
theorem seqs_oct (c : UInt8) (r : List UInt8) : seqO (oct3 c ++ r) = true ∧ seqN (oct3 c ++ r) = 3 ∧ seqV (oct3 c ++ r) = c.toNat := by
  have hc := c.toNat_lt
  obtain ⟨a1, a2, a3, a4⟩ := oct_dig (c.toNat / 64) _ (by omega) rfl
  obtain ⟨_, _, b3, b4⟩ := oct_dig (c.toNat / 8 % 8) _ (by omega) rfl
  obtain ⟨_, _, c3, c4⟩ := oct_dig (c.toNat % 8) _ (by omega) rfl
  have G : octGo 3 (oct3 c ++ r) 0 0 = (c.toNat, 3) := by
    simp only [oct3, List.cons_append, List.nil_append, octGo]
    rw [if_pos a3, if_pos b3, if_pos c3, a4, b4, c4]
    have : 8 * (8 * (8 * 0 + c.toNat / 64) + c.toNat / 8 % 8) + c.toNat % 8 = c.toNat := by omega
    rw [this]
  simp only [oct3, List.cons_append, List.nil_append] at G
  simp only [oct3, List.cons_append, List.nil_append, seqO, seqN, seqV, G]
  have n1 : ¬ (letB (UInt8.ofNat (48 + c.toNat / 64)) ≠ 0) := fun e => e a1
  have n2 : ¬ (isSelf (UInt8.ofNat (48 + c.toNat / 64)) = true) := by rw [a2]; decide
  refine ⟨?_, ?_, ?_⟩
  · rw [if_neg n1, if_neg n2, Bool.and_eq_true, decide_eq_true_eq, decide_eq_true_eq]; omega
  · rw [if_neg n1, if_neg n2]
  · rw [if_neg n1, if_neg n2]; omega
theorem une_two (c x : UInt8) (r : List UInt8) (i : Nat) (ho : seqO (x :: r) = true) (hn : seqN (x :: r) = 1) (hv : seqV (x :: r) = c.toNat) : une (92 :: x :: r).length (92 :: x :: r) i = (match une r.length r (i + 2) with | .ok l => .ok (c :: l) | .error k => .error k) := by
  rw [une_bs _ (x :: r) i rfl ho, hn, hv]
  show (match une r.length r (i + 1 + 1) with | .ok l => _ | .error k => _) = _
  rw [UInt8.ofNat_toNat]
theorem une_esc1 (c : UInt8) (r : List UInt8) (i : Nat) : ∃ j, une (esc1 c ++ r).length (esc1 c ++ r) i = (match une r.length r j with | .ok l => .ok (c :: l) | .error k => .error k) := by
  by_cases h0 : escL c ≠ 0
  · refine ⟨i + 2, ?_⟩
    rcases esc_cases c h0 with ⟨h, e⟩ | ⟨h, e⟩ | ⟨h, e⟩ | ⟨h, e⟩ | ⟨h, e⟩ | ⟨h, e⟩ | ⟨h, e⟩ <;> (rw [e]; subst h; exact une_two _ _ r i rfl rfl rfl)
  · by_cases h1 : c = 92
    · subst h1; exact ⟨i + 2, une_two 92 92 r i rfl rfl rfl⟩
    · by_cases h2 : 32 ≤ c.toNat ∧ c.toNat ≤ 126
      · have e : esc1 c = [c] := by unfold esc1; rw [if_neg h0, if_neg h1, if_pos h2]
        rw [e]; exact ⟨i + 1, une_plain _ c r i rfl h1⟩
      · have e : esc1 c = 92 :: oct3 c := by unfold esc1; rw [if_neg h0, if_neg h1, if_neg h2]
        obtain ⟨a, b, d⟩ := seqs_oct c r
        refine ⟨i + 1 + 3, ?_⟩
        rw [e, List.cons_append, une_bs _ (oct3 c ++ r) i rfl a, b, d, UInt8.ofNat_toNat]
        rfl
theorem une_esc : ∀ (l : List UInt8) (i : Nat), une (esc l).length (esc l) i = .ok l := by
  intro l
  induction l with
  | nil => intro i; rfl
  | cons c r ih =>
    intro i
    have e : esc (c :: r) = esc1 c ++ esc r := by simp [esc]
    obtain ⟨j, hj⟩ := une_esc1 c (esc r) i
    rw [e, hj, ih j]
theorem unesc_esc (l : List UInt8) : unesc (esc l) = .ok l := une_esc l 0
end Go.Proofs.Ytbioflajonafdaa
