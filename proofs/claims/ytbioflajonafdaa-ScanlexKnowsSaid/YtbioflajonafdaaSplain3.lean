/- plain: the scanner's run -/
import Derived.Test.YtbioflajonafdaaSplain2
namespace Tx
open Go
theorem isAt_lt {l : List UInt8} {i : Nat} {c : UInt8} (h : Byt.isAt l i c = true) : i < l.length := by
  unfold Byt.isAt at h
  by_cases hl : i < l.length
  · exact hl
  · rw [List.getElem?_eq_none (by omega)] at h; simp at h
theorem preP_le (l : List UInt8) : Byt.preP l ≤ l.length := by
  unfold Byt.preP
  have := Byt.run_le Byt.bl l
  split
  · rename_i h
    simp only [Bool.or_eq_true] at h
    rcases h with h | h <;> have := isAt_lt h <;> omega
  · exact this
theorem preN_le (l : List UInt8) : Byt.preN l ≤ l.length := by
  have h1 := preP_le l
  have h2 := Byt.run_le Byt.dg (l.drop (Byt.preP l))
  rw [List.length_drop] at h2
  unfold Byt.preN
  split
  · omega
  · split
    · rename_i h
      unfold Byt.preU at h
      simp only [Bool.and_eq_true] at h
      have h3 := isAt_lt h.1
      have h4 : Byt.preK l ≤ l.length - (Byt.preP l + Byt.preM l + 1) := by
        have := Byt.run_le Byt.dg (l.drop (Byt.preP l + Byt.preM l + 1))
        rw [List.length_drop] at this; exact this
      omega
    · unfold Byt.preM; omega
/-- where a number begins -/
theorem preN_pos (l : List UInt8) (c : UInt8) (r : List UInt8) (hl : l = c :: r) (h : Byt.dg c = true ∨ c = 46 ∧ ∃ d q, r = d :: q ∧ Byt.dg d = true) : 1 ≤ Byt.preN l ∧ Byt.preP l = 0 := by
  have nb : Byt.bl c = false := by
    rcases h with h | h
    · unfold Byt.dg at h; unfold Byt.bl
      simp only [Bool.and_eq_true, decide_eq_true_eq] at h
      simp; omega
    · rw [h.1]; decide
  have n4 : c ≠ 45 ∧ c ≠ 43 := by
    rcases h with h | h
    · unfold Byt.dg at h
      simp only [Bool.and_eq_true, decide_eq_true_eq] at h
      constructor <;> (intro x; rw [x] at h; revert h; decide)
    · rw [h.1]; decide
  have r0 : Byt.run Byt.bl l = 0 := by subst hl; simp only [Byt.run]; rw [nb]; rfl
  have p0 : Byt.preP l = 0 := by
    subst hl
    unfold Byt.preP
    rw [r0]
    simp [Byt.isAt, n4.1, n4.2]
  refine ⟨?_, p0⟩
  unfold Byt.preN
  rcases h with h | ⟨h, d, q, hr, hd⟩
  · have m1 : 1 ≤ Byt.preM l := by
      unfold Byt.preM; rw [p0, hl, List.drop_zero]; simp only [Byt.run]; rw [if_pos h]; omega
    rw [if_neg (by unfold Byt.preEmpty; simp; omega)]
    split <;> omega
  · have m0 : Byt.preM l = 0 := by
      unfold Byt.preM; rw [p0, hl, List.drop_zero, h]; rfl
    have k1 : 1 ≤ Byt.preK l := by
      unfold Byt.preK; rw [p0, m0, hl, hr]; simp only [Nat.zero_add, List.drop_succ_cons, List.drop_zero, Byt.run]; rw [if_pos hd]; omega
    have u : Byt.preU l = true := by
      unfold Byt.preU; rw [p0, m0, hl, h]
      have : Byt.preK (46 :: r) = Byt.preK l := by rw [hl, h]
      rw [this]
      simp [Byt.isAt]; omega
    rw [if_neg (by unfold Byt.preEmpty; rw [u]; simp), if_pos u]; omega
theorem une_er : ∀ (f : Nat) (l : List UInt8) (i k : Nat), une f l i = .error k → i ≤ k ∧ k < i + l.length := by
  intro f
  induction f with
  | zero => intro l i k h; simp [une] at h
  | succ f ih =>
    intro l i k h
    cases l with
    | nil => simp [une] at h
    | cons c r =>
      simp only [une] at h
      split at h
      · split at h
        · split at h
          · cases h
          · rename_i k' hk
            cases h
            have := ih _ _ _ hk
            rw [List.length_drop] at this
            have := (seqN_bd r).1
            rw [List.length_cons]; omega
        · cases h; rw [List.length_cons]; omega
      · split at h
        · cases h
        · rename_i k' hk
          cases h
          have := ih _ _ _ hk
          rw [List.length_cons]; omega
/-- a step goes on, within the text -/
def OutB (s : ByteArray) (a : Nat) : Out → Prop
  | .tk _ _ _ b => a < b ∧ b ≤ s.size
  | .er e k => (e = 1 ∨ e = 3) ∧ k < s.size
  | .sk b => a < b ∧ b ≤ s.size
theorem tokM_bd {s : ByteArray} {a : Nat} {T : List Tok} (ha : a < s.size) : OutB s a (tokM s a T) := by
  unfold tokM
  by_cases h10 : pk s a = 10
  · rw [if_pos h10]
    split <;> (simp only [OutB]; omega)
  rw [if_neg h10]
  by_cases hd : dgn (pk s a) = true ∨ pk s a = 46 ∧ dgn (pk s (a + 1)) = true
  · rw [if_pos hd]
    have hl : s.data.toList.drop a = s[a] :: s.data.toList.drop (a + 1) := Byt.drop_lt s a ha
    have P := preN_pos _ _ _ hl (by
      rw [pk_at ha] at hd
      rcases hd with hd | hd
      · exact .inl hd
      · by_cases hl1 : a + 1 < s.size
        · refine .inr ⟨?_, s[a + 1], _, Byt.drop_lt s (a + 1) hl1, ?_⟩
          · exact UInt8.toNat_inj.mp hd.1
          · rw [pk_at hl1] at hd; exact hd.2
        · rw [pk_ge (by omega)] at hd; exact absurd hd.2 (by decide))
    have Q := preN_le (s.data.toList.drop a)
    rw [List.length_drop, ← size_len] at Q
    unfold numM
    by_cases h15 : 15 < Byt.preN (s.data.toList.drop a)
    · rw [if_pos h15]; exact ⟨.inr rfl, ha⟩
    · rw [if_neg h15]; simp only [OutB]; omega
  rw [if_neg hd]
  by_cases hl : lt (pk s a) = true
  · rw [if_pos hl]
    have hw : wb (pk s a) = true := by unfold wb; rw [hl]; rfl
    have W := wend_bd s (s.size - (a + 1)) (a + 1) rfl (by omega)
    rw [← wend_step hw] at W
    unfold wordM
    split
    · simp only [OutB]; omega
    · split
      · exact ⟨.inr rfl, ha⟩
      · split <;> (simp only [OutB]; omega)
  rw [if_neg hl]
  have Q : ∀ c, OutB s a (quoM s c a) := by
    intro c
    unfold quoM
    cases hz : clz s c (a + 1) with
    | none => exact ⟨.inl rfl, ha⟩
    | some e =>
      obtain ⟨b1, b2, -⟩ := clz_bd s c _ _ _ (Nat.le_refl _) hz
      simp only
      by_cases h47 : c = 47
      · rw [if_pos h47]; simp only [OutB]; omega
      · rw [if_neg h47]
        cases hu : unesc (s.extract (a + 1) e).data.toList with
        | ok l => simp only [OutB]; omega
        | error k =>
          have hk := une_er _ _ _ _ (show une (s.extract (a + 1) e).data.toList.length (s.extract (a + 1) e).data.toList 0 = .error k from hu)
          rw [Byt.ext_mid, List.length_take, List.length_drop, ← size_len] at hk
          exact ⟨.inl rfl, by omega⟩
  by_cases h34 : pk s a = 34
  · rw [if_pos h34]; exact Q 34
  rw [if_neg h34]
  by_cases h47 : pk s a = 47 ∧ dvs T = false
  · rw [if_pos h47]; exact Q 47
  rw [if_neg h47]
  unfold markM
  by_cases ht : (s.extract a (min (a + 2) s.size)).data.toList ∈ twL
  · rw [if_pos ht]
    have h2 : (s.extract a (min (a + 2) s.size)).data.toList.length = 2 := by
      revert ht; generalize (s.extract a (min (a + 2) s.size)).data.toList = l
      intro ht
      simp only [twL, List.mem_cons, List.not_mem_nil, or_false] at ht
      rcases ht with h | h | h | h | h | h | h | h | h | h | h | h | h | h | h | h <;> rw [h] <;> rfl
    rw [Byt.ext_mid, List.length_take, List.length_drop, ← size_len] at h2
    simp only [OutB]; omega
  · rw [if_neg ht]
    split
    · simp only [OutB]; omega
    · exact ⟨.inl rfl, ha⟩
theorem skS_le {s : ByteArray} {a : Nat} (h : a ≤ s.size) : a ≤ skS s a ∧ skS s a ≤ s.size ∧ sk1 s (skS s a) = none := skS_bd s _ a rfl h
theorem runF_more (s : ByteArray) : ∀ (f g a : Nat) (T : List Tok), a ≤ s.size → s.size + 1 ≤ a + f → s.size + 1 ≤ a + g → runF f s a T = runF g s a T := by
  intro f
  induction f with
  | zero => intro g a T ha h; omega
  | succ f ih =>
    intro g a T ha h h'
    cases g with
    | zero => omega
    | succ g =>
      simp only [runF]
      obtain ⟨k1, k2, -⟩ := skS_le ha
      by_cases he : s.size ≤ skS s a
      · rw [if_pos he, if_pos he]
      · rw [if_neg he, if_neg he]
        have B := tokM_bd (T := T) (show skS s a < s.size by omega)
        cases ht : tokM s (skS s a) T with
        | tk k t n b => rw [ht] at B; have B : skS s a < b ∧ b ≤ s.size := B; exact ih g b _ B.2 (by omega) (by omega)
        | er e k => rfl
        | sk b => rw [ht] at B; have B : skS s a < b ∧ b ≤ s.size := B; exact ih g b _ B.2 (by omega) (by omega)
/-- what follows a step -/
def nextM (s : ByteArray) (a : Nat) (T : List Tok) : Out → Res
  | .sk b => runM s b T
  | .tk k t n b => runM s b (T ++ [⟨k, t, n, (a : Nat)⟩])
  | .er e k => .err e k
theorem runM_eq {s : ByteArray} {a : Nat} (T : List Tok) (ha : a ≤ s.size) : runM s a T = if s.size ≤ skS s a then .ok (T ++ [⟨0, ⟨#[]⟩, 0, (skS s a : Nat)⟩]) else nextM s (skS s a) T (tokM s (skS s a) T) := by
  unfold runM
  rw [show s.size + 1 - a = (s.size - a) + 1 by omega]
  simp only [runF]
  obtain ⟨k1, k2, -⟩ := skS_le ha
  by_cases he : s.size ≤ skS s a
  · rw [if_pos he, if_pos he]
  · rw [if_neg he, if_neg he]
    have B := tokM_bd (T := T) (show skS s a < s.size by omega)
    cases ht : tokM s (skS s a) T with
    | tk k t n b => rw [ht] at B; have B : skS s a < b ∧ b ≤ s.size := B; exact runF_more s _ _ b _ B.2 (by omega) (by omega)
    | er e k => rfl
    | sk b => rw [ht] at B; have B : skS s a < b ∧ b ≤ s.size := B; exact runF_more s _ _ b _ B.2 (by omega) (by omega)
theorem runM_sk1 {s : ByteArray} {a b : Nat} {T : List Tok} (ha : a ≤ s.size) (h : sk1 s a = some b) : runM s a T = runM s b T := by
  rw [runM_eq T ha, runM_eq T (sk1_bd h).2, skS_step h]
theorem runM_at {s : ByteArray} {a : Nat} (T : List Tok) (ha : a ≤ s.size) (h : sk1 s a = none) : runM s a T = if s.size ≤ a then .ok (T ++ [⟨0, ⟨#[]⟩, 0, (a : Nat)⟩]) else nextM s a T (tokM s a T) := by
  rw [runM_eq T ha, skS_none h]
theorem runM_skS {s : ByteArray} {a : Nat} (T : List Tok) (ha : a ≤ s.size) : runM s a T = runM s (skS s a) T := by
  rw [runM_eq T ha, runM_at T (skS_le ha).2.1 (skS_le ha).2.2]
end Tx
