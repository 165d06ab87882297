/- the text of a decimal number -/
import Derived.Test.YtjngkapfngempaaDoorByt5
namespace Byt
open Go Dcm
def trimZ (l : List UInt8) : List UInt8 := (l.reverse.dropWhile (· == 48)).reverse
theorem trimZ_hit (l : List UInt8) : trimZ (l ++ [48]) = trimZ l := by simp [trimZ]
theorem trimZ_miss (l : List UInt8) (c : UInt8) (h : c ≠ 48) : trimZ (l ++ [c]) = l ++ [c] := by simp [trimZ, h]
theorem trimZ_nil : trimZ [] = [] := rfl
theorem dw_nil (p : UInt8 → Bool) : ∀ (l : List UInt8), l.dropWhile p = [] → ∀ c ∈ l, p c = true := by
  intro l
  induction l with
  | nil => intro _ c hc; cases hc
  | cons x r ih =>
    intro h c hc
    rw [List.dropWhile_cons] at h
    split at h
    · rename_i hx
      rcases List.mem_cons.1 hc with rfl | hc
      · exact hx
      · exact ih h c hc
    · cases h
theorem trimZ_ne : ∀ (l : List UInt8), (∃ c ∈ l, c ≠ 48) → trimZ l ≠ [] := by
  intro l ⟨c, hc, hn⟩ h
  unfold trimZ at h
  rw [List.reverse_eq_nil_iff] at h
  have := dw_nil _ _ h c (by simpa using hc)
  simp at this
  exact hn this
theorem low4 (n : Nat) : low 4 n = [dgt (n / 10 / 10 / 10), dgt (n / 10 / 10), dgt (n / 10), dgt n] := rfl
theorem dgt_mod (a b : Nat) (h : a % 10 = b % 10) : dgt a = dgt b := by unfold dgt; rw [h]
theorem low4_shift (f : Nat) : low 4 (10000 + f) = low 4 f := by
  rw [low4, low4, dgt_mod ((10000 + f) / 10 / 10 / 10) (f / 10 / 10 / 10) (by omega), dgt_mod ((10000 + f) / 10 / 10) (f / 10 / 10) (by omega), dgt_mod ((10000 + f) / 10) (f / 10) (by omega), dgt_mod (10000 + f) f (by omega)]
theorem dgt_48 (n : Nat) (h : dgt n = 48) : n % 10 = 0 := by
  have h1 : (dgt n).toNat = 48 := by rw [h]; rfl
  unfold dgt at h1
  rw [UInt8.toNat_ofNat'] at h1
  omega
theorem low4_ne (f : Nat) (h : f < 10000) (h0 : f ≠ 0) : trimZ (low 4 f) ≠ [] := by
  apply trimZ_ne
  rw [low4]
  apply Decidable.byContradiction
  intro hn
  have h1 : ∀ c ∈ [dgt (f / 10 / 10 / 10), dgt (f / 10 / 10), dgt (f / 10), dgt f], c = 48 := fun c hc => Decidable.byContradiction fun h => hn ⟨c, hc, h⟩
  have a0 := dgt_48 _ (h1 (dgt f) (by simp))
  have a1 := dgt_48 _ (h1 (dgt (f / 10)) (by simp))
  have a2 := dgt_48 _ (h1 (dgt (f / 10 / 10)) (by simp))
  have a3 := dgt_48 _ (h1 (dgt (f / 10 / 10 / 10)) (by simp))
  omega
theorem five (f : Nat) (h : f < 10000) : (Lib.decDigits (10000 + f)).drop 1 = low 4 f := by
  rw [← low_dec 4 (10000 + f) (by omega) (by omega), low_cons]
  simp [low4_shift]
theorem cnt_of (i W : Nat) (h1 : 10 ^ i ≤ W) (h2 : W < 10 ^ (i + 1)) (hi : i < 20) : Cnt W 1 (i + 1) :=
  ⟨by omega, by omega, Nat.div_eq_of_lt h2, fun k hk => .inr (Nat.div_pos (Nat.le_trans (Nat.pow_le_pow_right (by decide) (by omega)) h1) (Nat.pow_pos (by decide)))⟩
theorem cnt_any (W : Nat) (h : W ≤ 1000000000) : ∃ K, Cnt W 1 K ∧ low K W = Lib.decDigits W := by
  by_cases h0 : W = 0
  · subst h0
    exact ⟨1, ⟨by omega, by omega, rfl, fun k hk => .inl hk⟩, low_zero⟩
  · have : ∃ i, i < 20 ∧ 10 ^ i ≤ W ∧ W < 10 ^ (i + 1) := by
      by_cases a1 : W < 10
      · exact ⟨0, by omega, by omega, by omega⟩
      by_cases a2 : W < 100
      · exact ⟨1, by omega, by omega, by omega⟩
      by_cases a3 : W < 1000
      · exact ⟨2, by omega, by omega, by omega⟩
      by_cases a4 : W < 10000
      · exact ⟨3, by omega, by omega, by omega⟩
      by_cases a5 : W < 100000
      · exact ⟨4, by omega, by omega, by omega⟩
      by_cases a6 : W < 1000000
      · exact ⟨5, by omega, by omega, by omega⟩
      by_cases a7 : W < 10000000
      · exact ⟨6, by omega, by omega, by omega⟩
      by_cases a8 : W < 100000000
      · exact ⟨7, by omega, by omega, by omega⟩
      by_cases a9 : W < 1000000000
      · exact ⟨8, by omega, by omega, by omega⟩
      exact ⟨9, by omega, by omega, by omega⟩
    obtain ⟨i, hi, h1, h2⟩ := this
    exact ⟨i + 1, cnt_of i W h1 h2 hi, low_dec i W h1 h2⟩
theorem cnt_four (f : Nat) (h : f < 10000) : Cnt f 4 4 := ⟨by omega, by omega, Nat.div_eq_of_lt (by omega), fun k hk => .inl hk⟩
/-- the text of d -/
def fmtL (d : Int) : List UInt8 :=
  (if near d < 0 then [45] else []) ++ Lib.decDigits ((near d).natAbs / 10000) ++ (if (near d).natAbs % 10000 = 0 then [] else 46 :: trimZ (low 4 ((near d).natAbs % 10000)))
/-- the loop that strikes zeros at the end -/
structure TrI (R : List UInt8) (t : ByteArray) : Prop where
  eq : trimZ t.data.toList = R
  ne : R ≠ []
theorem TrI.pos {R : List UInt8} {t : ByteArray} (h : TrI R t) : 0 < t.size := by
  apply Nat.pos_of_ne_zero
  intro h0
  have h1 : t.data.toList = [] := List.eq_nil_of_length_eq_zero (by rw [← size_len]; exact h0)
  have := h.eq
  rw [h1] at this
  exact h.ne this.symm
theorem list_last (t : ByteArray) (h : t.size - 1 < t.size) : t.data.toList = t.data.toList.take (t.size - 1) ++ [t[t.size - 1]] := by
  have h1 := drop_lt t (t.size - 1) h
  have h2 := drop_ge t (t.size - 1 + 1) (by omega)
  rw [h2] at h1
  rw [← h1, List.take_append_drop]
theorem TrI.hit {R : List UInt8} {t : ByteArray} (h : TrI R t) (hl : t.size - 1 < t.size) (hc : (t[t.size - 1].toNat : Int) = 48) : TrI R (t.extract 0 (t.size - 1)) := by
  refine ⟨?_, h.ne⟩
  have h1 := h.eq
  rw [list_last t hl] at h1
  have h3 : t[t.size - 1] = 48 := by apply UInt8.toNat_inj.1; have : (48 : UInt8).toNat = 48 := rfl; omega
  rw [h3, trimZ_hit] at h1
  rw [ext_mid]; simpa using h1
theorem TrI.miss {R : List UInt8} {t : ByteArray} (h : TrI R t) (hl : t.size - 1 < t.size) (hc : ¬ (t[t.size - 1].toNat : Int) = 48) : t.data.toList = R := by
  have h1 := h.eq
  have h3 : t[t.size - 1] ≠ 48 := fun e => hc (by rw [e]; rfl)
  rw [list_last t hl, trimZ_miss _ _ h3, ← list_last t hl] at h1
  exact h1
end Byt
