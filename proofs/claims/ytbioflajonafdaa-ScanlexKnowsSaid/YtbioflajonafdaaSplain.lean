/- plain: what the scanner skips -/
import Derived.Test.YtbioflajonafdaaTplain
import Derived.Lib.IndexBytes
import Derived.Lib.IndexLaws
namespace Tx
open Go
/-- the byte at an offset; 0 behind the end -/
def pk (s : ByteArray) (i : Nat) : Nat := if h : i < s.size then s[i].toNat else 0
/-- where a comment ends -/
def cend (s : ByteArray) (a : Nat) : Nat := a + ((s.data.toList.drop a).takeWhile (fun c => c != 10)).length
/-- one step of what is skipped at an offset -/
def sk1 (s : ByteArray) (a : Nat) : Option Nat :=
  if s.size ≤ a then none
  else if pk s a = 32 ∨ pk s a = 9 then some (a + 1)
  else if pk s a = 92 ∧ pk s (a + 1) = 10 then some (a + 2)
  else if pk s a = 35 then some (cend s a)
  else none
def skF : Nat → ByteArray → Nat → Nat
  | 0, _, a => a
  | f + 1, s, a => match sk1 s a with
    | none => a
    | some b => skF f s b
def skS (s : ByteArray) (a : Nat) : Nat := skF (s.size + 1 - a) s a
theorem pk_lt {s : ByteArray} {i n : Nat} (h : pk s i = n) (hn : 0 < n) : i < s.size := by
  unfold pk at h
  split at h
  · assumption
  · omega
theorem cend_le (s : ByteArray) (a : Nat) (h : a ≤ s.size) : a ≤ cend s a ∧ cend s a ≤ s.size := by
  unfold cend
  have := (List.takeWhile_sublist (fun c : UInt8 => c != 10) (l := s.data.toList.drop a)).length_le
  rw [List.length_drop, ← size_len] at this; omega
theorem cend_lt (s : ByteArray) (a : Nat) (h : pk s a = 35) : a < cend s a := by
  have ha := pk_lt h (by omega)
  unfold cend
  rw [List.drop_eq_getElem_cons (by rw [← size_len]; exact ha), List.takeWhile_cons_of_pos]
  · simp
  · unfold pk at h; rw [dif_pos ha] at h
    have e : s.data.toList[a]'(by rw [← size_len]; exact ha) = s[a] := rfl
    rw [e]
    simp only [bne_iff_ne]
    intro x; rw [x] at h; revert h; decide
theorem sk1_bd {s : ByteArray} {a b : Nat} (h : sk1 s a = some b) : a < b ∧ b ≤ s.size := by
  unfold sk1 at h
  split at h
  · cases h
  · rename_i h0
    split at h
    · cases h; omega
    · split at h
      · rename_i h2
        cases h
        have := pk_lt h2.2 (by omega); omega
      · split at h
        · rename_i h3
          cases h
          exact ⟨cend_lt s a h3, (cend_le s a (by omega)).2⟩
        · cases h
theorem skF_more : ∀ (f g : Nat) (s : ByteArray) (a : Nat), s.size + 1 ≤ a + f → s.size + 1 ≤ a + g → skF f s a = skF g s a := by
  intro f
  induction f with
  | zero =>
    intro g s a h _
    cases g with
    | zero => rfl
    | succ g =>
      have : sk1 s a = none := by unfold sk1; rw [if_pos (by omega)]
      simp only [skF, this]
  | succ f ih =>
    intro g s a h h'
    cases g with
    | zero =>
      have : sk1 s a = none := by unfold sk1; rw [if_pos (by omega)]
      simp only [skF, this]
    | succ g =>
      simp only [skF]
      cases hs : sk1 s a with
      | none => rfl
      | some b =>
        have := sk1_bd hs
        exact ih g s b (by omega) (by omega)
theorem skS_step {s : ByteArray} {a b : Nat} (h : sk1 s a = some b) : skS s a = skS s b := by
  have hb := sk1_bd h
  have e : s.size + 1 - a = (s.size - a) + 1 := by omega
  unfold skS
  rw [e]
  simp only [skF, h]
  exact skF_more _ _ s b (by omega) (by omega)
theorem skS_none {s : ByteArray} {a : Nat} (h : sk1 s a = none) : skS s a = a := by
  unfold skS
  cases s.size + 1 - a with
  | zero => rfl
  | succ f => simp only [skF, h]
theorem skS_bd (s : ByteArray) : ∀ (k a : Nat), s.size - a = k → a ≤ s.size → a ≤ skS s a ∧ skS s a ≤ s.size ∧ sk1 s (skS s a) = none := by
  intro k
  induction k using Nat.strongRecOn with
  | _ k ih =>
    intro a hk ha
    cases h : sk1 s a with
    | none => rw [skS_none h]; exact ⟨Nat.le_refl _, ha, h⟩
    | some b =>
      have hb := sk1_bd h
      rw [skS_step h]
      have := ih (s.size - b) (by omega) b rfl hb.2
      exact ⟨by omega, this.2⟩
/-- the next line feed, as strings.IndexByte finds it -/
theorem idx_nl (l : List UInt8) : (Lib.indexByte l 10 = -1 → (l.takeWhile (fun c => c != 10)).length = l.length) ∧ (∀ n : Nat, Lib.indexByte l 10 = n → (l.takeWhile (fun c => c != 10)).length = n) := by
  induction l with
  | nil => refine ⟨fun _ => rfl, fun n h => ?_⟩; simp [Lib.indexByte] at h
  | cons c r ih =>
    by_cases hc : c = 10
    · subst hc
      have e : Lib.indexByte (10 :: r) 10 = 0 := by simp [Lib.indexByte]
      rw [e]
      refine ⟨fun h => by omega, fun n h => ?_⟩
      rw [List.takeWhile_cons_of_neg (by decide)]
      show 0 = n; omega
    · have e : Lib.indexByte (c :: r) 10 = if Lib.indexByte r 10 == -1 then -1 else Lib.indexByte r 10 + 1 := by
        simp [Lib.indexByte, hc]
      rw [e, List.takeWhile_cons_of_pos (by simpa using hc), List.length_cons]
      by_cases hm : Lib.indexByte r 10 = -1
      · rw [hm]
        refine ⟨fun _ => by rw [ih.1 hm]; rfl, fun n h => ?_⟩
        have e2 : (if ((-1 : Int) == -1) = true then (-1 : Int) else -1 + 1) = -1 := by decide
        rw [e2] at h; omega
      · rw [if_neg (by simpa using hm)]
        refine ⟨fun h => ?_, fun n h => ?_⟩
        · have := (ih.2 0); exfalso
          have h0 : Lib.indexByte r 10 = -2 := by omega
          have hge : -1 ≤ Lib.indexByte r 10 := by rw [← Lib.index_one]; exact Lib.index_ge _ _
          omega
        · cases n with
          | zero =>
            have hge : -1 ≤ Lib.indexByte r 10 := by rw [← Lib.index_one]; exact Lib.index_ge _ _
            omega
          | succ n => rw [ih.2 n (by omega)]
end Tx
