/- plain: what the scanner does at an offset -/
import Derived.Test.YtbioflajonafdaaSplain
import Derived.Test.YtbioflajonafdaaTplain2
import Derived.Test.YtbioflajonafdaaByt4
namespace Tx
open Go
def lt (c : Nat) : Bool := (decide (97 ≤ c) && decide (c ≤ 122)) || (decide (65 ≤ c) && decide (c ≤ 90)) || decide (c = 95)
def dgn (c : Nat) : Bool := decide (48 ≤ c) && decide (c ≤ 57)
def wb (c : Nat) : Bool := lt c || dgn c
/-- the end of a word -/
def wendF : Nat → ByteArray → Nat → Nat
  | 0, _, a => a
  | f + 1, s, a => if wb (pk s a) then wendF f s (a + 1) else a
def wend (s : ByteArray) (a : Nat) : Nat := wendF (s.size - a) s a
theorem pk_ge {s : ByteArray} {i : Nat} (h : s.size ≤ i) : pk s i = 0 := by unfold pk; rw [dif_neg (by omega)]
theorem pk_at {s : ByteArray} {i : Nat} (h : i < s.size) : pk s i = s[i].toNat := by unfold pk; rw [dif_pos h]
theorem wb_lt {s : ByteArray} {i : Nat} (h : wb (pk s i) = true) : i < s.size := by
  by_cases hl : i < s.size
  · exact hl
  · rw [pk_ge (by omega)] at h; exact absurd h (by decide)
theorem wendF_more : ∀ (f g : Nat) (s : ByteArray) (a : Nat), s.size ≤ a + f → s.size ≤ a + g → wendF f s a = wendF g s a := by
  intro f
  induction f with
  | zero =>
    intro g s a h _
    cases g with
    | zero => rfl
    | succ g => simp only [wendF]; rw [pk_ge (by omega), if_neg (by decide)]
  | succ f ih =>
    intro g s a h h'
    cases g with
    | zero => simp only [wendF]; rw [pk_ge (by omega), if_neg (by decide)]
    | succ g => simp only [wendF]; rw [ih g s (a + 1) (by omega) (by omega)]
theorem wend_step {s : ByteArray} {a : Nat} (h : wb (pk s a) = true) : wend s a = wend s (a + 1) := by
  have hl := wb_lt h
  unfold wend
  rw [show s.size - a = (s.size - a - 1) + 1 by omega]
  simp only [wendF]; rw [if_pos h]
  exact wendF_more _ _ s _ (by omega) (by omega)
theorem wend_stop {s : ByteArray} {a : Nat} (h : wb (pk s a) = false) : wend s a = a := by
  unfold wend
  cases s.size - a with
  | zero => rfl
  | succ f => simp only [wendF]; rw [if_neg (by rw [h]; decide)]
theorem wend_bd (s : ByteArray) : ∀ (k a : Nat), s.size - a = k → a ≤ s.size → a ≤ wend s a ∧ wend s a ≤ s.size ∧ wb (pk s (wend s a)) = false ∧ ∀ j, a ≤ j → j < wend s a → wb (pk s j) = true := by
  intro k
  induction k with
  | zero => intro a hk ha; have e : wb (pk s a) = false := by (rw [pk_ge (by omega)]; decide)
            rw [wend_stop e]; exact ⟨Nat.le_refl _, ha, e, fun j _ _ => by omega⟩
  | succ k ih =>
    intro a hk ha
    cases e : wb (pk s a) with
    | false => rw [wend_stop e]; exact ⟨Nat.le_refl _, ha, e, fun j _ _ => by omega⟩
    | true =>
      rw [wend_step e]
      obtain ⟨h1, h2, h3, h4⟩ := ih (a + 1) (by omega) (by omega)
      exact ⟨by omega, h2, h3, fun j hj hj' => by
        by_cases hja : j = a
        · rw [hja]; exact e
        · exact h4 j (by omega) hj'⟩
/-- the byte that closes -/
def clzF : Nat → ByteArray → Nat → Nat → Option Nat
  | 0, _, _, _ => none
  | f + 1, s, c, i => if s.size ≤ i then none else if pk s i = c then some i else if pk s i = 10 then none
    else if pk s i = 92 then (if pk s (i + 1) = 10 then none else clzF f s c (i + 2)) else clzF f s c (i + 1)
def clz (s : ByteArray) (c i : Nat) : Option Nat := clzF (s.size - i) s c i
theorem clzF_more : ∀ (f g : Nat) (s : ByteArray) (c i : Nat), s.size ≤ i + f → s.size ≤ i + g → clzF f s c i = clzF g s c i := by
  intro f
  induction f with
  | zero =>
    intro g s c i h _
    cases g with
    | zero => rfl
    | succ g => simp only [clzF]; rw [if_pos (by omega)]
  | succ f ih =>
    intro g s c i h h'
    cases g with
    | zero => simp only [clzF]; rw [if_pos (by omega)]
    | succ g => simp only [clzF, ih g s c (i + 1) (by omega) (by omega), ih g s c (i + 2) (by omega) (by omega)]
theorem clz_eq (s : ByteArray) (c i : Nat) : clz s c i = if s.size ≤ i then none else if pk s i = c then some i else if pk s i = 10 then none
    else if pk s i = 92 then (if pk s (i + 1) = 10 then none else clz s c (i + 2)) else clz s c (i + 1) := by
  unfold clz
  by_cases h : s.size ≤ i
  · rw [if_pos h, show s.size - i = 0 by omega]; rfl
  · rw [if_neg h]
    have e : s.size - i = (s.size - i - 1) + 1 := by omega
    conv => lhs; rw [e]
    simp only [clzF]; rw [if_neg h, clzF_more (s.size - i - 1) (s.size - (i + 2)) s c (i + 2) (by omega) (by omega), clzF_more (s.size - i - 1) (s.size - (i + 1)) s c (i + 1) (by omega) (by omega)]
theorem clz_bd (s : ByteArray) (c : Nat) : ∀ (k i e : Nat), s.size - i ≤ k → clz s c i = some e → i ≤ e ∧ e < s.size ∧ pk s e = c := by
  intro k
  induction k with
  | zero => intro i e hk h; rw [clz_eq, if_pos (by omega)] at h; cases h
  | succ k ih =>
    intro i e hk h
    rw [clz_eq] at h
    split at h
    · cases h
    · split at h
      · cases h; exact ⟨Nat.le_refl _, by omega, by assumption⟩
      · split at h
        · cases h
        · split at h
          · split at h
            · cases h
            · have := ih (i + 2) e (by omega) h; exact ⟨by omega, this.2⟩
          · have := ih (i + 1) e (by omega) h; exact ⟨by omega, this.2⟩
structure Tok where
  k : Int
  t : ByteArray
  n : Int
  a : Int
/-- what is at an offset: a token and its end, an error and its offset, or nothing up to an offset -/
inductive Out where
  | tk (k : Int) (t : ByteArray) (n : Int) (b : Nat)
  | er (e : Int) (k : Nat)
  | sk (b : Nat)
def aft (L : List (List UInt8)) (T : List Tok) : Bool := match T.getLast? with
  | none => false
  | some t => (decide (t.k = 7) || decide (t.k = 6)) && decide (t.t.data.toList ∈ L)
def dvL : List (List UInt8) := [[41], [93], [43, 43], [45, 45]]
def dvs (T : List Tok) : Bool := match T.getLast? with
  | none => false
  | some t => decide (t.k = 1) || decide (t.k = 2) || decide (t.k = 3) || decide (t.k = 4) || aft dvL T
def skL : List (List UInt8) := [[44], [123], [38, 38], [124, 124], [100, 111], [101, 108, 115, 101]]
def kwL : List (List UInt8) := [[66, 69, 71, 73, 78], [69, 78, 68], [102, 117, 110, 99, 116, 105, 111, 110], [105, 102], [101, 108, 115, 101], [119, 104, 105, 108, 101], [102, 111, 114], [100, 111], [105, 110], [110, 101, 120, 116], [101, 120, 105, 116], [114, 101, 116, 117, 114, 110], [98, 114, 101, 97, 107], [99, 111, 110, 116, 105, 110, 117, 101], [100, 101, 108, 101, 116, 101], [112, 114, 105, 110, 116], [112, 114, 105, 110, 116, 102], [103, 101, 116, 108, 105, 110, 101]]
def twL : List (List UInt8) := [[43, 61], [45, 61], [42, 61], [47, 61], [37, 61], [94, 61], [61, 61], [60, 61], [62, 61], [33, 61], [33, 126], [43, 43], [45, 45], [38, 38], [124, 124], [62, 62]]
def onL : List UInt8 := [123, 125, 40, 41, 91, 93, 59, 44, 43, 45, 42, 47, 37, 94, 33, 60, 62, 63, 58, 126, 36, 61]
def numM (s : ByteArray) (a : Nat) : Out :=
  if 15 < Byt.preN (s.data.toList.drop a) then .er 3 a else .tk 1 ⟨#[]⟩ (Byt.preV (s.data.toList.drop a)) (a + Byt.preN (s.data.toList.drop a))
def wordM (s : ByteArray) (a : Nat) : Out :=
  if (s.extract a (wend s a)).data.toList ∈ kwL then .tk 6 (s.extract a (wend s a)) 0 (wend s a)
  else if 32 < wend s a - a then .er 3 a
  else if pk s (wend s a) = 40 then .tk 5 (s.extract a (wend s a)) 0 (wend s a)
  else .tk 4 (s.extract a (wend s a)) 0 (wend s a)
def quoM (s : ByteArray) (c a : Nat) : Out := match clz s c (a + 1) with
  | none => .er 1 a
  | some e => if c = 47 then .tk 3 (s.extract (a + 1) e) 0 (e + 1) else match unesc (s.extract (a + 1) e).data.toList with
    | .ok l => .tk 2 ⟨l.toArray⟩ 0 (e + 1)
    | .error k => .er 1 (a + 1 + k)
def markM (s : ByteArray) (a : Nat) : Out :=
  if (s.extract a (min (a + 2) s.size)).data.toList ∈ twL then .tk 7 (s.extract a (min (a + 2) s.size)) 0 (a + 2)
  else if (pk s a).toUInt8 ∈ onL then .tk 7 (s.extract a (a + 1)) 0 (a + 1) else .er 1 a
def tokM (s : ByteArray) (a : Nat) (T : List Tok) : Out :=
  if pk s a = 10 then (if aft skL T then .sk (a + 1) else .tk 8 ⟨#[]⟩ 0 (a + 1))
  else if dgn (pk s a) ∨ pk s a = 46 ∧ dgn (pk s (a + 1)) then numM s a
  else if lt (pk s a) then wordM s a
  else if pk s a = 34 then quoM s 34 a
  else if pk s a = 47 ∧ dvs T = false then quoM s 47 a
  else markM s a
inductive Res where
  | ok (T : List Tok)
  | err (e : Int) (k : Nat)
def runF : Nat → ByteArray → Nat → List Tok → Res
  | 0, _, _, T => .ok T
  | f + 1, s, a, T => if s.size ≤ skS s a then .ok (T ++ [⟨0, ⟨#[]⟩, 0, (skS s a : Nat)⟩]) else match tokM s (skS s a) T with
    | .sk b => runF f s b T
    | .tk k t n b => runF f s b (T ++ [⟨k, t, n, (skS s a : Nat)⟩])
    | .er e k => .err e k
def runM (s : ByteArray) (a : Nat) (T : List Tok) : Res := runF (s.size + 1 - a) s a T
end Tx
