/- plain: scripts of the command language: tokens, commands, pipelines -/
import Derived.WalkKit
import Derived.Lib.Hide
namespace Go.Proofs.YtlhagpfpcdedpaaDoor
namespace Shp
/-- a loop whose measure falls -/
def iter {α : Type} (mu : α → Nat) (step : α → Option α) (x : α) : α :=
  match step x with
  | none => x
  | some y => if mu y < mu x then iter mu step y else x
termination_by mu x
theorem iter_none {α : Type} {mu : α → Nat} {step : α → Option α} {x : α} (h : step x = none) : iter mu step x = x := by
  rw [iter, h]
theorem iter_some {α : Type} {mu : α → Nat} {step : α → Option α} {x y : α} (h : step x = some y) (hm : mu y < mu x) : iter mu step x = iter mu step y := by
  rw [iter, h]; simp only; rw [if_pos hm]
/-- what each step keeps holds at the end -/
theorem iter_keeps {α : Type} {mu : α → Nat} {step : α → Option α} (P : α → Prop) (hP : ∀ x y, P x → step x = some y → P y) (x : α) (h : P x) : P (iter mu step x) := by
  generalize hn : mu x = n
  induction n using Nat.strongRecOn generalizing x with
  | ind n ih =>
    rw [iter]
    cases hs : step x with
    | none => exact h
    | some y =>
      simp only
      split
      · rename_i hm
        exact ih (mu y) (by omega) y (hP x y h hs) rfl
      · exact h
/-- at the end no step is left, if the measure falls wherever P holds -/
theorem iter_end {α : Type} {mu : α → Nat} {step : α → Option α} (P : α → Prop) (hP : ∀ x y, P x → step x = some y → P y ∧ mu y < mu x) (x : α) (h : P x) : step (iter mu step x) = none := by
  generalize hn : mu x = n
  induction n using Nat.strongRecOn generalizing x with
  | ind n ih =>
    rw [iter]
    cases hs : step x with
    | none => exact hs
    | some y =>
      obtain ⟨h1, h2⟩ := hP x y h hs
      simp only
      rw [if_pos h2]
      exact ih (mu y) (by omega) y h1 rfl
/-- the byte at an offset -/
def at? (s : ByteArray) (j : Nat) : Option UInt8 := s.data.toList[j]?
theorem at_lt {s : ByteArray} {j : Nat} (h : j < s.size) : at? s j = some s[j] := by
  unfold at?; rw [List.getElem?_eq_getElem (show j < s.data.toList.length from h)]; rfl
theorem at_ge {s : ByteArray} {j : Nat} (h : s.size ≤ j) : at? s j = none := List.getElem?_eq_none h
theorem at_some {s : ByteArray} {j : Nat} {c : UInt8} (h : at? s j = some c) : ∃ hj : j < s.size, s[j] = c := by
  obtain ⟨hj, e⟩ := List.getElem?_eq_some_iff.1 h
  exact ⟨hj, e⟩
/-- the next line feed from an offset on, or the end -/
def nlF (s : ByteArray) (j : Nat) : Nat := j + ((s.data.toList.drop j).takeWhile (· != 10)).length
/-- one step over what can stand between tokens -/
def sk1 (s : ByteArray) (j : Nat) : Option Nat :=
  match at? s j with
  | none => none
  | some c => if c = 32 ∨ c = 9 then some (j + 1) else if c = 92 ∧ at? s (j + 1) = some 10 then some (j + 2) else if c = 35 then some (nlF s j) else none
def skS (s : ByteArray) (j : Nat) : Nat := iter (fun j => s.size - j) (sk1 s) j
theorem nlF_le (s : ByteArray) (j : Nat) (h : j ≤ s.size) : nlF s j ≤ s.size := by
  unfold nlF
  have := (List.takeWhile_sublist (fun c : UInt8 => c != 10) (l := s.data.toList.drop j)).length_le
  rw [List.length_drop] at this
  have e : s.data.toList.length = s.size := rfl
  omega
theorem nlF_lt (s : ByteArray) (j : Nat) (h : at? s j = some 35) : j < nlF s j := by
  obtain ⟨hj, e⟩ := List.getElem?_eq_some_iff.1 h
  unfold nlF
  rw [List.drop_eq_getElem_cons hj, e, List.takeWhile_cons, if_pos (by decide)]
  simp
theorem sk1_lt {s : ByteArray} {j k : Nat} (h : sk1 s j = some k) : j < k ∧ k ≤ s.size := by
  unfold sk1 at h
  cases hc : at? s j with
  | none => rw [hc] at h; cases h
  | some c =>
    obtain ⟨hj, _⟩ := at_some hc
    rw [hc] at h
    simp only at h
    split at h
    · cases h; omega
    · split at h
      · rename_i h2
        obtain ⟨hj2, _⟩ := at_some h2.2
        cases h; omega
      · split at h
        · rename_i h3
          cases h
          subst h3
          exact ⟨nlF_lt s j hc, nlF_le s j (by omega)⟩
        · cases h
theorem skS_none {s : ByteArray} {j : Nat} (h : sk1 s j = none) : skS s j = j := iter_none h
theorem skS_step {s : ByteArray} {j k : Nat} (h : sk1 s j = some k) : skS s j = skS s k := iter_some h (by have := sk1_lt h; omega)
theorem skS_le (s : ByteArray) (j : Nat) (h : j ≤ s.size) : j ≤ skS s j ∧ skS s j ≤ s.size :=
  iter_keeps (fun k => j ≤ k ∧ k ≤ s.size) (fun x y hx hs => by have := sk1_lt hs; omega) j ⟨Nat.le_refl _, h⟩
theorem skS_stop (s : ByteArray) (j : Nat) : sk1 s (skS s j) = none :=
  iter_end (fun _ => True) (fun x y _ hs => ⟨trivial, by have := sk1_lt hs; omega⟩) j trivial
/-- a byte that ends a part of a word -/
def spB (c : UInt8) : Bool := c == 32 || c == 9 || c == 10 || c == 124 || c == 59 || c == 38 || c == 60 || c == 62
/-- the operator at an offset -/
def opT (s : ByteArray) (j : Nat) : Option (List UInt8) :=
  match at? s j with
  | none => none
  | some c =>
    if c = 10 then some [10]
    else if c = 124 then (if at? s (j + 1) = some 124 then some [124, 124] else some [124])
    else if c = 59 then some [59]
    else if c = 38 then (if at? s (j + 1) = some 38 then some [38, 38] else none)
    else if c = 60 then some [60]
    else if c = 62 then (if at? s (j + 1) = some 62 then some [62, 62] else some [62])
    else none
theorem opT_len {s : ByteArray} {j : Nat} {o : List UInt8} (h : opT s j = some o) : 1 ≤ o.length ∧ j + o.length ≤ s.size := by
  unfold opT at h
  cases hc : at? s j with
  | none => rw [hc] at h; cases h
  | some c =>
    obtain ⟨hj, _⟩ := at_some hc
    rw [hc] at h
    simp only at h
    have two : ∀ {d : UInt8}, at? s (j + 1) = some d → j + 2 ≤ s.size := fun hd => by obtain ⟨h2, _⟩ := at_some hd; omega
    split at h
    · cases h; exact ⟨by decide, by simp; omega⟩
    split at h
    · split at h
      · rename_i h2; cases h; exact ⟨by decide, two h2⟩
      · cases h; exact ⟨by decide, by simp; omega⟩
    split at h
    · cases h; exact ⟨by decide, by simp; omega⟩
    split at h
    · split at h
      · rename_i h2; cases h; exact ⟨by decide, two h2⟩
      · cases h
    split at h
    · cases h; exact ⟨by decide, by simp; omega⟩
    split at h
    · split at h
      · rename_i h2; cases h; exact ⟨by decide, two h2⟩
      · cases h; exact ⟨by decide, by simp; omega⟩
    · cases h
/-- one step between quotes -/
def qu1 (s : ByteArray) (q : UInt8) (x : Nat × List UInt8) : Option (Nat × List UInt8) :=
  match at? s x.1 with
  | none => none
  | some c =>
    if c = q then none
    else match (if q = 34 ∧ c = 92 then at? s (x.1 + 1) else none) with
      | some d => if d = 34 ∨ d = 92 then some (x.1 + 2, x.2 ++ [d]) else some (x.1 + 1, x.2 ++ [c])
      | none => some (x.1 + 1, x.2 ++ [c])
def quS (s : ByteArray) (q : UInt8) (x : Nat × List UInt8) : Nat × List UInt8 := iter (fun x => s.size - x.1) (qu1 s q) x
theorem qu1_lt {s : ByteArray} {q : UInt8} {x y : Nat × List UInt8} (h : qu1 s q x = some y) : x.1 < y.1 ∧ y.1 ≤ s.size := by
  unfold qu1 at h
  cases hc : at? s x.1 with
  | none => rw [hc] at h; cases h
  | some c =>
    obtain ⟨hj, _⟩ := at_some hc
    rw [hc] at h
    simp only at h
    split at h
    · cases h
    · split at h
      · rename_i d hd
        have h2 : x.1 + 2 ≤ s.size := by
          split at hd
          · obtain ⟨h2, _⟩ := at_some hd; omega
          · cases hd
        split at h <;> (cases h; simp only; omega)
      · cases h; simp only; omega
theorem quS_none {s : ByteArray} {q : UInt8} {x : Nat × List UInt8} (h : qu1 s q x = none) : quS s q x = x := iter_none h
theorem quS_step {s : ByteArray} {q : UInt8} {x y : Nat × List UInt8} (h : qu1 s q x = some y) : quS s q x = quS s q y := iter_some h (by have := qu1_lt h; omega)
theorem quS_le (s : ByteArray) (q : UInt8) (x : Nat × List UInt8) (h : x.1 ≤ s.size) : x.1 ≤ (quS s q x).1 ∧ (quS s q x).1 ≤ s.size :=
  iter_keeps (fun y : Nat × List UInt8 => x.1 ≤ y.1 ∧ y.1 ≤ s.size) (fun a b ha hs => by have := qu1_lt hs; omega) x ⟨Nat.le_refl _, h⟩
/-- what stands between quotes, from the offset of the first one on, and the offset behind the second one -/
def quP (s : ByteArray) (q : UInt8) (j : Nat) : Option (List UInt8 × Nat) :=
  if at? s (quS s q (j + 1, [])).1 = some q then some ((quS s q (j + 1, [])).2, (quS s q (j + 1, [])).1 + 1) else none
/-- a part of a word -/
def part (s : ByteArray) (j : Nat) : Option (List UInt8 × Nat) :=
  match at? s j with
  | none => none
  | some c =>
    if c = 39 ∨ c = 34 then quP s c j
    else if c = 92 then (match at? s (j + 1) with
      | none => none
      | some d => if d = 10 then some ([], j + 2) else some ([d], j + 2))
    else some ([c], j + 1)
theorem part_lt {s : ByteArray} {j : Nat} {x : List UInt8 × Nat} (h : part s j = some x) : j < x.2 ∧ x.2 ≤ s.size := by
  unfold part at h
  cases hc : at? s j with
  | none => rw [hc] at h; cases h
  | some c =>
    obtain ⟨hj, _⟩ := at_some hc
    rw [hc] at h
    simp only at h
    split at h
    · unfold quP at h
      split at h
      · rename_i h2
        obtain ⟨h3, _⟩ := at_some h2
        have := (quS_le s c (j + 1, []) (by simp only; omega)).1
        cases h; simp only at *; omega
      · cases h
    · split at h
      · split at h
        · cases h
        · rename_i d hd
          obtain ⟨h3, _⟩ := at_some hd
          split at h <;> (cases h; simp only; omega)
      · cases h; simp only; omega
/-- one step of a word -/
def wd1 (s : ByteArray) (x : Nat × List UInt8) : Option (Nat × List UInt8) :=
  match at? s x.1 with
  | none => none
  | some c => if spB c = true then none else (part s x.1).map fun p => (p.2, x.2 ++ p.1)
def wdS (s : ByteArray) (x : Nat × List UInt8) : Nat × List UInt8 := iter (fun x => s.size - x.1) (wd1 s) x
theorem wd1_lt {s : ByteArray} {x y : Nat × List UInt8} (h : wd1 s x = some y) : x.1 < y.1 ∧ y.1 ≤ s.size := by
  unfold wd1 at h
  split at h
  · cases h
  · split at h
    · cases h
    · cases hp : part s x.1 with
      | none => rw [hp] at h; cases h
      | some p => rw [hp] at h; cases h; exact part_lt hp
theorem wdS_none {s : ByteArray} {x : Nat × List UInt8} (h : wd1 s x = none) : wdS s x = x := iter_none h
theorem wdS_step {s : ByteArray} {x y : Nat × List UInt8} (h : wd1 s x = some y) : wdS s x = wdS s y := iter_some h (by have := wd1_lt h; omega)
theorem wdS_le (s : ByteArray) (x : Nat × List UInt8) (h : x.1 ≤ s.size) : x.1 ≤ (wdS s x).1 ∧ (wdS s x).1 ≤ s.size :=
  iter_keeps (fun y : Nat × List UInt8 => x.1 ≤ y.1 ∧ y.1 ≤ s.size) (fun a b ha hs => by have := wd1_lt hs; omega) x ⟨Nat.le_refl _, h⟩
/-- a token: its kind (0: the end, 1: a word, 2: an operator), its text, whether it is an exclamation mark alone, its offset -/
structure Tk where
  k : Nat
  t : List UInt8
  b : Bool
  a : Nat
/-- the state: the present token and the offset behind it, or an error and its offset -/
inductive St
  | run (t : Tk) (a : Nat)
  | bad (e q : Int)
/-- the bytes from an offset to another one are an exclamation mark -/
def bangB (s : ByteArray) (i j : Nat) : Bool := decide ((s.data.toList.take j).drop i = [33])
/-- the word at an offset -/
def wordS (s : ByteArray) (j : Nat) : St :=
  match at? s (wdS s (j, [])).1 with
  | none => .run ⟨1, (wdS s (j, [])).2, bangB s j (wdS s (j, [])).1, j⟩ (wdS s (j, [])).1
  | some c => if spB c = true then .run ⟨1, (wdS s (j, [])).2, bangB s j (wdS s (j, [])).1, j⟩ (wdS s (j, [])).1 else .bad 1 (wdS s (j, [])).1
/-- the token at an offset at which one can begin -/
def tokS (s : ByteArray) (j : Nat) : St :=
  match at? s j with
  | none => .run ⟨0, [], false, s.size⟩ s.size
  | some c => match opT s j with
    | some o => .run ⟨2, o, false, j⟩ (j + o.length)
    | none => if c = 38 then .bad 1 j else wordS s j
/-- the next token from an offset on -/
def nx (s : ByteArray) (a : Nat) : St := tokS s (skS s a)
def rd (s : ByteArray) : St → St
  | .run _ a => nx s a
  | .bad e q => .bad e q
/-- is the present token this operator? -/
def isO (o : List UInt8) : St → Bool
  | .run t _ => decide (t.k = 2) && decide (t.t = o)
  | .bad _ _ => false
def endB : St → Bool
  | .run t _ => decide (t.k = 0)
  | .bad _ _ => false
def okB : St → Bool
  | .run _ _ => true
  | .bad _ _ => false
/-- the kind of a redirection -/
def knd (x : St) : Int := if isO [60] x then 1 else if isO [62] x then 2 else if isO [62, 62] x then 3 else 0
/-- can the present token begin a command? -/
def beg : St → Bool
  | .run t a => decide (t.k = 1) || decide (0 < knd (.run t a))
  | .bad _ _ => false
/-- the measure of the rest -/
def mu (s : ByteArray) : St → Nat
  | .run t a => s.size - a + (if t.k = 0 then 0 else 1)
  | .bad _ _ => 0
/-- a state whose offset lies in the text; at the end token it is its length -/
def Wf (s : ByteArray) : St → Prop
  | .run t a => a ≤ s.size ∧ (t.k = 0 → a = s.size ∧ t.a = s.size) ∧ t.a ≤ a
  | .bad _ q => 0 ≤ q ∧ q ≤ s.size
theorem spB_op {s : ByteArray} {j : Nat} {c : UInt8} (hc : at? s j = some c) (ho : opT s j = none) (h38 : c ≠ 38) : spB c = true → c = 32 ∨ c = 9 := by
  intro h
  unfold opT at ho
  rw [hc] at ho
  simp only at ho
  unfold spB at h
  simp only [Bool.or_eq_true, beq_iff_eq] at h
  rcases h with ((((((h | h) | h) | h) | h) | h) | h) | h
  · exact .inl h
  · exact .inr h
  · subst h; simp at ho
  · subst h; rw [if_neg (by decide), if_pos rfl] at ho; split at ho <;> cases ho
  · subst h; simp at ho
  · exact absurd h h38
  · subst h; simp at ho
  · subst h; rw [if_neg (by decide), if_neg (by decide), if_neg (by decide), if_neg (by decide), if_neg (by decide), if_pos rfl] at ho; split at ho <;> cases ho
/-- a word that begins where a token can begin has a byte at least -/
theorem word_lt {s : ByteArray} {j : Nat} {c : UInt8} (hc : at? s j = some c) (hs : spB c = false) : part s j = none ∨ j < (wdS s (j, [])).1 := by
  cases hp : part s j with
  | none => exact .inl rfl
  | some p =>
    have h1 : wd1 s (j, []) = some (p.2, [] ++ p.1) := by unfold wd1; simp only [hc]; rw [if_neg (by rw [hs]; decide), hp]; rfl
    have h2 := wd1_lt h1
    rw [wdS_step h1]
    have := (wdS_le s (p.2, [] ++ p.1) h2.2).1
    exact .inr (by simp only at *; omega)
end Shp
end Go.Proofs.YtlhagpfpcdedpaaDoor
