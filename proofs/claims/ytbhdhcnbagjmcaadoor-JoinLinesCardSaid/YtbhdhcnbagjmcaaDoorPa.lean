/- plain: the fields of a line, what is printed of a pair, the joined lines -/
import Derived.Lib.SplitLaws
import Derived.Lib.Join
import Derived.Lib.Bytealg
namespace Jn
open Go
def isB (c : UInt8) : Bool := decide (c = 32) || decide (c = 9)
/-- the pieces at a byte, behind a part of a piece -/
def spA (b : UInt8) : List UInt8 → List UInt8 → List (List UInt8)
  | cur, [] => [cur]
  | cur, c :: r => if c = b then cur :: spA b [] r else spA b (cur ++ [c]) r
/-- the words between blanks, behind a part of a word -/
def wdA : List UInt8 → List UInt8 → List (List UInt8)
  | cur, [] => if cur = [] then [] else [cur]
  | cur, c :: r => if isB c then (if cur = [] then wdA [] r else cur :: wdA [] r) else wdA (cur ++ [c]) r
theorem spA_hit (b : UInt8) (cur r : List UInt8) : spA b cur (b :: r) = cur :: spA b [] r := by simp [spA]
theorem spA_no {b c : UInt8} (h : c ≠ b) (cur r : List UInt8) : spA b cur (c :: r) = spA b (cur ++ [c]) r := by simp [spA, h]
theorem wdA_sp {c : UInt8} (h : isB c = true) (cur r : List UInt8) : wdA cur (c :: r) = (if cur = [] then [] else [cur]) ++ wdA [] r := by
  simp only [wdA]; rw [if_pos h]; split <;> rfl
theorem wdA_no {c : UInt8} (h : isB c = false) (cur r : List UInt8) : wdA cur (c :: r) = wdA (cur ++ [c]) r := by
  simp only [wdA]; rw [if_neg (by rw [h]; decide)]
theorem wdA_run : ∀ (l cur r : List UInt8), (∀ c ∈ l, isB c = false) → wdA cur (l ++ r) = wdA (cur ++ l) r := by
  intro l
  induction l with
  | nil => intro cur r _; simp
  | cons x t ih =>
    intro cur r h
    rw [List.cons_append, wdA_no (h x (by simp)), ih _ _ (fun c hc => h c (by simp [hc]))]
    simp
theorem spA_ne (b : UInt8) (l cur : List UInt8) : ∃ h t, spA b cur l = h :: t := by
  induction l generalizing cur with
  | nil => exact ⟨_, _, rfl⟩
  | cons c r ih =>
    by_cases hc : c = b
    · subst hc; exact ⟨_, _, spA_hit ..⟩
    · rw [spA_no hc]; exact ih _
theorem spA_cur (b : UInt8) : ∀ (l cur : List UInt8) (h : List UInt8) (t : List (List UInt8)), spA b [] l = h :: t → spA b cur l = (cur ++ h) :: t := by
  intro l
  induction l with
  | nil => intro cur h t e; simp only [spA] at e ⊢; cases e; simp
  | cons c r ih =>
    intro cur h t e
    by_cases hc : c = b
    · subst hc
      rw [spA_hit] at e ⊢
      cases e; simp
    · rw [spA_no hc] at e ⊢
      obtain ⟨h', t', e'⟩ := spA_ne b r []
      rw [ih _ _ _ e'] at e ⊢
      cases e; simp
/-- strings.Split's pieces at a byte -/
theorem split_spA (b : UInt8) : ∀ l : List UInt8, Lib.split l [b] = spA b [] l := by
  intro l
  induction l with
  | nil => rfl
  | cons c l ih =>
    by_cases hc : c = b
    · subst hc
      have hix : Lib.index (c :: l) [c] = 0 := by rw [Lib.index]; simp [List.isPrefixOf]
      unfold Lib.split at ih ⊢
      rw [Lib.count_cons_eq, Nat.add_comm 1, Lib.splitK, hix, spA_hit, ← ih]
      simp
    · obtain ⟨h, t, e⟩ := spA_ne b l []
      rw [spA_no hc, List.nil_append, spA_cur b l [c] h t e]
      rw [e] at ih
      have hp : ([b] : List UInt8).isPrefixOf (c :: l) = false := by simp [List.isPrefixOf, Ne.symm hc]
      have hix : Lib.index (c :: l) [b] = if Lib.index l [b] == -1 then -1 else Lib.index l [b] + 1 := by rw [Lib.index, hp]; simp
      unfold Lib.split at ih ⊢
      rw [Lib.count_cons_ne c b l hc]
      generalize Lib.count l [b] = k at ih
      cases k with
      | zero =>
        rw [Lib.splitK] at ih ⊢
        cases ih; rfl
      | succ k =>
        rw [Lib.splitK] at ih ⊢
        by_cases hm : Lib.index l [b] = -1
        · rw [hm] at hix ih
          have hix' : Lib.index (c :: l) [b] = -1 := by rw [hix]; rfl
          rw [hix']
          rw [if_pos (by rfl)] at ih ⊢
          cases ih; rfl
        · have hge := Lib.index_ge l [b]
          obtain ⟨j, hj⟩ : ∃ j : Nat, Lib.index l [b] = j := ⟨(Lib.index l [b]).toNat, by omega⟩
          rw [hj] at ih
          have hix' : Lib.index (c :: l) [b] = ((j + 1 : Nat) : Int) := by rw [hix, if_neg (fun e => hm (beq_iff_eq.1 e)), hj]; omega
          rw [hix']
          have n1 : ¬ (((j : Nat) : Int) == -1) = true := fun e => by have := beq_iff_eq.1 e; omega
          have n2 : ¬ (((j + 1 : Nat) : Int) == -1) = true := fun e => by have := beq_iff_eq.1 e; omega
          rw [if_neg n1] at ih
          rw [if_neg n2]
          have e1 : ((j + 1 : Nat) : Int).toNat = j + 1 := by omega
          have e2 : ((j : Nat) : Int).toNat = j := by omega
          rw [e2] at ih
          rw [e1]
          simp only [Nat.add_zero] at ih ⊢
          cases ih
          rfl
theorem splitB_spA (b : UInt8) (s : ByteArray) : (Lib.splitB ⟨#[b]⟩ 0 (Lib.countB s ⟨#[b]⟩) s).map (·.data.toList) = spA b [] s.data.toList := by
  rw [Lib.splitB_data]; exact split_spA b s.data.toList
/-- the fields of a line -/
def fieldsL (sep : Int) (l : List UInt8) : List (List UInt8) := if 0 ≤ sep ∧ sep ≤ 255 then spA (UInt8.ofNat sep.toNat) [] l else wdA [] l
/-- a field, the empty string if there is none -/
def getL (L : List (List UInt8)) (n : Int) : List UInt8 := if n < 1 then [] else L.getD (n - 1).toNat []
def keyL (sep n : Int) (l : List UInt8) : List UInt8 := getL (fieldsL sep l) n
/-- all fields but one -/
def othL (n : Int) : Nat → List (List UInt8) → List (List UInt8)
  | _, [] => []
  | i, x :: r => if (i : Int) + 1 = n then othL n (i + 1) r else x :: othL n (i + 1) r
/-- what a specification says -/
structure Sp where
  f1 : Int
  f2 : Int
  sep : Int
  left : Bool
  right : Bool
  paired : Bool
  empty : List UInt8
  out : List (Int × Int)
def fldB (n : Int) : Bool := decide (1 ≤ n) && decide (n ≤ 1024)
def outB (o : Int × Int) : Bool := (decide (o.1 = 0) && decide (o.2 = 0)) || ((decide (o.1 = 1) || decide (o.1 = 2)) && fldB o.2)
def headB (p : Sp) : Bool := fldB p.f1 && fldB p.f2 && decide (-1 ≤ p.sep) && decide (p.sep ≤ 255) && !decide (p.sep = 10)
/-- the error of a specification -/
def chkJ (p : Sp) : Int :=
  if headB p = false then 2 else if (10 : UInt8) ∈ p.empty then 1 else if 1024 < p.out.length then 3 else if p.out.all outB then 0 else 2
def xO (p : Sp) : Option (List UInt8) → List (List UInt8)
  | none => []
  | some s => fieldsL p.sep s
def keyO (p : Sp) : Option (List UInt8) → Option (List UInt8) → List UInt8
  | some s, _ => keyL p.sep p.f1 s
  | none, some s => keyL p.sep p.f2 s
  | none, none => []
def outF (p : Sp) (x y : List (List UInt8)) (key : List UInt8) (o : Int × Int) : List UInt8 :=
  let s := if o.1 = 1 then getL x o.2 else if o.1 = 2 then getL y o.2 else key
  if s = [] then p.empty else s
/-- the fields that are printed for a pair, or for a line that is alone -/
def rowO (p : Sp) (a b : Option (List UInt8)) : List (List UInt8) :=
  if p.out = [] then keyO p a b :: (othL p.f1 0 (xO p a) ++ othL p.f2 0 (xO p b)) else p.out.map (outF p (xO p a) (xO p b) (keyO p a b))
def sepL (sep : Int) : List UInt8 := if 0 ≤ sep then [UInt8.ofNat sep.toNat] else [32]
def putL (p : Sp) (a b : Option (List UInt8)) : List UInt8 := Lib.join (rowO p a b) (sepL p.sep)
/-- how many lines at the beginning have the join field of the first one -/
def grpN (key : List UInt8 → List UInt8) : List (List UInt8) → Nat
  | [] => 0
  | x :: r => 1 + (r.takeWhile fun y => decide (key y = key x)).length
def pairsL (p : Sp) (a b : List (List UInt8)) : List (List UInt8) := a.flatMap fun x => b.map fun y => putL p (some x) (some y)
def ordJ (p : Sp) (cmp : List UInt8 → List UInt8 → Int) : List (List UInt8) → List (List UInt8) → Int
  | [], _ => 1
  | _ :: _, [] => -1
  | x :: _, y :: _ => cmp (keyL p.sep p.f1 x) (keyL p.sep p.f2 y)
/-- the joined lines -/
def joinF (p : Sp) (cmp : List UInt8 → List UInt8 → Int) : Nat → List (List UInt8) → List (List UInt8) → List (List UInt8)
  | 0, _, _ => []
  | n + 1, a, b =>
    if a = [] ∧ b = [] then [] else
    if ordJ p cmp a b < 0 then (if p.left then (a.take 1).map (fun x => putL p (some x) none) else []) ++ joinF p cmp n (a.drop 1) b
    else if 0 < ordJ p cmp a b then (if p.right then (b.take 1).map (fun y => putL p none (some y)) else []) ++ joinF p cmp n a (b.drop 1)
    else (if p.paired then pairsL p (a.take (grpN (keyL p.sep p.f1) a)) (b.take (grpN (keyL p.sep p.f2) b)) else []) ++ joinF p cmp n (a.drop (grpN (keyL p.sep p.f1) a)) (b.drop (grpN (keyL p.sep p.f2) b))
def joinL (p : Sp) (cmp : List UInt8 → List UInt8 → Int) (a b : List (List UInt8)) : List (List UInt8) := joinF p cmp (a.length + b.length) a b
theorem grpN_pos {key : List UInt8 → List UInt8} {a : List (List UInt8)} (h : a ≠ []) : 1 ≤ grpN key a := by
  cases a with
  | nil => exact absurd rfl h
  | cons x r => exact Nat.le_add_right 1 _
theorem grpN_le (key : List UInt8 → List UInt8) (a : List (List UInt8)) : grpN key a ≤ a.length := by
  cases a with
  | nil => exact Nat.le_refl _
  | cons x r =>
    have := (List.takeWhile_sublist (fun y => decide (key y = key x)) (l := r)).length_le
    show 1 + _ ≤ r.length + 1
    omega
/-- more rounds than lines change nothing -/
theorem joinF_more (p : Sp) (cmp : List UInt8 → List UInt8 → Int) : ∀ (n m : Nat) (a b : List (List UInt8)), a.length + b.length ≤ n → a.length + b.length ≤ m → joinF p cmp n a b = joinF p cmp m a b := by
  intro n
  induction n with
  | zero =>
    intro m a b h _
    have ha : a = [] := List.length_eq_zero_iff.1 (by omega)
    have hb : b = [] := List.length_eq_zero_iff.1 (by omega)
    subst ha hb
    cases m with
    | zero => rfl
    | succ m => simp [joinF]
  | succ n ih =>
    intro m a b h hm
    by_cases h0 : a = [] ∧ b = []
    · obtain ⟨rfl, rfl⟩ := h0
      cases m with
      | zero => simp [joinF]
      | succ m => simp [joinF]
    · have hpos : 1 ≤ a.length + b.length := by
        rcases Nat.eq_zero_or_pos (a.length + b.length) with h | h
        · exact absurd ⟨List.length_eq_zero_iff.1 (by omega), List.length_eq_zero_iff.1 (by omega)⟩ h0
        · exact h
      cases m with
      | zero => omega
      | succ m =>
        unfold joinF
        rw [if_neg h0, if_neg h0]
        by_cases h1 : ordJ p cmp a b < 0
        · rw [if_pos h1, if_pos h1]
          have : a ≠ [] := fun e => by rw [e] at h1; exact absurd (show (1 : Int) < 0 from h1) (by decide)
          have := List.length_pos_iff.2 this
          rw [ih m (a.drop 1) b (by rw [List.length_drop]; omega) (by rw [List.length_drop]; omega)]
        · rw [if_neg h1, if_neg h1]
          by_cases h2 : 0 < ordJ p cmp a b
          · rw [if_pos h2, if_pos h2]
            have : b ≠ [] := fun e => by
              rw [e] at h2 h0
              cases a with
              | nil => exact h0 ⟨rfl, rfl⟩
              | cons x r => exact absurd (show (0 : Int) < -1 from h2) (by decide)
            have := List.length_pos_iff.2 this
            rw [ih m a (b.drop 1) (by rw [List.length_drop]; omega) (by rw [List.length_drop]; omega)]
          · rw [if_neg h2, if_neg h2]
            have : a ≠ [] := fun e => by rw [e] at h2; exact h2 (show (0 : Int) < 1 by decide)
            have := grpN_pos (key := keyL p.sep p.f1) this
            have := grpN_le (keyL p.sep p.f1) a
            rw [ih m _ _ (by rw [List.length_drop, List.length_drop]; omega) (by rw [List.length_drop, List.length_drop]; omega)]
end Jn
