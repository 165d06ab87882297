/- plain: patches: lines, parts, checks, places, reversed hunks -/
import Derived.Lib.Bytealg
namespace Pt
/-- a line of a hunk: the operation, the text, whether its line feed is missing -/
abbrev DL := Int × ByteArray × Bool
abbrev Ln := ByteArray × Bool
structure Hk where
  fa : Int
  la : Int
  fb : Int
  lb : Int
  ls : List DL
def sideP (op : Int) (l : List DL) : List Ln := (l.filter fun x => decide (x.1 = op) || decide (x.1 = 1)).map (·.2)
def beginP (from_ n : Int) : Int := if n = 0 then from_ else from_ - 1
/-- only the last line of a part may have the mark, and only in the last hunk -/
def endsB (last : Bool) : List Ln → Bool
  | [] => true
  | [x] => !x.2 || last
  | x :: y :: r => !x.2 && endsB last (y :: r)
def opB (n : Int) : Bool := decide (n = 1) || decide (n = 2) || decide (n = 3)
def lineE : List DL → Int
  | [] => 0
  | x :: r => if opB x.1 = false then 7 else if (10 : UInt8) ∈ x.2.1.data.toList then 1 else lineE r
def shapeE (h : Hk) : Int :=
  if lineE h.ls ≠ 0 then lineE h.ls else
  if h.la ≠ (sideP 2 h.ls).length ∨ h.lb ≠ (sideP 3 h.ls).length ∨ h.fa < 0 ∨ 2147483647 < h.fa ∨ h.fb < 0 ∨ 2147483647 < h.fb then 2 else 0
/-- the error of the hunks behind `end_` lines, the new ones moved by `more` -/
def chkP : Int → Int → List Hk → Int
  | _, _, [] => 0
  | e, m, h :: r =>
    if shapeE h ≠ 0 then shapeE h else
    if beginP h.fa h.la < e ∨ beginP h.fb h.lb ≠ beginP h.fa h.la + m then 2 else
    if endsB (decide (r = [])) (sideP 2 h.ls) = false ∨ endsB (decide (r = [])) (sideP 3 h.ls) = false then 8 else
    chkP (beginP h.fa h.la + h.la) (m + (h.lb - h.la)) r
def chk (l : List Hk) : Int := chkP 0 0 l
/-- how many context lines there are at the beginning, at most f -/
def ctx (l : List DL) (f : Nat) : Nat := ((l.take f).takeWhile fun x => decide (x.1 = 1)).length
/-- the lines without context at both ends, and how many were left out at the beginning -/
def trimP (l : List DL) (f : Nat) : List DL := (l.drop (ctx l f)).take ((l.drop (ctx l f)).length - ctx (l.drop (ctx l f)).reverse f)
/-- is a part there at a place? -/
def fitB (old : List Ln) (low : Nat) (p : List Ln) (t : Nat) : Bool := decide (low ≤ t) && decide (t + p.length ≤ old.length) && decide ((old.drop t).take p.length = p)
def far (a b : Int) : Int := if a < b then b - a else a - b
/-- the nearest place, of two the later one -/
def better (want : Int) (t b : Nat) : Bool := decide (far t want < far b want) || (decide (far t want = far b want) && decide (b < t))
def findL (old : List Ln) (low : Nat) (want : Int) (p : List Ln) : Nat → Option Nat
  | 0 => none
  | n + 1 =>
    match findL old low want p n with
    | none => if fitB old low p (low + n) then some (low + n) else none
    | some b => if fitB old low p (low + n) && better want (low + n) b then some (low + n) else some b
/-- places low .. low + n - 1 are looked at: all that may fit -/
def findP (old : List Ln) (low : Nat) (want : Int) (p : List Ln) : Option Nat := findL old low want p (old.length + 1 - low)
/-- where a hunk is placed: the place, the shift, the fuzz -/
def placeF (old : List Ln) (low : Nat) (move : Int) (h : Hk) : Nat → Nat → Option (Nat × Int × Nat)
  | 0, _ => none
  | n + 1, f =>
    let a := beginP h.fa h.la + ctx h.ls f
    match findP old low (a + move) (sideP 2 (trimP h.ls f)) with
    | some t => some (t, t - a, f)
    | none => placeF old low move h n (f + 1)
def fuzzN (fuzz : Int) (l : List DL) : Nat := min (max fuzz 0).toNat l.length
def placeP (old : List Ln) (low : Nat) (move : Int) (h : Hk) (fuzz : Int) : Option (Nat × Int × Nat) := placeF old low move h (fuzzN fuzz h.ls + 1) 0
structure Wk where
  out : List Ln
  low : Nat
  move : Int
  placed : List (Int × Int × Int)
  bad : List Hk
def stepP (old : List Ln) (fuzz : Int) (s : Wk) (h : Hk) : Wk :=
  match placeP old s.low s.move h fuzz with
  | some (t, d, f) =>
    { out := s.out ++ (old.drop s.low).take (t - s.low) ++ sideP 3 (trimP h.ls f), low := t + (sideP 2 (trimP h.ls f)).length, move := d, placed := s.placed ++ [((t : Int) + 1, d, (f : Int))], bad := s.bad }
  | none => { s with placed := s.placed ++ [(0, 0, 0)], bad := s.bad ++ [h] }
def joinedP : List Ln → List UInt8
  | [] => []
  | [x] => x.1.data.toList ++ if x.2 then [] else [10]
  | x :: y :: r => x.1.data.toList ++ 10 :: joinedP (y :: r)
/-- the old lines, placed hunks -/
def runP (old : List Ln) (hs : List Hk) (fuzz : Int) : Wk := hs.foldl (stepP old fuzz) ⟨[], 0, 0, [], []⟩
def textP (old : List Ln) (s : Wk) : List UInt8 := joinedP (s.out ++ old.drop s.low)
def flipD (x : DL) : DL := if x.1 = 3 then (2, x.2) else if x.1 = 2 then (3, x.2) else x
/-- lines in the other direction: what was inserted is held back -/
def revF : List DL → List DL → List DL
  | later, [] => later
  | later, x :: r => if x.1 = 3 then (2, x.2) :: revF later r else if x.1 = 2 then revF (later ++ [(3, x.2)]) r else later ++ x :: revF [] r
def revH (h : Hk) : Hk := ⟨h.fb, h.lb, h.fa, h.la, revF [] h.ls⟩
/-- the nearest place, said by what it is -/
def Near (old : List Ln) (low : Nat) (want : Int) (p : List Ln) (n t : Nat) : Prop := fitB old low p t = true ∧ low ≤ t ∧ t < low + n ∧ ∀ u, low ≤ u → u < low + n → fitB old low p u = true → far t want < far u want ∨ (far t want = far u want ∧ u ≤ t)
theorem findL_spec (old : List Ln) (low : Nat) (want : Int) (p : List Ln) : ∀ n, (∀ t, findL old low want p n = some t → Near old low want p n t) ∧ (findL old low want p n = none → ∀ u, low ≤ u → u < low + n → fitB old low p u = false) := by
  intro n
  induction n with
  | zero => exact ⟨fun t h => (by cases h), fun _ u h1 h2 => by omega⟩
  | succ n ih =>
    obtain ⟨ih1, ih2⟩ := ih
    unfold findL
    cases hf : findL old low want p n with
    | none =>
      have hn := ih2 hf
      by_cases hx : fitB old low p (low + n) = true
      · rw [if_pos hx]
        refine ⟨fun t h => ?_, fun h => by cases h⟩
        cases h
        refine ⟨hx, by omega, by omega, fun u h1 h2 h3 => ?_⟩
        by_cases hu : u < low + n
        · rw [hn u h1 hu] at h3; cases h3
        · obtain rfl : u = low + n := by omega
          exact .inr ⟨rfl, Nat.le_refl _⟩
      · rw [if_neg hx]
        refine ⟨fun t h => (by cases h), fun _ u h1 h2 => ?_⟩
        by_cases hu : u < low + n
        · exact hn u h1 hu
        · obtain rfl : u = low + n := by omega
          simpa using hx
    | some b =>
      obtain ⟨b1, b2, b3, b4⟩ := ih1 b hf
      by_cases hx : (fitB old low p (low + n) && better want (low + n) b) = true
      · simp only [hx, if_true]
        rw [Bool.and_eq_true] at hx
        refine ⟨fun t h => ?_, fun h => by cases h⟩
        cases h
        have hb : far (low + n : Nat) want < far b want ∨ (far (low + n : Nat) want = far b want ∧ b < low + n) := by
          have := hx.2
          unfold better at this
          simpa using this
        refine ⟨hx.1, by omega, by omega, fun u h1 h2 h3 => ?_⟩
        by_cases hu : u < low + n
        · rcases b4 u h1 hu h3 with h | ⟨h, h'⟩ <;> omega
        · obtain rfl : u = low + n := by omega
          exact .inr ⟨rfl, Nat.le_refl _⟩
      · simp only [hx]
        refine ⟨fun t h => ?_, fun h => by cases h⟩
        cases h
        refine ⟨b1, b2, by omega, fun u h1 h2 h3 => ?_⟩
        by_cases hu : u < low + n
        · exact b4 u h1 hu h3
        · obtain rfl : u = low + n := by omega
          have hb : ¬ (far (low + n : Nat) want < far b want ∨ (far (low + n : Nat) want = far b want ∧ b < low + n)) := by
            intro h
            apply hx
            rw [h3, Bool.true_and]
            unfold better
            simpa using h
          omega
theorem far_comm (t u : Nat) (want : Int) : (far t want < far u want ∨ (far t want = far u want ∧ u ≤ t)) → (far u want < far t want ∨ (far u want = far t want ∧ t ≤ u)) → t = u := by
  omega
/-- what is nearest is found -/
theorem findP_of {old : List Ln} {low : Nat} {want : Int} {p : List Ln} {t : Nat} (h1 : fitB old low p t = true) (h2 : ∀ u, fitB old low p u = true → far t want < far u want ∨ (far t want = far u want ∧ u ≤ t)) : findP old low want p = some t := by
  have bd : ∀ u, fitB old low p u = true → low ≤ u ∧ u < low + (old.length + 1 - low) := by
    intro u hu
    unfold fitB at hu
    simp only [Bool.and_eq_true, decide_eq_true_eq] at hu
    omega
  obtain ⟨s1, s2⟩ := findL_spec old low want p (old.length + 1 - low)
  unfold findP
  cases hf : findL old low want p (old.length + 1 - low) with
  | none =>
    have := s2 hf t (bd t h1).1 (bd t h1).2
    rw [this] at h1; cases h1
  | some b =>
    obtain ⟨b1, b2, b3, b4⟩ := s1 b hf
    rw [far_comm b t want (b4 t (bd t h1).1 (bd t h1).2 h1) (h2 b b1)]
theorem findP_none {old : List Ln} {low : Nat} {want : Int} {p : List Ln} (h : ∀ u, fitB old low p u = false) : findP old low want p = none := by
  obtain ⟨s1, -⟩ := findL_spec old low want p (old.length + 1 - low)
  unfold findP
  cases hf : findL old low want p (old.length + 1 - low) with
  | none => rfl
  | some b => have := (s1 b hf).1; rw [h b] at this; cases this
end Pt
