/- plain mathematics and texts of one kind, joined in one file (merge.py) -/
import Derived.Lib.IndexBytes
import Derived.Lib.LastIndexByte
import Derived.Lib.Bytealg
import Derived.Lib.SplitLaws
import Derived.Lib.Join
import Derived.Lib.IndexLaws
import Derived.Test.YtbioflajonafdaaPa
/- plain: positions in a text -/
namespace Tx
open Go
def pLine (l : List UInt8) : Int := 1 + ((l.count 10 : Nat) : Int)
def pCol : List UInt8 → Int → Int
  | [], c => c
  | x :: r, c => if x = 10 then pCol r 1 else pCol r (c + 1)
theorem pCol_app : ∀ (l : List UInt8) (x : UInt8) (c : Int), pCol (l ++ [x]) c = if x = 10 then 1 else pCol l c + 1 := by
  intro l
  induction l with
  | nil => intro x c; rfl
  | cons y r ih =>
    intro x c
    simp only [List.cons_append, pCol]
    split
    · exact ih x 1
    · exact ih x (c + 1)
theorem size_len (s : ByteArray) : s.size = s.data.toList.length := Lib.size_eq s
theorem take_snoc (s : ByteArray) (k : Nat) (h : k < s.size) : s.data.toList.take (k + 1) = s.data.toList.take k ++ [s[k]] := by
  rw [List.take_succ_eq_append_getElem (by rw [← size_len]; exact h)]; rfl
theorem is_nl (c : UInt8) : (c = 10) ↔ ((c.toNat : Int) = 10) := by
  constructor
  · rintro rfl; rfl
  · intro h; apply UInt8.toNat_inj.1
    have e : (10 : UInt8).toNat = 10 := rfl
    omega
theorem data_get (s : ByteArray) (k : Nat) (h : k < s.size) : s.data[k]! = s[k] := by
  have h' : k < s.data.size := h
  rw [getElem!_pos s.data k h']; rfl
theorem idx_succ (s : ByteArray) (c : Int) (k : Nat) : Lib.lastIdx s c (k + 1) = if ((s.data[k]!).toNat : Int) = c then (k : Int) else Lib.lastIdx s c k := rfl
theorem last_col (s : ByteArray) : ∀ k : Nat, k ≤ s.size → (k : Int) - Lib.lastIdx s 10 k = pCol (s.data.toList.take k) 1 := by
  intro k
  induction k with
  | zero => intro _; rfl
  | succ k ih =>
    intro h
    rw [take_snoc s k (by omega), pCol_app, ← ih (by omega)]
    rw [idx_succ, data_get s k (by omega)]
    by_cases hc : s[k] = 10
    · rw [if_pos hc, if_pos ((is_nl _).1 hc)]; omega
    · rw [if_neg hc, if_neg (fun e => hc ((is_nl _).2 e))]
      omega
theorem col_of (s : ByteArray) : (s.size : Int) - Lib.lastIndexByte s 10 = pCol s.data.toList 1 := by
  have := last_col s s.size (Nat.le_refl _)
  rw [size_len, List.take_length, ← size_len] at this
  exact this
theorem count_snoc (s : ByteArray) (k : Nat) (h : k < s.size) : (s.data.toList.take (k + 1)).count 10 = (s.data.toList.take k).count 10 + (if s[k] = 10 then 1 else 0) := by
  rw [take_snoc s k h, List.count_append]
  congr 1
  by_cases hc : s[k] = 10
  · rw [if_pos hc, hc]; rfl
  · rw [if_neg hc]; simp [hc]
/-- an offset brought into a text of n bytes -/
def clamp (at_ : Int) (n : Nat) : Nat := (min (max at_ 0) n).toNat
theorem clamp_le (a : Int) (n : Nat) : clamp a n ≤ n := by unfold clamp; omega
theorem clamp_lo (a : Int) (n : Nat) (h : a ≤ 0) : clamp a n = 0 := by unfold clamp; omega
theorem clamp_hi (a : Int) (n : Nat) (h : (n : Int) ≤ a) : clamp a n = n := by unfold clamp; omega
theorem clamp_in (a n : Nat) (h : a ≤ n) : clamp a n = a := by unfold clamp; omega
def lineAt (s : ByteArray) (a : Int) : Int := pLine (s.data.toList.take (clamp a s.size))
def colAt (s : ByteArray) (a : Int) : Int := pCol (s.data.toList.take (clamp a s.size)) 1
theorem pCol_bd : ∀ (l : List UInt8) (c : Int), 1 ≤ c → 1 ≤ pCol l c ∧ pCol l c ≤ c + l.length := by
  intro l
  induction l with
  | nil => intro c h; simp only [pCol, List.length_nil]; omega
  | cons x r ih =>
    intro c h
    simp only [pCol, List.length_cons]
    split
    · have := ih 1 (by omega); omega
    · have := ih (c + 1) (by omega); omega
end Tx
/- plain: escape sequences -/
namespace Tx
open Go
def oct (c : UInt8) : Bool := decide (48 ≤ c.toNat) && decide (c.toNat ≤ 55)
/-- at most so many octal digits: their value, their number -/
def octGo : Nat → List UInt8 → Nat → Nat → Nat × Nat
  | 0, _, v, n => (v, n)
  | _ + 1, [], v, n => (v, n)
  | k + 1, c :: r, v, n => if oct c then octGo k r (8 * v + (c.toNat - 48)) (n + 1) else (v, n)
def lettersL : List UInt8 := [110, 116, 114, 97, 98, 102, 118]
def letB (c : UInt8) : UInt8 := if c = 110 then 10 else if c = 116 then 9 else if c = 114 then 13 else if c = 97 then 7 else if c = 98 then 8 else if c = 102 then 12 else if c = 118 then 11 else 0
def isSelf (c : UInt8) : Bool := decide (c = 92) || decide (c = 34) || decide (c = 47)
/-- the escape sequence at the beginning of a list, behind its backslash: its byte (a number below 256 where it is one), its length, whether there is one -/
def seqV : List UInt8 → Nat
  | [] => 0
  | c :: r => if letB c ≠ 0 then (letB c).toNat else if isSelf c then c.toNat else (octGo 3 (c :: r) 0 0).1 % 256
def seqN : List UInt8 → Nat
  | [] => 0
  | c :: r => if letB c ≠ 0 then 1 else if isSelf c then 1 else (octGo 3 (c :: r) 0 0).2
def seqO : List UInt8 → Bool
  | [] => false
  | c :: r => if letB c ≠ 0 then true else if isSelf c then true else decide (0 < (octGo 3 (c :: r) 0 0).2) && decide ((octGo 3 (c :: r) 0 0).1 < 256)
theorem octGo_bd : ∀ (k : Nat) (l : List UInt8) (v n : Nat), n ≤ (octGo k l v n).2 ∧ (octGo k l v n).2 ≤ n + k ∧ (octGo k l v n).2 ≤ n + l.length ∧ (octGo k l v n).1 < (v + 1) * 8 ^ k := by
  intro k
  induction k with
  | zero => intro l v n; simp only [octGo]; omega
  | succ k ih =>
    intro l v n
    have hp : 0 < 8 ^ k := Nat.pow_pos (by decide)
    have hm : (v + 1) * 8 ^ (k + 1) = 8 * ((v + 1) * 8 ^ k) := by rw [Nat.pow_succ, ← Nat.mul_assoc, Nat.mul_comm]
    cases l with
    | nil =>
      simp only [octGo, List.length_nil]
      have : v + 1 ≤ (v + 1) * 8 ^ k := Nat.le_mul_of_pos_right _ hp
      omega
    | cons c r =>
      simp only [octGo, List.length_cons]
      split
      · rename_i hc
        obtain ⟨h1, h2, h3, h4⟩ := ih r (8 * v + (c.toNat - 48)) (n + 1)
        have hd : c.toNat - 48 ≤ 7 := by simp [oct] at hc; omega
        have : (8 * v + (c.toNat - 48) + 1) * 8 ^ k ≤ (8 * (v + 1)) * 8 ^ k := Nat.mul_le_mul_right _ (by omega)
        rw [Nat.mul_assoc] at this
        omega
      · have : v + 1 ≤ (v + 1) * 8 ^ k := Nat.le_mul_of_pos_right _ hp
        omega
theorem seqN_bd (l : List UInt8) : seqN l ≤ l.length ∧ seqN l ≤ 3 := by
  cases l with
  | nil => simp [seqN]
  | cons c r =>
    have := octGo_bd 3 (c :: r) 0 0
    simp only [seqN]
    split
    · simp
    · split
      · simp
      · simp only [Nat.zero_add] at this; omega
theorem seqO_pos (l : List UInt8) (h : seqO l = true) : 0 < seqN l := by
  cases l with
  | nil => cases h
  | cons c r =>
    simp only [seqO] at h
    simp only [seqN]
    split
    · omega
    · split
      · omega
      · rename_i h1 h2
        rw [if_neg h1, if_neg h2] at h
        simp at h; omega
/-- what a text describes: its bytes, or the offset of the first backslash that is not valid -/
def une : Nat → List UInt8 → Nat → Except Nat (List UInt8)
  | 0, _, _ => .ok []
  | _ + 1, [], _ => .ok []
  | f + 1, c :: r, i =>
    if c = 92 then
      (if seqO r then
        (match une f (r.drop (seqN r)) (i + 1 + seqN r) with
          | .ok l => .ok (UInt8.ofNat (seqV r) :: l)
          | .error k => .error k)
      else .error i)
    else
      (match une f r (i + 1) with
        | .ok l => .ok (c :: l)
        | .error k => .error k)
def unesc (l : List UInt8) : Except Nat (List UInt8) := une l.length l 0
theorem une_more : ∀ (f g : Nat) (l : List UInt8) (i : Nat), l.length ≤ f → l.length ≤ g → une f l i = une g l i := by
  intro f
  induction f with
  | zero =>
    intro g l i h _
    have : l = [] := List.eq_nil_of_length_eq_zero (by omega)
    subst this
    cases g <;> rfl
  | succ f ih =>
    intro g l i h h'
    cases l with
    | nil => cases g <;> rfl
    | cons c r =>
      cases g with
      | zero => simp at h'
      | succ g =>
        simp only [List.length_cons] at h h'
        simp only [une]
        rw [ih g r (i + 1) (by omega) (by omega), ih g (r.drop (seqN r)) (i + 1 + seqN r) (by rw [List.length_drop]; omega) (by rw [List.length_drop]; omega)]
theorem une_bs (s : List UInt8) (r : List UInt8) (i : Nat) (_ : s = 92 :: r) (ho : seqO r = true) : une s.length s i = (match une (r.drop (seqN r)).length (r.drop (seqN r)) (i + 1 + seqN r) with | .ok l => .ok (UInt8.ofNat (seqV r) :: l) | .error k => .error k) := by
  subst s
  simp only [List.length_cons, une]
  rw [if_pos trivial, if_pos ho, une_more r.length (r.drop (seqN r)).length _ _ (by rw [List.length_drop]; omega) (Nat.le_refl _)]
theorem une_fail (s : List UInt8) (r : List UInt8) (i : Nat) (_ : s = 92 :: r) (ho : seqO r = false) : une s.length s i = .error i := by
  subst s
  simp only [List.length_cons, une]
  rw [if_pos trivial, ho]; rfl
theorem une_plain (s : List UInt8) (c : UInt8) (r : List UInt8) (i : Nat) (_ : s = c :: r) (hc : c ≠ 92) : une s.length s i = (match une r.length r (i + 1) with | .ok l => .ok (c :: l) | .error k => .error k) := by
  subst s
  simp only [List.length_cons, une]
  rw [if_neg hc]
end Tx
/- plain: the lines of a text -/
namespace Tx
open Go
/-- a text cut at its line feeds: never empty -/
def spl : List UInt8 → List (List UInt8)
  | [] => [[]]
  | c :: r => if c = 10 then [] :: spl r else (match spl r with | h :: t => (c :: h) :: t | [] => [[c]])
theorem spl_ne (l : List UInt8) : spl l ≠ [] := by
  cases l with
  | nil => simp [spl]
  | cons c r =>
    simp only [spl]
    split
    · simp
    · split <;> simp
theorem spl_nl (r : List UInt8) : spl (10 :: r) = [] :: spl r := by simp [spl]
theorem spl_cons (c : UInt8) (r h : List UInt8) (t : List (List UInt8)) (hc : c ≠ 10) (e : spl r = h :: t) : spl (c :: r) = (c :: h) :: t := by
  simp only [spl]; rw [if_neg hc, e]
theorem spl_ex (l : List UInt8) : ∃ out cur, spl l = out ++ [cur] :=
  ⟨(spl l).dropLast, (spl l).getLast (spl_ne l), (List.dropLast_concat_getLast (spl_ne l)).symm⟩
theorem spl_app : ∀ (l : List UInt8) (out : List (List UInt8)) (cur r : List UInt8), spl l = out ++ [cur] → ∃ h t, spl r = h :: t ∧ spl (l ++ r) = out ++ (cur ++ h) :: t := by
  intro l
  induction l with
  | nil =>
    intro out cur r e
    obtain ⟨h, t, hr⟩ := List.exists_cons_of_ne_nil (spl_ne r)
    refine ⟨h, t, hr, ?_⟩
    cases out with
    | nil => simp [spl] at e; subst e; simpa using hr
    | cons x o => simp [spl] at e
  | cons c l ih =>
    intro out cur r e
    by_cases hc : c = 10
    · subst hc
      rw [spl_nl] at e
      cases out with
      | nil => exact absurd (List.cons.inj e).2 (spl_ne l)
      | cons x o =>
        rw [List.cons_append, List.cons.injEq] at e
        obtain ⟨h, t, h1, h2⟩ := ih o cur r e.2
        exact ⟨h, t, h1, by rw [List.cons_append, spl_nl, h2, ← e.1]; rfl⟩
    · obtain ⟨h0, t0, e0⟩ := List.exists_cons_of_ne_nil (spl_ne l)
      rw [spl_cons c l h0 t0 hc e0] at e
      cases out with
      | nil =>
        rw [List.nil_append, List.cons.injEq] at e
        obtain ⟨rfl, rfl⟩ := e
        obtain ⟨h, t, h1, h2⟩ := ih [] h0 r e0
        exact ⟨h, t, h1, by rw [List.cons_append, spl_cons c (l ++ r) (h0 ++ h) t hc h2]; rfl⟩
      | cons x o =>
        rw [List.cons_append, List.cons.injEq] at e
        obtain ⟨rfl, rfl⟩ := e
        obtain ⟨h, t, h1, h2⟩ := ih (h0 :: o) cur r (by rw [e0]; rfl)
        exact ⟨h, t, h1, by rw [List.cons_append, spl_cons c (l ++ r) h0 (o ++ (cur ++ h) :: t) hc h2]; rfl⟩
theorem spl_snoc_nl {l : List UInt8} {out : List (List UInt8)} {cur : List UInt8} (e : spl l = out ++ [cur]) : spl (l ++ [10]) = (out ++ [cur]) ++ [[]] := by
  obtain ⟨h, t, h1, h2⟩ := spl_app l out cur [10] e
  simp [spl] at h1
  obtain ⟨rfl, rfl⟩ := h1
  rw [h2]; simp
theorem spl_snoc {l : List UInt8} {out : List (List UInt8)} {cur : List UInt8} {c : UInt8} (hc : c ≠ 10) (e : spl l = out ++ [cur]) : spl (l ++ [c]) = out ++ [cur ++ [c]] := by
  obtain ⟨h, t, h1, h2⟩ := spl_app l out cur [c] e
  simp [spl, hc] at h1
  rw [h2, ← h1.1, ← h1.2]
/-- the bytes of lines with a line feed each -/
def full (L : List (List UInt8)) : Nat := (L.map (fun x => x.length + 1)).sum
theorem full_cons (x : List UInt8) (L : List (List UInt8)) : full (x :: L) = x.length + 1 + full L := by simp [full]
theorem spl_size : ∀ (l : List UInt8) (out : List (List UInt8)) (cur : List UInt8), spl l = out ++ [cur] → l.length = full out + cur.length ∧ out.length = l.count 10 ∧ (10 : UInt8) ∉ cur ∧ (∀ x ∈ out, (10 : UInt8) ∉ x) ∧ ∀ c : Int, pCol l c = (if out = [] then c else 1) + cur.length := by
  intro l
  induction l with
  | nil =>
    intro out cur e
    cases out with
    | nil => simp [spl] at e; subst e; simp [full, pCol]
    | cons x o => simp [spl] at e
  | cons c l ih =>
    intro out cur e
    by_cases hc : c = 10
    · subst hc
      rw [spl_nl] at e
      cases out with
      | nil => exact absurd (List.cons.inj e).2 (spl_ne l)
      | cons x o =>
        rw [List.cons_append, List.cons.injEq] at e
        obtain ⟨rfl, e2⟩ := e
        obtain ⟨a1, a2, a3, a4, a5⟩ := ih o cur e2
        refine ⟨by rw [full_cons, List.length_cons, a1, List.length_nil]; omega, by rw [List.length_cons, List.count_cons_self, a2], a3, fun y hy => ?_, fun c => ?_⟩
        · rcases List.mem_cons.1 hy with rfl | hy
          · simp
          · exact a4 y hy
        · simp only [pCol]; rw [if_pos trivial, a5 1]
          have e0 : (if o = [] then (1 : Int) else 1) = 1 := by split <;> rfl
          rw [e0, if_neg (show ¬ (([] : List UInt8) :: o = []) by simp)]
    · obtain ⟨h0, t0, e0⟩ := List.exists_cons_of_ne_nil (spl_ne l)
      rw [spl_cons c l h0 t0 hc e0] at e
      cases out with
      | nil =>
        rw [List.nil_append, List.cons.injEq] at e
        obtain ⟨rfl, rfl⟩ := e
        obtain ⟨a1, a2, a3, a4, a5⟩ := ih [] h0 e0
        refine ⟨by simp [full, a1], by rw [List.count_cons_of_ne (by simpa using hc), ← a2], ?_, by simp, fun d => ?_⟩
        · simp only [List.mem_cons, not_or]; exact ⟨fun e => hc e.symm, a3⟩
        · simp only [pCol]; rw [if_neg hc, a5 (d + 1), if_pos rfl, if_pos trivial, List.length_cons]; omega
      | cons x o =>
        rw [List.cons_append, List.cons.injEq] at e
        obtain ⟨rfl, rfl⟩ := e
        obtain ⟨a1, a2, a3, a4, a5⟩ := ih (h0 :: o) cur (by rw [e0]; rfl)
        refine ⟨?_, by rw [List.count_cons_of_ne (by simpa using hc), ← a2]; simp, a3, fun y hy => ?_, fun d => ?_⟩
        · rw [List.length_cons, a1, full_cons, full_cons, List.length_cons]; omega
        · rcases List.mem_cons.1 hy with rfl | hy
          · simp only [List.mem_cons, not_or]; exact ⟨fun e => hc e.symm, a4 h0 (by simp)⟩
          · exact a4 y (by simp [hy])
        · simp only [pCol]; rw [if_neg hc, a5 (d + 1), if_neg (show ¬ (h0 :: o = []) by simp), if_neg (show ¬ ((c :: h0) :: o = []) by simp)]
/-- the lines of a text, and whether it is ended -/
def lin (l : List UInt8) : List (List UInt8) := if (spl l).getLastD [] = [] then (spl l).dropLast else spl l
def linE (l : List UInt8) : Bool := decide ((spl l).getLastD [] = [])
theorem lin_of {l : List UInt8} {out : List (List UInt8)} {cur : List UInt8} (e : spl l = out ++ [cur]) : lin l = (if cur = [] then out else out ++ [cur]) ∧ linE l = decide (cur = []) := by
  unfold lin linE
  rw [e]
  simp
/-- strings.Split's pieces at a line feed -/
theorem split_spl : ∀ l : List UInt8, Lib.split l [10] = spl l := by
  intro l
  induction l with
  | nil => rfl
  | cons c l ih =>
    by_cases hc : c = 10
    · subst hc
      have hix : Lib.index (10 :: l) [10] = 0 := by rw [Lib.index]; simp [List.isPrefixOf]
      unfold Lib.split at ih ⊢
      rw [Lib.count_cons_eq, Nat.add_comm 1, Lib.splitK, hix, spl_nl, ← ih]
      simp
    · have hp : ([10] : List UInt8).isPrefixOf (c :: l) = false := by simp [List.isPrefixOf, Ne.symm hc]
      have hix : Lib.index (c :: l) [10] = if Lib.index l [10] == -1 then -1 else Lib.index l [10] + 1 := by rw [Lib.index, hp]; simp
      unfold Lib.split at ih ⊢
      rw [Lib.count_cons_ne c 10 l hc]
      generalize Lib.count l [10] = k at ih
      cases k with
      | zero =>
        rw [Lib.splitK] at ih ⊢
        rw [spl_cons c l l [] hc ih.symm]
      | succ k =>
        rw [Lib.splitK] at ih ⊢
        by_cases hm : Lib.index l [10] = -1
        · rw [hm] at hix ih
          have hix' : Lib.index (c :: l) [10] = -1 := by rw [hix]; rfl
          rw [hix']
          rw [if_pos (by rfl)] at ih ⊢
          rw [spl_cons c l l [] hc ih.symm]
        · have hge := Lib.index_ge l [10]
          obtain ⟨j, hj⟩ : ∃ j : Nat, Lib.index l [10] = j := ⟨(Lib.index l [10]).toNat, by omega⟩
          rw [hj] at ih
          have hix' : Lib.index (c :: l) [10] = ((j + 1 : Nat) : Int) := by rw [hix, if_neg (fun e => hm (beq_iff_eq.1 e)), hj]; omega
          rw [hix']
          have n1 : ¬ (((j : Nat) : Int) == -1) = true := fun e => by have := beq_iff_eq.1 e; omega
          have n2 : ¬ (((j + 1 : Nat) : Int) == -1) = true := fun e => by have := beq_iff_eq.1 e; omega
          rw [if_neg n1] at ih
          rw [if_neg n2, spl_cons c l _ _ hc ih.symm]
          have e1 : ((j + 1 : Nat) : Int).toNat = j + 1 := by omega
          have e2 : ((j : Nat) : Int).toNat = j := by omega
          rw [e1, e2]
          simp only [Nat.add_zero, List.take_succ_cons, List.length_cons, List.length_nil]
          rfl
theorem splitB_spl (s : ByteArray) : (Lib.splitB ⟨#[10]⟩ 0 (Lib.countB s ⟨#[10]⟩) s).map (·.data.toList) = spl s.data.toList := by
  rw [Lib.splitB_data]; exact split_spl s.data.toList
end Tx
/- plain: positions and lines -/
namespace Tx
open Go
/-- where the first k bytes of a text end: lines before, bytes in the last one -/
theorem place (s : ByteArray) (k : Nat) (hk : k ≤ s.size) : ∃ out cur, spl (s.data.toList.take k) = out ++ [cur] ∧ pLine (s.data.toList.take k) = out.length + 1 ∧ pCol (s.data.toList.take k) 1 = cur.length + 1 ∧ full out + cur.length = k := by
  obtain ⟨out, cur, e⟩ := spl_ex (s.data.toList.take k)
  obtain ⟨a1, a2, _, _, a5⟩ := spl_size _ out cur e
  have hl : (s.data.toList.take k).length = k := by rw [List.length_take, ← size_len]; omega
  refine ⟨out, cur, e, ?_, ?_, by omega⟩
  · unfold pLine; rw [← a2]; omega
  · rw [a5 1]; split <;> omega
theorem place_le (s : ByteArray) (k k' : Nat) (h : k ≤ k') (hk : k' ≤ s.size) :
    pLine (s.data.toList.take k) < pLine (s.data.toList.take k') ∨ (pLine (s.data.toList.take k) = pLine (s.data.toList.take k') ∧ pCol (s.data.toList.take k') 1 = pCol (s.data.toList.take k) 1 + (k' - k)) := by
  obtain ⟨out, cur, e, l1, c1, f1⟩ := place s k (by omega)
  obtain ⟨out', cur', e', l2, c2, f2⟩ := place s k' hk
  have hs : s.data.toList.take k' = s.data.toList.take k ++ (s.data.toList.drop k).take (k' - k) := by
    rw [← List.take_add]; congr 1; omega
  obtain ⟨h1, t, hr, hsp⟩ := spl_app _ out cur ((s.data.toList.drop k).take (k' - k)) e
  rw [← hs, e'] at hsp
  rw [l1, l2, c1, c2]
  have hlen : ((s.data.toList.drop k).take (k' - k)).length = k' - k := by rw [List.length_take, List.length_drop, ← size_len]; omega
  cases t with
  | nil =>
    have e2 := List.append_inj' hsp rfl
    right
    obtain ⟨b1, _⟩ := spl_size _ [] h1 hr
    rw [hlen] at b1
    have e3 : cur' = cur ++ h1 := (List.cons.inj e2.2).1
    rw [e2.1, e3, List.length_append]
    simp [full] at b1
    omega
  | cons x y =>
    left
    have := congrArg List.length hsp
    simp only [List.length_append, List.length_cons, List.length_nil] at this
    omega
/-- the sizes of lines with their line feeds -/
def fullB (L : List ByteArray) : Nat := (L.map (fun x => x.size + 1)).sum
theorem fullB_full (L : List ByteArray) : fullB L = full (L.map (·.data.toList)) := by
  unfold fullB full; rw [List.map_map]
  congr 1
theorem fullB_snoc (L : List ByteArray) (j : Nat) (h : j < L.length) : fullB (L.take (j + 1)) = fullB (L.take j) + L[j].size + 1 := by
  rw [List.take_succ_eq_append_getElem h]
  simp only [fullB, List.map_append, List.sum_append, List.map_cons, List.map_nil, List.sum_cons, List.sum_nil]; omega
theorem fullB_le (L : List ByteArray) : ∀ (j q : Nat), j ≤ q → fullB (L.take j) ≤ fullB (L.take q) := by
  induction L with
  | nil => intro j q _; simp
  | cons x r ih =>
    intro j q h
    cases j with
    | zero => simp [fullB]
    | succ j =>
      cases q with
      | zero => omega
      | succ q =>
        have := ih j q (by omega)
        simp [fullB] at *; omega
theorem fullB_ge (L : List ByteArray) : L.length ≤ fullB L := by
  induction L with
  | nil => simp
  | cons x r ih => simp [fullB] at *; omega
/-- what the law on counts needs of a position: the lines ahead of it make it, with its column -/
theorem count_facts (s : ByteArray) (k : Nat) (hk : k ≤ s.size) (L : List ByteArray) (hL : L.map (·.data.toList) = lin s.data.toList) :
    ∃ q c : Nat, pLine (s.data.toList.take k) = q + 1 ∧ pCol (s.data.toList.take k) 1 = c + 1 ∧ q ≤ L.length ∧ c + fullB (L.take q) = k := by
  obtain ⟨out, cur, e, l1, c1, f1⟩ := place s k hk
  obtain ⟨h, t, hr, hsp⟩ := spl_app _ out cur (s.data.toList.drop k) e
  rw [List.take_append_drop] at hsp
  refine ⟨out.length, cur.length, l1, c1, ?_, ?_⟩
  · have := congrArg List.length hL
    rw [List.length_map] at this
    rw [this]; unfold lin; rw [hsp]
    split
    · simp
    · simp
  · rw [fullB_full, List.map_take, hL]
    have ht : (lin s.data.toList).take out.length = out := by
      unfold lin; rw [hsp]
      split
      · rw [List.dropLast_append_of_ne_nil (by simp)]; simp
      · simp
    rw [ht]; omega
end Tx
/- plain: joined lines -/
namespace Tx
open Go
/-- lines with a line feed each -/
def nlcat (L : List ByteArray) : List UInt8 := L.flatMap (fun x => x.data.toList ++ [10])
/-- joined lines -/
def joinL (L : List ByteArray) (e : Bool) : List UInt8 := Lib.join (L.map (·.data.toList)) [10] ++ (if e = true ∧ L ≠ [] then [10] else [])
theorem join_two (y z : List UInt8) (r : List (List UInt8)) : Lib.join (y :: z :: r) [10] = y ++ ([10] ++ Lib.join (z :: r) [10]) := by
  rw [Lib.join_cons, Lib.join_cons]
  simp [Lib.joinTail]
theorem join_snoc (L : List ByteArray) (x : ByteArray) : Lib.join ((L ++ [x]).map (·.data.toList)) [10] = nlcat L ++ x.data.toList := by
  induction L with
  | nil => simp [Lib.join_one, nlcat]
  | cons y r ih =>
    cases r with
    | nil =>
      show Lib.join [y.data.toList, x.data.toList] [10] = _
      rw [join_two, Lib.join_one]; simp [nlcat]
    | cons z r =>
      have e : (y :: z :: r ++ [x]).map (·.data.toList) = y.data.toList :: z.data.toList :: (r ++ [x]).map (·.data.toList) := rfl
      rw [e, join_two]
      have e2 : z.data.toList :: (r ++ [x]).map (·.data.toList) = (z :: r ++ [x]).map (·.data.toList) := rfl
      rw [e2, ih]
      simp [nlcat]
theorem nlcat_snoc (L : List ByteArray) (j : Nat) (h : j < L.length) : nlcat (L.take (j + 1)) = (nlcat (L.take j) ++ L[j].data.toList) ++ [10] := by
  unfold nlcat; rw [List.take_succ_eq_append_getElem h, List.flatMap_append]
  simp only [List.flatMap_cons, List.flatMap_nil, List.append_nil, List.append_assoc]
theorem nlcat_len (L : List ByteArray) : (nlcat L).length = fullB L := by
  induction L with
  | nil => rfl
  | cons x r ih =>
    have : nlcat (x :: r) = (x.data.toList ++ [10]) ++ nlcat r := by simp [nlcat]
    rw [this, List.length_append, ih, List.length_append, ← size_len]
    simp [fullB]
theorem joinL_end (L : List ByteArray) : joinL L true = nlcat L := by
  by_cases h : L = []
  · subst h; rfl
  · obtain ⟨r, x, e⟩ : ∃ r x, L = r ++ [x] := ⟨L.dropLast, L.getLast h, (List.dropLast_concat_getLast h).symm⟩
    unfold joinL
    rw [if_pos ⟨rfl, h⟩, e, join_snoc]
    simp [nlcat]
theorem joinL_open (L : List ByteArray) (j : Nat) (h : j + 1 = L.length) : joinL L false = nlcat (L.take j) ++ L[j].data.toList := by
  have e : L = L.take j ++ [L[j]] := by
    rw [← List.take_succ_eq_append_getElem (by omega), List.take_of_length_le (by omega)]
  unfold joinL
  rw [if_neg (fun x => by cases x.1), List.append_nil]
  conv => lhs; rw [e]
  exact join_snoc _ _
theorem join_le (L : List ByteArray) : (Lib.join (L.map (·.data.toList)) [10]).length ≤ fullB L := by
  by_cases h : L = []
  · subst h; simp [Lib.join_nil]
  · obtain ⟨r, x, e⟩ : ∃ r x, L = r ++ [x] := ⟨L.dropLast, L.getLast h, (List.dropLast_concat_getLast h).symm⟩
    rw [e, join_snoc, List.length_append, nlcat_len, ← size_len]
    simp [fullB]
theorem joinL_le (L : List ByteArray) (e : Bool) : (joinL L e).length ≤ fullB L := by
  by_cases h : L = []
  · subst h; simp [joinL, Lib.join_nil]
  · obtain ⟨r, x, he⟩ : ∃ r x, L = r ++ [x] := ⟨L.dropLast, L.getLast h, (List.dropLast_concat_getLast h).symm⟩
    unfold joinL
    rw [List.length_append, he, join_snoc, List.length_append, nlcat_len, ← size_len]
    have : (if e = true ∧ r ++ [x] ≠ [] then [(10 : UInt8)] else []).length ≤ 1 := by split <;> simp
    simp only [fullB, List.map_append, List.sum_append, List.map_cons, List.map_nil, List.sum_cons, List.sum_nil] at this ⊢
    omega
/-- the lines of a text, joined, are the text -/
theorem joinL_lin (l : List UInt8) (L : List ByteArray) (h : L.map (·.data.toList) = lin l) : joinL L (linE l) = l := by
  have J : ∀ l : List UInt8, Lib.join (spl l) [10] = l := by
    intro l
    induction l with
    | nil => rfl
    | cons c r ih =>
      obtain ⟨x, t, e⟩ := List.exists_cons_of_ne_nil (spl_ne r)
      rw [e] at ih
      by_cases hc : c = 10
      · subst hc
        rw [spl_nl, e, join_two, ih]; rfl
      · rw [spl_cons c r x t hc e, Lib.join_cons, ← ih, Lib.join_cons]; rfl
  obtain ⟨out, cur, e⟩ := spl_ex l
  obtain ⟨f1, f2⟩ := lin_of e
  have hJ := J l
  unfold joinL
  rw [h, f1, f2]
  by_cases hz : cur = []
  · subst hz
    rw [if_pos rfl, decide_eq_true rfl]
    have hL : L = [] ↔ out = [] := by
      rw [f1, if_pos rfl] at h
      constructor
      · intro e; rw [e] at h; exact h.symm
      · intro e; rw [e] at h; exact List.map_eq_nil_iff.1 h
    by_cases ho : out = []
    · subst ho
      rw [if_neg (fun x => x.2 (hL.2 rfl))]
      rw [e] at hJ
      simpa [Lib.join_one, Lib.join_nil] using hJ
    · rw [if_pos ⟨rfl, fun x => ho (hL.1 x)⟩]
      rw [e] at hJ
      conv => rhs; rw [← hJ]
      clear hJ f1 f2 e h hL
      induction out with
      | nil => exact absurd rfl ho
      | cons x r ih =>
        cases r with
        | nil => simp [Lib.join_one, join_two]
        | cons y r =>
          have := ih (by simp)
          simp only [List.cons_append, join_two] at this ⊢
          rw [← this]; simp
  · rw [if_neg hz, decide_eq_false hz, if_neg (fun x => by cases x.1), ← e, hJ, List.append_nil]
theorem lin_fullB (l : List UInt8) (L : List ByteArray) (h : L.map (·.data.toList) = lin l) : fullB L ≤ l.length + 1 := by
  rw [fullB_full, h]
  obtain ⟨out, cur, e⟩ := spl_ex l
  obtain ⟨f1, _⟩ := lin_of e
  obtain ⟨a1, _⟩ := spl_size l out cur e
  rw [f1]
  split
  · omega
  · have : full (out ++ [cur]) = full out + cur.length + 1 := by simp [full]; omega
    omega
theorem spl_line (x : List UInt8) (h : (10 : UInt8) ∉ x) : spl x = [x] := by
  induction x with
  | nil => rfl
  | cons c r ih =>
    simp only [List.mem_cons, not_or] at h
    exact spl_cons c r r [] (fun e => h.1 e.symm) (ih h.2)
/-- joined lines, none of which holds a line feed, are these lines -/
theorem lin_joinL (L : List ByteArray) (e : Bool) (h : ∀ x ∈ L, (10 : UInt8) ∉ x.data.toList) (hp : e = true ∨ ∃ r x, L = r ++ [x] ∧ x.data.toList ≠ []) : lin (joinL L e) = L.map (·.data.toList) ∧ linE (joinL L e) = e := by
  have S : ∀ (L : List ByteArray) (y : List UInt8), (∀ x ∈ L, (10 : UInt8) ∉ x.data.toList) → (10 : UInt8) ∉ y → spl (nlcat L ++ y) = L.map (·.data.toList) ++ [y] := by
    intro L y h hy
    induction L with
    | nil => exact spl_line y hy
    | cons x r ih =>
      have i := ih (fun z hz => h z (by simp [hz]))
      have e : nlcat (x :: r) ++ y = x.data.toList ++ (10 :: (nlcat r ++ y)) := by simp [nlcat]
      obtain ⟨a, t, h1, h2⟩ := spl_app x.data.toList [] x.data.toList (10 :: (nlcat r ++ y)) (spl_line _ (h x (by simp)))
      rw [spl_nl, i, List.cons.injEq] at h1
      rw [e, h2, ← h1.1, ← h1.2]
      simp
  cases e with
  | true =>
    have s := S L [] h (by simp)
    rw [List.append_nil] at s
    rw [joinL_end]
    obtain ⟨f1, f2⟩ := lin_of s
    exact ⟨by rw [f1, if_pos rfl], by rw [f2, decide_eq_true rfl]⟩
  | false =>
    rcases hp with hp | ⟨r, x, rfl, hx⟩
    · cases hp
    · have s := S r x.data.toList (fun z hz => h z (by simp [hz])) (h x (by simp))
      have j : joinL (r ++ [x]) false = nlcat r ++ x.data.toList := by
        unfold joinL
        rw [if_neg (fun x => by cases x.1), List.append_nil]; exact join_snoc _ _
      rw [j]
      obtain ⟨f1, f2⟩ := lin_of s
      exact ⟨by rw [f1, if_neg hx]; simp, by rw [f2, decide_eq_false hx]⟩
end Tx
/- plain: the words of a text -/
namespace Tx
open Go
def isSp (c : UInt8) : Bool := decide (c = 32) || decide (c = 9) || decide (c = 10)
/-- the words of a list of bytes, behind a part of a word -/
def wgo : List UInt8 → List UInt8 → List (List UInt8)
  | cur, [] => if cur = [] then [] else [cur]
  | cur, c :: r => if isSp c then (if cur = [] then wgo [] r else cur :: wgo [] r) else wgo (cur ++ [c]) r
def wrds (l : List UInt8) : List (List UInt8) := wgo [] l
theorem wgo_sp (cur r : List UInt8) (c : UInt8) (h : isSp c = true) : wgo cur (c :: r) = (if cur = [] then [] else [cur]) ++ wgo [] r := by
  simp only [wgo]; rw [if_pos h]; split <;> rfl
theorem wgo_no (cur r : List UInt8) (c : UInt8) (h : isSp c = false) : wgo cur (c :: r) = wgo (cur ++ [c]) r := by
  simp only [wgo]; rw [if_neg (by rw [h]; decide)]
/-- two texts with a space between them -/
theorem wgo_app (c : UInt8) (h : isSp c = true) : ∀ (l cur r : List UInt8), wgo cur (l ++ c :: r) = wgo cur l ++ wgo [] r := by
  intro l
  induction l with
  | nil => intro cur r; rw [List.nil_append, wgo_sp _ _ _ h]; rfl
  | cons x t ih =>
    intro cur r
    cases hx : isSp x
    · rw [List.cons_append, wgo_no _ _ _ hx, wgo_no _ _ _ hx]; exact ih _ r
    · rw [List.cons_append, wgo_sp _ _ _ hx, wgo_sp _ _ _ hx, ih, List.append_assoc]
/-- words hold no spaces and are not empty -/
theorem wgo_mem : ∀ (l cur : List UInt8), (∀ c ∈ cur, isSp c = false) → ∀ x ∈ wgo cur l, x ≠ [] ∧ ∀ c ∈ x, isSp c = false := by
  intro l
  induction l with
  | nil =>
    intro cur hc x hx
    simp only [wgo] at hx
    split at hx
    · cases hx
    · rename_i hne
      rw [List.mem_singleton] at hx; subst hx; exact ⟨hne, hc⟩
  | cons y t ih =>
    intro cur hc x hx
    cases hy : isSp y
    · rw [wgo_no _ _ _ hy] at hx
      refine ih (cur ++ [y]) (fun c h => ?_) x hx
      rcases List.mem_append.1 h with h | h
      · exact hc c h
      · rw [List.mem_singleton] at h; subst h; exact hy
    · rw [wgo_sp _ _ _ hy] at hx
      rcases List.mem_append.1 hx with h | h
      · split at h
        · cases h
        · rename_i hne
          rw [List.mem_singleton] at h; subst h; exact ⟨hne, hc⟩
      · exact ih [] (by simp) x h
theorem wgo_word : ∀ (l cur r : List UInt8), (∀ c ∈ l, isSp c = false) → wgo cur (l ++ r) = wgo (cur ++ l) r := by
  intro l
  induction l with
  | nil => intro cur r _; simp
  | cons x t ih =>
    intro cur r h
    rw [List.cons_append, wgo_no _ _ _ (h x (by simp)), ih _ _ (fun c hc => h c (by simp [hc]))]
    simp
/-- words with a space behind each -/
theorem wrds_sep (L : List (List UInt8)) (h : ∀ x ∈ L, x ≠ [] ∧ ∀ c ∈ x, isSp c = false) : wrds (L.flatMap (fun x => x ++ [32])) = L := by
  unfold wrds
  induction L with
  | nil => rfl
  | cons x r ih =>
    obtain ⟨h1, h2⟩ := h x (by simp)
    rw [List.flatMap_cons, List.append_assoc, wgo_word _ _ _ h2, List.nil_append, List.singleton_append, wgo_sp _ _ _ rfl, if_neg h1, ih (fun y hy => h y (by simp [hy]))]
    rfl
theorem wrds_wrds (l : List UInt8) : wrds ((wrds l).flatMap (fun x => x ++ [32])) = wrds l :=
  wrds_sep _ (wgo_mem l [] (by simp))
/-- the words take no more bytes than the text, each with one more -/
theorem wgo_size : ∀ (l cur : List UInt8), ((wgo cur l).map (fun x => x.length + 1)).sum ≤ cur.length + l.length + 1 := by
  intro l
  induction l with
  | nil => intro cur; simp only [wgo]; split <;> simp
  | cons x t ih =>
    intro cur
    cases hx : isSp x
    · rw [wgo_no _ _ _ hx]
      have := ih (cur ++ [x])
      simp only [List.length_append, List.length_cons, List.length_nil] at this ⊢; omega
    · rw [wgo_sp _ _ _ hx, List.map_append, List.sum_append]
      have := ih []
      have h2 : ((if cur = [] then [] else [cur]).map (fun x : List UInt8 => x.length + 1)).sum ≤ cur.length + 1 := by split <;> simp
      simp only [List.length_cons, List.length_nil] at this ⊢; omega
/-- the state of the loop over a text: the words so far, the part of the word at hand -/
structure WSt (s : ByteArray) (j : Nat) (f : Int) (L : List ByteArray) : Prop where
  len : L.length ≤ j
  at_ : (f = -1 ∧ L.map (·.data.toList) ++ wgo [] (s.data.toList.drop j) = wrds s.data.toList) ∨
    (∃ k : Nat, f = k ∧ k < j ∧ L.map (·.data.toList) ++ wgo (s.extract k j).data.toList (s.data.toList.drop j) = wrds s.data.toList)
theorem WSt.start (s : ByteArray) : WSt s 0 (-1) [] := ⟨Nat.le_refl _, .inl ⟨rfl, rfl⟩⟩
theorem drop_at (s : ByteArray) (j : Nat) (h : j < s.size) : s.data.toList.drop j = s[j] :: s.data.toList.drop (j + 1) := by
  rw [List.drop_eq_getElem_cons (by rw [← size_len]; exact h)]; rfl
theorem ext_ne (s : ByteArray) (k j : Nat) (h : k < j) (hj : j ≤ s.size) : (s.extract k j).data.toList ≠ [] := by
  intro e
  have := congrArg List.length e
  rw [← size_len, ByteArray.size_extract] at this
  simp at this; omega
theorem ext_snoc (s : ByteArray) (k j : Nat) (h : k ≤ j) (hj : j < s.size) : (s.extract k (j + 1)).data.toList = (s.extract k j).data.toList ++ [s[j]] := by
  rw [Lib.extract_data, Lib.extract_data, ← List.drop_take, ← List.drop_take, take_snoc s j hj, List.drop_append_of_le_length]
  rw [List.length_take, ← size_len]; omega
theorem WSt.sp_no {s : ByteArray} {j : Nat} {L : List ByteArray} (h : WSt s j (-1) L) (hj : j < s.size) (hs : isSp s[j] = true) : WSt s (j + 1) (-1) L := by
  obtain ⟨h1, h2 | ⟨k, e, _⟩⟩ := h
  · refine ⟨by omega, .inl ⟨rfl, ?_⟩⟩
    rw [← h2.2, drop_at s j hj, wgo_sp _ _ _ hs]; rfl
  · omega
theorem WSt.sp_yes {s : ByteArray} {j k : Nat} {L : List ByteArray} (h : WSt s j k L) (hj : j < s.size) (hs : isSp s[j] = true) : WSt s (j + 1) (-1) (L ++ [s.extract k j]) := by
  obtain ⟨h1, ⟨e, _⟩ | ⟨k', e, hk, h2⟩⟩ := h
  · omega
  · obtain rfl : k = k' := by omega
    refine ⟨by simp; omega, .inl ⟨rfl, ?_⟩⟩
    rw [← h2, drop_at s j hj, wgo_sp _ _ _ hs, if_neg (ext_ne s k j hk (by omega))]
    simp
theorem WSt.no_no {s : ByteArray} {j : Nat} {L : List ByteArray} (h : WSt s j (-1) L) (hj : j < s.size) (hs : isSp s[j] = false) : WSt s (j + 1) j L := by
  obtain ⟨h1, h2 | ⟨k, e, _⟩⟩ := h
  · refine ⟨by omega, .inr ⟨j, rfl, by omega, ?_⟩⟩
    rw [← h2.2, drop_at s j hj, wgo_no _ _ _ hs, ext_snoc s j j (Nat.le_refl _) hj]
    have : (s.extract j j).data.toList = [] := by
      apply List.eq_nil_of_length_eq_zero; rw [← size_len, ByteArray.size_extract]; omega
    rw [this]
  · omega
theorem WSt.no_yes {s : ByteArray} {j k : Nat} {L : List ByteArray} (h : WSt s j k L) (hj : j < s.size) (hs : isSp s[j] = false) : WSt s (j + 1) k L := by
  obtain ⟨h1, ⟨e, _⟩ | ⟨k', e, hk, h2⟩⟩ := h
  · omega
  · obtain rfl : k = k' := by omega
    refine ⟨by omega, .inr ⟨k, rfl, by omega, ?_⟩⟩
    rw [← h2, drop_at s j hj, wgo_no _ _ _ hs, ext_snoc s k j (by omega) hj]
theorem WSt.end_no {s : ByteArray} {L : List ByteArray} (h : WSt s s.size (-1) L) : L.map (·.data.toList) = wrds s.data.toList := by
  obtain ⟨h1, h2 | ⟨k, e, _⟩⟩ := h
  · rw [← h2.2, size_len, List.drop_length]; simp [wgo]
  · omega
theorem WSt.end_yes {s : ByteArray} {k : Nat} {L : List ByteArray} (h : WSt s s.size k L) : (L ++ [s.extract k s.size]).map (·.data.toList) = wrds s.data.toList := by
  obtain ⟨h1, ⟨e, _⟩ | ⟨k', e, hk, h2⟩⟩ := h
  · omega
  · obtain rfl : k = k' := by omega
    have ne := ext_ne s k s.size hk (Nat.le_refl _)
    rw [← h2]
    have : s.data.toList.drop s.size = [] := by rw [size_len, List.drop_length]
    rw [this]
    simp only [wgo]
    rw [if_neg ne]; simp
theorem WSt.lo {s : ByteArray} {j : Nat} {f : Int} {L : List ByteArray} (h : WSt s j f L) : f = -1 ∨ ∃ k : Nat, f = k ∧ k < j := by
  obtain ⟨_, ⟨e, _⟩ | ⟨k, e, hk, _⟩⟩ := h
  · exact .inl e
  · exact .inr ⟨k, e, hk⟩
/-- the state of the reference's loop over lines: the lines so far, where the line at hand begins -/
structure LSt (s : ByteArray) (j k : Nat) (L : List ByteArray) : Prop where
  len : L.length ≤ j
  lo : k ≤ j
  sp : spl (s.data.toList.take j) = L.map (·.data.toList) ++ [(s.extract k j).data.toList]
theorem ext_nil (s : ByteArray) (j : Nat) : (s.extract j j).data.toList = [] := by
  apply List.eq_nil_of_length_eq_zero; rw [← size_len, ByteArray.size_extract]; omega
theorem LSt.start (s : ByteArray) : LSt s 0 0 [] := ⟨Nat.le_refl _, Nat.le_refl _, by rw [ext_nil]; rfl⟩
theorem LSt.nl {s : ByteArray} {j k : Nat} {L : List ByteArray} (h : LSt s j k L) (hj : j < s.size) (hc : s[j] = 10) : LSt s (j + 1) (j + 1) (L ++ [s.extract k j]) := by
  obtain ⟨h1, h2, h3⟩ := h
  refine ⟨by simp; omega, Nat.le_refl _, ?_⟩
  rw [take_snoc s j hj, hc, spl_snoc_nl h3, ext_nil]; simp
theorem LSt.no {s : ByteArray} {j k : Nat} {L : List ByteArray} (h : LSt s j k L) (hj : j < s.size) (hc : s[j] ≠ 10) : LSt s (j + 1) k L := by
  obtain ⟨h1, h2, h3⟩ := h
  refine ⟨by omega, by omega, ?_⟩
  rw [take_snoc s j hj, spl_snoc hc h3, ext_snoc s k j h2 hj]
theorem LSt.fin_open {s : ByteArray} {k : Nat} {L : List ByteArray} (h : LSt s s.size k L) (hk : k < s.size) : (L ++ [s.extract k s.size]).map (·.data.toList) = lin s.data.toList ∧ linE s.data.toList = false := by
  have e := h.sp
  rw [List.take_of_length_le (by rw [← size_len]; exact Nat.le_refl _)] at e
  obtain ⟨f1, f2⟩ := lin_of e
  have ne := ext_ne s k s.size hk (Nat.le_refl _)
  exact ⟨by rw [f1, if_neg ne]; simp, by rw [f2, decide_eq_false ne]⟩
theorem LSt.fin_end {s : ByteArray} {k : Nat} {L : List ByteArray} (h : LSt s s.size k L) (hk : ¬ k < s.size) : L.map (·.data.toList) = lin s.data.toList ∧ linE s.data.toList = true := by
  have e := h.sp
  obtain rfl : k = s.size := by have := h.lo; omega
  rw [List.take_of_length_le (by rw [← size_len]; exact Nat.le_refl _), ext_nil] at e
  obtain ⟨f1, f2⟩ := lin_of e
  exact ⟨by rw [f1, if_pos rfl], by rw [f2, decide_eq_true rfl]⟩
end Tx
/- plain: what the scanner skips -/
namespace Tx
open Go
/-- the byte at an offset; 0 behind the end -/
def pk (s : ByteArray) (i : Nat) : Nat := if h : i < s.size then s[i].toNat else 0
/-- where a comment ends -/
def cend (s : ByteArray) (a : Nat) : Nat := a + ((s.data.toList.drop a).takeWhile (fun c => c != 10)).length
/-- one step of what is skipped at an offset -/
def sk1 (s : ByteArray) (a : Nat) : Option Nat :=
  if s.size ≤ a then none
  else if pk s a = 32 ∨ pk s a = 9 then some (a + 1)
  else if pk s a = 92 ∧ pk s (a + 1) = 10 then some (a + 2)
  else if pk s a = 35 then some (cend s a)
  else none
def skF : Nat → ByteArray → Nat → Nat
  | 0, _, a => a
  | f + 1, s, a => match sk1 s a with
    | none => a
    | some b => skF f s b
def skS (s : ByteArray) (a : Nat) : Nat := skF (s.size + 1 - a) s a
theorem pk_lt {s : ByteArray} {i n : Nat} (h : pk s i = n) (hn : 0 < n) : i < s.size := by
  unfold pk at h
  split at h
  · assumption
  · omega
theorem cend_le (s : ByteArray) (a : Nat) (h : a ≤ s.size) : a ≤ cend s a ∧ cend s a ≤ s.size := by
  unfold cend
  have := (List.takeWhile_sublist (fun c : UInt8 => c != 10) (l := s.data.toList.drop a)).length_le
  rw [List.length_drop, ← size_len] at this; omega
theorem cend_lt (s : ByteArray) (a : Nat) (h : pk s a = 35) : a < cend s a := by
  have ha := pk_lt h (by omega)
  unfold cend
  rw [List.drop_eq_getElem_cons (by rw [← size_len]; exact ha), List.takeWhile_cons_of_pos]
  · simp
  · unfold pk at h; rw [dif_pos ha] at h
    have e : s.data.toList[a]'(by rw [← size_len]; exact ha) = s[a] := rfl
    rw [e]
    simp only [bne_iff_ne]
    intro x; rw [x] at h; revert h; decide
theorem sk1_bd {s : ByteArray} {a b : Nat} (h : sk1 s a = some b) : a < b ∧ b ≤ s.size := by
  unfold sk1 at h
  split at h
  · cases h
  · rename_i h0
    split at h
    · cases h; omega
    · split at h
      · rename_i h2
        cases h
        have := pk_lt h2.2 (by omega); omega
      · split at h
        · rename_i h3
          cases h
          exact ⟨cend_lt s a h3, (cend_le s a (by omega)).2⟩
        · cases h
theorem skF_more : ∀ (f g : Nat) (s : ByteArray) (a : Nat), s.size + 1 ≤ a + f → s.size + 1 ≤ a + g → skF f s a = skF g s a := by
  intro f
  induction f with
  | zero =>
    intro g s a h _
    cases g with
    | zero => rfl
    | succ g =>
      have : sk1 s a = none := by unfold sk1; rw [if_pos (by omega)]
      simp only [skF, this]
  | succ f ih =>
    intro g s a h h'
    cases g with
    | zero =>
      have : sk1 s a = none := by unfold sk1; rw [if_pos (by omega)]
      simp only [skF, this]
    | succ g =>
      simp only [skF]
      cases hs : sk1 s a with
      | none => rfl
      | some b =>
        have := sk1_bd hs
        exact ih g s b (by omega) (by omega)
theorem skS_step {s : ByteArray} {a b : Nat} (h : sk1 s a = some b) : skS s a = skS s b := by
  have hb := sk1_bd h
  have e : s.size + 1 - a = (s.size - a) + 1 := by omega
  unfold skS
  rw [e]
  simp only [skF, h]
  exact skF_more _ _ s b (by omega) (by omega)
theorem skS_none {s : ByteArray} {a : Nat} (h : sk1 s a = none) : skS s a = a := by
  unfold skS
  cases s.size + 1 - a with
  | zero => rfl
  | succ f => simp only [skF, h]
theorem skS_bd (s : ByteArray) : ∀ (k a : Nat), s.size - a = k → a ≤ s.size → a ≤ skS s a ∧ skS s a ≤ s.size ∧ sk1 s (skS s a) = none := by
  intro k
  induction k using Nat.strongRecOn with
  | _ k ih =>
    intro a hk ha
    cases h : sk1 s a with
    | none => rw [skS_none h]; exact ⟨Nat.le_refl _, ha, h⟩
    | some b =>
      have hb := sk1_bd h
      rw [skS_step h]
      have := ih (s.size - b) (by omega) b rfl hb.2
      exact ⟨by omega, this.2⟩
/-- the next line feed, as strings.IndexByte finds it -/
theorem idx_nl (l : List UInt8) : (Lib.indexByte l 10 = -1 → (l.takeWhile (fun c => c != 10)).length = l.length) ∧ (∀ n : Nat, Lib.indexByte l 10 = n → (l.takeWhile (fun c => c != 10)).length = n) := by
  induction l with
  | nil => refine ⟨fun _ => rfl, fun n h => ?_⟩; simp [Lib.indexByte] at h
  | cons c r ih =>
    by_cases hc : c = 10
    · subst hc
      have e : Lib.indexByte (10 :: r) 10 = 0 := by simp [Lib.indexByte]
      rw [e]
      refine ⟨fun h => by omega, fun n h => ?_⟩
      rw [List.takeWhile_cons_of_neg (by decide)]
      show 0 = n; omega
    · have e : Lib.indexByte (c :: r) 10 = if Lib.indexByte r 10 == -1 then -1 else Lib.indexByte r 10 + 1 := by
        simp [Lib.indexByte, hc]
      rw [e, List.takeWhile_cons_of_pos (by simpa using hc), List.length_cons]
      by_cases hm : Lib.indexByte r 10 = -1
      · rw [hm]
        refine ⟨fun _ => by rw [ih.1 hm]; rfl, fun n h => ?_⟩
        have e2 : (if ((-1 : Int) == -1) = true then (-1 : Int) else -1 + 1) = -1 := by decide
        rw [e2] at h; omega
      · rw [if_neg (by simpa using hm)]
        refine ⟨fun h => ?_, fun n h => ?_⟩
        · have := (ih.2 0); exfalso
          have h0 : Lib.indexByte r 10 = -2 := by omega
          have hge : -1 ≤ Lib.indexByte r 10 := by rw [← Lib.index_one]; exact Lib.index_ge _ _
          omega
        · cases n with
          | zero =>
            have hge : -1 ≤ Lib.indexByte r 10 := by rw [← Lib.index_one]; exact Lib.index_ge _ _
            omega
          | succ n => rw [ih.2 n (by omega)]
end Tx
/- plain: what the scanner does at an offset -/
namespace Tx
open Go
def lt (c : Nat) : Bool := (decide (97 ≤ c) && decide (c ≤ 122)) || (decide (65 ≤ c) && decide (c ≤ 90)) || decide (c = 95)
def dgn (c : Nat) : Bool := decide (48 ≤ c) && decide (c ≤ 57)
def wb (c : Nat) : Bool := lt c || dgn c
/-- the end of a word -/
def wendF : Nat → ByteArray → Nat → Nat
  | 0, _, a => a
  | f + 1, s, a => if wb (pk s a) then wendF f s (a + 1) else a
def wend (s : ByteArray) (a : Nat) : Nat := wendF (s.size - a) s a
theorem pk_ge {s : ByteArray} {i : Nat} (h : s.size ≤ i) : pk s i = 0 := by unfold pk; rw [dif_neg (by omega)]
theorem pk_at {s : ByteArray} {i : Nat} (h : i < s.size) : pk s i = s[i].toNat := by unfold pk; rw [dif_pos h]
theorem wb_lt {s : ByteArray} {i : Nat} (h : wb (pk s i) = true) : i < s.size := by
  by_cases hl : i < s.size
  · exact hl
  · rw [pk_ge (by omega)] at h; exact absurd h (by decide)
theorem wendF_more : ∀ (f g : Nat) (s : ByteArray) (a : Nat), s.size ≤ a + f → s.size ≤ a + g → wendF f s a = wendF g s a := by
  intro f
  induction f with
  | zero =>
    intro g s a h _
    cases g with
    | zero => rfl
    | succ g => simp only [wendF]; rw [pk_ge (by omega), if_neg (by decide)]
  | succ f ih =>
    intro g s a h h'
    cases g with
    | zero => simp only [wendF]; rw [pk_ge (by omega), if_neg (by decide)]
    | succ g => simp only [wendF]; rw [ih g s (a + 1) (by omega) (by omega)]
theorem wend_step {s : ByteArray} {a : Nat} (h : wb (pk s a) = true) : wend s a = wend s (a + 1) := by
  have hl := wb_lt h
  unfold wend
  rw [show s.size - a = (s.size - a - 1) + 1 by omega]
  simp only [wendF]; rw [if_pos h]
  exact wendF_more _ _ s _ (by omega) (by omega)
theorem wend_stop {s : ByteArray} {a : Nat} (h : wb (pk s a) = false) : wend s a = a := by
  unfold wend
  cases s.size - a with
  | zero => rfl
  | succ f => simp only [wendF]; rw [if_neg (by rw [h]; decide)]
theorem wend_bd (s : ByteArray) : ∀ (k a : Nat), s.size - a = k → a ≤ s.size → a ≤ wend s a ∧ wend s a ≤ s.size ∧ wb (pk s (wend s a)) = false ∧ ∀ j, a ≤ j → j < wend s a → wb (pk s j) = true := by
  intro k
  induction k with
  | zero => intro a hk ha; have e : wb (pk s a) = false := by (rw [pk_ge (by omega)]; decide)
            rw [wend_stop e]; exact ⟨Nat.le_refl _, ha, e, fun j _ _ => by omega⟩
  | succ k ih =>
    intro a hk ha
    cases e : wb (pk s a) with
    | false => rw [wend_stop e]; exact ⟨Nat.le_refl _, ha, e, fun j _ _ => by omega⟩
    | true =>
      rw [wend_step e]
      obtain ⟨h1, h2, h3, h4⟩ := ih (a + 1) (by omega) (by omega)
      exact ⟨by omega, h2, h3, fun j hj hj' => by
        by_cases hja : j = a
        · rw [hja]; exact e
        · exact h4 j (by omega) hj'⟩
/-- the byte that closes -/
def clzF : Nat → ByteArray → Nat → Nat → Option Nat
  | 0, _, _, _ => none
  | f + 1, s, c, i => if s.size ≤ i then none else if pk s i = c then some i else if pk s i = 10 then none
    else if pk s i = 92 then (if pk s (i + 1) = 10 then none else clzF f s c (i + 2)) else clzF f s c (i + 1)
def clz (s : ByteArray) (c i : Nat) : Option Nat := clzF (s.size - i) s c i
theorem clzF_more : ∀ (f g : Nat) (s : ByteArray) (c i : Nat), s.size ≤ i + f → s.size ≤ i + g → clzF f s c i = clzF g s c i := by
  intro f
  induction f with
  | zero =>
    intro g s c i h _
    cases g with
    | zero => rfl
    | succ g => simp only [clzF]; rw [if_pos (by omega)]
  | succ f ih =>
    intro g s c i h h'
    cases g with
    | zero => simp only [clzF]; rw [if_pos (by omega)]
    | succ g => simp only [clzF, ih g s c (i + 1) (by omega) (by omega), ih g s c (i + 2) (by omega) (by omega)]
theorem clz_eq (s : ByteArray) (c i : Nat) : clz s c i = if s.size ≤ i then none else if pk s i = c then some i else if pk s i = 10 then none
    else if pk s i = 92 then (if pk s (i + 1) = 10 then none else clz s c (i + 2)) else clz s c (i + 1) := by
  unfold clz
  by_cases h : s.size ≤ i
  · rw [if_pos h, show s.size - i = 0 by omega]; rfl
  · rw [if_neg h]
    have e : s.size - i = (s.size - i - 1) + 1 := by omega
    conv => lhs; rw [e]
    simp only [clzF]; rw [if_neg h, clzF_more (s.size - i - 1) (s.size - (i + 2)) s c (i + 2) (by omega) (by omega), clzF_more (s.size - i - 1) (s.size - (i + 1)) s c (i + 1) (by omega) (by omega)]
theorem clz_bd (s : ByteArray) (c : Nat) : ∀ (k i e : Nat), s.size - i ≤ k → clz s c i = some e → i ≤ e ∧ e < s.size ∧ pk s e = c := by
  intro k
  induction k with
  | zero => intro i e hk h; rw [clz_eq, if_pos (by omega)] at h; cases h
  | succ k ih =>
    intro i e hk h
    rw [clz_eq] at h
    split at h
    · cases h
    · split at h
      · cases h; exact ⟨Nat.le_refl _, by omega, by assumption⟩
      · split at h
        · cases h
        · split at h
          · split at h
            · cases h
            · have := ih (i + 2) e (by omega) h; exact ⟨by omega, this.2⟩
          · have := ih (i + 1) e (by omega) h; exact ⟨by omega, this.2⟩
structure Tok where
  k : Int
  t : ByteArray
  n : Int
  a : Int
/-- what is at an offset: a token and its end, an error and its offset, or nothing up to an offset -/
inductive Out where
  | tk (k : Int) (t : ByteArray) (n : Int) (b : Nat)
  | er (e : Int) (k : Nat)
  | sk (b : Nat)
def aft (L : List (List UInt8)) (T : List Tok) : Bool := match T.getLast? with
  | none => false
  | some t => (decide (t.k = 7) || decide (t.k = 6)) && decide (t.t.data.toList ∈ L)
def dvL : List (List UInt8) := [[41], [93], [43, 43], [45, 45]]
def dvs (T : List Tok) : Bool := match T.getLast? with
  | none => false
  | some t => decide (t.k = 1) || decide (t.k = 2) || decide (t.k = 3) || decide (t.k = 4) || aft dvL T
def skL : List (List UInt8) := [[44], [123], [38, 38], [124, 124], [100, 111], [101, 108, 115, 101]]
def kwL : List (List UInt8) := [[66, 69, 71, 73, 78], [69, 78, 68], [102, 117, 110, 99, 116, 105, 111, 110], [105, 102], [101, 108, 115, 101], [119, 104, 105, 108, 101], [102, 111, 114], [100, 111], [105, 110], [110, 101, 120, 116], [101, 120, 105, 116], [114, 101, 116, 117, 114, 110], [98, 114, 101, 97, 107], [99, 111, 110, 116, 105, 110, 117, 101], [100, 101, 108, 101, 116, 101], [112, 114, 105, 110, 116], [112, 114, 105, 110, 116, 102], [103, 101, 116, 108, 105, 110, 101]]
def twL : List (List UInt8) := [[43, 61], [45, 61], [42, 61], [47, 61], [37, 61], [94, 61], [61, 61], [60, 61], [62, 61], [33, 61], [33, 126], [43, 43], [45, 45], [38, 38], [124, 124], [62, 62]]
def onL : List UInt8 := [123, 125, 40, 41, 91, 93, 59, 44, 43, 45, 42, 47, 37, 94, 33, 60, 62, 63, 58, 126, 36, 61]
def numM (s : ByteArray) (a : Nat) : Out :=
  if 15 < Byt.preN (s.data.toList.drop a) then .er 3 a else .tk 1 ⟨#[]⟩ (Byt.preV (s.data.toList.drop a)) (a + Byt.preN (s.data.toList.drop a))
def wordM (s : ByteArray) (a : Nat) : Out :=
  if (s.extract a (wend s a)).data.toList ∈ kwL then .tk 6 (s.extract a (wend s a)) 0 (wend s a)
  else if 32 < wend s a - a then .er 3 a
  else if pk s (wend s a) = 40 then .tk 5 (s.extract a (wend s a)) 0 (wend s a)
  else .tk 4 (s.extract a (wend s a)) 0 (wend s a)
def quoM (s : ByteArray) (c a : Nat) : Out := match clz s c (a + 1) with
  | none => .er 1 a
  | some e => if c = 47 then .tk 3 (s.extract (a + 1) e) 0 (e + 1) else match unesc (s.extract (a + 1) e).data.toList with
    | .ok l => .tk 2 ⟨l.toArray⟩ 0 (e + 1)
    | .error k => .er 1 (a + 1 + k)
def markM (s : ByteArray) (a : Nat) : Out :=
  if (s.extract a (min (a + 2) s.size)).data.toList ∈ twL then .tk 7 (s.extract a (min (a + 2) s.size)) 0 (a + 2)
  else if (pk s a).toUInt8 ∈ onL then .tk 7 (s.extract a (a + 1)) 0 (a + 1) else .er 1 a
def tokM (s : ByteArray) (a : Nat) (T : List Tok) : Out :=
  if pk s a = 10 then (if aft skL T then .sk (a + 1) else .tk 8 ⟨#[]⟩ 0 (a + 1))
  else if dgn (pk s a) ∨ pk s a = 46 ∧ dgn (pk s (a + 1)) then numM s a
  else if lt (pk s a) then wordM s a
  else if pk s a = 34 then quoM s 34 a
  else if pk s a = 47 ∧ dvs T = false then quoM s 47 a
  else markM s a
inductive Res where
  | ok (T : List Tok)
  | err (e : Int) (k : Nat)
def runF : Nat → ByteArray → Nat → List Tok → Res
  | 0, _, _, T => .ok T
  | f + 1, s, a, T => if s.size ≤ skS s a then .ok (T ++ [⟨0, ⟨#[]⟩, 0, (skS s a : Nat)⟩]) else match tokM s (skS s a) T with
    | .sk b => runF f s b T
    | .tk k t n b => runF f s b (T ++ [⟨k, t, n, (skS s a : Nat)⟩])
    | .er e k => .err e k
def runM (s : ByteArray) (a : Nat) (T : List Tok) : Res := runF (s.size + 1 - a) s a T
end Tx
/- plain: the scanner's run -/
namespace Tx
open Go
theorem isAt_lt {l : List UInt8} {i : Nat} {c : UInt8} (h : Byt.isAt l i c = true) : i < l.length := by
  unfold Byt.isAt at h
  by_cases hl : i < l.length
  · exact hl
  · rw [List.getElem?_eq_none (by omega)] at h; simp at h
theorem preP_le (l : List UInt8) : Byt.preP l ≤ l.length := by
  unfold Byt.preP
  have := Byt.run_le Byt.bl l
  split
  · rename_i h
    simp only [Bool.or_eq_true] at h
    rcases h with h | h <;> have := isAt_lt h <;> omega
  · exact this
theorem preN_le (l : List UInt8) : Byt.preN l ≤ l.length := by
  have h1 := preP_le l
  have h2 := Byt.run_le Byt.dg (l.drop (Byt.preP l))
  rw [List.length_drop] at h2
  unfold Byt.preN
  split
  · omega
  · split
    · rename_i h
      unfold Byt.preU at h
      simp only [Bool.and_eq_true] at h
      have h3 := isAt_lt h.1
      have h4 : Byt.preK l ≤ l.length - (Byt.preP l + Byt.preM l + 1) := by
        have := Byt.run_le Byt.dg (l.drop (Byt.preP l + Byt.preM l + 1))
        rw [List.length_drop] at this; exact this
      omega
    · unfold Byt.preM; omega
/-- where a number begins -/
theorem preN_pos (l : List UInt8) (c : UInt8) (r : List UInt8) (hl : l = c :: r) (h : Byt.dg c = true ∨ c = 46 ∧ ∃ d q, r = d :: q ∧ Byt.dg d = true) : 1 ≤ Byt.preN l ∧ Byt.preP l = 0 := by
  have nb : Byt.bl c = false := by
    rcases h with h | h
    · unfold Byt.dg at h; unfold Byt.bl
      simp only [Bool.and_eq_true, decide_eq_true_eq] at h
      simp; omega
    · rw [h.1]; decide
  have n4 : c ≠ 45 ∧ c ≠ 43 := by
    rcases h with h | h
    · unfold Byt.dg at h
      simp only [Bool.and_eq_true, decide_eq_true_eq] at h
      constructor <;> (intro x; rw [x] at h; revert h; decide)
    · rw [h.1]; decide
  have r0 : Byt.run Byt.bl l = 0 := by subst hl; simp only [Byt.run]; rw [nb]; rfl
  have p0 : Byt.preP l = 0 := by
    subst hl
    unfold Byt.preP
    rw [r0]
    simp [Byt.isAt, n4.1, n4.2]
  refine ⟨?_, p0⟩
  unfold Byt.preN
  rcases h with h | ⟨h, d, q, hr, hd⟩
  · have m1 : 1 ≤ Byt.preM l := by
      unfold Byt.preM; rw [p0, hl, List.drop_zero]; simp only [Byt.run]; rw [if_pos h]; omega
    rw [if_neg (by unfold Byt.preEmpty; simp; omega)]
    split <;> omega
  · have m0 : Byt.preM l = 0 := by
      unfold Byt.preM; rw [p0, hl, List.drop_zero, h]; rfl
    have k1 : 1 ≤ Byt.preK l := by
      unfold Byt.preK; rw [p0, m0, hl, hr]; simp only [Nat.zero_add, List.drop_succ_cons, List.drop_zero, Byt.run]; rw [if_pos hd]; omega
    have u : Byt.preU l = true := by
      unfold Byt.preU; rw [p0, m0, hl, h]
      have : Byt.preK (46 :: r) = Byt.preK l := by rw [hl, h]
      rw [this]
      simp [Byt.isAt]; omega
    rw [if_neg (by unfold Byt.preEmpty; rw [u]; simp), if_pos u]; omega
theorem une_er : ∀ (f : Nat) (l : List UInt8) (i k : Nat), une f l i = .error k → i ≤ k ∧ k < i + l.length := by
  intro f
  induction f with
  | zero => intro l i k h; simp [une] at h
  | succ f ih =>
    intro l i k h
    cases l with
    | nil => simp [une] at h
    | cons c r =>
      simp only [une] at h
      split at h
      · split at h
        · split at h
          · cases h
          · rename_i k' hk
            cases h
            have := ih _ _ _ hk
            rw [List.length_drop] at this
            have := (seqN_bd r).1
            rw [List.length_cons]; omega
        · cases h; rw [List.length_cons]; omega
      · split at h
        · cases h
        · rename_i k' hk
          cases h
          have := ih _ _ _ hk
          rw [List.length_cons]; omega
/-- a step goes on, within the text -/
def OutB (s : ByteArray) (a : Nat) : Out → Prop
  | .tk _ _ _ b => a < b ∧ b ≤ s.size
  | .er e k => (e = 1 ∨ e = 3) ∧ k < s.size
  | .sk b => a < b ∧ b ≤ s.size
theorem tokM_bd {s : ByteArray} {a : Nat} {T : List Tok} (ha : a < s.size) : OutB s a (tokM s a T) := by
  unfold tokM
  by_cases h10 : pk s a = 10
  · rw [if_pos h10]
    split <;> (simp only [OutB]; omega)
  rw [if_neg h10]
  by_cases hd : dgn (pk s a) = true ∨ pk s a = 46 ∧ dgn (pk s (a + 1)) = true
  · rw [if_pos hd]
    have hl : s.data.toList.drop a = s[a] :: s.data.toList.drop (a + 1) := Byt.drop_lt s a ha
    have P := preN_pos _ _ _ hl (by
      rw [pk_at ha] at hd
      rcases hd with hd | hd
      · exact .inl hd
      · by_cases hl1 : a + 1 < s.size
        · refine .inr ⟨?_, s[a + 1], _, Byt.drop_lt s (a + 1) hl1, ?_⟩
          · exact UInt8.toNat_inj.mp hd.1
          · rw [pk_at hl1] at hd; exact hd.2
        · rw [pk_ge (by omega)] at hd; exact absurd hd.2 (by decide))
    have Q := preN_le (s.data.toList.drop a)
    rw [List.length_drop, ← size_len] at Q
    unfold numM
    by_cases h15 : 15 < Byt.preN (s.data.toList.drop a)
    · rw [if_pos h15]; exact ⟨.inr rfl, ha⟩
    · rw [if_neg h15]; simp only [OutB]; omega
  rw [if_neg hd]
  by_cases hl : lt (pk s a) = true
  · rw [if_pos hl]
    have hw : wb (pk s a) = true := by unfold wb; rw [hl]; rfl
    have W := wend_bd s (s.size - (a + 1)) (a + 1) rfl (by omega)
    rw [← wend_step hw] at W
    unfold wordM
    split
    · simp only [OutB]; omega
    · split
      · exact ⟨.inr rfl, ha⟩
      · split <;> (simp only [OutB]; omega)
  rw [if_neg hl]
  have Q : ∀ c, OutB s a (quoM s c a) := by
    intro c
    unfold quoM
    cases hz : clz s c (a + 1) with
    | none => exact ⟨.inl rfl, ha⟩
    | some e =>
      obtain ⟨b1, b2, -⟩ := clz_bd s c _ _ _ (Nat.le_refl _) hz
      simp only
      by_cases h47 : c = 47
      · rw [if_pos h47]; simp only [OutB]; omega
      · rw [if_neg h47]
        cases hu : unesc (s.extract (a + 1) e).data.toList with
        | ok l => simp only [OutB]; omega
        | error k =>
          have hk := une_er _ _ _ _ (show une (s.extract (a + 1) e).data.toList.length (s.extract (a + 1) e).data.toList 0 = .error k from hu)
          rw [Byt.ext_mid, List.length_take, List.length_drop, ← size_len] at hk
          exact ⟨.inl rfl, by omega⟩
  by_cases h34 : pk s a = 34
  · rw [if_pos h34]; exact Q 34
  rw [if_neg h34]
  by_cases h47 : pk s a = 47 ∧ dvs T = false
  · rw [if_pos h47]; exact Q 47
  rw [if_neg h47]
  unfold markM
  by_cases ht : (s.extract a (min (a + 2) s.size)).data.toList ∈ twL
  · rw [if_pos ht]
    have h2 : (s.extract a (min (a + 2) s.size)).data.toList.length = 2 := by
      revert ht; generalize (s.extract a (min (a + 2) s.size)).data.toList = l
      intro ht
      simp only [twL, List.mem_cons, List.not_mem_nil, or_false] at ht
      rcases ht with h | h | h | h | h | h | h | h | h | h | h | h | h | h | h | h <;> rw [h] <;> rfl
    rw [Byt.ext_mid, List.length_take, List.length_drop, ← size_len] at h2
    simp only [OutB]; omega
  · rw [if_neg ht]
    split
    · simp only [OutB]; omega
    · exact ⟨.inl rfl, ha⟩
theorem skS_le {s : ByteArray} {a : Nat} (h : a ≤ s.size) : a ≤ skS s a ∧ skS s a ≤ s.size ∧ sk1 s (skS s a) = none := skS_bd s _ a rfl h
theorem runF_more (s : ByteArray) : ∀ (f g a : Nat) (T : List Tok), a ≤ s.size → s.size + 1 ≤ a + f → s.size + 1 ≤ a + g → runF f s a T = runF g s a T := by
  intro f
  induction f with
  | zero => intro g a T ha h; omega
  | succ f ih =>
    intro g a T ha h h'
    cases g with
    | zero => omega
    | succ g =>
      simp only [runF]
      obtain ⟨k1, k2, -⟩ := skS_le ha
      by_cases he : s.size ≤ skS s a
      · rw [if_pos he, if_pos he]
      · rw [if_neg he, if_neg he]
        have B := tokM_bd (T := T) (show skS s a < s.size by omega)
        cases ht : tokM s (skS s a) T with
        | tk k t n b => rw [ht] at B; have B : skS s a < b ∧ b ≤ s.size := B; exact ih g b _ B.2 (by omega) (by omega)
        | er e k => rfl
        | sk b => rw [ht] at B; have B : skS s a < b ∧ b ≤ s.size := B; exact ih g b _ B.2 (by omega) (by omega)
/-- what follows a step -/
def nextM (s : ByteArray) (a : Nat) (T : List Tok) : Out → Res
  | .sk b => runM s b T
  | .tk k t n b => runM s b (T ++ [⟨k, t, n, (a : Nat)⟩])
  | .er e k => .err e k
theorem runM_eq {s : ByteArray} {a : Nat} (T : List Tok) (ha : a ≤ s.size) : runM s a T = if s.size ≤ skS s a then .ok (T ++ [⟨0, ⟨#[]⟩, 0, (skS s a : Nat)⟩]) else nextM s (skS s a) T (tokM s (skS s a) T) := by
  unfold runM
  rw [show s.size + 1 - a = (s.size - a) + 1 by omega]
  simp only [runF]
  obtain ⟨k1, k2, -⟩ := skS_le ha
  by_cases he : s.size ≤ skS s a
  · rw [if_pos he, if_pos he]
  · rw [if_neg he, if_neg he]
    have B := tokM_bd (T := T) (show skS s a < s.size by omega)
    cases ht : tokM s (skS s a) T with
    | tk k t n b => rw [ht] at B; have B : skS s a < b ∧ b ≤ s.size := B; exact runF_more s _ _ b _ B.2 (by omega) (by omega)
    | er e k => rfl
    | sk b => rw [ht] at B; have B : skS s a < b ∧ b ≤ s.size := B; exact runF_more s _ _ b _ B.2 (by omega) (by omega)
theorem runM_sk1 {s : ByteArray} {a b : Nat} {T : List Tok} (ha : a ≤ s.size) (h : sk1 s a = some b) : runM s a T = runM s b T := by
  rw [runM_eq T ha, runM_eq T (sk1_bd h).2, skS_step h]
theorem runM_at {s : ByteArray} {a : Nat} (T : List Tok) (ha : a ≤ s.size) (h : sk1 s a = none) : runM s a T = if s.size ≤ a then .ok (T ++ [⟨0, ⟨#[]⟩, 0, (a : Nat)⟩]) else nextM s a T (tokM s a T) := by
  rw [runM_eq T ha, skS_none h]
theorem runM_skS {s : ByteArray} {a : Nat} (T : List Tok) (ha : a ≤ s.size) : runM s a T = runM s (skS s a) T := by
  rw [runM_eq T ha, runM_at T (skS_le ha).2.1 (skS_le ha).2.2]
end Tx
/- plain: a run elsewhere -/
namespace Tx
open Go
theorem bext {a b : ByteArray} (h : a.data.toList = b.data.toList) : a = b := by
  rcases a with ⟨⟨a⟩⟩; rcases b with ⟨⟨b⟩⟩; simp at h; rw [h]
/-- two texts agree from an offset on -/
structure Sh (s s2 : ByteArray) (d j : Nat) : Prop where
  sz : s2.size = s.size + d
  dr : ∀ a, j ≤ a → s2.data.toList.drop (a + d) = s.data.toList.drop a
theorem Sh.of {s s2 : ByteArray} {d j : Nat} (hj : j ≤ s.size) (hz : j + d ≤ s2.size) (h : s2.data.toList.drop (j + d) = s.data.toList.drop j) : Sh s s2 d j := by
  have e := congrArg List.length h
  rw [List.length_drop, List.length_drop, ← size_len, ← size_len] at e
  refine ⟨by omega, fun a ha => ?_⟩
  have : a + d = j + d + (a - j) := by omega
  rw [this, ← List.drop_drop, h, List.drop_drop]
  congr 1; omega
theorem Sh.le {s s2 : ByteArray} {d j j' : Nat} (h : Sh s s2 d j) (hj : j ≤ j') : Sh s s2 d j' := ⟨h.sz, fun a ha => h.dr a (by omega)⟩
theorem pk_drop (s : ByteArray) (i : Nat) : pk s i = match (s.data.toList.drop i).head? with
    | some c => c.toNat
    | none => 0 := by
  by_cases h : i < s.size
  · rw [pk_at h, List.drop_eq_getElem_cons (by rw [← size_len]; exact h)]; rfl
  · rw [pk_ge (by omega), List.drop_of_length_le (by rw [← size_len]; omega)]; rfl
theorem Sh.pk {s s2 : ByteArray} {d j : Nat} (h : Sh s s2 d j) {a : Nat} (ha : j ≤ a) : Tx.pk s2 (a + d) = Tx.pk s a := by
  rw [pk_drop, pk_drop, h.dr a ha]
theorem Sh.ext {s s2 : ByteArray} {d j : Nat} (h : Sh s s2 d j) {a b : Nat} (ha : j ≤ a) : s2.extract (a + d) (b + d) = s.extract a b := by
  apply bext
  rw [Byt.ext_mid, Byt.ext_mid, h.dr a ha]
  congr 1; omega
theorem Sh.cend {s s2 : ByteArray} {d j : Nat} (h : Sh s s2 d j) {a : Nat} (ha : j ≤ a) : Tx.cend s2 (a + d) = Tx.cend s a + d := by
  unfold Tx.cend; rw [h.dr a ha]; omega
theorem Sh.sk1 {s s2 : ByteArray} {d j : Nat} (h : Sh s s2 d j) {a : Nat} (ha : j ≤ a) : Tx.sk1 s2 (a + d) = (Tx.sk1 s a).map (· + d) := by
  unfold Tx.sk1
  rw [h.sz, h.pk ha, show a + d + 1 = a + 1 + d by omega, h.pk (show j ≤ a + 1 by omega), h.cend ha]
  by_cases h0 : s.size ≤ a
  · rw [if_pos (by omega), if_pos h0]; rfl
  rw [if_neg (by omega), if_neg h0]
  by_cases h1 : Tx.pk s a = 32 ∨ Tx.pk s a = 9
  · rw [if_pos h1, if_pos h1]; rfl
  rw [if_neg h1, if_neg h1]
  by_cases h2 : Tx.pk s a = 92 ∧ Tx.pk s (a + 1) = 10
  · rw [if_pos h2, if_pos h2]; simp only [Option.map_some]; congr 1; omega
  rw [if_neg h2, if_neg h2]
  by_cases h3 : Tx.pk s a = 35
  · rw [if_pos h3, if_pos h3]; rfl
  · rw [if_neg h3, if_neg h3]; rfl
theorem Sh.skS {s s2 : ByteArray} {d j : Nat} (h : Sh s s2 d j) : ∀ (k a : Nat), s.size - a = k → j ≤ a → Tx.skS s2 (a + d) = Tx.skS s a + d := by
  intro k
  induction k using Nat.strongRecOn with
  | _ k ih =>
    intro a hk ha
    have e := h.sk1 ha
    cases hs : Tx.sk1 s a with
    | none => rw [hs] at e; rw [skS_none hs, skS_none e]
    | some b =>
      rw [hs] at e
      have hb := sk1_bd hs
      rw [skS_step hs, skS_step e]
      exact ih (s.size - b) (by omega) b rfl (by omega)
theorem Sh.wend {s s2 : ByteArray} {d j : Nat} (h : Sh s s2 d j) : ∀ (k a : Nat), s.size - a = k → j ≤ a → Tx.wend s2 (a + d) = Tx.wend s a + d := by
  intro k
  induction k with
  | zero =>
    intro a hk ha
    have e : wb (Tx.pk s a) = false := by (rw [pk_ge (by omega)]; decide)
    rw [wend_stop (s := s) e, wend_stop (s := s2) (by rw [h.pk ha]; exact e)]
  | succ k ih =>
    intro a hk ha
    cases e : wb (Tx.pk s a) with
    | false => rw [wend_stop (s := s) e, wend_stop (s := s2) (by rw [h.pk ha]; exact e)]
    | true =>
      rw [wend_step (s := s) e, wend_step (s := s2) (by rw [h.pk ha]; exact e), show a + d + 1 = a + 1 + d by omega]
      exact ih (a + 1) (by omega) (by omega)
theorem Sh.clz {s s2 : ByteArray} {d j : Nat} (h : Sh s s2 d j) (c : Nat) : ∀ (k a : Nat), s.size - a ≤ k → j ≤ a → Tx.clz s2 c (a + d) = (Tx.clz s c a).map (· + d) := by
  intro k
  induction k with
  | zero =>
    intro a hk ha
    rw [clz_eq s2, clz_eq s, if_pos (by have := h.sz; omega), if_pos (by omega)]; rfl
  | succ k ih =>
    intro a hk ha
    rw [clz_eq s2, clz_eq s, h.sz, h.pk ha, show a + d + 1 = a + 1 + d by omega, h.pk (show j ≤ a + 1 by omega), show a + d + 2 = a + 2 + d by omega]
    by_cases h0 : s.size ≤ a
    · rw [if_pos (by omega), if_pos h0]; rfl
    rw [if_neg (by omega), if_neg h0, ih (a + 1) (by omega) (by omega), ih (a + 2) (by omega) (by omega)]
    by_cases h1 : Tx.pk s a = c
    · rw [if_pos h1, if_pos h1]; rfl
    rw [if_neg h1, if_neg h1]
    by_cases h2 : Tx.pk s a = 10
    · rw [if_pos h2, if_pos h2]; rfl
    rw [if_neg h2, if_neg h2]
    by_cases h3 : Tx.pk s a = 92
    · rw [if_pos h3, if_pos h3]
      by_cases h4 : Tx.pk s (a + 1) = 10
      · rw [if_pos h4, if_pos h4]; rfl
      · rw [if_neg h4, if_neg h4]
    · rw [if_neg h3, if_neg h3]
def Out.mv (d : Nat) : Out → Out
  | .tk k t n b => .tk k t n (b + d)
  | .er e k => .er e (k + d)
  | .sk b => .sk (b + d)
def Tok.mv (d : Nat) (t : Tok) : Tok := { t with a := t.a + d }
theorem Sh.num {s s2 : ByteArray} {d j : Nat} (h : Sh s s2 d j) {a : Nat} (ha : j ≤ a) : numM s2 (a + d) = (numM s a).mv d := by
  unfold numM; rw [h.dr a ha]
  split
  · rfl
  · simp only [Out.mv]; congr 1; omega
theorem Sh.word {s s2 : ByteArray} {d j : Nat} (h : Sh s s2 d j) {a : Nat} (ha : j ≤ a) (hs : a ≤ s.size) : wordM s2 (a + d) = (wordM s a).mv d := by
  unfold wordM
  have W := wend_bd s _ a rfl hs
  rw [h.wend _ a rfl ha, h.ext ha, h.pk (show j ≤ Tx.wend s a by omega), show Tx.wend s a + d - (a + d) = Tx.wend s a - a by omega]
  split
  · rfl
  · split
    · rfl
    · split <;> rfl
theorem Sh.quo {s s2 : ByteArray} {d j : Nat} (h : Sh s s2 d j) {a : Nat} (ha : j ≤ a) (c : Nat) : quoM s2 c (a + d) = (quoM s c a).mv d := by
  unfold quoM
  rw [show a + d + 1 = a + 1 + d by omega, h.clz c _ (a + 1) (Nat.le_refl _) (by omega)]
  cases Tx.clz s c (a + 1) with
  | none => rfl
  | some e =>
    simp only [Option.map_some]
    rw [h.ext (show j ≤ a + 1 by omega)]
    by_cases h47 : c = 47
    · rw [if_pos h47, if_pos h47]; simp only [Out.mv]; congr 1; omega
    · rw [if_neg h47, if_neg h47]
      split
      · simp only [Out.mv]; congr 1; omega
      · simp only [Out.mv]; congr 1; omega
theorem Sh.mark {s s2 : ByteArray} {d j : Nat} (h : Sh s s2 d j) {a : Nat} (ha : j ≤ a) : markM s2 (a + d) = (markM s a).mv d := by
  unfold markM
  rw [h.sz, show min (a + d + 2) (s.size + d) = min (a + 2) s.size + d by omega, h.ext ha, h.pk ha, show a + d + 1 = a + 1 + d by omega, h.ext ha]
  split
  · simp only [Out.mv]; congr 1; omega
  · split <;> rfl
theorem Sh.tok {s s2 : ByteArray} {d j : Nat} (h : Sh s s2 d j) {a : Nat} (ha : j ≤ a) (hs : a ≤ s.size) {T T2 : List Tok} (h1 : dvs T2 = dvs T) (h2 : Tx.pk s a = 10 → aft skL T2 = aft skL T) : tokM s2 (a + d) T2 = (tokM s a T).mv d := by
  unfold tokM
  rw [h.pk ha, show a + d + 1 = a + 1 + d by omega, h.pk (show j ≤ a + 1 by omega), h1]
  by_cases c1 : Tx.pk s a = 10
  · rw [if_pos c1, if_pos c1, h2 c1]; split <;> rfl
  rw [if_neg c1, if_neg c1]
  by_cases c2 : dgn (Tx.pk s a) = true ∨ Tx.pk s a = 46 ∧ dgn (Tx.pk s (a + 1)) = true
  · rw [if_pos c2, if_pos c2]; exact h.num ha
  rw [if_neg c2, if_neg c2]
  by_cases c3 : lt (Tx.pk s a) = true
  · rw [if_pos c3, if_pos c3]; exact h.word ha hs
  rw [if_neg c3, if_neg c3]
  by_cases c4 : Tx.pk s a = 34
  · rw [if_pos c4, if_pos c4]; exact h.quo ha 34
  rw [if_neg c4, if_neg c4]
  by_cases c5 : Tx.pk s a = 47 ∧ dvs T = false
  · rw [if_pos c5, if_pos c5]; exact h.quo ha 47
  rw [if_neg c5, if_neg c5]; exact h.mark ha
theorem aft_snoc (L : List (List UInt8)) (T : List Tok) (t : Tok) : aft L (T ++ [t]) = ((decide (t.k = 7) || decide (t.k = 6)) && decide (t.t.data.toList ∈ L)) := by simp [aft]
theorem dvs_snoc (T : List Tok) (t : Tok) : dvs (T ++ [t]) = (decide (t.k = 1) || decide (t.k = 2) || decide (t.k = 3) || decide (t.k = 4) || ((decide (t.k = 7) || decide (t.k = 6)) && decide (t.t.data.toList ∈ dvL))) := by simp [dvs, aft]
/-- what a run adds, and that it adds the same elsewhere -/
theorem run_sh (s : ByteArray) : ∀ (k a : Nat), s.size - a = k → a ≤ s.size → ∀ (T R : List Tok), runM s a T = .ok R → ∃ X, R = T ++ X ∧ X ≠ [] ∧
    ∀ (s2 : ByteArray) (d j : Nat) (T2 : List Tok), Sh s s2 d j → j ≤ a → dvs T2 = dvs T → (aft skL T2 = aft skL T ∨ aft skL T = false ∧ ∀ x ∈ X.head?, x.k ≠ 8) → runM s2 (a + d) T2 = .ok (T2 ++ X.map (Tok.mv d)) := by
  intro k
  induction k using Nat.strongRecOn with
  | _ k ih =>
    intro a hk ha T R hR
    obtain ⟨p1, p2, p3⟩ := skS_le ha
    rw [runM_eq T ha] at hR
    by_cases he : s.size ≤ skS s a
    · rw [if_pos he] at hR
      injection hR with hR
      refine ⟨_, hR.symm, by simp, ?_⟩
      intro s2 d j T2 h hj _ _
      have hsz := h.sz
      have e := h.skS _ a rfl hj
      rw [runM_eq T2 (by omega), if_pos (by rw [e]; omega), e]
      simp [Tok.mv]
    · rw [if_neg he] at hR
      have B := tokM_bd (T := T) (show skS s a < s.size by omega)
      cases ht : tokM s (skS s a) T with
      | tk k1 t n b =>
        rw [ht] at B hR
        have B : skS s a < b ∧ b ≤ s.size := B
        obtain ⟨X, e1, e2, e3⟩ := ih (s.size - b) (by omega) b rfl B.2 _ R hR
        refine ⟨⟨k1, t, n, (skS s a : Nat)⟩ :: X, by rw [e1]; simp, by simp, ?_⟩
        intro s2 d j T2 h hj h1 h2
        have hsz := h.sz
        have e := h.skS _ a rfl hj
        have c10 : pk s (skS s a) = 10 → aft skL T2 = aft skL T := by
          intro c
          rcases h2 with h2 | ⟨h2, h3⟩
          · exact h2
          · exfalso
            unfold tokM at ht
            rw [if_pos c, h2] at ht
            simp at ht
            exact h3 _ rfl ht.1.symm
        have e4 := h.tok (T := T) (T2 := T2) (show j ≤ skS s a by omega) (by omega) h1 c10
        rw [ht] at e4
        rw [runM_eq T2 (by omega), if_neg (by rw [e]; omega), e, e4]
        have e5 := e3 s2 d j (T2 ++ [⟨k1, t, n, ((skS s a + d : Nat) : Int)⟩]) h (by omega) (by rw [dvs_snoc, dvs_snoc]) (.inl (by rw [aft_snoc, aft_snoc]))
        show runM s2 (b + d) (T2 ++ [⟨k1, t, n, ((skS s a + d : Nat) : Int)⟩]) = _
        rw [e5]
        simp [Tok.mv]
      | er e k => rw [ht] at hR; cases hR
      | sk b =>
        rw [ht] at B hR
        have B : skS s a < b ∧ b ≤ s.size := B
        obtain ⟨X, e1, e2, e3⟩ := ih (s.size - b) (by omega) b rfl B.2 _ R hR
        refine ⟨X, e1, e2, ?_⟩
        intro s2 d j T2 h hj h1 h2
        have hsz := h.sz
        have e := h.skS _ a rfl hj
        have c10 : pk s (skS s a) = 10 → aft skL T2 = aft skL T := by
          intro c
          rcases h2 with h2 | ⟨h2, h3⟩
          · exact h2
          · exfalso
            unfold tokM at ht
            rw [if_pos c, h2] at ht
            simp at ht
        have e4 := h.tok (T := T) (T2 := T2) (show j ≤ skS s a by omega) (by omega) h1 c10
        rw [ht] at e4
        rw [runM_eq T2 (by omega), if_neg (by rw [e]; omega), e, e4]
        exact e3 s2 d j T2 h (by omega) h1 h2
end Tx
/- plain: a run up to an offset does not depend on what follows it, where a blank or a line feed follows -/
namespace Byt
open Go
theorem run_swap (q : UInt8 → Bool) (x y y2 : List UInt8) (h : run q (x ++ y) ≤ x.length) (h2 : ∀ c, y2[0]? = some c → q c = false) : run q (x ++ y2) = run q (x ++ y) := by
  induction x with
  | nil =>
    have : run q ([] ++ y) = 0 := by simpa using h
    rw [this]
    cases y2 with
    | nil => rfl
    | cons c r => simp only [List.nil_append, run]; rw [h2 c rfl]; rfl
  | cons c r ih =>
    simp only [List.cons_append, run] at h ⊢
    by_cases hc : q c = true
    · rw [if_pos hc] at h ⊢
      rw [if_pos hc, ih (by simpa using h)]
    · rw [if_neg hc, if_neg hc]
theorem isAt_left (x y : List UInt8) (i : Nat) (c : UInt8) (h : i < x.length) : isAt (x ++ y) i c = isAt x i c := by
  unfold isAt; rw [List.getElem?_append_left h]
theorem head_p (c : UInt8) (r : List UInt8) (h : dg c = true ∨ c = 46) : preP (c :: r) = 0 ∧ preNeg (c :: r) = false := by
  have h1 : bl c = false ∧ c ≠ 45 ∧ c ≠ 43 := by
    rcases h with h | rfl
    · simp only [dg, Bool.and_eq_true, decide_eq_true_eq] at h
      refine ⟨?_, ?_, ?_⟩
      · unfold bl; simp; omega
      · rintro rfl; exact absurd h.1 (by decide)
      · rintro rfl; exact absurd h.1 (by decide)
    · decide
  have e : run bl (c :: r) = 0 := by simp only [run]; rw [h1.1]; rfl
  have a1 : isAt (c :: r) 0 45 = false := by unfold isAt; simp [h1.2.1]
  have a2 : isAt (c :: r) 0 43 = false := by unfold isAt; simp [h1.2.2]
  refine ⟨?_, ?_⟩
  · unfold preP; rw [e, a1, a2]; rfl
  · unfold preNeg; rw [e, a1]
theorem num_swap (c : UInt8) (r y y2 : List UInt8) (hc : dg c = true ∨ c = 46) (h1 : 1 ≤ preN (c :: r ++ y)) (h : preN (c :: r ++ y) ≤ (c :: r).length) (h2 : ∀ x, y2[0]? = some x → dg x = false ∧ x ≠ 46) :
    preN (c :: r ++ y2) = preN (c :: r ++ y) ∧ preV (c :: r ++ y2) = preV (c :: r ++ y) := by
  obtain ⟨p1, n1⟩ := head_p c (r ++ y) hc
  obtain ⟨p2, n2⟩ := head_p c (r ++ y2) hc
  rw [← List.cons_append] at p1 n1 p2 n2
  obtain ⟨x, hx⟩ : ∃ x, c :: r = x := ⟨_, rfl⟩
  rw [hx] at h h1 p1 n1 p2 n2
  rw [hx]
  clear hx hc
  obtain ⟨m, hm⟩ : ∃ m, preM (x ++ y) = m := ⟨_, rfl⟩
  have ne : preEmpty (x ++ y) = false := by
    cases e : preEmpty (x ++ y) with
    | false => rfl
    | true => unfold preN at h1; rw [e] at h1; simp at h1
  have hN : preN (x ++ y) = if preU (x ++ y) = true then m + 1 + preK (x ++ y) else m := by
    unfold preN; rw [ne, p1, hm]; simp
  have hml : m ≤ x.length := by
    rw [hN] at h; split at h <;> omega
  have hr : run dg (x ++ y) = m := by rw [← hm]; unfold preM; rw [p1]; rfl
  have hm2 : preM (x ++ y2) = m := by
    unfold preM; rw [p2]
    show run dg (x ++ y2) = m
    rw [run_swap dg x y y2 (by omega) (fun c hc => (h2 c hc).1), hr]
  cases hu : preU (x ++ y) with
  | false =>
    rw [hu] at hN
    simp only [Bool.false_eq_true, if_false] at hN
    have m0 : 0 < m := by omega
    have at1 : isAt (x ++ y) m 46 = false := by
      unfold preU at hu
      rw [p1, hm, Nat.zero_add, decide_eq_true m0] at hu
      simpa using hu
    have at2 : isAt (x ++ y2) m 46 = false := by
      by_cases hl : m < x.length
      · rw [isAt_left _ _ _ _ hl] at at1 ⊢; exact at1
      · unfold isAt
        rw [List.getElem?_append_right (by omega), show m - x.length = 0 by omega]
        cases e : y2[0]? with
        | none => rfl
        | some c => have := (h2 c e).2; simp [this]
    have hu2 : preU (x ++ y2) = false := by unfold preU; rw [p2, hm2, Nat.zero_add, at2]; rfl
    have e1 : preEmpty (x ++ y2) = false := by unfold preEmpty; rw [hm2, hu2]; simp; omega
    refine ⟨?_, ?_⟩
    · rw [hN]; unfold preN; rw [e1, hu2, p2, hm2]; simp
    · unfold preV preA preF
      rw [e1, ne, hu2, hu, n1, n2, p1, p2, hm, hm2]
      simp only [List.drop_zero]
      rw [List.take_append_of_le_length hml, List.take_append_of_le_length hml]
      rfl
  | true =>
    rw [hu] at hN
    simp only [if_true] at hN
    have hl : m + 1 ≤ x.length := by omega
    have at1 : isAt (x ++ y2) m 46 = true := by
      unfold preU at hu
      rw [p1, hm, Nat.zero_add] at hu
      simp only [Bool.and_eq_true] at hu
      rw [isAt_left _ _ _ _ (by omega)] at hu ⊢; exact hu.1
    have d1 : ∀ z : List UInt8, (x ++ z).drop (m + 1) = x.drop (m + 1) ++ z := fun z => List.drop_append_of_le_length hl
    have k1 : preK (x ++ y) = run dg (x.drop (m + 1) ++ y) := by unfold preK; rw [p1, hm, Nat.zero_add, d1]
    have k2 : preK (x ++ y2) = preK (x ++ y) := by
      rw [k1]; unfold preK; rw [p2, hm2, Nat.zero_add, d1]
      exact run_swap dg _ y y2 (by rw [← k1, List.length_drop]; omega) (fun c hc => (h2 c hc).1)
    have hu2 : preU (x ++ y2) = true := by
      unfold preU at hu ⊢
      rw [p1, hm, Nat.zero_add] at hu
      rw [p2, hm2, Nat.zero_add, at1, k2]
      simp only [Bool.and_eq_true] at hu
      rw [hu.2]; rfl
    have e1 : preEmpty (x ++ y2) = false := by unfold preEmpty; rw [hu2]; simp
    refine ⟨?_, ?_⟩
    · rw [hN]; unfold preN; rw [e1, hu2, p2, hm2, k2]; simp
    · have kl : preK (x ++ y) ≤ (x.drop (m + 1)).length := by rw [List.length_drop]; omega
      unfold preV preA preF
      rw [e1, ne, hu2, hu, n1, n2, p1, p2, hm, hm2, k2]
      simp only [List.drop_zero, Nat.zero_add]
      rw [List.take_append_of_le_length hml, List.take_append_of_le_length hml, d1, d1, List.take_append_of_le_length kl, List.take_append_of_le_length kl]
end Byt
namespace Tx
open Go
/-- the same text up to n, and then a blank or a line feed -/
structure Px (s s2 : ByteArray) (n c : Nat) : Prop where
  le : n ≤ s.size
  lt : n < s2.size
  tk : s2.data.toList.take n = s.data.toList.take n
  at_ : pk s2 n = c
  ch : c = 10 ∨ (c = 32 ∨ c = 9) ∧ s2.size = s.size + 1 ∧ pk s2 (n + 1) = pk s n
theorem Px.pk {s s2 : ByteArray} {n c : Nat} (h : Px s s2 n c) {i : Nat} (hi : i < n) : Tx.pk s2 i = Tx.pk s i := by
  have e : s2.data.toList[i]? = s.data.toList[i]? := by
    have := congrArg (fun l : List UInt8 => l[i]?) h.tk
    simpa [List.getElem?_take, hi] using this
  rw [pk_drop, pk_drop, List.head?_drop, List.head?_drop, e]
theorem Px.ext {s s2 : ByteArray} {n c : Nat} (h : Px s s2 n c) {a b : Nat} (hb : b ≤ n) : s2.extract a b = s.extract a b := by
  apply bext
  rw [Byt.ext_mid, Byt.ext_mid]
  have e : ∀ l : List UInt8, (l.drop a).take (b - a) = ((l.take n).drop a).take (b - a) := by
    intro l
    rw [List.drop_take, List.take_take]
    congr 1; omega
  rw [e, e s.data.toList, h.tk]
theorem Px.c3 {s s2 : ByteArray} {n c : Nat} (h : Px s s2 n c) : c = 10 ∨ c = 32 ∨ c = 9 := by
  rcases h.ch with h | h
  · exact .inl h
  · exact .inr h.1
/-- the line's rest, by its bytes -/
theorem cend_of (s : ByteArray) (e : Nat) : ∀ (k a : Nat), e - a = k → a ≤ e → e ≤ s.size → (∀ i, a ≤ i → i < e → pk s i ≠ 10) → (pk s e = 10 ∨ e = s.size) → cend s a = e := by
  intro k
  induction k with
  | zero =>
    intro a hk ha he h1 h2
    have : a = e := by omega
    subst this
    unfold cend
    by_cases hl : a < s.size
    · rw [Byt.drop_lt s a hl, List.takeWhile_cons_of_neg]
      · rfl
      · rcases h2 with h2 | h2
        · rw [pk_at hl] at h2
          have : s[a] = 10 := UInt8.toNat_inj.mp h2
          rw [this]; decide
        · omega
    · rw [List.drop_of_length_le (by rw [← size_len]; omega)]; rfl
  | succ k ih =>
    intro a hk ha he h1 h2
    have := ih (a + 1) (by omega) (by omega) he (fun i hi => h1 i (by omega)) h2
    have hl : a < s.size := by omega
    unfold cend at this ⊢
    rw [Byt.drop_lt s a hl, List.takeWhile_cons_of_pos, List.length_cons]
    · omega
    · have := h1 a (Nat.le_refl _) (by omega)
      rw [pk_at hl] at this
      simp only [bne_iff_ne]
      intro x; rw [x] at this; exact this rfl
theorem cend_is (s : ByteArray) (a : Nat) (ha : a ≤ s.size) : (∀ i, a ≤ i → i < cend s a → pk s i ≠ 10) ∧ (pk s (cend s a) = 10 ∨ cend s a = s.size) := by
  obtain ⟨k, hk⟩ : ∃ k, s.size - a = k := ⟨_, rfl⟩
  revert a
  induction k with
  | zero =>
    intro a ha hk
    have := cend_le s a ha
    exact ⟨fun i _ _ => by omega, .inr (by omega)⟩
  | succ k ih =>
    intro a ha hk
    have hl : a < s.size := by omega
    by_cases h : pk s a = 10
    · have e := cend_of s a _ a rfl (Nat.le_refl _) ha (fun i _ _ => by omega) (.inl h)
      rw [e]; exact ⟨fun i _ _ => by omega, .inl h⟩
    · have e : cend s a = cend s (a + 1) := by
        unfold cend
        rw [Byt.drop_lt s a hl, List.takeWhile_cons_of_pos, List.length_cons]
        · omega
        · rw [pk_at hl] at h
          simp only [bne_iff_ne]
          intro x; rw [x] at h; exact h rfl
      obtain ⟨h1, h2⟩ := ih (a + 1) (by omega) (by omega)
      rw [e]
      refine ⟨fun i hi hi' => ?_, h2⟩
      by_cases hia : i = a
      · rw [hia]; exact h
      · exact h1 i (by omega) hi'
theorem Px.sk {s s2 : ByteArray} {n c : Nat} (h : Px s s2 n c) {a b : Nat} (hs : sk1 s a = some b) (hb : b ≤ n) : sk1 s2 a = some b ∨ b = n ∧ (c = 32 ∨ c = 9) ∧ sk1 s2 a = some (n + 1) := by
  have B := sk1_bd hs
  have an : a < n := by omega
  have hlt := h.lt
  have hle := h.le
  unfold sk1 at hs ⊢
  rw [if_neg (by omega)] at hs
  rw [if_neg (by omega), h.pk an]
  by_cases h1 : Tx.pk s a = 32 ∨ Tx.pk s a = 9
  · rw [if_pos h1] at hs ⊢; exact .inl hs
  rw [if_neg h1] at hs ⊢
  by_cases h2 : Tx.pk s a = 92 ∧ Tx.pk s (a + 1) = 10
  · rw [if_pos h2] at hs
    injection hs with hs
    rw [if_pos ⟨h2.1, by rw [h.pk (by omega)]; exact h2.2⟩]
    exact .inl (congrArg _ hs)
  rw [if_neg h2] at hs
  by_cases h3 : Tx.pk s a = 35
  · rw [if_pos h3] at hs
    injection hs with hs
    rw [if_neg (by rw [h3]; omega), if_pos h3]
    obtain ⟨q1, q2⟩ := cend_is s a (by omega)
    rw [hs] at q1 q2
    by_cases hbn : b = n
    · rcases h.ch with hc | ⟨hc, hz, hp⟩
      · left
        rw [cend_of s2 b _ a rfl (by omega) (by omega) (fun i hi hi' => by rw [h.pk (by omega)]; exact q1 i hi hi') (.inl (by rw [hbn, h.at_, hc]))]
      · right
        refine ⟨hbn, hc, ?_⟩
        have E := cend_of s2 (n + 1) _ a rfl (by omega) (by omega) (fun i hi hi' => by
          by_cases hin : i = n
          · rw [hin, h.at_]; omega
          · rw [h.pk (by omega)]; exact q1 i hi (by omega)) (by
          rw [hp]
          rcases q2 with q2 | q2
          · left; rw [← hbn]; exact q2
          · right; omega)
        rw [E]
    · left
      have E := cend_of s2 b _ a rfl (by omega) (by omega) (fun i hi hi' => by rw [h.pk (by omega)]; exact q1 i hi hi') (.inl (by
        rw [h.pk (by omega)]
        rcases q2 with q2 | q2
        · exact q2
        · omega))
      rw [E]
  · rw [if_neg h3] at hs; cases hs
theorem Px.wend {s s2 : ByteArray} {n c : Nat} (h : Px s s2 n c) : ∀ (k a : Nat), n - a = k → a ≤ n → Tx.wend s a ≤ n → Tx.wend s2 a = Tx.wend s a := by
  intro k
  induction k with
  | zero =>
    intro a hk ha hw
    have e : a = n := by omega
    have W := wend_bd s _ a rfl (by have := h.le; omega)
    rw [wend_stop (a := a) (s := s2) (by rw [e, h.at_]; rcases h.c3 with h | h | h <;> rw [h] <;> decide)]
    omega
  | succ k ih =>
    intro a hk ha hw
    cases e : wb (Tx.pk s a) with
    | false => rw [wend_stop e, wend_stop (by rw [h.pk (by omega)]; exact e)]
    | true =>
      rw [wend_step e] at hw ⊢
      rw [wend_step (by rw [h.pk (by omega)]; exact e)]
      exact ih (a + 1) (by omega) (by omega) hw
theorem Px.clz {s s2 : ByteArray} {n c : Nat} (h : Px s s2 n c) (q : Nat) : ∀ (k a e : Nat), n - a ≤ k → Tx.clz s q a = some e → e < n → Tx.clz s2 q a = some e := by
  intro k
  induction k with
  | zero =>
    intro a e hk hz he
    have := clz_bd s q _ a e (Nat.le_refl _) hz
    omega
  | succ k ih =>
    intro a e hk hz he
    have B := clz_bd s q _ a e (Nat.le_refl _) hz
    have hle := h.le
    have hlt := h.lt
    rw [clz_eq] at hz ⊢
    rw [if_neg (by omega)] at hz
    rw [if_neg (by omega), h.pk (by omega)]
    by_cases h1 : Tx.pk s a = q
    · rw [if_pos h1] at hz ⊢; exact hz
    rw [if_neg h1] at hz ⊢
    by_cases h2 : Tx.pk s a = 10
    · rw [if_pos h2] at hz; cases hz
    rw [if_neg h2] at hz ⊢
    by_cases h3 : Tx.pk s a = 92
    · rw [if_pos h3] at hz ⊢
      by_cases h4 : Tx.pk s (a + 1) = 10
      · rw [if_pos h4] at hz; cases hz
      · rw [if_neg h4] at hz
        have B2 := clz_bd s q _ (a + 2) e (Nat.le_refl _) hz
        rw [if_neg (by rw [h.pk (by omega)]; exact h4)]
        exact ih (a + 2) e (by omega) hz he
    · rw [if_neg h3] at hz ⊢
      exact ih (a + 1) e (by omega) hz he
theorem tw_len {l : List UInt8} (h : l ∈ twL) : l.length = 2 ∧ l[1]? ≠ some 10 ∧ l[1]? ≠ some 32 ∧ l[1]? ≠ some 9 := by
  simp only [twL, List.mem_cons, List.not_mem_nil, or_false] at h
  rcases h with h | h | h | h | h | h | h | h | h | h | h | h | h | h | h | h <;> rw [h] <;> decide
theorem Px.mark {s s2 : ByteArray} {n c : Nat} (h : Px s s2 n c) {a b : Nat} {k : Int} {t : ByteArray} {m : Int} (ht : markM s a = .tk k t m b) (hb : b ≤ n) (ha : a < n) : markM s2 a = .tk k t m b := by
  have hle := h.le
  have hlt := h.lt
  unfold markM at ht ⊢
  by_cases h2 : a + 2 ≤ n
  · rw [show min (a + 2) s2.size = a + 2 by omega, h.ext h2, h.pk ha, h.ext (show a + 1 ≤ n by omega)]
    rw [show min (a + 2) s.size = a + 2 by omega] at ht
    exact ht
  · have an : a + 1 = n := by omega
    have no : (s.extract a (min (a + 2) s.size)).data.toList ∉ twL := by
      intro x; rw [if_pos x] at ht; injection ht; omega
    rw [if_neg no] at ht
    have no2 : (s2.extract a (min (a + 2) s2.size)).data.toList ∉ twL := by
      intro x
      obtain ⟨q1, q2, q3, q4⟩ := tw_len x
      rw [Byt.ext_mid, List.length_take, List.length_drop, ← size_len] at q1
      have e : (s2.extract a (min (a + 2) s2.size)).data.toList[1]? = some s2[n] := by
        rw [Byt.ext_mid, List.getElem?_take, if_pos (by omega), List.getElem?_drop, an, List.getElem?_eq_getElem (by rw [← size_len]; exact hlt)]
        rfl
      rw [e] at q2 q3 q4
      have e2 := h.at_
      rw [pk_at hlt] at e2
      rcases h.c3 with c1 | c1 | c1 <;> rw [c1] at e2
      · exact q2 (by rw [show s2[n] = 10 from UInt8.toNat_inj.mp e2])
      · exact q3 (by rw [show s2[n] = 32 from UInt8.toNat_inj.mp e2])
      · exact q4 (by rw [show s2[n] = 9 from UInt8.toNat_inj.mp e2])
    rw [if_neg no2, h.pk ha, h.ext (show a + 1 ≤ n by omega)]
    exact ht
theorem Px.num {s s2 : ByteArray} {n c : Nat} (h : Px s s2 n c) {a b : Nat} {k : Int} {t : ByteArray} {m : Int} (ht : numM s a = .tk k t m b) (hb : b ≤ n) (ha : a < n) (hd : dgn (Tx.pk s a) = true ∨ Tx.pk s a = 46 ∧ dgn (Tx.pk s (a + 1)) = true) : numM s2 a = .tk k t m b := by
  have hle := h.le
  have hlt := h.lt
  have hl : s.data.toList.drop a = s[a] :: s.data.toList.drop (a + 1) := Byt.drop_lt s a (by omega)
  have P := preN_pos _ _ _ hl (by
    rw [pk_at (show a < s.size by omega)] at hd
    rcases hd with hd | hd
    · exact .inl hd
    · by_cases hl1 : a + 1 < s.size
      · refine .inr ⟨?_, s[a + 1], _, Byt.drop_lt s (a + 1) hl1, ?_⟩
        · exact UInt8.toNat_inj.mp hd.1
        · rw [pk_at hl1] at hd; exact hd.2
      · rw [pk_ge (by omega)] at hd; exact absurd hd.2 (by decide))
  have hc : Byt.dg s[a] = true ∨ s[a] = 46 := by
    rw [pk_at (show a < s.size by omega)] at hd
    rcases hd with hd | hd
    · exact .inl hd
    · exact .inr (UInt8.toNat_inj.mp hd.1)
  have e1 : s.data.toList.drop a = (s.data.toList.take n).drop a ++ s.data.toList.drop n := by
    rw [List.drop_take]
    conv => lhs; rw [← List.take_append_drop (n - a) (s.data.toList.drop a)]
    rw [List.drop_drop, show a + (n - a) = n by omega]
  have e2 : s2.data.toList.drop a = (s.data.toList.take n).drop a ++ s2.data.toList.drop n := by
    rw [← h.tk, List.drop_take]
    conv => lhs; rw [← List.take_append_drop (n - a) (s2.data.toList.drop a)]
    rw [List.drop_drop, show a + (n - a) = n by omega]
  have len : ((s.data.toList.take n).drop a).length = n - a := by rw [List.length_drop, List.length_take, ← size_len]; omega
  obtain ⟨x, hx⟩ : ∃ x, (s.data.toList.take n).drop a = x := ⟨_, rfl⟩
  rw [hx] at e1 e2 len
  obtain ⟨c0, r, rfl⟩ : ∃ c0 r, x = c0 :: r := by
    cases x with
    | nil => simp at len; omega
    | cons c0 r => exact ⟨_, _, rfl⟩
  have hc0 : c0 = s[a] := by
    rw [hl, List.cons_append] at e1
    injection e1 with e _; exact e.symm
  unfold numM at ht ⊢
  by_cases h15 : 15 < Byt.preN (s.data.toList.drop a)
  · rw [if_pos h15] at ht; cases ht
  rw [if_neg h15] at ht
  have hbb : a + Byt.preN (s.data.toList.drop a) = b := by injection ht
  have hy : ∀ z, (s2.data.toList.drop n)[0]? = some z → Byt.dg z = false ∧ z ≠ 46 := by
    intro z hz
    rw [List.getElem?_drop, Nat.add_zero, List.getElem?_eq_getElem (by rw [← size_len]; exact hlt)] at hz
    injection hz with hz
    have e2 := h.at_
    rw [pk_at hlt] at e2
    have hz' : s2[n] = z := hz
    rcases h.c3 with c1 | c1 | c1 <;> rw [c1] at e2
    · rw [← hz', show s2[n] = 10 from UInt8.toNat_inj.mp e2]; decide
    · rw [← hz', show s2[n] = 32 from UInt8.toNat_inj.mp e2]; decide
    · rw [← hz', show s2[n] = 9 from UInt8.toNat_inj.mp e2]; decide
  have S := Byt.num_swap c0 r (s.data.toList.drop n) (s2.data.toList.drop n) (by rw [hc0]; exact hc) (by rw [← e1]; exact P.1) (by rw [← e1, len]; omega) hy
  rw [← e1, ← e2] at S
  rw [S.1, S.2, if_neg h15]
  exact ht
theorem Px.tok {s s2 : ByteArray} {n c : Nat} (h : Px s s2 n c) {a b : Nat} {T : List Tok} {k : Int} {t : ByteArray} {m : Int} (ha : a < n) (ht : tokM s a T = .tk k t m b) (hb : b ≤ n) (hk : b = n → Tx.pk s n = 40 → k ≠ 5) : tokM s2 a T = .tk k t m b := by
  have hle := h.le
  have hlt := h.lt
  unfold tokM at ht ⊢
  rw [h.pk ha]
  by_cases c1 : Tx.pk s a = 10
  · rw [if_pos c1] at ht ⊢; exact ht
  rw [if_neg c1] at ht ⊢
  by_cases c2 : dgn (Tx.pk s a) = true ∨ Tx.pk s a = 46 ∧ dgn (Tx.pk s (a + 1)) = true
  · rw [if_pos c2] at ht
    have N := h.num ht hb ha c2
    rw [if_pos]
    · exact N
    · rcases c2 with c2 | c2
      · exact .inl c2
      · refine .inr ⟨c2.1, ?_⟩
        by_cases h1 : a + 1 < n
        · rw [h.pk h1]; exact c2.2
        · exfalso
          have hs1 : a + 1 < s.size := by
            by_cases x : a + 1 < s.size
            · exact x
            · have e0 := pk_ge (s := s) (i := a + 1) (by omega)
              rw [e0] at c2; exact absurd c2.2 (by decide)
          have hl : s.data.toList.drop a = s[a] :: s.data.toList.drop (a + 1) := Byt.drop_lt s a (by omega)
          have hl1 := Byt.drop_lt s (a + 1) hs1
          rw [pk_at hs1, pk_at (show a < s.size by omega)] at c2
          have h46 : s[a] = 46 := UInt8.toNat_inj.mp c2.1
          have hd : Byt.dg s[a + 1] = true := c2.2
          obtain ⟨q1, -⟩ := Byt.head_p s[a] (s.data.toList.drop (a + 1)) (.inr h46)
          rw [← hl] at q1
          have m0 : Byt.preM (s.data.toList.drop a) = 0 := by unfold Byt.preM; rw [q1, hl, h46]; rfl
          have k1 : 1 ≤ Byt.preK (s.data.toList.drop a) := by
            unfold Byt.preK; rw [q1, m0, hl, hl1]; simp only [Nat.zero_add, List.drop_succ_cons, List.drop_zero, Byt.run]; rw [if_pos hd]; omega
          have u : Byt.preU (s.data.toList.drop a) = true := by
            unfold Byt.preU; rw [q1, m0]
            have : Byt.isAt (s.data.toList.drop a) (0 + 0) 46 = true := by rw [hl, h46]; rfl
            rw [this]; simp; omega
          have : 2 ≤ Byt.preN (s.data.toList.drop a) := by
            unfold Byt.preN; rw [if_neg (by unfold Byt.preEmpty; rw [u]; simp), if_pos u]; omega
          unfold numM at ht
          split at ht
          · cases ht
          · injection ht; omega
  rw [if_neg c2] at ht
  have c2' : ¬ (dgn (Tx.pk s a) = true ∨ Tx.pk s a = 46 ∧ dgn (Tx.pk s2 (a + 1)) = true) := by
    rintro (x | x)
    · exact c2 (.inl x)
    · by_cases h1 : a + 1 < n
      · rw [h.pk h1] at x; exact c2 (.inr x)
      · rw [show a + 1 = n by omega, h.at_] at x
        rcases h.c3 with c1 | c1 | c1 <;> rw [c1] at x <;> exact absurd x.2 (by decide)
  rw [if_neg c2']
  by_cases c3 : Tx.lt (Tx.pk s a) = true
  · rw [if_pos c3] at ht ⊢
    have W := wend_bd s _ a rfl (by omega : a ≤ s.size)
    have bw : Tx.wend s a = b := by
      unfold wordM at ht
      split at ht
      · injection ht
      · split at ht
        · cases ht
        · split at ht <;> injection ht
    have e := h.wend _ a rfl (by omega) (by omega)
    unfold wordM at ht ⊢
    rw [e, bw, h.ext hb]
    rw [bw] at ht
    by_cases d1 : (s.extract a b).data.toList ∈ kwL
    · rw [if_pos d1] at ht ⊢; exact ht
    rw [if_neg d1] at ht ⊢
    by_cases d2 : 32 < b - a
    · rw [if_pos d2] at ht; cases ht
    rw [if_neg d2] at ht ⊢
    by_cases hbn : b = n
    · have d3 : ¬ Tx.pk s b = 40 := by
        intro x; rw [if_pos x] at ht; injection ht with ht; exact hk hbn (by rw [← hbn]; exact x) ht.symm
      rw [if_neg d3] at ht
      rw [if_neg (by rw [hbn, h.at_]; rcases h.c3 with c1 | c1 | c1 <;> rw [c1] <;> decide)]
      exact ht
    · rw [h.pk (by omega)]; exact ht
  rw [if_neg c3] at ht ⊢
  have Q : ∀ q, quoM s q a = .tk k t m b → quoM s2 q a = .tk k t m b := by
    intro q hq
    unfold quoM at hq ⊢
    cases hz : Tx.clz s q (a + 1) with
    | none => rw [hz] at hq; cases hq
    | some e =>
      rw [hz] at hq
      have B := clz_bd s q _ _ _ (Nat.le_refl _) hz
      have en : e < n := by
        simp only at hq
        by_cases h47 : q = 47
        · rw [if_pos h47] at hq; injection hq; omega
        · rw [if_neg h47] at hq
          split at hq
          · injection hq; omega
          · cases hq
      rw [h.clz q _ _ e (Nat.le_refl _) hz en]
      simp only
      rw [h.ext (show e ≤ n by omega)]
      exact hq
  by_cases c4 : Tx.pk s a = 34
  · rw [if_pos c4] at ht ⊢; exact Q 34 ht
  rw [if_neg c4] at ht ⊢
  by_cases c5 : Tx.pk s a = 47 ∧ dvs T = false
  · rw [if_pos c5] at ht ⊢; exact Q 47 ht
  rw [if_neg c5] at ht ⊢
  exact h.mark ht hb ha
/-- the run goes from an offset and tokens to an offset and tokens -/
inductive St (s : ByteArray) : Nat → List Tok → Nat → List Tok → Prop where
  | refl (a : Nat) (T : List Tok) : St s a T a T
  | sk {a b : Nat} {T : List Tok} {a' : Nat} {T' : List Tok} : a ≤ s.size → sk1 s a = some b → St s b T a' T' → St s a T a' T'
  | nl {a b : Nat} {T : List Tok} {a' : Nat} {T' : List Tok} : a < s.size → sk1 s a = none → tokM s a T = .sk b → St s b T a' T' → St s a T a' T'
  | tk {a b : Nat} {T : List Tok} {k : Int} {t : ByteArray} {n : Int} {a' : Nat} {T' : List Tok} : a < s.size → sk1 s a = none → tokM s a T = .tk k t n b → St s b (T ++ [⟨k, t, n, (a : Nat)⟩]) a' T' → St s a T a' T'
theorem St.le {s : ByteArray} {a a' : Nat} {T T' : List Tok} (h : St s a T a' T') : a ≤ a' ∧ (a = a' → T = T') := by
  induction h with
  | refl a T => exact ⟨Nat.le_refl _, fun _ => rfl⟩
  | sk _ h _ ih => have := sk1_bd h; exact ⟨by omega, fun _ => by omega⟩
  | @nl a b T a' T' h1 h0 h2 _ ih => have B := tokM_bd h1 (T := T); rw [h2] at B; have B : a < b ∧ b ≤ s.size := B; exact ⟨by omega, fun _ => by omega⟩
  | @tk a b T k t n a' T' h1 h0 h2 _ ih => have B := tokM_bd h1 (T := T); rw [h2] at B; have B : a < b ∧ b ≤ s.size := B; exact ⟨by omega, fun _ => by omega⟩
theorem St.run {s : ByteArray} {a a' : Nat} {T T' : List Tok} (h : St s a T a' T') : a ≤ s.size → runM s a T = runM s a' T' := by
  induction h with
  | refl a T => exact fun _ => rfl
  | sk h0 h _ ih => intro ha; rw [runM_sk1 h0 h]; exact ih (sk1_bd h).2
  | @nl a b T a' T' h1 h0 h2 _ ih =>
    intro ha
    have B := tokM_bd h1 (T := T); rw [h2] at B; have B : a < b ∧ b ≤ s.size := B
    rw [runM_at T ha h0, if_neg (by omega), h2]; exact ih B.2
  | @tk a b T k t n a' T' h1 h0 h2 _ ih =>
    intro ha
    have B := tokM_bd h1 (T := T); rw [h2] at B; have B : a < b ∧ b ≤ s.size := B
    rw [runM_at T ha h0, if_neg (by omega), h2]; exact ih B.2
theorem Px.st {s s2 : ByteArray} {n c : Nat} (h : Px s s2 n c) {a : Nat} {T T' : List Tok} (H : St s a T n T') (hk : Tx.pk s n = 40 → ∀ t ∈ T'.getLast?, t.k ≠ 5) : a ≤ n → runM s2 a T = runM s2 n T' := by
  have hle := h.le
  have hlt := h.lt
  generalize hn : n = n' at H
  induction H with
  | refl a T => intro _; rfl
  | @sk a b T a' T' h0 h1 h2 ih =>
    subst hn
    intro _
    have Bn := h2.le
    have B := sk1_bd h1
    rcases h.sk h1 (by omega) with e | ⟨hb, hc, e⟩
    · rw [runM_sk1 (by omega) e]; exact ih hk rfl (by omega)
    · have := Bn.2 hb
      subst this
      rw [runM_sk1 (by omega) e]
      refine (runM_sk1 (by omega) ?_).symm
      unfold sk1
      rw [if_neg (by omega), h.at_, if_pos hc]
  | @nl a b T a' T' h1 h0 h2 h3 ih =>
    subst hn
    intro _
    have Bn := h3.le
    have B := tokM_bd h1 (T := T); rw [h2] at B; have B : a < b ∧ b ≤ s.size := B
    have p10 : Tx.pk s a = 10 := by
      by_cases x : Tx.pk s a = 10
      · exact x
      · exfalso
        have key : ∀ o, tokM s a T = o → (∀ b, o ≠ .sk b) := by
          intro o ho b
          unfold tokM at ho
          rw [if_neg x] at ho
          split at ho
          · unfold numM at ho; split at ho <;> (rw [← ho]; intro y; cases y)
          · split at ho
            · unfold wordM at ho
              split at ho
              · rw [← ho]; intro y; cases y
              · split at ho
                · rw [← ho]; intro y; cases y
                · split at ho <;> (rw [← ho]; intro y; cases y)
            · have Q : ∀ q, quoM s q a = o → o ≠ .sk b := by
                intro q hq
                unfold quoM at hq
                split at hq
                · rw [← hq]; intro y; cases y
                · split at hq
                  · rw [← hq]; intro y; cases y
                  · split at hq <;> (rw [← hq]; intro y; cases y)
              split at ho
              · exact Q _ ho
              · split at ho
                · exact Q _ ho
                · unfold markM at ho
                  split at ho
                  · rw [← ho]; intro y; cases y
                  · split at ho <;> (rw [← ho]; intro y; cases y)
        exact key _ h2 b rfl
    have e : tokM s2 a T = .sk b := by
      unfold tokM at h2 ⊢
      rw [h.pk (by omega), if_pos p10]
      rw [if_pos p10] at h2; exact h2
    have s0 : sk1 s2 a = none := by
      unfold sk1
      rw [if_neg (by omega), h.pk (by omega), p10, if_neg (by decide), if_neg (by omega), if_neg (by decide)]
    rw [runM_at _ (by omega) s0, if_neg (by omega), e]
    exact ih hk rfl (by omega)
  | @tk a b T k t m a' T' h1 h0 h2 h3 ih =>
    subst hn
    intro _
    have Bn := h3.le
    have B := tokM_bd h1 (T := T); rw [h2] at B; have B : a < b ∧ b ≤ s.size := B
    have e := h.tok (by omega) h2 (by omega) (fun hb h40 => by
      have := Bn.2 hb
      rw [← this] at hk
      exact hk h40 ⟨k, t, m, (a : Nat)⟩ (by simp))
    have s0 : sk1 s2 a = none := by
      unfold sk1 at h0 ⊢
      rw [if_neg (by omega)] at h0
      rw [if_neg (by omega), h.pk (by omega)]
      by_cases g1 : Tx.pk s a = 32 ∨ Tx.pk s a = 9
      · rw [if_pos g1] at h0; cases h0
      rw [if_neg g1] at h0 ⊢
      by_cases g2 : Tx.pk s a = 92 ∧ Tx.pk s2 (a + 1) = 10
      · exfalso
        unfold tokM at h2
        rw [g2.1, if_neg (by decide), if_neg (by rintro (x | x); exact absurd x (by decide); exact absurd x.1 (by decide)), if_neg (by decide), if_neg (by decide), if_neg (by omega)] at h2
        unfold markM at h2
        have e1 : Tx.pk s a = 92 := g2.1
        have ab : s[a] = 92 := by rw [pk_at h1] at e1; exact UInt8.toNat_inj.mp e1
        have no : (s.extract a (min (a + 2) s.size)).data.toList ∉ twL := by
          intro x
          have y : (s.extract a (min (a + 2) s.size)).data.toList[0]? = some 92 := by
            rw [Byt.ext_mid, List.getElem?_take, if_pos (by omega), List.getElem?_drop, Nat.add_zero, List.getElem?_eq_getElem (by rw [← size_len]; exact h1)]
            exact congrArg _ ab
          revert x y
          generalize (s.extract a (min (a + 2) s.size)).data.toList = l
          intro x y
          simp only [twL, List.mem_cons, List.not_mem_nil, or_false] at x
          rcases x with x | x | x | x | x | x | x | x | x | x | x | x | x | x | x | x <;> rw [x] at y <;> revert y <;> decide
        rw [if_neg no, g2.1, if_neg (by decide)] at h2
        cases h2
      rw [if_neg g2]
      rw [if_neg (by
        rintro ⟨x, y⟩
        by_cases h1n : a + 1 < n
        · rw [← h.pk h1n] at y; exact g2 ⟨x, y⟩
        · rw [if_pos ⟨x, y⟩] at h0; cases h0)] at h0
      by_cases g3 : Tx.pk s a = 35
      · rw [if_pos g3] at h0; cases h0
      · rw [if_neg g3]
    rw [runM_at _ (by omega) s0, if_neg (by omega), e]
    exact ih hk rfl (by omega)
/-- a run without an error comes by each of its tokens -/
theorem run_st (s : ByteArray) : ∀ (k a : Nat), s.size - a = k → a ≤ s.size → ∀ (T R : List Tok), runM s a T = .ok R → ∀ i, T.length ≤ i → i < R.length → ∃ n, St s a T n (R.take i) ∧ n ≤ s.size ∧ sk1 s n = none ∧ (R[i]?).map (·.a) = some (n : Int) := by
  intro k
  induction k using Nat.strongRecOn with
  | _ k ih =>
    intro a hk ha T R hR i hi hi'
    cases hs : sk1 s a with
    | some b =>
      have B := sk1_bd hs
      rw [runM_sk1 ha hs] at hR
      obtain ⟨n, h1, h2⟩ := ih (s.size - b) (by omega) b rfl B.2 T R hR i hi hi'
      exact ⟨n, .sk ha hs h1, h2⟩
    | none =>
      have hR0 := hR
      rw [runM_at T ha hs] at hR
      by_cases he : s.size ≤ a
      · rw [if_pos he] at hR
        injection hR with hR
        have hl : R.length = T.length + 1 := by rw [← hR]; simp
        have : i = T.length := by omega
        subst this
        refine ⟨a, ?_, ha, hs, ?_⟩
        · rw [← hR, List.take_left]; exact .refl _ _
        · rw [← hR]; simp
      · rw [if_neg he] at hR
        have B := tokM_bd (T := T) (show a < s.size by omega)
        cases ht : tokM s a T with
        | er e k => rw [ht] at hR; cases hR
        | sk b =>
          rw [ht] at B hR
          have B : a < b ∧ b ≤ s.size := B
          obtain ⟨n, h1, h2⟩ := ih (s.size - b) (by omega) b rfl B.2 T R hR i hi hi'
          exact ⟨n, .nl (by omega) hs ht h1, h2⟩
        | tk k1 t n1 b =>
          rw [ht] at B hR
          have B : a < b ∧ b ≤ s.size := B
          have hR : runM s b (T ++ [⟨k1, t, n1, (a : Nat)⟩]) = .ok R := hR
          by_cases hil : i = T.length
          · subst hil
            obtain ⟨X, e1, -, -⟩ := run_sh s _ b rfl B.2 _ _ hR
            refine ⟨a, ?_, ha, hs, ?_⟩
            · rw [e1, List.append_assoc, List.take_left]; exact .refl _ _
            · rw [e1, List.append_assoc]; simp
          · obtain ⟨n, h1, h2⟩ := ih (s.size - b) (by omega) b rfl B.2 _ R hR i (by simp; omega) hi'
            exact ⟨n, .tk (by omega) hs ht h1, h2⟩
end Tx
/- plain: the laws on joined programs, blanks and offsets -/
namespace Tx
open Go
def mkL : List (List UInt8) := twL ++ onL.map fun c => [c]
def skM : List (List UInt8) := [[44], [123], [38, 38], [124, 124]]
def skW : List (List UInt8) := [[100, 111], [101, 108, 115, 101]]
/-- is a line feed skipped after a token -/
def skp (t : Tok) : Bool := (decide (t.k = 7) && decide (t.t.data.toList ∈ skM)) || (decide (t.k = 6) && decide (t.t.data.toList ∈ skW))
/-- does a slash divide after a token -/
def opd (t : Tok) : Bool := decide (t.k = 1) || decide (t.k = 2) || decide (t.k = 3) || decide (t.k = 4) || (decide (t.k = 7) && decide (t.t.data.toList ∈ dvL))
/-- what each token of a run is -/
structure GoodT (s : ByteArray) (t : Tok) : Prop where
  w7 : t.k = 7 → t.t.data.toList ∈ mkL
  w6 : t.k = 6 → t.t.data.toList ∈ kwL
  w45 : t.k = 4 ∨ t.k = 5 → t.t.data.toList ∉ kwL
  st : (t.k = 4 ∨ t.k = 5 ∨ t.k = 6 ∨ t.k = 7) → ∃ a : Nat, t.a = a ∧ a + t.t.size ≤ s.size ∧ s.extract a (a + t.t.size) = t.t
  kb : 1 ≤ t.k ∧ t.k ≤ 8
theorem mk_kw : ∀ l ∈ mkL, l ∉ kwL := by decide
theorem mk_sk : ∀ l ∈ mkL, decide (l ∈ skL) = decide (l ∈ skM) := by decide
theorem kw_sk : ∀ l ∈ kwL, decide (l ∈ skL) = decide (l ∈ skW) := by decide
theorem kw_dv : ∀ l ∈ kwL, l ∉ dvL := by decide
theorem skp_is {s : ByteArray} {t : Tok} (h : GoodT s t) : ((decide (t.k = 7) || decide (t.k = 6)) && decide (t.t.data.toList ∈ skL)) = skp t := by
  unfold skp
  by_cases h7 : t.k = 7
  · rw [mk_sk _ (h.w7 h7), h7]; simp
  · by_cases h6 : t.k = 6
    · rw [kw_sk _ (h.w6 h6), h6]; simp
    · simp [h7, h6]
theorem opd_is {s : ByteArray} {t : Tok} (h : GoodT s t) : (decide (t.k = 1) || decide (t.k = 2) || decide (t.k = 3) || decide (t.k = 4) || ((decide (t.k = 7) || decide (t.k = 6)) && decide (t.t.data.toList ∈ dvL))) = opd t := by
  unfold opd
  by_cases h6 : t.k = 6
  · have := kw_dv _ (h.w6 h6)
    simp [h6, this]
  · simp [h6]
theorem ext_size {s : ByteArray} {a b : Nat} (h : a ≤ b) (hb : b ≤ s.size) : (s.extract a b).size = b - a := by
  rw [size_len, Byt.ext_mid, List.length_take, List.length_drop, ← size_len]; omega
theorem tok_good {s : ByteArray} {a b : Nat} {T : List Tok} {k : Int} {t : ByteArray} {n : Int} (ha : a < s.size) (ht : tokM s a T = .tk k t n b) : GoodT s ⟨k, t, n, (a : Nat)⟩ := by
  unfold tokM at ht
  by_cases c1 : pk s a = 10
  · rw [if_pos c1] at ht
    split at ht
    · cases ht
    · injection ht with e1 e2 e3 e4; subst e1
      exact ⟨fun x => (by dsimp only at x; omega), fun x => (by dsimp only at x; omega), fun x => (by dsimp only at x; omega), fun x => (by dsimp only at x; omega), by dsimp only; omega⟩
  rw [if_neg c1] at ht
  by_cases c2 : dgn (pk s a) = true ∨ pk s a = 46 ∧ dgn (pk s (a + 1)) = true
  · rw [if_pos c2] at ht
    unfold numM at ht
    split at ht
    · cases ht
    · injection ht with e1 e2 e3 e4; subst e1
      exact ⟨fun x => (by dsimp only at x; omega), fun x => (by dsimp only at x; omega), fun x => (by dsimp only at x; omega), fun x => (by dsimp only at x; omega), by dsimp only; omega⟩
  rw [if_neg c2] at ht
  by_cases c3 : lt (pk s a) = true
  · rw [if_pos c3] at ht
    have W := wend_bd s _ a rfl (by omega : a ≤ s.size)
    have st : ∃ x : Nat, ((a : Nat) : Int) = x ∧ x + (s.extract a (wend s a)).size ≤ s.size ∧ s.extract x (x + (s.extract a (wend s a)).size) = s.extract a (wend s a) := by
      refine ⟨a, rfl, ?_⟩
      rw [ext_size W.1 W.2.1, show a + (wend s a - a) = wend s a by omega]
      exact ⟨W.2.1, rfl⟩
    unfold wordM at ht
    by_cases d1 : (s.extract a (wend s a)).data.toList ∈ kwL
    · rw [if_pos d1] at ht
      injection ht with e1 e2 e3 e4; subst e1 e2
      exact ⟨fun x => (by dsimp only at x; omega), fun _ => d1, fun x => (by dsimp only at x; omega), fun _ => st, by dsimp only; omega⟩
    rw [if_neg d1] at ht
    split at ht
    · cases ht
    · split at ht
      · injection ht with e1 e2 e3 e4; subst e1 e2
        exact ⟨fun x => (by dsimp only at x; omega), fun x => (by dsimp only at x; omega), fun _ => d1, fun _ => st, by dsimp only; omega⟩
      · injection ht with e1 e2 e3 e4; subst e1 e2
        exact ⟨fun x => (by dsimp only at x; omega), fun x => (by dsimp only at x; omega), fun _ => d1, fun _ => st, by dsimp only; omega⟩
  rw [if_neg c3] at ht
  have Q : ∀ q, quoM s q a = .tk k t n b → GoodT s ⟨k, t, n, (a : Nat)⟩ := by
    intro q hq
    unfold quoM at hq
    split at hq
    · cases hq
    · split at hq
      · injection hq with e1 e2 e3 e4; subst e1
        exact ⟨fun x => (by dsimp only at x; omega), fun x => (by dsimp only at x; omega), fun x => (by dsimp only at x; omega), fun x => (by dsimp only at x; omega), by dsimp only; omega⟩
      · split at hq
        · injection hq with e1 e2 e3 e4; subst e1
          exact ⟨fun x => (by dsimp only at x; omega), fun x => (by dsimp only at x; omega), fun x => (by dsimp only at x; omega), fun x => (by dsimp only at x; omega), by dsimp only; omega⟩
        · cases hq
  by_cases c4 : pk s a = 34
  · rw [if_pos c4] at ht; exact Q 34 ht
  rw [if_neg c4] at ht
  by_cases c5 : pk s a = 47 ∧ dvs T = false
  · rw [if_pos c5] at ht; exact Q 47 ht
  rw [if_neg c5] at ht
  unfold markM at ht
  by_cases d1 : (s.extract a (min (a + 2) s.size)).data.toList ∈ twL
  · rw [if_pos d1] at ht
    injection ht with e1 e2 e3 e4; subst e1 e2
    refine ⟨fun _ => List.mem_append_left _ d1, fun x => (by dsimp only at x; omega), fun x => (by dsimp only at x; omega), fun _ => ⟨a, rfl, ?_⟩, by dsimp only; omega⟩
    show a + (s.extract a (min (a + 2) s.size)).size ≤ s.size ∧ _
    rw [ext_size (by omega) (by omega), show a + (min (a + 2) s.size - a) = min (a + 2) s.size by omega]
    exact ⟨by omega, rfl⟩
  · rw [if_neg d1] at ht
    by_cases d2 : (pk s a).toUInt8 ∈ onL
    · rw [if_pos d2] at ht
      injection ht with e1 e2 e3 e4; subst e1 e2
      have one : (s.extract a (a + 1)).data.toList = [(pk s a).toUInt8] := by
        rw [Byt.ext_mid, Byt.drop_lt s a ha, show a + 1 - a = 1 by omega, pk_at ha]
        simp
      refine ⟨fun _ => List.mem_append_right _ (List.mem_map.2 ⟨_, d2, one.symm⟩), fun x => (by dsimp only at x; omega), fun x => (by dsimp only at x; omega), fun _ => ⟨a, rfl, ?_⟩, by dsimp only; omega⟩
      show a + (s.extract a (a + 1)).size ≤ s.size ∧ _
      rw [ext_size (by omega) (by omega), show a + (a + 1 - a) = a + 1 by omega]
      exact ⟨by omega, rfl⟩
    · rw [if_neg d2] at ht; cases ht
/-- the tokens of a run that has come to an offset -/
structure GT (s : ByteArray) (a : Nat) (X : List Tok) : Prop where
  good : ∀ t ∈ X, GoodT s t
  lt : ∀ t ∈ X, 0 ≤ t.a ∧ t.a < a
  up : X.Pairwise fun x y => x.a < y.a
theorem GT.nil (s : ByteArray) (a : Nat) : GT s a [] := ⟨by simp, by simp, .nil⟩
theorem GT.le {s : ByteArray} {a b : Nat} {X : List Tok} (h : GT s a X) (hb : a ≤ b) : GT s b X := ⟨h.good, fun t ht => by have := h.lt t ht; omega, h.up⟩
theorem GT.snoc {s : ByteArray} {a b : Nat} {X : List Tok} {t : Tok} (h : GT s a X) (g : GoodT s t) (ht : t.a = (a : Nat)) (hb : a < b) : GT s b (X ++ [t]) := by
  refine ⟨fun x hx => ?_, fun x hx => ?_, ?_⟩
  · rcases List.mem_append.1 hx with hx | hx
    · exact h.good x hx
    · rw [List.mem_singleton.1 hx]; exact g
  · rcases List.mem_append.1 hx with hx | hx
    · have := h.lt x hx; omega
    · rw [List.mem_singleton.1 hx]; omega
  · rw [List.pairwise_append]
    refine ⟨h.up, by simp, fun x hx y hy => ?_⟩
    rw [List.mem_singleton.1 hy]
    have := h.lt x hx; omega
def endT (s : ByteArray) : Tok := ⟨0, ⟨#[]⟩, 0, (s.size : Nat)⟩
theorem run_good (s : ByteArray) : ∀ (k a : Nat), s.size - a = k → a ≤ s.size → ∀ (T R : List Tok), GT s a T → runM s a T = .ok R → ∃ X, R = X ++ [endT s] ∧ GT s s.size X := by
  intro k
  induction k using Nat.strongRecOn with
  | _ k ih =>
    intro a hk ha T R G hR
    obtain ⟨p1, p2, p3⟩ := skS_le ha
    rw [runM_eq T ha] at hR
    by_cases he : s.size ≤ skS s a
    · rw [if_pos he] at hR
      injection hR with hR
      have e : skS s a = s.size := by omega
      rw [e] at hR
      exact ⟨T, hR.symm, G.le ha⟩
    · rw [if_neg he] at hR
      have B := tokM_bd (T := T) (show skS s a < s.size by omega)
      cases ht : tokM s (skS s a) T with
      | er e k => rw [ht] at hR; cases hR
      | sk b =>
        rw [ht] at B hR
        have B : skS s a < b ∧ b ≤ s.size := B
        exact ih (s.size - b) (by omega) b rfl B.2 T R (G.le (by omega)) hR
      | tk k1 t n1 b =>
        rw [ht] at B hR
        have B : skS s a < b ∧ b ≤ s.size := B
        exact ih (s.size - b) (by omega) b rfl B.2 _ R ((G.le p1).snoc (tok_good (by omega) ht) rfl B.1) hR
theorem run_err (s : ByteArray) : ∀ (k a : Nat), s.size - a = k → a ≤ s.size → ∀ (T : List Tok) (e : Int) (x : Nat), runM s a T = .err e x → (e = 1 ∨ e = 3) ∧ x < s.size := by
  intro k
  induction k using Nat.strongRecOn with
  | _ k ih =>
    intro a hk ha T e x hR
    obtain ⟨p1, p2, p3⟩ := skS_le ha
    rw [runM_eq T ha] at hR
    by_cases he : s.size ≤ skS s a
    · rw [if_pos he] at hR; cases hR
    · rw [if_neg he] at hR
      have B := tokM_bd (T := T) (show skS s a < s.size by omega)
      cases ht : tokM s (skS s a) T with
      | er e k =>
        rw [ht] at hR B
        have B : (e = 1 ∨ e = 3) ∧ k < s.size := B
        injection hR with h1 h2
        rw [← h1, ← h2]; exact B
      | sk b =>
        rw [ht] at B hR
        have B : skS s a < b ∧ b ≤ s.size := B
        exact ih (s.size - b) (by omega) b rfl B.2 T e x hR
      | tk k1 t n1 b =>
        rw [ht] at B hR
        have B : skS s a < b ∧ b ≤ s.size := B
        exact ih (s.size - b) (by omega) b rfl B.2 _ e x hR
/-- what is skipped behind a list of tokens -/
def skpL (X : List Tok) : Bool := match X.getLast? with
  | none => false
  | some t => skp t
theorem aft_skp {s : ByteArray} {a : Nat} {X : List Tok} (G : GT s a X) : aft skL X = skpL X := by
  rcases List.eq_nil_or_concat X with rfl | ⟨Y, t, rfl⟩
  · rfl
  · rw [List.concat_eq_append] at G ⊢
    rw [aft_snoc, skp_is (G.good t (by simp))]
    simp [skpL]
theorem dvs_opd {s : ByteArray} {a : Nat} {X : List Tok} (G : GT s a X) : dvs X = match X.getLast? with
    | none => false
    | some t => opd t := by
  rcases List.eq_nil_or_concat X with rfl | ⟨Y, t, rfl⟩
  · rfl
  · rw [List.concat_eq_append] at G ⊢
    rw [dvs_snoc, opd_is (G.good t (by simp))]
    simp
theorem app_data (a b : ByteArray) : (a ++ b).data.toList = a.data.toList ++ b.data.toList := by simp
theorem app_size (a b : ByteArray) : (a ++ b).size = a.size + b.size := by simp
theorem sk_dv : ∀ l ∈ skL, l ∉ dvL := by decide
/-- Joins -/
theorem joins_plain (a b u : ByteArray) (l m : List Tok) (hu : u.data.toList = a.data.toList ++ (10 :: b.data.toList)) (hl : runM a 0 [] = .ok l) (hm : runM b 0 [] = .ok m) :
    ∃ X Y, l = X ++ [endT a] ∧ m = Y ++ [endT b] ∧ GT a a.size X ∧
      ((skpL X = true ∧ ∃ x ∈ m.head?, x.k = 8) ∨ runM u 0 [] = .ok (X ++ (if skpL X then [] else [⟨8, ⟨#[]⟩, 0, (a.size : Nat)⟩]) ++ m.map (Tok.mv (a.size + 1)))) := by
  obtain ⟨X, e1, GX⟩ := run_good a _ 0 rfl (by omega) [] l (GT.nil _ _) hl
  obtain ⟨Y, e2, -⟩ := run_good b _ 0 rfl (by omega) [] m (GT.nil _ _) hm
  refine ⟨X, Y, e1, e2, GX, ?_⟩
  have us : u.size = a.size + 1 + b.size := by rw [size_len, hu, List.length_append, List.length_cons, ← size_len, ← size_len]; omega
  have un : u.data.toList[a.size]? = some 10 := by rw [hu, List.getElem?_append_right (by rw [← size_len]; omega), ← size_len, Nat.sub_self]; rfl
  have p10 : pk u a.size = 10 := by rw [pk_drop, List.head?_drop, un]; rfl
  have P : Px a u a.size 10 := by
    refine ⟨Nat.le_refl _, by omega, ?_, p10, .inl rfl⟩
    rw [hu, size_len, List.take_left, List.take_length]
  obtain ⟨n, h1, h2, h3, h4⟩ := run_st a _ 0 rfl (by omega) [] l hl X.length (by simp) (by rw [e1]; simp)
  have hn : n = a.size := by
    rw [e1, List.getElem?_append_right (Nat.le_refl _), Nat.sub_self] at h4
    simp [endT] at h4
    omega
  rw [hn, e1, List.take_left] at h1
  have R1 := P.st h1 (fun h40 => by rw [pk_ge (Nat.le_refl _)] at h40; cases h40) (by omega)
  have s0 : sk1 u a.size = none := by
    unfold sk1
    rw [if_neg (by omega), p10, if_neg (by decide), if_neg (by omega), if_neg (by decide)]
  rw [runM_at X (by omega) s0, if_neg (by omega)] at R1
  have S : Sh b u (a.size + 1) 0 := Sh.of (by omega) (by omega) (by
    rw [hu, Nat.zero_add, List.drop_zero, size_len]
    rw [show a.data.toList.length + 1 = (a.data.toList ++ [10]).length by simp]
    rw [show a.data.toList ++ 10 :: b.data.toList = (a.data.toList ++ [10]) ++ b.data.toList by simp, List.drop_left])
  obtain ⟨Z, z1, z2, z3⟩ := run_sh b _ 0 rfl (by omega) [] m hm
  rw [List.nil_append] at z1
  subst z1
  have A := aft_skp GX
  cases hk : skpL X with
  | false =>
    right
    rw [hk] at A
    have ht : tokM u a.size X = .tk 8 ⟨#[]⟩ 0 (a.size + 1) := by unfold tokM; rw [if_pos p10, A]; rfl
    rw [ht] at R1
    rw [R1]
    show runM u (a.size + 1) (X ++ [⟨8, ⟨#[]⟩, 0, (a.size : Nat)⟩]) = _
    have := z3 u (a.size + 1) 0 (X ++ [⟨8, ⟨#[]⟩, 0, (a.size : Nat)⟩]) S (Nat.le_refl _) (by rw [dvs_snoc]; rfl) (.inl (by rw [aft_snoc]; rfl))
    rw [Nat.zero_add] at this
    rw [this]
    simp
  | true =>
    by_cases hx : ∃ x ∈ m.head?, x.k = 8
    · exact .inl ⟨rfl, hx⟩
    right
    rw [hk] at A
    have ht : tokM u a.size X = .sk (a.size + 1) := by unfold tokM; rw [if_pos p10, A]; rfl
    rw [ht] at R1
    rw [R1]
    show runM u (a.size + 1) X = _
    have dX : dvs X = dvs [] := by
      rcases List.eq_nil_or_concat X with rfl | ⟨X0, t, rfl⟩
      · rfl
      · rw [List.concat_eq_append] at A ⊢
        rw [aft_snoc] at A
        simp only [Bool.and_eq_true, Bool.or_eq_true, decide_eq_true_eq] at A
        rw [dvs_snoc, decide_eq_false (sk_dv _ A.2)]
        rcases A.1 with k | k <;> rw [k] <;> rfl
    have := z3 u (a.size + 1) 0 X S (Nat.le_refl _) dX (.inr ⟨rfl, fun x hx' => fun k8 => hx ⟨x, hx', k8⟩⟩)
    rw [Nat.zero_add] at this
    rw [this]
    simp
/-- Blanks -/
theorem blanks_plain (s u : ByteArray) (c : UInt8) (l : List Tok) (k : Nat) (n : Nat) (hl : runM s 0 [] = .ok l) (hk : k < l.length) (hn : (l[k]?).map (·.a) = some (n : Int)) (h5 : ∀ t ∈ (l.take k).getLast?, t.k ≠ 5) (hc : c = 32 ∨ c = 9)
    (hu : u.data.toList = s.data.toList.take n ++ (c :: s.data.toList.drop n)) : n ≤ s.size ∧ runM u 0 [] = .ok (l.take k ++ (l.drop k).map (Tok.mv 1)) := by
  obtain ⟨n', h1, h2, h3, h4⟩ := run_st s _ 0 rfl (by omega) [] l hl k (by simp) hk
  have : n' = n := by rw [h4] at hn; injection hn; omega
  subst this
  refine ⟨h2, ?_⟩
  have tl : (s.data.toList.take n').length = n' := by rw [List.length_take, ← size_len]; omega
  have us : u.size = s.size + 1 := by rw [size_len, hu, List.length_append, List.length_cons, List.length_drop, tl, ← size_len]; omega
  have un : u.data.toList[n']? = some c := by rw [hu, List.getElem?_append_right (by omega), tl, Nat.sub_self]; rfl
  have pc : pk u n' = c.toNat := by rw [pk_drop, List.head?_drop, un]
  have cc : c.toNat = 32 ∨ c.toNat = 9 := by rcases hc with rfl | rfl <;> decide
  have S : Sh s u 1 n' := Sh.of h2 (by omega) (by
    rw [hu]
    rw [show s.data.toList.take n' ++ c :: s.data.toList.drop n' = (s.data.toList.take n' ++ [c]) ++ s.data.toList.drop n' by simp]
    rw [List.drop_append_of_le_length (by rw [List.length_append, tl]; exact Nat.le_refl _)]
    rw [List.drop_of_length_le (by rw [List.length_append, tl]; exact Nat.le_refl _), List.nil_append])
  have P : Px s u n' c.toNat := by
    refine ⟨h2, by omega, ?_, pc, .inr ⟨cc, us, S.pk (Nat.le_refl _)⟩⟩
    rw [hu, List.take_append_of_le_length (by omega), List.take_take, Nat.min_self]
  have R1 := P.st h1 (fun _ => h5) (by omega)
  have R2 : runM u n' (l.take k) = runM u (n' + 1) (l.take k) := runM_sk1 (by omega) (by unfold sk1; rw [if_neg (by omega), pc, if_pos cc])
  have R3 := h1.run (by omega)
  rw [hl] at R3
  obtain ⟨Z, z1, z2, z3⟩ := run_sh s _ n' rfl h2 (l.take k) l R3.symm
  have ez : Z = l.drop k := by
    have e : l.take k ++ Z = l.take k ++ l.drop k := by rw [← z1, List.take_append_drop]
    exact List.append_cancel_left e
  rw [R1, R2, z3 u 1 n' (l.take k) S (Nat.le_refl _) rfl (.inl rfl), ez]
end Tx
