/- plain: lines with their line feeds -/
import Derived.Test.YtpakciceohgfhaaDoorLplain
import Derived.Test.YtpakciceohgfhaaDoorWplain
import Derived.Lib.ItoaNum
import Derived.Lib.Join
namespace Tx
open Go
/-- the lines of a text with their line feeds -/
def lnk (l : List UInt8) : List (List UInt8) := (spl l).dropLast.map (· ++ [10]) ++ (if (spl l).getLastD [] = [] then [] else [(spl l).getLastD []])
theorem lnk_of {l : List UInt8} {out : List (List UInt8)} {cur : List UInt8} (e : spl l = out ++ [cur]) : lnk l = out.map (· ++ [10]) ++ (if cur = [] then [] else [cur]) := by
  unfold lnk; rw [e]; simp
theorem spl_line0 (x : List UInt8) (h : (10 : UInt8) ∉ x) : spl x = [x] := by
  induction x with
  | nil => rfl
  | cons c r ih =>
    simp only [List.mem_cons, not_or] at h
    exact spl_cons c r r [] (fun e => h.1 e.symm) (ih h.2)
theorem spl_step (x r : List UInt8) (h : (10 : UInt8) ∉ x) : spl (x ++ 10 :: r) = x :: spl r := by
  obtain ⟨a, t, h1, h2⟩ := spl_app x [] x (10 :: r) (spl_line0 x h)
  rw [spl_nl, List.cons.injEq] at h1
  rw [h2, ← h1.1, ← h1.2]; simp
theorem lnk_nil : lnk [] = [] := rfl
theorem lnk_line (x : List UInt8) (h : (10 : UInt8) ∉ x) (hx : x ≠ []) : lnk x = [x] := by
  rw [lnk_of (out := []) (cur := x) (spl_line0 x h), if_neg hx]; rfl
theorem lnk_step (x r : List UInt8) (h : (10 : UInt8) ∉ x) : lnk (x ++ 10 :: r) = (x ++ [10]) :: lnk r := by
  obtain ⟨out, cur, e⟩ := spl_ex r
  have e2 : spl (x ++ 10 :: r) = (x :: out) ++ [cur] := by rw [spl_step x r h, e]; rfl
  rw [lnk_of e2, lnk_of e]; rfl
theorem lnk_flat (l : List UInt8) : (lnk l).flatten = l := by
  obtain ⟨out, cur, e⟩ := spl_ex l
  rw [lnk_of e]
  have : ∀ (out : List (List UInt8)) (l cur : List UInt8), spl l = out ++ [cur] → (out.map (· ++ [10])).flatten ++ cur = l := by
    intro out
    induction out with
    | nil =>
      intro l cur e
      have h := (spl_size l [] cur e).1
      obtain ⟨a, t, h1, h2⟩ := spl_app l [] cur [] e
      have : ∀ l : List UInt8, (10 : UInt8) ∉ l → spl l = [l] := spl_line0
      have hc : l.count 10 = 0 := by have := (spl_size l [] cur e).2.1; simpa using this.symm
      have hn : (10 : UInt8) ∉ l := by rw [List.count_eq_zero] at hc; exact hc
      rw [spl_line0 l hn] at e
      simp at e; simp [e]
    | cons x o ih =>
      intro l cur e
      have hx := (spl_size l (x :: o) cur e).2.2.2.1 x (by simp)
      have : ∃ r, l = x ++ 10 :: r ∧ spl r = o ++ [cur] := by
        clear ih
        induction l generalizing x with
        | nil => simp [spl] at e
        | cons c l ih =>
          by_cases hc : c = 10
          · subst hc
            rw [spl_nl, List.cons_append, List.cons.injEq] at e
            exact ⟨l, by rw [← e.1]; rfl, e.2⟩
          · obtain ⟨h0, t0, e0⟩ := List.exists_cons_of_ne_nil (spl_ne l)
            rw [spl_cons c l h0 t0 hc e0, List.cons_append, List.cons.injEq] at e
            obtain ⟨rfl, rfl⟩ := e
            obtain ⟨r, h1, h2⟩ := ih h0 (by rw [e0]; rfl) (by simp at hx; exact hx.2)
            exact ⟨r, by rw [h1]; rfl, h2⟩
      obtain ⟨r, rfl, h2⟩ := this
      rw [List.map_cons, List.flatten_cons, List.append_assoc, ih r cur h2]; simp
  have h := this out l cur e
  rw [List.flatten_append]
  split
  · rename_i hz; rw [hz] at h; simpa using h
  · simpa using h
theorem lnk_len (l : List UInt8) : (lnk l).length = (lin l).length := by
  obtain ⟨out, cur, e⟩ := spl_ex l
  rw [lnk_of e, (lin_of e).1]
  split <;> simp
/-- a list of lines, each but perhaps the last with its line feed -/
def good : List (List UInt8) → Prop
  | [] => True
  | [x] => (∃ y : List UInt8, (10 : UInt8) ∉ y ∧ x = y ++ [10]) ∨ (x ≠ [] ∧ (10 : UInt8) ∉ x)
  | x :: y :: r => (∃ z : List UInt8, (10 : UInt8) ∉ z ∧ x = z ++ [10]) ∧ good (y :: r)
theorem good_tail {x : List UInt8} {r : List (List UInt8)} (h : good (x :: r)) : good r := by
  cases r with
  | nil => trivial
  | cons y r => exact h.2
theorem good_cons {x : List UInt8} {r : List (List UInt8)} (h1 : ∃ z : List UInt8, (10 : UInt8) ∉ z ∧ x = z ++ [10]) (h : good r) : good (x :: r) := by
  cases r with
  | nil => exact .inl h1
  | cons y r => exact ⟨h1, h⟩
theorem lnk_good {L : List (List UInt8)} (h : good L) : lnk L.flatten = L := by
  induction L with
  | nil => rfl
  | cons x r ih =>
    cases r with
    | nil =>
      rcases h with ⟨y, hy, rfl⟩ | ⟨h1, h2⟩
      · have e : [y ++ [(10 : UInt8)]].flatten = y ++ 10 :: [] := by simp
        rw [e, lnk_step y [] hy]; rfl
      · have e : [x].flatten = x := by simp
        rw [e, lnk_line x h2 h1]
    | cons y r =>
      obtain ⟨⟨z, hz, rfl⟩, h2⟩ := h
      have e : ((z ++ [(10 : UInt8)]) :: y :: r).flatten = z ++ 10 :: (y :: r).flatten := by simp
      rw [e, lnk_step z _ hz, ih h2]
theorem good_lnk (l : List UInt8) : good (lnk l) := by
  obtain ⟨out, cur, e⟩ := spl_ex l
  obtain ⟨h1, h2, hc, ho, h5⟩ := spl_size l out cur e
  rw [lnk_of e]
  clear e h1 h2 h5
  induction out with
  | nil =>
    split
    · trivial
    · rename_i hz; exact .inr ⟨hz, hc⟩
  | cons x o ih => exact good_cons ⟨x, ho x (by simp), rfl⟩ (ih (fun y hy => ho y (by simp [hy])))
theorem good_take : ∀ (L : List (List UInt8)) (k : Nat), good L → good (L.take k) := by
  intro L
  induction L with
  | nil => intro k _; simp [good]
  | cons x r ih =>
    intro k h
    cases k with
    | zero => trivial
    | succ k =>
      rw [List.take_succ_cons]
      cases r with
      | nil => simpa using h
      | cons y r => exact good_cons h.1 (ih k h.2)
theorem good_drop : ∀ (L : List (List UInt8)) (k : Nat), good L → good (L.drop k) := by
  intro L
  induction L with
  | nil => intro k _; simp [good]
  | cons x r ih =>
    intro k h
    cases k with
    | zero => exact h
    | succ k => rw [List.drop_succ_cons]; exact ih k (good_tail h)
/-- how many lines Head and Tail mean -/
def hdK (n : Int) (len : Nat) : Nat := if n < 0 then len - (-n).toNat else min n.toNat len
def headL (l : List UInt8) (n : Int) : List UInt8 := ((lnk l).take (hdK n (lnk l).length)).flatten
def tailL (l : List UInt8) (n : Int) : List UInt8 := ((lnk l).drop ((lnk l).length - hdK n (lnk l).length)).flatten
def frK (n : Int) (len : Nat) : Nat := min (n - 1).toNat len
def fromL (l : List UInt8) (n : Int) : List UInt8 := ((lnk l).drop (frK n (lnk l).length)).flatten
/-- numbered lines -/
def numb : List (List UInt8) → Int → List UInt8
  | [], _ => []
  | x :: r, n => Lib.itoa n ++ (9 :: (x ++ numb r (if n < 9223372036854775807 then n + 1 else n)))
/-- strings.SplitAfter at a line feed -/
def spa (l : List UInt8) : List (List UInt8) := Lib.splitK [10] 1 (Lib.count l [10]) l
theorem spa_spl : ∀ (l : List UInt8) (out : List (List UInt8)) (cur : List UInt8), spl l = out ++ [cur] → spa l = out.map (· ++ [10]) ++ [cur] := by
  intro l
  induction l with
  | nil =>
    intro out cur e
    cases out with
    | nil => simp [spl] at e; subst e; rfl
    | cons x o => simp [spl] at e
  | cons c l ih =>
    intro out cur e
    by_cases hc : c = 10
    · subst hc
      rw [spl_nl] at e
      cases out with
      | nil => exact absurd (List.cons.inj e).2 (spl_ne l)
      | cons x o =>
        rw [List.cons_append, List.cons.injEq] at e
        obtain ⟨rfl, e2⟩ := e
        have i := ih o cur e2
        have hix : Lib.index (10 :: l) [10] = 0 := by rw [Lib.index]; simp [List.isPrefixOf]
        unfold spa at i ⊢
        rw [Lib.count_cons_eq, Nat.add_comm 1, Lib.splitK, hix]
        have e0 : ¬ ((0 : Int) == -1) = true := by decide
        rw [if_neg e0]
        show List.take (0 + 1) (10 :: l) :: Lib.splitK [10] 1 (Lib.count l [10]) (List.drop (0 + 1) (10 :: l)) = _
        simp only [Nat.zero_add, List.drop_succ_cons, List.drop_zero, i]
        simp
    · obtain ⟨h0, t0, e0⟩ := List.exists_cons_of_ne_nil (spl_ne l)
      have hp : ([10] : List UInt8).isPrefixOf (c :: l) = false := by simp [List.isPrefixOf, Ne.symm hc]
      have hix : Lib.index (c :: l) [10] = if Lib.index l [10] == -1 then -1 else Lib.index l [10] + 1 := by rw [Lib.index, hp]; simp
      have key : ∀ (h t : _), spa l = h :: t → spa (c :: l) = (c :: h) :: t := by
        intro h t i
        unfold spa at i ⊢
        rw [Lib.count_cons_ne c 10 l hc]
        generalize Lib.count l [10] = k at i
        cases k with
        | zero =>
          rw [Lib.splitK] at i ⊢
          simp at i; simp [i]
        | succ k =>
          rw [Lib.splitK] at i ⊢
          by_cases hm : Lib.index l [10] = -1
          · rw [hm] at hix i
            have hix' : Lib.index (c :: l) [10] = -1 := by rw [hix]; rfl
            rw [hix']
            rw [if_pos (by rfl)] at i ⊢
            simp at i; simp [i]
          · have hge := Lib.index_ge l [10]
            obtain ⟨j, hj⟩ : ∃ j : Nat, Lib.index l [10] = j := ⟨(Lib.index l [10]).toNat, by omega⟩
            rw [hj] at i
            have hix' : Lib.index (c :: l) [10] = ((j + 1 : Nat) : Int) := by rw [hix, if_neg (fun e => hm (beq_iff_eq.1 e)), hj]; omega
            rw [hix']
            have n1 : ¬ (((j : Nat) : Int) == -1) = true := fun e => by have := beq_iff_eq.1 e; omega
            have n2 : ¬ (((j + 1 : Nat) : Int) == -1) = true := fun e => by have := beq_iff_eq.1 e; omega
            rw [if_neg n1] at i
            rw [if_neg n2]
            have e1 : ((j + 1 : Nat) : Int).toNat = j + 1 := by omega
            have e2 : ((j : Nat) : Int).toNat = j := by omega
            rw [e1]
            rw [e2] at i
            rw [List.cons.injEq] at i
            rw [← i.1, ← i.2]
            rfl
      rw [spl_cons c l h0 t0 hc e0] at e
      cases out with
      | nil =>
        rw [List.nil_append, List.cons.injEq] at e
        obtain ⟨rfl, rfl⟩ := e
        exact key h0 [] (ih [] h0 e0)
      | cons x o =>
        rw [List.cons_append, List.cons.injEq] at e
        obtain ⟨rfl, rfl⟩ := e
        exact key (h0 ++ [10]) (o.map (· ++ [10]) ++ [cur]) (ih (h0 :: o) cur (by rw [e0]; rfl))
theorem join_flat (L : List (List UInt8)) : Lib.join L [] = L.flatten := by
  cases L with
  | nil => rfl
  | cons x r => rw [Lib.join_cons]; simp [Lib.joinTail]
/-- the pieces that strings.SplitAfter makes, without the last one where it is empty -/
theorem spa_lnk (l : List UInt8) (out : List (List UInt8)) (cur : List UInt8) (e : spl l = out ++ [cur]) : (cur = [] → lnk l = (spa l).dropLast) ∧ (cur ≠ [] → lnk l = spa l) ∧ (spa l).getLast? = some cur := by
  have h := spa_spl l out cur e
  have k := lnk_of e
  refine ⟨fun hc => ?_, fun hc => ?_, ?_⟩
  · rw [k, h, if_pos hc]; simp
  · rw [k, h, if_neg hc]
  · rw [h]; simp
end Tx
