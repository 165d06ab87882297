/- plain: joined lines -/
import Derived.Test.YtbioflajonafdaaLplain2
import Derived.Lib.Join
namespace Tx
open Go
/-- lines with a line feed each -/
def nlcat (L : List ByteArray) : List UInt8 := L.flatMap (fun x => x.data.toList ++ [10])
/-- joined lines -/
def joinL (L : List ByteArray) (e : Bool) : List UInt8 := Lib.join (L.map (·.data.toList)) [10] ++ (if e = true ∧ L ≠ [] then [10] else [])
theorem join_two (y z : List UInt8) (r : List (List UInt8)) : Lib.join (y :: z :: r) [10] = y ++ ([10] ++ Lib.join (z :: r) [10]) := by
  rw [Lib.join_cons, Lib.join_cons]
  simp [Lib.joinTail]
theorem join_snoc (L : List ByteArray) (x : ByteArray) : Lib.join ((L ++ [x]).map (·.data.toList)) [10] = nlcat L ++ x.data.toList := by
  induction L with
  | nil => simp [Lib.join_one, nlcat]
  | cons y r ih =>
    cases r with
    | nil =>
      show Lib.join [y.data.toList, x.data.toList] [10] = _
      rw [join_two, Lib.join_one]; simp [nlcat]
    | cons z r =>
      have e : (y :: z :: r ++ [x]).map (·.data.toList) = y.data.toList :: z.data.toList :: (r ++ [x]).map (·.data.toList) := rfl
      rw [e, join_two]
      have e2 : z.data.toList :: (r ++ [x]).map (·.data.toList) = (z :: r ++ [x]).map (·.data.toList) := rfl
      rw [e2, ih]
      simp [nlcat]
theorem nlcat_snoc (L : List ByteArray) (j : Nat) (h : j < L.length) : nlcat (L.take (j + 1)) = (nlcat (L.take j) ++ L[j].data.toList) ++ [10] := by
  unfold nlcat; rw [List.take_succ_eq_append_getElem h, List.flatMap_append]
  simp only [List.flatMap_cons, List.flatMap_nil, List.append_nil, List.append_assoc]
theorem nlcat_len (L : List ByteArray) : (nlcat L).length = fullB L := by
  induction L with
  | nil => rfl
  | cons x r ih =>
    have : nlcat (x :: r) = (x.data.toList ++ [10]) ++ nlcat r := by simp [nlcat]
    rw [this, List.length_append, ih, List.length_append, ← size_len]
    simp [fullB]
theorem joinL_end (L : List ByteArray) : joinL L true = nlcat L := by
  by_cases h : L = []
  · subst h; rfl
  · obtain ⟨r, x, e⟩ : ∃ r x, L = r ++ [x] := ⟨L.dropLast, L.getLast h, (List.dropLast_concat_getLast h).symm⟩
    unfold joinL
    rw [if_pos ⟨rfl, h⟩, e, join_snoc]
    simp [nlcat]
theorem joinL_open (L : List ByteArray) (j : Nat) (h : j + 1 = L.length) : joinL L false = nlcat (L.take j) ++ L[j].data.toList := by
  have e : L = L.take j ++ [L[j]] := by
    rw [← List.take_succ_eq_append_getElem (by omega), List.take_of_length_le (by omega)]
  unfold joinL
  rw [if_neg (fun x => by cases x.1), List.append_nil]
  conv => lhs; rw [e]
  exact join_snoc _ _
theorem join_le (L : List ByteArray) : (Lib.join (L.map (·.data.toList)) [10]).length ≤ fullB L := by
  by_cases h : L = []
  · subst h; simp [Lib.join_nil]
  · obtain ⟨r, x, e⟩ : ∃ r x, L = r ++ [x] := ⟨L.dropLast, L.getLast h, (List.dropLast_concat_getLast h).symm⟩
    rw [e, join_snoc, List.length_append, nlcat_len, ← size_len]
    simp [fullB]
theorem joinL_le (L : List ByteArray) (e : Bool) : (joinL L e).length ≤ fullB L := by
  by_cases h : L = []
  · subst h; simp [joinL, Lib.join_nil]
  · obtain ⟨r, x, he⟩ : ∃ r x, L = r ++ [x] := ⟨L.dropLast, L.getLast h, (List.dropLast_concat_getLast h).symm⟩
    unfold joinL
    rw [List.length_append, he, join_snoc, List.length_append, nlcat_len, ← size_len]
    have : (if e = true ∧ r ++ [x] ≠ [] then [(10 : UInt8)] else []).length ≤ 1 := by split <;> simp
    simp only [fullB, List.map_append, List.sum_append, List.map_cons, List.map_nil, List.sum_cons, List.sum_nil] at this ⊢
    omega
/-- the lines of a text, joined, are the text -/
theorem joinL_lin (l : List UInt8) (L : List ByteArray) (h : L.map (·.data.toList) = lin l) : joinL L (linE l) = l := by
  have J : ∀ l : List UInt8, Lib.join (spl l) [10] = l := by
    intro l
    induction l with
    | nil => rfl
    | cons c r ih =>
      obtain ⟨x, t, e⟩ := List.exists_cons_of_ne_nil (spl_ne r)
      rw [e] at ih
      by_cases hc : c = 10
      · subst hc
        rw [spl_nl, e, join_two, ih]; rfl
      · rw [spl_cons c r x t hc e, Lib.join_cons, ← ih, Lib.join_cons]; rfl
  obtain ⟨out, cur, e⟩ := spl_ex l
  obtain ⟨f1, f2⟩ := lin_of e
  have hJ := J l
  unfold joinL
  rw [h, f1, f2]
  by_cases hz : cur = []
  · subst hz
    rw [if_pos rfl, decide_eq_true rfl]
    have hL : L = [] ↔ out = [] := by
      rw [f1, if_pos rfl] at h
      constructor
      · intro e; rw [e] at h; exact h.symm
      · intro e; rw [e] at h; exact List.map_eq_nil_iff.1 h
    by_cases ho : out = []
    · subst ho
      rw [if_neg (fun x => x.2 (hL.2 rfl))]
      rw [e] at hJ
      simpa [Lib.join_one, Lib.join_nil] using hJ
    · rw [if_pos ⟨rfl, fun x => ho (hL.1 x)⟩]
      rw [e] at hJ
      conv => rhs; rw [← hJ]
      clear hJ f1 f2 e h hL
      induction out with
      | nil => exact absurd rfl ho
      | cons x r ih =>
        cases r with
        | nil => simp [Lib.join_one, join_two]
        | cons y r =>
          have := ih (by simp)
          simp only [List.cons_append, join_two] at this ⊢
          rw [← this]; simp
  · rw [if_neg hz, decide_eq_false hz, if_neg (fun x => by cases x.1), ← e, hJ, List.append_nil]
theorem lin_fullB (l : List UInt8) (L : List ByteArray) (h : L.map (·.data.toList) = lin l) : fullB L ≤ l.length + 1 := by
  rw [fullB_full, h]
  obtain ⟨out, cur, e⟩ := spl_ex l
  obtain ⟨f1, _⟩ := lin_of e
  obtain ⟨a1, _⟩ := spl_size l out cur e
  rw [f1]
  split
  · omega
  · have : full (out ++ [cur]) = full out + cur.length + 1 := by simp [full]; omega
    omega
theorem spl_line (x : List UInt8) (h : (10 : UInt8) ∉ x) : spl x = [x] := by
  induction x with
  | nil => rfl
  | cons c r ih =>
    simp only [List.mem_cons, not_or] at h
    exact spl_cons c r r [] (fun e => h.1 e.symm) (ih h.2)
/-- joined lines, none of which holds a line feed, are these lines -/
theorem lin_joinL (L : List ByteArray) (e : Bool) (h : ∀ x ∈ L, (10 : UInt8) ∉ x.data.toList) (hp : e = true ∨ ∃ r x, L = r ++ [x] ∧ x.data.toList ≠ []) : lin (joinL L e) = L.map (·.data.toList) ∧ linE (joinL L e) = e := by
  have S : ∀ (L : List ByteArray) (y : List UInt8), (∀ x ∈ L, (10 : UInt8) ∉ x.data.toList) → (10 : UInt8) ∉ y → spl (nlcat L ++ y) = L.map (·.data.toList) ++ [y] := by
    intro L y h hy
    induction L with
    | nil => exact spl_line y hy
    | cons x r ih =>
      have i := ih (fun z hz => h z (by simp [hz]))
      have e : nlcat (x :: r) ++ y = x.data.toList ++ (10 :: (nlcat r ++ y)) := by simp [nlcat]
      obtain ⟨a, t, h1, h2⟩ := spl_app x.data.toList [] x.data.toList (10 :: (nlcat r ++ y)) (spl_line _ (h x (by simp)))
      rw [spl_nl, i, List.cons.injEq] at h1
      rw [e, h2, ← h1.1, ← h1.2]
      simp
  cases e with
  | true =>
    have s := S L [] h (by simp)
    rw [List.append_nil] at s
    rw [joinL_end]
    obtain ⟨f1, f2⟩ := lin_of s
    exact ⟨by rw [f1, if_pos rfl], by rw [f2, decide_eq_true rfl]⟩
  | false =>
    rcases hp with hp | ⟨r, x, rfl, hx⟩
    · cases hp
    · have s := S r x.data.toList (fun z hz => h z (by simp [hz])) (h x (by simp))
      have j : joinL (r ++ [x]) false = nlcat r ++ x.data.toList := by
        unfold joinL
        rw [if_neg (fun x => by cases x.1), List.append_nil]; exact join_snoc _ _
      rw [j]
      obtain ⟨f1, f2⟩ := lin_of s
      exact ⟨by rw [f1, if_neg hx]; simp, by rw [f2, decide_eq_false hx]⟩
end Tx
