/- append of a list of rows to nil -/
import Derived.Test.YtoohbgjfhchnmaaDoorQr
import Derived.Laws.AppendOwnNone
namespace Go.Proofs.YtoohbgjfhchnmaaDoor
open Go.RowKit Go.Maps
open Lcl
/-- a nil slice has no capacity -/
def NZ (v : Value) : Prop := ∀ n cap, v = .slice none n cap → cap = 0
theorem flat_at {k : Nat} : ∀ (l : List (List Value)) (_ : ∀ x ∈ l, x.length = k) (j i : Nat) (x : List Value) (y : Value), l[j]? = some x → x[i]? = some y → l.flatten[j * k + i]? = some y
  | [], _, j, i, x, y, hx, _ => by simp at hx
  | z :: r, hk, 0, i, x, y, hx, hy => by
    simp only [List.getElem?_cons_zero, Option.some.injEq] at hx
    subst hx
    rw [Nat.zero_mul, Nat.zero_add, List.flatten_cons, List.getElem?_append_left (List.getElem?_eq_some_iff.1 hy).1]
    exact hy
  | z :: r, hk, j + 1, i, x, y, hx, hy => by
    have hz : z.length = k := hk z (by simp)
    rw [List.flatten_cons, List.getElem?_append_right (by rw [hz, Nat.succ_mul]; omega), hz, show (j + 1) * k + i - k = j * k + i by rw [Nat.succ_mul]; omega]
    exact flat_at r (fun x hx => hk x (by simp [hx])) j i x y (by simpa using hx) hy
theorem flat_of {k : Nat} (hk0 : 0 < k) : ∀ (l : List (List Value)) (_ : ∀ x ∈ l, x.length = k) (q : Nat) (y : Value), l.flatten[q]? = some y → ∃ x, l[q / k]? = some x ∧ x[q % k]? = some y
  | [], _, q, y, h => by simp at h
  | z :: r, hk, q, y, h => by
    have hz : z.length = k := hk z (by simp)
    by_cases hq : q < k
    · rw [List.flatten_cons, List.getElem?_append_left (by omega)] at h
      exact ⟨z, by rw [Nat.div_eq_of_lt hq]; rfl, by rw [Nat.mod_eq_of_lt hq]; exact h⟩
    · rw [List.flatten_cons, List.getElem?_append_right (by omega), hz] at h
      obtain ⟨x, h1, h2⟩ := flat_of hk0 r (fun x hx => hk x (by simp [hx])) (q - k) y h
      have e1 : q / k = (q - k) / k + 1 := by
        rw [show q = (q - k) + k by omega, Nat.add_div_right _ hk0]; simp
      have e2 : q % k = (q - k) % k := by
        conv => lhs; rw [show q = (q - k) + k by omega]
        exact Nat.add_mod_right _ _
      exact ⟨x, by rw [e1]; exact h1, by rw [e2]; exact h2⟩
theorem flat_len {k : Nat} : ∀ (l : List (List Value)) (_ : ∀ x ∈ l, x.length = k), l.flatten.length = l.length * k
  | [], _ => by simp
  | z :: r, hk => by
    rw [List.flatten_cons, List.length_append, flat_len r (fun x hx => hk x (by simp [hx])), hk z (by simp), List.length_cons, Nat.succ_mul]
    omega
theorem append_rows {ops : Array Oper} {rest : List Oper} {o : Oper} {a : Act} {Q : Exit → Act → World → Prop} (hgd : o.guard = none) (s x : Operand) (t e : TypeId) (k bytes : Nat) (i : TypeInfo) (z : Value)
    (ho : o.op = .call { callee := .builtin .append, args := #[s, x], argTypes := #[t, t] }) (ht : Tryd.prog.underlying t = some (.slice e)) (hi : Tryd.prog.info? e = some i) (hz : i.zero = some z) (hsize : i.size = k) (hby : i.bytes = bytes) (hzs : z.cells.size = k) (hk0 : 0 < k)
    (l : List (List Value)) (v : Value) (w : World) (hs : a.eval s = .slice none 0 0) (hx : a.eval x = v) (hr : RowsAt w v k l) (hn : NZ v) (hk : ∀ x ∈ l, x.length = k) (h1 : ∀ x ∈ l, ∀ y ∈ x, y.oneCell' = true) (hb : l.length * bytes ≤ 140737488355328) (hm : l.length ≤ maxLen)
    (h : ∀ a' cap' w', Hid (RowsAt w' (.slice a' l.length cap') k l) → Hid (Below w.heap.size w w') → Hid (∀ g o sp, a' = some ⟨g, o, sp⟩ → w.heap.size ≤ g) → wpList Tryd.prog ops Q rest (a.put o.dst (.slice a' l.length cap')) w') : wpList Tryd.prog ops Q (o :: rest) a w := by
  obtain ⟨a0, cap, rfl, q1, q2, q3⟩ := hr
  cases a0 with
  | none =>
    have hl : l = [] := by
      rcases q3 with q3 | ⟨g, o, e, _⟩
      · exact q3
      · cases e
    have hc := hn _ _ rfl
    subst hl hc
    refine wpList_append_own_none hgd s x t ho w.heap.size e i k ht hi (.slice none 0 0) 0 [] hs (World.ownsRow_nil _ _ _ _) hx ?_
    exact h none 0 w (Lib.hid (rows_empty _ _)) (Lib.hid (Below.refl _ _)) (Lib.hid (fun _ _ _ e => by cases e))
  | some ad =>
    refine wpList_append_own _ hgd s x t ho w.heap.size e i z k bytes ht hi hz hsize hby hzs hk0 (.slice none 0 0) 0 [] hs (World.ownsRow_nil _ _ _ _) ad l.length cap l.flatten hx (flat_len l hk) ?_ ?_ (by omega) (by rw [Nat.zero_add]; exact hb) (Nat.le_refl _) ?_
    · intro j u hj
      rcases q3 with q3 | ⟨g, o', ea, hg, hc⟩
      · subst q3; simp at hj
      · cases ea
        obtain ⟨x', hx1, hx2⟩ := flat_of hk0 l hk j u hj
        have := hc _ _ hx1 _ _ hx2
        rw [Go.WideShapes.add_plain]
        rw [show o' + j / k * k + j % k = o' + j by rw [Nat.add_assoc, Nat.div_add_mod']] at this
        exact this
    · intro u hu
      obtain ⟨y, hy, hu'⟩ := List.mem_flatten.1 hu
      exact h1 y hy u hu'
    · intro v' w' r1 r2 _
      rw [Nat.zero_add, List.nil_append] at r1
      have hB : Below w.heap.size w w' := (Below.refl _ _).grown r2 (Nat.le_refl _) (fun k hk => by cases hk)
      rcases r1.2 with ⟨rfl, hn'⟩ | ⟨g, cap', cur, rfl, hbb, hg, hn', hm', hs', ht'⟩
      · have hl : l = [] := by
          have := r1.1
          cases l with
          | nil => rfl
          | cons y r =>
            simp at this hn'
        subst hl
        exact h none 0 w' (Lib.hid (rows_empty _ _)) (Lib.hid hB) (Lib.hid (fun _ _ _ e => by cases e))
      · refine h (some ⟨g, 0, none⟩) cap' w' (Lib.hid ⟨_, _, rfl, hn', hm', .inr ⟨g, 0, rfl, (Array.getElem?_eq_some_iff.1 hg).1, fun j y hj ii u hu => ?_⟩⟩) (Lib.hid hB) (Lib.hid (fun g' _ _ e => by cases e; exact hbb))
        have hf := flat_at l hk j ii y u hj hu
        have hlt : j * k + ii < l.length * k := by
          have := (List.getElem?_eq_some_iff.1 hf).1
          rw [flat_len l hk] at this; exact this
        have hc := r1.cellAt (j * k + ii) hlt
        rw [Nat.zero_add, hc, hf]
end Go.Proofs.YtoohbgjfhchnmaaDoor
