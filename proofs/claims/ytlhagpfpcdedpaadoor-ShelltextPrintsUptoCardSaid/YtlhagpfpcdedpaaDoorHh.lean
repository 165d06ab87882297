/- walks: rows that are appended to (written by gen_hh.py) -/
import Derived.Test.YtlhagpfpcdedpaaDoorHq
import Derived.Deep.AppendLies
namespace Go.Proofs.YtlhagpfpcdedpaaDoor
open Go.RowKit
open Shp
theorem info_parts {P : Program} {e : TypeId} {z : Value} {k b : Nat} (h : (P.info? e).map (fun i => (i.zero, i.size, i.bytes)) = some (some z, k, b)) : ∃ i, P.info? e = some i ∧ i.zero = some z ∧ i.size = k ∧ i.bytes = b := by
  cases hi : P.info? e with
  | none => rw [hi] at h; cases h
  | some i => rw [hi] at h; simp at h; exact ⟨i, rfl, h.1, h.2.1, h.2.2⟩
theorem own_lt {w : World} {B : Nat} {e : TypeId} {k : Nat} {v : Value} {n : Nat} {xs : List Value} (h : w.ownsRow B e k v n xs) {b : Nat} (hb : v.ownBlock = some b) : b < w.heap.size := by
  obtain ⟨_, h2⟩ := h
  rcases h2 with ⟨rfl, _⟩ | ⟨g, cap, cur, rfl, _, hg, _⟩
  · cases hb
  · cases hb; exact (Array.getElem?_eq_some_iff.1 hg).1
theorem grown_alloc {wr w' : World} {obj : Obj} {ob : Option Nat} (h : (wr.alloc obj).grownBy w' ob) : wr.grownBy w' ob := by
  obtain ⟨q1, q2, q3, q4, q5⟩ := h
  refine ⟨q1, q2, q3, by simp at q4; omega, fun i hi hp => ?_⟩
  rw [q5 i (by simp; omega) hp]
  exact heap_alloc_old wr obj hi
/-- a row of another kind of cells is kept -/
theorem grown_keep {wr w' : World} {B : Nat} {e : TypeId} {k : Nat} {v : Value} {n : Nat} {xs : List Value} (h : wr.grownBy w' v.ownBlock) (own : wr.ownsRow B e k v n xs) {i : Nat} {cs : Array Value} {e' : TypeId} {z : Nat × Nat} (hi : wr.heap[i]? = some (.cells cs e' z)) (hne : e' ≠ e) : w'.heap[i]? = wr.heap[i]? := by
  obtain ⟨q1, q2, q3, q4, q5⟩ := h
  refine q5 i (Array.getElem?_eq_some_iff.1 hi).1 (fun e1 => ?_)
  obtain ⟨_, h2⟩ := own
  rcases h2 with ⟨rfl, _⟩ | ⟨g, cap, cur, rfl, _, hg, _⟩
  · cases e1
  · cases e1
    rw [hi] at hg
    cases hg
    exact hne rfl
theorem own_grown {wr w' : World} {B B2 : Nat} {e e' : TypeId} {k k2 : Nat} {v v2 : Value} {n n2 : Nat} {xs xs2 : List Value} (h : wr.grownBy w' v.ownBlock) (own : wr.ownsRow B e k v n xs) (o2 : wr.ownsRow B2 e' k2 v2 n2 xs2) (hne : e' ≠ e) : w'.ownsRow B2 e' k2 v2 n2 xs2 := by
  obtain ⟨h1, h2⟩ := o2
  refine ⟨h1, ?_⟩
  rcases h2 with h2 | ⟨g, cap, cur, rfl, hB, hg, r⟩
  · exact .inl h2
  · exact .inr ⟨g, cap, cur, rfl, hB, by rw [grown_keep h own hg hne]; exact hg, r⟩
/-- a row is kept where its kind of cells is kept -/
theorem own_ty {w w' : World} {B : Nat} {e : TypeId} {k : Nat} {v : Value} {n : Nat} {xs : List Value} (h : w.ownsRow B e k v n xs) (hk : ∀ (i : Nat) (cs : Array Value) (z : Nat × Nat), w.heap[i]? = some (Obj.cells cs e z) → w'.heap[i]? = w.heap[i]?) : w'.ownsRow B e k v n xs := by
  obtain ⟨h1, h2⟩ := h
  refine ⟨h1, ?_⟩
  rcases h2 with h2 | ⟨g, cap, cur, rfl, hB, hg, r⟩
  · exact .inl h2
  · exact .inr ⟨g, cap, cur, rfl, hB, by rw [hk g _ _ hg]; exact hg, r⟩
/-- a row is kept by all that changes the parser alone -/
theorem own_gr {p : Nat} {w w' : World} {B : Nat} {e : TypeId} {k : Nat} {v : Value} {n : Nat} {xs : List Value} (h : w.ownsRow B e k v n xs) (g : Gr p w w') {cs : Array Value} {T : TypeId} {z : Nat × Nat} (hp : w.heap[p]? = some (.cells cs T z)) (hne : T ≠ e) : w'.ownsRow B e k v n xs := by
  obtain ⟨q1, q2, q3, q4, q5⟩ := g
  refine own_ty h fun i cs' z' hi => q5 i (Array.getElem?_eq_some_iff.1 hi).1 (fun e1 => ?_)
  cases e1
  rw [hp] at hi
  cases hi
  exact hne rfl
theorem info_str : (Tryd.prog.info? 9).map (fun i => (i.zero, i.size, i.bytes)) = some (some (.string ⟨#[]⟩), 1, 16) := by kernel_rfl
theorem step_str {ops : Array Oper} {o : Oper} {a : Act} {K : Act → World → Prop} {Q : Exit → Act → World → Prop} {E : Prop} (hgd : o.guard = none) (s x : Operand)
    (ho : o.op = .call { callee := .builtin .append, args := #[s, x], argTypes := #[35, 35] }) (v : Value) (n : Nat) (xs : List Value) (u : ByteArray) (B : Nat) (wr : World)
    (own : wr.ownsRow B 9 1 v n xs) (hB : B ≤ wr.heap.size) (len : n ≤ 1048576) (hs : a.eval s = v) (hx : a.eval x = .slice (some ⟨wr.heap.size, 0, none⟩) 1 1)
    (h : ∀ g cap w', w'.ownsRow B 9 1 (.slice (some ⟨g, 0, none⟩) (n + 1) cap) (n + 1) (xs ++ [.string u]) → wr.grownBy w' v.ownBlock → K (a.put o.dst (.slice (some ⟨g, 0, none⟩) (n + 1) cap)) w') :
    if Region.wanted o (yielded ops a.tmps) = true then Oper.wp Tryd.prog o a (wr.alloc (.cells #[.string u] 9)) K Q else E := by
  obtain ⟨i0, hi, hz0, hz1, hz2⟩ := info_parts info_str
  refine step_append_lies _ hgd s x 35 ho B 9 i0 (.string ⟨#[]⟩) 1 16 Tryd.underlying35 hi hz0 hz1 hz2 rfl (by decide) v n xs hs (own.alloc _) ⟨wr.heap.size, 0, none⟩ 1 1 [.string u] hx rfl ?_ ?_ (by omega) ?_ ?_ ?_ _ rfl ?_
  · intro j y hj
    rw [Go.WideShapes.add_plain, Nat.zero_add, blk_cell (heap_alloc_new wr _)]
    match j, hj with
    | 0, hj => exact hj
  · intro y hy; simp at hy; rcases hy with rfl <;> rfl
  · unfold maxLen; omega
  · omega
  · simp; omega
  · intro g cap w' h1 h2 _ _
    exact h g cap w' h1 (grown_alloc h2)
theorem info_red : (Tryd.prog.info? 77).map (fun i => (i.zero, i.size, i.bytes)) = some (some (.agg #[.int .i64 0, .string ⟨#[]⟩]), 2, 24) := by kernel_rfl
theorem step_red {ops : Array Oper} {o : Oper} {a : Act} {K : Act → World → Prop} {Q : Exit → Act → World → Prop} {E : Prop} (hgd : o.guard = none) (s x : Operand)
    (ho : o.op = .call { callee := .builtin .append, args := #[s, x], argTypes := #[38, 38] }) (v : Value) (n : Nat) (xs : List Value) (kd : Int) (u : ByteArray) (B : Nat) (wr : World)
    (own : wr.ownsRow B 77 2 v n xs) (hB : B ≤ wr.heap.size) (len : n ≤ 1048576) (hs : a.eval s = v) (hx : a.eval x = .slice (some ⟨wr.heap.size, 0, none⟩) 1 1)
    (h : ∀ g cap w', w'.ownsRow B 77 2 (.slice (some ⟨g, 0, none⟩) (n + 1) cap) (n + 1) (xs ++ [.int .i64 kd, .string u]) → wr.grownBy w' v.ownBlock → K (a.put o.dst (.slice (some ⟨g, 0, none⟩) (n + 1) cap)) w') :
    if Region.wanted o (yielded ops a.tmps) = true then Oper.wp Tryd.prog o a (wr.alloc (.cells #[.int .i64 kd, .string u] 77)) K Q else E := by
  obtain ⟨i0, hi, hz0, hz1, hz2⟩ := info_parts info_red
  refine step_append_lies _ hgd s x 38 ho B 77 i0 (.agg #[.int .i64 0, .string ⟨#[]⟩]) 2 24 Tryd.underlying38 hi hz0 hz1 hz2 rfl (by decide) v n xs hs (own.alloc _) ⟨wr.heap.size, 0, none⟩ 1 1 [.int .i64 kd, .string u] hx rfl ?_ ?_ (by omega) ?_ ?_ ?_ _ rfl ?_
  · intro j y hj
    rw [Go.WideShapes.add_plain, Nat.zero_add, blk_cell (heap_alloc_new wr _)]
    match j, hj with
    | 0, hj => exact hj
    | 1, hj => exact hj
  · intro y hy; simp at hy; rcases hy with rfl | rfl <;> rfl
  · unfold maxLen; omega
  · omega
  · simp; omega
  · intro g cap w' h1 h2 _ _
    exact h g cap w' h1 (grown_alloc h2)
theorem info_cmd : (Tryd.prog.info? 40).map (fun i => (i.zero, i.size, i.bytes)) = some (some (.agg #[.string ⟨#[]⟩, .slice none 0 0, .slice none 0 0, .int .i64 0]), 4, 72) := by kernel_rfl
theorem step_cmd {ops : Array Oper} {o : Oper} {a : Act} {K : Act → World → Prop} {Q : Exit → Act → World → Prop} {E : Prop} (hgd : o.guard = none) (s x : Operand)
    (ho : o.op = .call { callee := .builtin .append, args := #[s, x], argTypes := #[32, 32] }) (v : Value) (n : Nat) (xs : List Value) (u : ByteArray) (n1 m1 n2 m2 : Nat) (a1 a2 : Option Addr) (q : Int) (B : Nat) (wr : World)
    (own : wr.ownsRow B 40 4 v n xs) (hB : B ≤ wr.heap.size) (len : n ≤ 1048576) (hs : a.eval s = v) (hx : a.eval x = .slice (some ⟨wr.heap.size, 0, none⟩) 1 1)
    (h : ∀ g cap w', w'.ownsRow B 40 4 (.slice (some ⟨g, 0, none⟩) (n + 1) cap) (n + 1) (xs ++ [.string u, .slice a1 n1 m1, .slice a2 n2 m2, .int .i64 q]) → wr.grownBy w' v.ownBlock → K (a.put o.dst (.slice (some ⟨g, 0, none⟩) (n + 1) cap)) w') :
    if Region.wanted o (yielded ops a.tmps) = true then Oper.wp Tryd.prog o a (wr.alloc (.cells #[.string u, .slice a1 n1 m1, .slice a2 n2 m2, .int .i64 q] 40)) K Q else E := by
  obtain ⟨i0, hi, hz0, hz1, hz2⟩ := info_parts info_cmd
  refine step_append_lies _ hgd s x 32 ho B 40 i0 (.agg #[.string ⟨#[]⟩, .slice none 0 0, .slice none 0 0, .int .i64 0]) 4 72 Tryd.underlying32 hi hz0 hz1 hz2 rfl (by decide) v n xs hs (own.alloc _) ⟨wr.heap.size, 0, none⟩ 1 1 [.string u, .slice a1 n1 m1, .slice a2 n2 m2, .int .i64 q] hx rfl ?_ ?_ (by omega) ?_ ?_ ?_ _ rfl ?_
  · intro j y hj
    rw [Go.WideShapes.add_plain, Nat.zero_add, blk_cell (heap_alloc_new wr _)]
    match j, hj with
    | 0, hj => exact hj
    | 1, hj => exact hj
    | 2, hj => exact hj
    | 3, hj => exact hj
  · intro y hy; simp at hy; rcases hy with rfl | rfl | rfl | rfl <;> rfl
  · unfold maxLen; omega
  · omega
  · simp; omega
  · intro g cap w' h1 h2 _ _
    exact h g cap w' h1 (grown_alloc h2)
theorem info_pip : (Tryd.prog.info? 34).map (fun i => (i.zero, i.size, i.bytes)) = some (some (.agg #[.slice none 0 0, .bool false, .int .i64 0]), 3, 40) := by kernel_rfl
theorem step_pip {ops : Array Oper} {o : Oper} {a : Act} {K : Act → World → Prop} {Q : Exit → Act → World → Prop} {E : Prop} (hgd : o.guard = none) (s x : Operand)
    (ho : o.op = .call { callee := .builtin .append, args := #[s, x], argTypes := #[22, 22] }) (v : Value) (n : Nat) (xs : List Value) (n1 m1 : Nat) (a1 : Option Addr) (b : Bool) (q : Int) (B : Nat) (wr : World)
    (own : wr.ownsRow B 34 3 v n xs) (hB : B ≤ wr.heap.size) (len : n ≤ 1048576) (hs : a.eval s = v) (hx : a.eval x = .slice (some ⟨wr.heap.size, 0, none⟩) 1 1)
    (h : ∀ g cap w', w'.ownsRow B 34 3 (.slice (some ⟨g, 0, none⟩) (n + 1) cap) (n + 1) (xs ++ [.slice a1 n1 m1, .bool b, .int .i64 q]) → wr.grownBy w' v.ownBlock → K (a.put o.dst (.slice (some ⟨g, 0, none⟩) (n + 1) cap)) w') :
    if Region.wanted o (yielded ops a.tmps) = true then Oper.wp Tryd.prog o a (wr.alloc (.cells #[.slice a1 n1 m1, .bool b, .int .i64 q] 34)) K Q else E := by
  obtain ⟨i0, hi, hz0, hz1, hz2⟩ := info_parts info_pip
  refine step_append_lies _ hgd s x 22 ho B 34 i0 (.agg #[.slice none 0 0, .bool false, .int .i64 0]) 3 40 Tryd.underlying22 hi hz0 hz1 hz2 rfl (by decide) v n xs hs (own.alloc _) ⟨wr.heap.size, 0, none⟩ 1 1 [.slice a1 n1 m1, .bool b, .int .i64 q] hx rfl ?_ ?_ (by omega) ?_ ?_ ?_ _ rfl ?_
  · intro j y hj
    rw [Go.WideShapes.add_plain, Nat.zero_add, blk_cell (heap_alloc_new wr _)]
    match j, hj with
    | 0, hj => exact hj
    | 1, hj => exact hj
    | 2, hj => exact hj
  · intro y hy; simp at hy; rcases hy with rfl | rfl | rfl <;> rfl
  · unfold maxLen; omega
  · omega
  · simp; omega
  · intro g cap w' h1 h2 _ _
    exact h g cap w' h1 (grown_alloc h2)
end Go.Proofs.YtlhagpfpcdedpaaDoor
