/- walks: the lexer's state; peek, fail -/
import Derived.Test.YtbioflajonafdaaYb
import Derived.Test.YtbioflajonafdaaPb
namespace Go.Proofs.Ytbioflajonafdaa
open Go.RowKit
open Tx
def _root_.Tx.Tok.cells (t : Tok) : List Value := [.int .i64 t.k, .string t.t, .int .i64 t.n, .int .i64 t.a]
/-- the lexer in block p: its text, its offset, its tokens, its error -/
structure LX (p : Nat) (s : ByteArray) (at_ : Int) (v : Value) (T : List Tok) (er pos : Int) (w : World) : Prop where
  blk : w.heap[p]? = some (.cells #[.string s, .int .i64 at_, v, .int .i64 er, .int .i64 pos] 45 (0, 0))
  own : w.ownsRow (p + 1) 32 4 v T.length (T.flatMap Tok.cells)
  size : p + 1 ≤ w.heap.size
theorem LX.below {p : Nat} {s : ByteArray} {at_ : Int} {v : Value} {T : List Tok} {er pos : Int} {w w' : World} (h : LX p s at_ v T er pos w) (hb : Below w.heap.size w w') : LX p s at_ v T er pos w' :=
  ⟨by rw [hb.block p (by have := h.size; omega)]; exact h.blk, owns_below h.own hb, Nat.le_trans h.size hb.size⟩
theorem blk_cell {w : World} {b : Nat} {xs : Array Value} {T : TypeId} (h : w.heap[b]? = some (.cells xs T (0, 0))) (i : Nat) : w.cell? ⟨b, i, none⟩ = xs[i]? := by simp [World.cell?, h]
theorem blk_frozen {w : World} {b : Nat} {xs : Array Value} {T : TypeId} (h : w.heap[b]? = some (.cells xs T (0, 0))) (i : Nat) : w.frozen? ⟨b, i, none⟩ = false := by simp [World.frozen?, h]
theorem set_at {w : World} {b i : Nat} {xs : Array Value} {y : Value} {T : TypeId} (h : w.heap[b]? = some (.cells xs T (0, 0))) : (w.setCell ⟨b, i, none⟩ y).heap[b]? = some (.cells (xs.setIfInBounds i y) T (0, 0)) := by
  simp only [World.setCell, Array.getElem?_modify, h, if_pos, Option.map_some]
  rfl
theorem row_of {w w' : World} {B : Nat} {e : TypeId} {k : Nat} {v : Value} {n : Nat} {xs : List Value} (h : w.ownsRow B e k v n xs) (hb : ∀ g, B ≤ g → w'.heap[g]? = w.heap[g]?) : w'.ownsRow B e k v n xs := by
  obtain ⟨h1, h2⟩ := h
  refine ⟨h1, ?_⟩
  rcases h2 with h2 | ⟨g, cap, cur, rfl, hB, hg, r⟩
  · exact .inl h2
  · exact .inr ⟨g, cap, cur, rfl, hB, by rw [hb g hB]; exact hg, r⟩
theorem set_far {w : World} {p i : Nat} {y : Value} (g : Nat) (h : p + 1 ≤ g) : (w.setCell ⟨p, i, none⟩ y).heap[g]? = w.heap[g]? :=
  Below.heap_setCell _ _ _ _ (by show g ≠ p; omega)
theorem LX.set1 {p : Nat} {s : ByteArray} {at_ : Int} {v : Value} {T : List Tok} {er pos : Int} {w : World} (h : LX p s at_ v T er pos w) (x : Int) : LX p s x v T er pos (w.setCell ⟨p, 1, none⟩ (.int .i64 x)) ∧ Below p w (w.setCell ⟨p, 1, none⟩ (.int .i64 x)) :=
  ⟨⟨by rw [set_at h.blk]; rfl, row_of h.own (fun g hg => set_far g hg), by simp only [World.size_setCell]; exact h.size⟩, (Below.refl p w).setCell (Nat.le_refl p) _⟩
theorem LX.set3 {p : Nat} {s : ByteArray} {at_ : Int} {v : Value} {T : List Tok} {er pos : Int} {w : World} (h : LX p s at_ v T er pos w) (x : Int) : LX p s at_ v T x pos (w.setCell ⟨p, 3, none⟩ (.int .i64 x)) ∧ Below p w (w.setCell ⟨p, 3, none⟩ (.int .i64 x)) :=
  ⟨⟨by rw [set_at h.blk]; rfl, row_of h.own (fun g hg => set_far g hg), by simp only [World.size_setCell]; exact h.size⟩, (Below.refl p w).setCell (Nat.le_refl p) _⟩
theorem LX.set4 {p : Nat} {s : ByteArray} {at_ : Int} {v : Value} {T : List Tok} {er pos : Int} {w : World} (h : LX p s at_ v T er pos w) (x : Int) : LX p s at_ v T er x (w.setCell ⟨p, 4, none⟩ (.int .i64 x)) ∧ Below p w (w.setCell ⟨p, 4, none⟩ (.int .i64 x)) :=
  ⟨⟨by rw [set_at h.blk]; rfl, row_of h.own (fun g hg => set_far g hg), by simp only [World.size_setCell]; exact h.size⟩, (Below.refl p w).setCell (Nat.le_refl p) _⟩
theorem LX.set2 {p : Nat} {s : ByteArray} {at_ : Int} {v v' : Value} {T T' : List Tok} {er pos : Int} {w w0 w1 : World} (h : LX p s at_ v T er pos w) (e : w0.heap = w.heap) (own : w1.ownsRow (p + 1) 32 4 v' T'.length (T'.flatMap Tok.cells)) (hb : Below (p + 1) w0 w1) : LX p s at_ v' T' er pos (w1.setCell ⟨p, 2, none⟩ v') := by
  have b : w1.heap[p]? = some (.cells #[.string s, .int .i64 at_, v, .int .i64 er, .int .i64 pos] 45 (0, 0)) := by rw [hb.block p (by omega), e]; exact h.blk
  refine ⟨by rw [set_at b]; rfl, row_of own (fun g hg => set_far g hg), ?_⟩
  simp only [World.size_setCell]
  have := hb.size; rw [e] at this; have := h.size; omega
set_option maxHeartbeats 1000000 in
theorem peek_any (p : Nat) (s : ByteArray) (at_ k : Nat) (v : Value) (T : List Tok) (er pos : Int) (w : World) (h : LX p s at_ v T er pos w) (hs : s.size ≤ 8192) (ha : at_ ≤ s.size) (hk : k ≤ 1) :
    Calls Try.prog 35 #[.pointer (some ⟨p, 0, none⟩), .int .i64 (k : Int)] w fun e w' => e = .returned (.int .u8 (pk s (at_ + k) : Int)) ∧ Below w.heap.size w w' := by
  have c0 := blk_cell h.blk 0
  have c1 := blk_cell h.blk 1
  simp only [List.getElem?_toArray, List.getElem?_cons_zero, List.getElem?_cons_succ] at c0 c1
  clear h
  by_cases hlt : at_ + k < s.size
  · have PK : pk s (at_ + k) = s[at_ + k].toNat := by unfold pk; rw [dif_pos hlt]
    rw [PK]
    have i1 : (0 : Int) ≤ (at_ : Int) + (k : Int) := by omega
    have i2 : (at_ : Int) + (k : Int) < (s.size : Int) := by omega
    have wr : IntKind.i64.wrap ((at_ : Int) + (k : Int)) = (at_ : Int) + (k : Int) := by rw [IntKind.wrap_i64]; omega
    go_enter Try.func35, Try.ntmps35
    go_wp2_with fail
    go_quiet (fail)
    go_wp2_with fail
    go_quiet (fail)
    go_wp2_with fail
    go_ret
    exact ⟨rfl, tx_below_drewN (tx_below_drewN (Below.refl _ _) _) _⟩
  · have PK : pk s (at_ + k) = 0 := by unfold pk; rw [dif_neg hlt]
    rw [PK]
    have i2 : ¬ (at_ : Int) + (k : Int) < (s.size : Int) := by omega
    have wr : IntKind.i64.wrap ((at_ : Int) + (k : Int)) = (at_ : Int) + (k : Int) := by rw [IntKind.wrap_i64]; omega
    go_enter Try.func35, Try.ntmps35
    go_wp2_with fail
    go_quiet (fail)
    go_wp2_with fail
    go_ret
    exact ⟨rfl, tx_below_drewN (Below.refl _ _) _⟩
set_option maxHeartbeats 1000000 in
theorem fail_any (p : Nat) (s : ByteArray) (at_ : Int) (v : Value) (T : List Tok) (pos e1 p1 : Int) (w : World) (h : LX p s at_ v T 0 pos w) :
    Calls Try.prog 57 #[.pointer (some ⟨p, 0, none⟩), .int .i64 e1, .int .i64 p1] w fun e w' => e = .returned (.tuple #[]) ∧ LX p s at_ v T e1 p1 w' ∧ Below p w w' := by
  have c3 := blk_cell h.blk 3
  have c4 := blk_cell h.blk 4
  have f3 := blk_frozen h.blk 3
  have f4 := blk_frozen h.blk 4
  simp only [List.getElem?_toArray, List.getElem?_cons_zero, List.getElem?_cons_succ] at c3 c4
  have H := Lib.hid h
  clear h
  go_enter Try.func57, Try.ntmps57
  go_wp2_with fail
  go_end0
  exact ⟨rfl, (H.out.set3 e1).1.set4 p1 |>.1, (H.out.set3 e1).2.trans (((H.out.set3 e1).1.set4 p1).2)⟩
theorem infoT : (Try.prog.info? 32).map (fun i => (i.zero, i.size, i.bytes)) = some (some (.agg #[.int .i64 0, .string ⟨#[]⟩, .int .i64 0, .int .i64 0]), 4, 40) := by kernel_rfl
theorem step_tok {ops : Array Oper} {o : Oper} {a : Act} {K : Act → World → Prop} {Q : Exit → Act → World → Prop} {E : Prop} (hgd : o.guard = none) (s x : Operand)
    (ho : o.op = .call { callee := .builtin .append, args := #[s, x], argTypes := #[22, 22] }) (v : Value) (T : List Tok) (u : Tok) (B : Nat) (wr : World)
    (own : wr.ownsRow B 32 4 v T.length (T.flatMap Tok.cells)) (hB : B ≤ wr.heap.size) (len : T.length ≤ 1048576) (hs : a.eval s = v) (hx : a.eval x = .slice (some ⟨wr.heap.size, 0, none⟩) 1 1)
    (h : ∀ g cap w', w'.ownsRow B 32 4 (.slice (some ⟨g, 0, none⟩) (T.length + 1) cap) (T ++ [u]).length ((T ++ [u]).flatMap Tok.cells) → Below B wr w' → K (a.put o.dst (.slice (some ⟨g, 0, none⟩) (T.length + 1) cap)) w') :
    if Region.wanted o (yielded ops a.tmps) = true then Oper.wp Try.prog o a (wr.alloc (.cells #[.int .i64 u.k, .string u.t, .int .i64 u.n, .int .i64 u.a] 32)) K Q else E := by
  obtain ⟨i0, hi, hz0, hz1, hz2⟩ := info_parts infoT
  refine step_append_lies _ hgd s x 22 ho B 32 i0 (.agg #[.int .i64 0, .string ⟨#[]⟩, .int .i64 0, .int .i64 0]) 4 40 Try.underlying22 hi hz0 hz1 hz2 rfl (by decide) v T.length (T.flatMap Tok.cells) hs (own.alloc _) ⟨wr.heap.size, 0, none⟩ 1 1 u.cells hx rfl ?_ ?_ (by omega) ?_ ?_ ?_ _ rfl ?_
  · intro j y hj
    rw [Go.WideShapes.add_plain, Nat.zero_add, blk_cell (heap_alloc_new wr _)]
    match j, hj with
    | 0, hj => exact hj
    | 1, hj => exact hj
    | 2, hj => exact hj
    | 3, hj => exact hj
  · intro y hy; simp [Tok.cells] at hy; rcases hy with rfl | rfl | rfl | rfl <;> rfl
  · unfold maxLen; omega
  · omega
  · simp; omega
  · intro g cap w' h1 h2 _ _
    refine h g cap w' ?_ (((Below.refl B wr).alloc hB _).grown h2 (by simp; omega) (fun k hk => (own.lt k hk).1))
    have e : T.flatMap Tok.cells ++ u.cells = (T ++ [u]).flatMap Tok.cells := by simp
    rw [e] at h1
    rw [List.length_append]; exact h1
set_option maxHeartbeats 1000000 in
theorem put_any (p : Nat) (s : ByteArray) (at_ e1 : Int) (v : Value) (T : List Tok) (u : Tok) (er pos : Int) (w : World) (h : LX p s at_ v T er pos w) (hT : T.length ≤ 1048576) :
    Calls Try.prog 25 #[.pointer (some ⟨p, 0, none⟩), .agg #[.int .i64 u.k, .string u.t, .int .i64 u.n, .int .i64 u.a], .int .i64 e1] w fun e w' => e = .returned (.tuple #[]) ∧ Below p w w' ∧ ∃ v', LX p s e1 v' (T ++ [{ u with a := at_ }]) er pos w' := by
  obtain ⟨k, t, n, a⟩ := u
  have Ba := (Below.refl w.heap.size w).alloc (Nat.le_refl _) (.cells #[.int .i64 k, .string t, .int .i64 n, .int .i64 a] 32)
  have Bb := (Below.refl w.heap.size w).alloc (Nat.le_refl _) (.cells #[.int .i64 k, .string t, .int .i64 n, .int .i64 at_] 32)
  have c1 := blk_cell (h.below Ba).blk 1
  have c2 := blk_cell (h.below Bb).blk 2
  simp only [List.getElem?_toArray, List.getElem?_cons_zero, List.getElem?_cons_succ] at c1 c2
  have H := Lib.hid (h.below Bb)
  have B0 := Lib.hid (Bb.mono (show p ≤ w.heap.size by have := h.size; omega))
  have HT := Lib.hid hT
  have c4 : ((w.alloc (.cells #[.int .i64 k, .string t, .int .i64 n, .int .i64 at_] 32)).alloc (.cells #[.int .i64 k, .string t, .int .i64 n, .int .i64 at_] 32)).cell? ⟨p, 2, none⟩ = some v := by
    have hp := H.out.size
    exact (((Below.refl _ _).alloc (Nat.le_refl _) _).cell (p := ⟨p, 2, none⟩) (by show p < _; omega)).trans c2
  clear h Ba Bb hT
  go_enter Try.func25, Try.ntmps25
  go_wp2_with fail
  go_region_law (refine step_tok rfl (.tmp 15) (.tmp 17) rfl v T ⟨k, t, n, at_⟩ (p + 1) (w.alloc (.cells #[.int .i64 k, .string t, .int .i64 n, .int .i64 at_] 32)).drew H.out.own H.out.size HT.out (by simp [Act.eval]) (by simp [Act.eval]) ?_; intro g cap w1 hown hbel; have e0 := (hbel.block p (by omega)).trans H.out.blk; have e2 := blk_cell e0 2; have e2' := blk_frozen e0 2; have e3 := blk_cell e0 1; have e3' := blk_frozen e0 1; simp only [List.getElem?_toArray, List.getElem?_cons_zero, List.getElem?_cons_succ] at e2 e3)
  all_goals go_wp2_with fail
  all_goals go_end0
  all_goals (
    have L2 := H.out.set2 (w0 := (w.alloc (.cells #[.int .i64 k, .string t, .int .i64 n, .int .i64 at_] 32)).drew) rfl hown hbel
    exact ⟨rfl, ((B0.out.drew.trans (hbel.mono (Nat.le_succ p))).setCell (p := ⟨p, 2, none⟩) (Nat.le_refl p) _).trans (L2.set1 e1).2, _, (L2.set1 e1).1⟩)
end Go.Proofs.Ytbioflajonafdaa
