/- walks: the default locale of the reference -/
import Derived.Test.YtbhdhcnbagjmcaaDoorRows
import Derived.Test.YtbhdhcnbagjmcaaDoorShelf
import Derived.WalkKit
import Derived.WalkSpells
import Derived.WalkLawsBesides
import Derived.Lib.Hide
import Derived.Lib.UnsafeStr
import Derived.Deep.RegionHeld3
import Derived.OwnWalk
import Derived.Laws.BytesArg
import Derived.Maps.AppendAt
namespace Go.Proofs.YtbhdhcnbagjmcaaDoor
open Go.RowKit

theorem info_i64 : (Tryd.prog.info? 3).map (fun i => (i.zero, i.size, i.bytes)) = some (some (.int .i64 0), 1, 8) := by kernel_rfl
theorem info_u8 : (Tryd.prog.info? 5).map (fun i => (i.zero, i.size, i.bytes)) = some (some (.int .u8 0), 1, 1) := by kernel_rfl
def sep (a b : Value) : Prop := ∀ g, a.ownBlock = some g → b.ownBlock ≠ some g
theorem sep.symm {a b : Value} (h : sep a b) : sep b a := fun g hg ha => h g ha hg
theorem sep_kept {w w' : World} {B : Nat} {e : TypeId} {s n : Nat} {a b : Value} {Y : List Value} (h : w.ownsRow B e s b n Y) (hs : sep a b) (hg : w.grownBy w' a.ownBlock) : w'.ownsRow B e s b n Y := by
  refine h.kept hg ?_
  cases hb : b.ownBlock with
  | none => exact .inl rfl
  | some g => exact .inr fun e => hs g e.symm hb
theorem sep_new {w : World} {B : Nat} {e : TypeId} {s n : Nat} {a a' b : Value} {Y : List Value} (h : w.ownsRow B e s b n Y) (hs : sep a b) (hat : a'.ownBlock = a.ownBlock ∨ a'.ownBlock = some w.heap.size) : sep a' b := by
  intro g hg hb
  rcases hat with e1 | e1
  · exact hs g (by rw [← e1]; exact hg) hb
  · rw [e1] at hg; cases hg
    exact absurd (h.lt _ hb).2 (Nat.lt_irrefl _)
def ints (L : List Int) : List Value := L.map (Value.int .i64 ·)
theorem ints_snoc (L : List Int) (c : Int) : ints L ++ [.int .i64 c] = ints (L ++ [c]) := by simp [ints]
/-- a list of integers in a row of its own -/
abbrev IRow (w : World) (B : Nat) (v : Value) (L : List Int) : Prop := w.ownsRow B 3 1 v L.length (ints L)
/-- a list of bytes in a row of its own -/
abbrev BRow (w : World) (B : Nat) (v : Value) (L : List UInt8) : Prop := w.ownsRow B 5 1 v L.length (Lib.byteCells L)
theorem bcells_snoc (l : List UInt8) (c : UInt8) : Lib.byteCells l ++ [.int .u8 (c.toNat : Int)] = Lib.byteCells (l ++ [c]) := by simp [Lib.byteCells]
theorem append_int {ops : Array Oper} {rest : List Oper} {o : Oper} {a : Act} {Q : Exit → Act → World → Prop} (hgd : o.guard = none) (s x : Operand)
    (ho : o.op = .call { callee := .builtin .append, args := #[s, x], argTypes := #[26, 26] }) (v : Value) (L : List Int) (c : Int) (B : Nat) (w wr : World)
    (own : IRow wr B v L) (bel : Below B w wr) (hB : B ≤ wr.heap.size) (len : L.length + 1 ≤ 1048577) (hs : a.eval s = v) (hx : a.eval x = .slice (some ⟨wr.heap.size, 0, none⟩) 1 1)
    (h : ∀ g cap w', Hid (IRow w' B (.slice (some ⟨g, 0, none⟩) (L.length + 1) cap) (L ++ [c])) → Hid (Below B w w') → Hid (wr.grownBy w' v.ownBlock) → Hid ((.slice (some ⟨g, 0, none⟩) (L.length + 1) cap : Value).ownBlock = v.ownBlock ∨ (.slice (some ⟨g, 0, none⟩) (L.length + 1) cap : Value).ownBlock = some (wr.heap.size + 1)) → wpList Tryd.prog ops Q rest (a.put o.dst (.slice (some ⟨g, 0, none⟩) (L.length + 1) cap)) w') : wpList Tryd.prog ops Q (o :: rest) a (wr.alloc (.cells #[.int .i64 c] 3)) := by
  obtain ⟨i0, hi, hz0, hz1, hz2⟩ := info_parts info_i64
  refine wpList_append_own_at _ hgd s x 26 ho B 3 i0 (.int .i64 0) 1 8 Tryd.underlying26 hi hz0 hz1 hz2 rfl (by decide) v L.length (ints L) hs (own.alloc _) ⟨wr.heap.size, 0, none⟩ 1 1 [.int .i64 c] hx rfl (cell_one_new _ _ _) ?_ ?_ ?_ ?_ ?_
  · intro y hy; simp at hy; subst hy; rfl
  · unfold maxLen; omega
  · omega
  · simp; omega
  · intro v' w' h1 h2 _ h4
    rw [World.size_alloc] at h4
    obtain ⟨g, cap, rfl⟩ : ∃ g cap, v' = .slice (some ⟨g, 0, none⟩) (L.length + 1) cap := by
      rcases h1.2 with ⟨_, hn⟩ | ⟨g, cap, _, e, _⟩
      · omega
      · exact ⟨g, cap, e⟩
    refine h g cap w' (Lib.hid ?_) (Lib.hid ?_) (Lib.hid ((World.grownBy_alloc _ _ _).trans h2)) (Lib.hid h4)
    · rw [ints_snoc] at h1
      show w'.ownsRow B 3 1 _ (L ++ [c]).length (ints (L ++ [c]))
      rw [List.length_append]; exact h1
    · exact (bel.alloc hB _).grown h2 (by simp; omega) (fun k hk => (own.lt k hk).1)
theorem append_byt {ops : Array Oper} {rest : List Oper} {o : Oper} {a : Act} {Q : Exit → Act → World → Prop} (hgd : o.guard = none) (s x : Operand)
    (ho : o.op = .call { callee := .builtin .append, args := #[s, x], argTypes := #[49, 49] }) (v : Value) (L : List UInt8) (c : UInt8) (u : Int) (hu : u = (c.toNat : Int)) (B : Nat) (w wr : World)
    (own : BRow wr B v L) (bel : Below B w wr) (hB : B ≤ wr.heap.size) (len : L.length + 1 ≤ 1048577) (hs : a.eval s = v) (hx : a.eval x = .slice (some ⟨wr.heap.size, 0, none⟩) 1 1)
    (h : ∀ v' w', Hid (BRow w' B v' (L ++ [c])) → Hid (Below B w w') → Hid (wr.grownBy w' v.ownBlock) → Hid (v'.ownBlock = v.ownBlock ∨ v'.ownBlock = some (wr.heap.size + 1)) → wpList Tryd.prog ops Q rest (a.put o.dst v') w') : wpList Tryd.prog ops Q (o :: rest) a (wr.alloc (.cells #[.int .u8 u] 5)) := by
  subst hu
  obtain ⟨i0, hi, hz0, hz1, hz2⟩ := info_parts info_u8
  refine wpList_append_own_at _ hgd s x 49 ho B 5 i0 (.int .u8 0) 1 1 Tryd.underlying49 hi hz0 hz1 hz2 rfl (by decide) v L.length (Lib.byteCells L) hs (own.alloc _) ⟨wr.heap.size, 0, none⟩ 1 1 [.int .u8 (c.toNat : Int)] hx rfl (cell_one_new _ _ _) ?_ ?_ ?_ ?_ ?_
  · intro y hy; simp at hy; subst hy; rfl
  · unfold maxLen; omega
  · omega
  · simp; omega
  · intro v' w' h1 h2 _ h4
    rw [World.size_alloc] at h4
    refine h v' w' (Lib.hid ?_) (Lib.hid ?_) (Lib.hid ((World.grownBy_alloc _ _ _).trans h2)) (Lib.hid h4)
    · rw [bcells_snoc] at h1
      show w'.ownsRow B 5 1 v' (L ++ [c]).length (Lib.byteCells (L ++ [c]))
      rw [List.length_append]; exact h1
    · exact (bel.alloc hB _).grown h2 (by simp; omega) (fun k hk => (own.lt k hk).1)
theorem sep_new1 {w : World} {B : Nat} {e : TypeId} {s n : Nat} {a a' b : Value} {Y : List Value} (h : w.ownsRow B e s b n Y) (hs : sep a b) (hat : a'.ownBlock = a.ownBlock ∨ a'.ownBlock = some (w.heap.size + 1)) : sep a' b := by
  intro g hg hb
  rcases hat with e1 | e1
  · exact hs g (by rw [← e1]; exact hg) hb
  · rw [e1] at hg; cases hg
    exact absurd (h.lt _ hb).2 (by omega)
/-- three rows of their own: numbers, bytes, bytes -/
structure Three (w : World) (B : Nat) (a b c : Value) (X : List Int) (Y Z : List UInt8) : Prop where
  r1 : IRow w B a X
  r2 : BRow w B b Y
  r3 : BRow w B c Z
  s12 : sep a b
  s13 : sep a c
  s23 : sep b c
theorem Three.one {w w' : World} {B : Nat} {a a' b c : Value} {X X' : List Int} {Y Z : List UInt8} (h : Three w B a b c X Y Z) (h1 : IRow w' B a' X') (hg : w.grownBy w' a.ownBlock) (hat : a'.ownBlock = a.ownBlock ∨ a'.ownBlock = some (w.heap.size + 1)) : Three w' B a' b c X' Y Z :=
  ⟨h1, sep_kept h.r2 h.s12 hg, sep_kept h.r3 h.s13 hg, sep_new1 h.r2 h.s12 hat, sep_new1 h.r3 h.s13 hat, h.s23⟩
theorem Three.two {w w' : World} {B : Nat} {a b b' c : Value} {X : List Int} {Y Y' Z : List UInt8} (h : Three w B a b c X Y Z) (h1 : BRow w' B b' Y') (hg : w.grownBy w' b.ownBlock) (hat : b'.ownBlock = b.ownBlock ∨ b'.ownBlock = some (w.heap.size + 1)) : Three w' B a b' c X Y' Z :=
  ⟨sep_kept h.r1 h.s12.symm hg, h1, sep_kept h.r3 h.s23 hg, (sep_new1 h.r1 h.s12.symm hat).symm, h.s13, sep_new1 h.r3 h.s23 hat⟩
theorem Three.three {w w' : World} {B : Nat} {a b c c' : Value} {X : List Int} {Y Z Z' : List UInt8} (h : Three w B a b c X Y Z) (h1 : BRow w' B c' Z') (hg : w.grownBy w' c.ownBlock) (hat : c'.ownBlock = c.ownBlock ∨ c'.ownBlock = some (w.heap.size + 1)) : Three w' B a b c' X Y Z' :=
  ⟨sep_kept h.r1 h.s13.symm hg, sep_kept h.r2 h.s23.symm hg, h1, h.s12, (sep_new1 h.r1 h.s13.symm hat).symm, (sep_new1 h.r2 h.s23.symm hat).symm⟩
theorem nums_str (out : List UInt8) : strOfNums (out.map fun c => (c.toNat : Int)) = ⟨out.toArray⟩ := by
  have h : (strOfNums (out.map fun c => (c.toNat : Int))).data.toList = out := by
    rw [strOfNums_data, List.map_map]
    conv => rhs; rw [← List.map_id out]
    apply List.map_congr_left
    intro c _
    apply UInt8.toNat_inj.1
    have := c.toNat_lt
    simp
  generalize strOfNums (out.map fun c => (c.toNat : Int)) = t at h
  obtain ⟨⟨l⟩⟩ := t
  simp only at h
  rw [h]
theorem row_string {w : World} {B : Nat} {v : Value} {out : List UInt8} (h : BRow w B v out) : (convert 49 9 v).run Tryd.prog w = .ok (.string ⟨out.toArray⟩) w := by
  rcases h.2 with ⟨rfl, hx⟩ | ⟨g, cap, cur, rfl, hb, hg, hn, hc, hs, ht⟩
  · obtain rfl := List.eq_nil_of_length_eq_zero hx
    exact run_convert_bytes_nil (w := w) 49 5 Tryd.underlying49 Tryd.underlying5 0 0 9 Tryd.underlying9
  · rw [← nums_str]
    refine run_convert_bytes_arg w 49 5 Tryd.underlying49 Tryd.underlying5 g 0 out.length cap (out.map fun c => (c.toNat : Int)) (by simp) (fun i hi => ?_) 9 Tryd.underlying9
    have := h.cells (g := g) rfl i (.int .u8 ((out[i]).toNat : Int)) (by simp [Lib.byteCells, hi])
    by_cases h0 : i = 0
    · subst h0; simpa [Addr.add, hi] using this
    · simpa [Addr.add, hi, h0] using this
/-- the small letter, the capital letter of a byte; the tables of the default locale -/
def lowC (n : Nat) : Nat := if 65 ≤ n ∧ n ≤ 90 then n + 32 else n
def uppC (n : Nat) : Nat := if 97 ≤ n ∧ n ≤ 122 then n - 32 else n
def wtab (n : Nat) : List Int := (List.range n).map fun i : Nat => (i : Int)
def ltab (n : Nat) : List UInt8 := (List.range n).map fun i => UInt8.ofNat (lowC i)
def utab (n : Nat) : List UInt8 := (List.range n).map fun i => UInt8.ofNat (uppC i)
theorem wtab_len (n : Nat) : (wtab n).length = n := by simp [wtab]
theorem ltab_len (n : Nat) : (ltab n).length = n := by simp [ltab]
theorem utab_len (n : Nat) : (utab n).length = n := by simp [utab]
theorem wtab_snoc (n : Nat) : wtab n ++ [(n : Int)] = wtab (n + 1) := by simp [wtab, List.range_succ]
theorem ltab_snoc (n : Nat) : ltab n ++ [UInt8.ofNat (lowC n)] = ltab (n + 1) := by simp [ltab, List.range_succ]
theorem utab_snoc (n : Nat) : utab n ++ [UInt8.ofNat (uppC n)] = utab (n + 1) := by simp [utab, List.range_succ]
theorem u8_nat (n : Nat) (h : n < 256) : ((UInt8.ofNat n).toNat : Int) = (n : Int) := by
  have : (UInt8.ofNat n).toNat = n := by rw [UInt8.toNat_ofNat']; exact Nat.mod_eq_of_lt h
  rw [this]
abbrev zrow : Array Value := #[.string ⟨#[]⟩, .slice none 0 0, .string ⟨#[]⟩, .string ⟨#[]⟩, .slice none 0 0, .slice none 0 0]
abbrev lrow (v : Value) : Array Value := #[.string ⟨#[112, 111, 115, 105, 120]⟩, v, .string ⟨#[]⟩, .string ⟨#[]⟩, .slice none 0 0, .slice none 0 0]
theorem lrow_cells {w : World} {g : Nat} {a b c d e f : Value} {T : TypeId} (h : w.heap[g]? = some (.cells #[a, b, c, d, e, f] T (0, 0))) :
    w.cell? ⟨g, 0, none⟩ = some a ∧ w.cell? ⟨g, 1, none⟩ = some b ∧ w.cell? ⟨g, 2, none⟩ = some c ∧ w.cell? ⟨g, 3, none⟩ = some d ∧ w.cell? ⟨g, 4, none⟩ = some e ∧ w.cell? ⟨g, 5, none⟩ = some f := by
  refine ⟨?_, ?_, ?_, ?_, ?_, ?_⟩ <;> simp [World.cell?, h]
theorem lrow_frozen {w : World} {g : Nat} {a : Array Value} {T : TypeId} (h : w.heap[g]? = some (.cells a T (0, 0))) (j : Nat) : w.frozen? ⟨g, j, none⟩ = false := by
  simp [World.frozen?, h]
/-- the reference's Default after q rounds -/
structure DR (w wr : World) (q : Nat) (v b c : Value) : Prop where
  le : q ≤ 256
  th : Three wr (w.heap.size + 1 + 1) v b c (wtab q) (ltab q) (utab q)
  res : wr.heap[w.heap.size]? = some (.cells zrow 30 (0, 0))
  blk : wr.heap[w.heap.size + 1]? = some (.cells (lrow v) 30 (0, 0))
  bel : Below w.heap.size w wr
  lt : w.heap.size + 1 + 1 ≤ wr.heap.size
theorem row_empty (w : World) (B : Nat) : IRow w B (.slice none 0 0) [] := ⟨rfl, .inl ⟨rfl, rfl⟩⟩
theorem brow_empty (w : World) (B : Nat) : BRow w B (.slice none 0 0) [] := ⟨rfl, .inl ⟨rfl, rfl⟩⟩
theorem sep_nil (b : Value) : sep (.slice none 0 0) b := fun g hg => by cases hg
theorem DR.start (w : World) : DR w ((w.alloc (.cells zrow 30)).alloc (.cells (lrow (.slice none 0 0)) 30)) 0 (.slice none 0 0) (.slice none 0 0) (.slice none 0 0) := by
  have s1 : (w.alloc (.cells zrow 30)).heap.size = w.heap.size + 1 := World.size_alloc _ _
  refine ⟨by omega, ⟨row_empty _ _, brow_empty _ _, brow_empty _ _, sep_nil _, sep_nil _, sep_nil _⟩, ?_, ?_, ?_, ?_⟩
  · rw [Below.heap_alloc _ _ _ (by omega)]; exact heap_alloc_new _ _
  · have := heap_alloc_new (w.alloc (.cells zrow 30)) (.cells (lrow (.slice none 0 0)) 30)
    rw [s1] at this; exact this
  · exact ((Below.refl _ _).alloc (Nat.le_refl _) _).alloc (by omega) _
  · rw [World.size_alloc, s1]; exact Nat.le_refl _
/-- one round: the numbers' row goes into the field, then the two rows of bytes -/
theorem DR.store {w wr w1 : World} {q : Nat} {v v1 b c : Value} (h : DR w wr q v b c) (hr : IRow w1 (w.heap.size + 1 + 1) v1 (wtab (q + 1))) (hg : wr.grownBy w1 v.ownBlock) (hat : v1.ownBlock = v.ownBlock ∨ v1.ownBlock = some (wr.heap.size + 1)) :
    w1.frozen? ⟨w.heap.size + 1, 1, none⟩ = false ∧ w1.cell? ⟨w.heap.size + 1, 1, none⟩ = some v ∧ Three (w1.setCell ⟨w.heap.size + 1, 1, none⟩ v1) (w.heap.size + 1 + 1) v1 b c (wtab (q + 1)) (ltab q) (utab q) ∧
    (w1.setCell ⟨w.heap.size + 1, 1, none⟩ v1).heap[w.heap.size]? = some (.cells zrow 30 (0, 0)) ∧ (w1.setCell ⟨w.heap.size + 1, 1, none⟩ v1).heap[w.heap.size + 1]? = some (.cells (lrow v1) 30 (0, 0)) ∧
    Below w.heap.size w (w1.setCell ⟨w.heap.size + 1, 1, none⟩ v1) ∧ w.heap.size + 1 + 1 ≤ (w1.setCell ⟨w.heap.size + 1, 1, none⟩ v1).heap.size := by
  have T := h.th.one hr hg hat
  have hlt := h.lt
  have n1 : ∀ k, v.ownBlock = some k → w.heap.size + 1 + 1 ≤ k := fun k hk => (h.th.r1.lt k hk).1
  have e0 : w1.heap[w.heap.size]? = some (.cells zrow 30 (0, 0)) := (hg.block _ (by omega) (fun e => by have := n1 _ e.symm; omega)).trans h.res
  have e1 : w1.heap[w.heap.size + 1]? = some (.cells (lrow v) 30 (0, 0)) := (hg.block _ (by omega) (fun e => by have := n1 _ e.symm; omega)).trans h.blk
  have sg : ∀ {a : Value} {e : TypeId} {s n : Nat} {xs : List Value}, w1.ownsRow (w.heap.size + 1 + 1) e s a n xs → (w1.setCell ⟨w.heap.size + 1, 1, none⟩ v1).ownsRow (w.heap.size + 1 + 1) e s a n xs := by
    intro a e s n xs ho
    refine ⟨ho.1, ?_⟩
    rcases ho.2 with hn | ⟨g, cap, cur, rfl, hb, hgg, rest⟩
    · exact .inl hn
    · exact .inr ⟨g, cap, cur, rfl, hb, by rw [heap_setCell_other _ _ _ _ (by show g ≠ w.heap.size + 1; omega)]; exact hgg, rest⟩
  refine ⟨lrow_frozen e1 _, by simp [World.cell?, e1], ⟨sg T.r1, sg T.r2, sg T.r3, T.s12, T.s13, T.s23⟩, ?_, ?_, ?_, ?_⟩
  · rw [heap_setCell_other _ _ _ _ (by show w.heap.size ≠ w.heap.size + 1; omega)]; exact e0
  · rw [heap_setCell_same _ _ _ _ _ _ e1]; rfl
  · exact (h.bel.grown hg (by omega) (fun k hk => by have := n1 k hk; omega)).setCell (Nat.le_succ _) _
  · have := hg.size
    rw [World.size_setCell]; omega
theorem DR.done {w w1 w2 w3 : World} {q : Nat} {v b c b1 c1 : Value} (hq : q + 1 ≤ 256) (T : Three w1 (w.heap.size + 1 + 1) v b c (wtab (q + 1)) (ltab q) (utab q)) (r0 : w1.heap[w.heap.size]? = some (.cells zrow 30 (0, 0))) (r1 : w1.heap[w.heap.size + 1]? = some (.cells (lrow v) 30 (0, 0)))
    (bel : Below w.heap.size w w1) (lt : w.heap.size + 1 + 1 ≤ w1.heap.size)
    (hb : BRow w2 (w.heap.size + 1 + 1) b1 (ltab (q + 1))) (gb : w1.grownBy w2 b.ownBlock) (ab : b1.ownBlock = b.ownBlock ∨ b1.ownBlock = some (w1.heap.size + 1))
    (hc : BRow w3 (w.heap.size + 1 + 1) c1 (utab (q + 1))) (gc : w2.grownBy w3 c.ownBlock) (ac : c1.ownBlock = c.ownBlock ∨ c1.ownBlock = some (w2.heap.size + 1)) : DR w w3 (q + 1) v b1 c1 := by
  have T2 := T.two hb gb ab
  have T3 := T2.three hc gc ac
  have n2 : ∀ k, b.ownBlock = some k → w.heap.size + 1 + 1 ≤ k := fun k hk => (T.r2.lt k hk).1
  have n3 : ∀ k, c.ownBlock = some k → w.heap.size + 1 + 1 ≤ k := fun k hk => (T2.r3.lt k hk).1
  have z1 := gb.size
  have z2 := gc.size
  have st : ∀ g o, g < w.heap.size + 1 + 1 → w1.heap[g]? = o → w3.heap[g]? = o := fun g o hg ho => (gc.block g (by omega) (fun e => by have := n3 _ e.symm; omega)).trans ((gb.block g (by omega) (fun e => by have := n2 _ e.symm; omega)).trans ho)
  refine ⟨hq, T3, st _ _ (by omega) r0, st _ _ (by omega) r1, ?_, by omega⟩
  exact (bel.grown gb (by omega) (fun k hk => by have := n2 k hk; omega)).grown gc (by omega) (fun k hk => by have := n3 k hk; omega)
abbrev lval (a0 : ByteArray) (v1 : Value) (a2 a3 : ByteArray) (v4 v5 : Value) : Value := .agg #[.string a0, v1, .string a2, .string a3, v4, v5]
theorem six_set {w : World} {g : Nat} {a b c d e f a' b' c' d' e' f' : Value} {T : TypeId} (h : w.heap[g]? = some (.cells #[a', b', c', d', e', f'] T (0, 0))) :
    ((((((w.setCell ⟨g, 0, none⟩ a).setCell ⟨g, 1, none⟩ b).setCell ⟨g, 2, none⟩ c).setCell ⟨g, 3, none⟩ d).setCell ⟨g, 4, none⟩ e).setCell ⟨g, 5, none⟩ f).heap[g]? = some (.cells #[a, b, c, d, e, f] T (0, 0)) := by
  have h0 := heap_setCell_same _ _ 0 _ _ a h
  have h1 := heap_setCell_same _ _ 1 _ _ b h0
  have h2 := heap_setCell_same _ _ 2 _ _ c h1
  have h3 := heap_setCell_same _ _ 3 _ _ d h2
  have h4 := heap_setCell_same _ _ 4 _ _ e h3
  have h5 := heap_setCell_same _ _ 5 _ _ f h4
  rw [h5]; rfl
theorem two_other {w : World} {g j j' : Nat} {a a' : Value} {o : Option Obj} (h : w.heap[g]? = o) : ((w.setCell ⟨g + 1, j, none⟩ a).setCell ⟨g + 1, j', none⟩ a').heap[g]? = o := by
  rw [heap_setCell_other _ _ _ _ (by show g ≠ g + 1; omega), heap_setCell_other _ _ _ _ (by show g ≠ g + 1; omega)]; exact h
theorem row_base {w : World} {B B' : Nat} {a : Value} {e : TypeId} {s n : Nat} {xs : List Value} (ho : w.ownsRow B e s a n xs) (hB : B' ≤ B) : w.ownsRow B' e s a n xs := by
  refine ⟨ho.1, ?_⟩
  rcases ho.2 with hn | ⟨g', cap, cur, rfl, hb, hgg, rest⟩
  · exact .inl hn
  · exact .inr ⟨g', cap, cur, rfl, Nat.le_trans hB hb, hgg, rest⟩
theorem below_set {B g j : Nat} {w w' : World} {u : Value} (h : Below B w w') (hg : B ≤ g) : Below B w (w'.setCell ⟨g, j, none⟩ u) := h.setCell hg u
theorem row_set {w : World} {B : Nat} {a : Value} {e : TypeId} {s n : Nat} {xs : List Value} {g j : Nat} {u : Value} (ho : w.ownsRow B e s a n xs) (hg : g < B) : (w.setCell ⟨g, j, none⟩ u).ownsRow B e s a n xs := by
  refine ⟨ho.1, ?_⟩
  rcases ho.2 with hn | ⟨g', cap, cur, rfl, hb, hgg, rest⟩
  · exact .inl hn
  · exact .inr ⟨g', cap, cur, rfl, hb, by rw [heap_setCell_other _ _ _ _ (by show g' ≠ g; omega)]; exact hgg, rest⟩
set_option maxHeartbeats 4000000 in
set_option maxRecDepth 20000 in
theorem rdefault_any (w : World) :
    Calls Tryd.prog 12 #[] w fun e w' => ∃ v, e = .returned (.agg #[.string ⟨#[112, 111, 115, 105, 120]⟩, v, .string ⟨(ltab 256).toArray⟩, .string ⟨(utab 256).toArray⟩, .slice none 0 0, .slice none 0 0]) ∧ Hid (IRow w' w.heap.size v (wtab 256)) ∧ Hid (Below w.heap.size w w') := by
  go_enter Tryd.func12, Tryd.ntmps12
  go_wp2_with fail
  go_loopw [2, 3, 4, 5, 6] (fun b c i _ _ wr => ∃ (q : Nat) (v : Value), i = .int .i64 q ∧ q ≤ 256 ∧ Hid (DR w wr q v b c)) (fun _ _ i _ _ _ => 257 - (intOf i).toNat)
  case atStart => exact ⟨0, .slice none 0 0, rfl, by omega, Lib.hid (DR.start w)⟩
  case round =>
    obtain ⟨q, v, rfl, hq, RN⟩ := hrel
    obtain ⟨c0, c1, c2, c3, c4, c5⟩ := lrow_cells RN.out.blk
    by_cases hlt : q < 256
    · have LE : Hid (q + 1 ≤ 256) := Lib.hid hlt
      have L3 : Hid (w.heap.size + 1 + 1 ≤ wr.heap.size) := Lib.hid RN.out.lt
      have W1 := Lib.hid (wtab_len q)
      rcases (show q < 65 ∨ (65 ≤ q ∧ q ≤ 90) ∨ (91 ≤ q ∧ q ≤ 96) ∨ (97 ≤ q ∧ q ≤ 122) ∨ 123 ≤ q by omega) with g1 | ⟨g1, g2⟩ | ⟨g1, g2⟩ | ⟨g1, g2⟩ | g1
      · have LO : Hid ((q : Int) = ((UInt8.ofNat (lowC q)).toNat : Int)) := Lib.hid (by rw [u8_nat _ (by unfold lowC; split <;> omega)]; unfold lowC; split <;> omega)
        have UP : Hid ((q : Int) = ((UInt8.ofNat (uppC q)).toNat : Int)) := Lib.hid (by rw [u8_nat _ (by unfold uppC; split <;> omega)]; unfold uppC; split <;> omega)
        go_wp2_with (first
          | (at_builtin; refine append_int rfl _ _ rfl v (wtab q) (q : Int) (w.heap.size + 1 + 1) _ _ RN.out.th.r1 (Below.refl _ _) L3.out (by rw [wtab_len]; omega) rfl (by simp [Act.eval]) ?_; intro g1 cap1 w1 own1 bel1 gr1 at1; obtain ⟨f1, x1, T1, R0, R1, BB, LL⟩ := RN.out.store (by rw [← wtab_snoc]; exact own1.out) gr1.out at1.out)
          | (at_builtin; refine append_byt rfl _ _ rfl u2 (ltab q) (UInt8.ofNat (lowC q)) _ LO.out (w.heap.size + 1 + 1) _ _ T1.r2 (Below.refl _ _) LL (by rw [ltab_len]; omega) rfl (by simp [Act.eval]) ?_; intro b1 w2 own2 bel2 gr2 at2)
          | (at_builtin; refine append_byt rfl _ _ rfl u3 (utab q) (UInt8.ofNat (uppC q)) _ UP.out (w.heap.size + 1 + 1) _ _ (T1.two own2.out gr2.out at2.out).r3 (Below.refl _ _) (Nat.le_trans LL gr2.out.size) (by rw [utab_len]; omega) rfl (by simp [Act.eval]) ?_; intro c1 w3 own3 bel3 gr3 at3))
        exact ⟨⟨q + 1, _, by simp, by omega, Lib.hid (DR.done (by omega) T1 R0 R1 BB LL (by rw [← ltab_snoc]; exact own2.out) gr2.out at2.out (by rw [← utab_snoc]; exact own3.out) gr3.out at3.out)⟩, by simp only [intOf]; omega⟩
      · have LO : Hid ((q + 32 : Int) = ((UInt8.ofNat (lowC q)).toNat : Int)) := Lib.hid (by rw [u8_nat _ (by unfold lowC; split <;> omega)]; unfold lowC; split <;> omega)
        have UP : Hid ((q : Int) = ((UInt8.ofNat (uppC q)).toNat : Int)) := Lib.hid (by rw [u8_nat _ (by unfold uppC; split <;> omega)]; unfold uppC; split <;> omega)
        go_wp2_with (first
          | (at_builtin; refine append_int rfl _ _ rfl v (wtab q) (q : Int) (w.heap.size + 1 + 1) _ _ RN.out.th.r1 (Below.refl _ _) L3.out (by rw [wtab_len]; omega) rfl (by simp [Act.eval]) ?_; intro g1 cap1 w1 own1 bel1 gr1 at1; obtain ⟨f1, x1, T1, R0, R1, BB, LL⟩ := RN.out.store (by rw [← wtab_snoc]; exact own1.out) gr1.out at1.out)
          | (at_builtin; refine append_byt rfl _ _ rfl u2 (ltab q) (UInt8.ofNat (lowC q)) _ LO.out (w.heap.size + 1 + 1) _ _ T1.r2 (Below.refl _ _) LL (by rw [ltab_len]; omega) rfl (by simp [Act.eval]) ?_; intro b1 w2 own2 bel2 gr2 at2)
          | (at_builtin; refine append_byt rfl _ _ rfl u3 (utab q) (UInt8.ofNat (uppC q)) _ UP.out (w.heap.size + 1 + 1) _ _ (T1.two own2.out gr2.out at2.out).r3 (Below.refl _ _) (Nat.le_trans LL gr2.out.size) (by rw [utab_len]; omega) rfl (by simp [Act.eval]) ?_; intro c1 w3 own3 bel3 gr3 at3))
        exact ⟨⟨q + 1, _, by simp, by omega, Lib.hid (DR.done (by omega) T1 R0 R1 BB LL (by rw [← ltab_snoc]; exact own2.out) gr2.out at2.out (by rw [← utab_snoc]; exact own3.out) gr3.out at3.out)⟩, by simp only [intOf]; omega⟩
      · have LO : Hid ((q : Int) = ((UInt8.ofNat (lowC q)).toNat : Int)) := Lib.hid (by rw [u8_nat _ (by unfold lowC; split <;> omega)]; unfold lowC; split <;> omega)
        have UP : Hid ((q : Int) = ((UInt8.ofNat (uppC q)).toNat : Int)) := Lib.hid (by rw [u8_nat _ (by unfold uppC; split <;> omega)]; unfold uppC; split <;> omega)
        go_wp2_with (first
          | (at_builtin; refine append_int rfl _ _ rfl v (wtab q) (q : Int) (w.heap.size + 1 + 1) _ _ RN.out.th.r1 (Below.refl _ _) L3.out (by rw [wtab_len]; omega) rfl (by simp [Act.eval]) ?_; intro g1 cap1 w1 own1 bel1 gr1 at1; obtain ⟨f1, x1, T1, R0, R1, BB, LL⟩ := RN.out.store (by rw [← wtab_snoc]; exact own1.out) gr1.out at1.out)
          | (at_builtin; refine append_byt rfl _ _ rfl u2 (ltab q) (UInt8.ofNat (lowC q)) _ LO.out (w.heap.size + 1 + 1) _ _ T1.r2 (Below.refl _ _) LL (by rw [ltab_len]; omega) rfl (by simp [Act.eval]) ?_; intro b1 w2 own2 bel2 gr2 at2)
          | (at_builtin; refine append_byt rfl _ _ rfl u3 (utab q) (UInt8.ofNat (uppC q)) _ UP.out (w.heap.size + 1 + 1) _ _ (T1.two own2.out gr2.out at2.out).r3 (Below.refl _ _) (Nat.le_trans LL gr2.out.size) (by rw [utab_len]; omega) rfl (by simp [Act.eval]) ?_; intro c1 w3 own3 bel3 gr3 at3))
        exact ⟨⟨q + 1, _, by simp, by omega, Lib.hid (DR.done (by omega) T1 R0 R1 BB LL (by rw [← ltab_snoc]; exact own2.out) gr2.out at2.out (by rw [← utab_snoc]; exact own3.out) gr3.out at3.out)⟩, by simp only [intOf]; omega⟩
      · have LO : Hid ((q : Int) = ((UInt8.ofNat (lowC q)).toNat : Int)) := Lib.hid (by rw [u8_nat _ (by unfold lowC; split <;> omega)]; unfold lowC; split <;> omega)
        have UP : Hid ((q - 32 : Int) = ((UInt8.ofNat (uppC q)).toNat : Int)) := Lib.hid (by rw [u8_nat _ (by unfold uppC; split <;> omega)]; unfold uppC; split <;> omega)
        go_wp2_with (first
          | (at_builtin; refine append_int rfl _ _ rfl v (wtab q) (q : Int) (w.heap.size + 1 + 1) _ _ RN.out.th.r1 (Below.refl _ _) L3.out (by rw [wtab_len]; omega) rfl (by simp [Act.eval]) ?_; intro g1 cap1 w1 own1 bel1 gr1 at1; obtain ⟨f1, x1, T1, R0, R1, BB, LL⟩ := RN.out.store (by rw [← wtab_snoc]; exact own1.out) gr1.out at1.out)
          | (at_builtin; refine append_byt rfl _ _ rfl u2 (ltab q) (UInt8.ofNat (lowC q)) _ LO.out (w.heap.size + 1 + 1) _ _ T1.r2 (Below.refl _ _) LL (by rw [ltab_len]; omega) rfl (by simp [Act.eval]) ?_; intro b1 w2 own2 bel2 gr2 at2)
          | (at_builtin; refine append_byt rfl _ _ rfl u3 (utab q) (UInt8.ofNat (uppC q)) _ UP.out (w.heap.size + 1 + 1) _ _ (T1.two own2.out gr2.out at2.out).r3 (Below.refl _ _) (Nat.le_trans LL gr2.out.size) (by rw [utab_len]; omega) rfl (by simp [Act.eval]) ?_; intro c1 w3 own3 bel3 gr3 at3))
        exact ⟨⟨q + 1, _, by simp, by omega, Lib.hid (DR.done (by omega) T1 R0 R1 BB LL (by rw [← ltab_snoc]; exact own2.out) gr2.out at2.out (by rw [← utab_snoc]; exact own3.out) gr3.out at3.out)⟩, by simp only [intOf]; omega⟩
      · have LO : Hid ((q : Int) = ((UInt8.ofNat (lowC q)).toNat : Int)) := Lib.hid (by rw [u8_nat _ (by unfold lowC; split <;> omega)]; unfold lowC; split <;> omega)
        have UP : Hid ((q : Int) = ((UInt8.ofNat (uppC q)).toNat : Int)) := Lib.hid (by rw [u8_nat _ (by unfold uppC; split <;> omega)]; unfold uppC; split <;> omega)
        go_wp2_with (first
          | (at_builtin; refine append_int rfl _ _ rfl v (wtab q) (q : Int) (w.heap.size + 1 + 1) _ _ RN.out.th.r1 (Below.refl _ _) L3.out (by rw [wtab_len]; omega) rfl (by simp [Act.eval]) ?_; intro g1 cap1 w1 own1 bel1 gr1 at1; obtain ⟨f1, x1, T1, R0, R1, BB, LL⟩ := RN.out.store (by rw [← wtab_snoc]; exact own1.out) gr1.out at1.out)
          | (at_builtin; refine append_byt rfl _ _ rfl u2 (ltab q) (UInt8.ofNat (lowC q)) _ LO.out (w.heap.size + 1 + 1) _ _ T1.r2 (Below.refl _ _) LL (by rw [ltab_len]; omega) rfl (by simp [Act.eval]) ?_; intro b1 w2 own2 bel2 gr2 at2)
          | (at_builtin; refine append_byt rfl _ _ rfl u3 (utab q) (UInt8.ofNat (uppC q)) _ UP.out (w.heap.size + 1 + 1) _ _ (T1.two own2.out gr2.out at2.out).r3 (Below.refl _ _) (Nat.le_trans LL gr2.out.size) (by rw [utab_len]; omega) rfl (by simp [Act.eval]) ?_; intro c1 w3 own3 bel3 gr3 at3))
        exact ⟨⟨q + 1, _, by simp, by omega, Lib.hid (DR.done (by omega) T1 R0 R1 BB LL (by rw [← ltab_snoc]; exact own2.out) gr2.out at2.out (by rw [← utab_snoc]; exact own3.out) gr3.out at3.out)⟩, by simp only [intOf]; omega⟩
    · have Q := Lib.hid (show q = 256 by omega)
      have CV1 := row_string RN.out.th.r2
      have CV2 := row_string (row_set (g := w.heap.size + 1) (j := 2) (u := .string ⟨(ltab q).toArray⟩) RN.out.th.r3 (by omega))
      have f2 := lrow_frozen RN.out.blk 2
      have f3 := lrow_frozen RN.out.blk 3
      obtain ⟨g, cap, rfl⟩ : ∃ g cap, v = .slice (some ⟨g, 0, none⟩) (wtab q).length cap := by
        rcases RN.out.th.r1.2 with ⟨_, hn⟩ | ⟨g, cap, _, e, _⟩
        · rw [wtab_len] at hn; omega
        · exact ⟨g, cap, e⟩
      obtain ⟨d0, d1, d2, d3, d4, d5⟩ := lrow_cells RN.out.res
      have e0 := lrow_frozen RN.out.res 0
      have e1 := lrow_frozen RN.out.res 1
      have e2 := lrow_frozen RN.out.res 2
      have e3 := lrow_frozen RN.out.res 3
      have e4 := lrow_frozen RN.out.res 4
      have e5 := lrow_frozen RN.out.res 5
      go_wp2_with fail
      have blk8 := six_set (a := .string ⟨#[112, 111, 115, 105, 120]⟩) (b := .slice (some ⟨g, 0, none⟩) (wtab q).length cap) (c := .string ⟨(ltab q).toArray⟩) (d := .string ⟨(utab q).toArray⟩) (e := .slice none 0 0) (f := .slice none 0 0) (two_other (j := 2) (j' := 3) (a := .string ⟨(ltab q).toArray⟩) (a' := .string ⟨(utab q).toArray⟩) RN.out.res)
      obtain ⟨r0, r1, r2, r3, r4, r5⟩ := lrow_cells blk8
      have rows := row_base (row_set (g := w.heap.size) (j := 5) (u := .slice none 0 0) (row_set (g := w.heap.size) (j := 4) (u := .slice none 0 0) (row_set (g := w.heap.size) (j := 3) (u := .string ⟨(utab q).toArray⟩) (row_set (g := w.heap.size) (j := 2) (u := .string ⟨(ltab q).toArray⟩) (row_set (g := w.heap.size) (j := 1) (u := .slice (some ⟨g, 0, none⟩) (wtab q).length cap) (row_set (g := w.heap.size) (j := 0) (u := .string ⟨#[112, 111, 115, 105, 120]⟩) (row_set (g := w.heap.size + 1) (j := 3) (u := .string ⟨(utab q).toArray⟩) (row_set (g := w.heap.size + 1) (j := 2) (u := .string ⟨(ltab q).toArray⟩) RN.out.th.r1 (by omega)) (by omega)) (by omega)) (by omega)) (by omega)) (by omega)) (by omega)) (by omega)) (show w.heap.size ≤ w.heap.size + 1 + 1 by omega)
      have BZ := (below_set (g := w.heap.size) (j := 5) (u := .slice none 0 0) (below_set (g := w.heap.size) (j := 4) (u := .slice none 0 0) (below_set (g := w.heap.size) (j := 3) (u := .string ⟨(utab q).toArray⟩) (below_set (g := w.heap.size) (j := 2) (u := .string ⟨(ltab q).toArray⟩) (below_set (g := w.heap.size) (j := 1) (u := .slice (some ⟨g, 0, none⟩) (wtab q).length cap) (below_set (g := w.heap.size) (j := 0) (u := .string ⟨#[112, 111, 115, 105, 120]⟩) (below_set (g := w.heap.size + 1) (j := 3) (u := .string ⟨(utab q).toArray⟩) (below_set (g := w.heap.size + 1) (j := 2) (u := .string ⟨(ltab q).toArray⟩) RN.out.bel (by omega)) (by omega)) (by omega)) (by omega)) (by omega)) (by omega)) (by omega)) (by omega))
      have Q' := Q.out
      refine bodyPost_ret (v := lval ⟨#[112, 111, 115, 105, 120]⟩ (.slice (some ⟨g, 0, none⟩) (wtab q).length cap) ⟨(ltab q).toArray⟩ ⟨(utab q).toArray⟩ (.slice none 0 0) (.slice none 0 0)) (by simp [results, Tryd.results12, go_sem, r0, r1, r2, r3, r4, r5]) rfl ⟨.slice (some ⟨g, 0, none⟩) (wtab q).length cap, by rw [Q'], Lib.hid (by rw [← Q']; exact rows), Lib.hid BZ⟩
end Go.Proofs.YtbhdhcnbagjmcaaDoor
