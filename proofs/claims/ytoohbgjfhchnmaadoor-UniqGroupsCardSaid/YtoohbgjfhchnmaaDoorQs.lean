/- walks: the filter of the program -/
import Derived.Test.YtoohbgjfhchnmaaDoorQs0
namespace Go.Proofs.YtoohbgjfhchnmaaDoor
open Go.RowKit Go.Maps
open Lcl
/-- a specification and a locale -/
structure Cfg where
  F : Int
  B : Int
  D : Int
  cnt : Bool
  fold : Bool
  rep : Bool
  sg : Bool
  n : ByteArray
  lo : ByteArray
  up : ByteArray
  W : List Int
  C : List Cl
  E : List El
structure Cfg.Ok (c : Cfg) : Prop where
  hF : c.F ≤ 9223372036854775807
  hB : -9223372036854775808 ≤ c.B ∧ c.B ≤ 9223372036854775807
  hD : -9223372036854775808 ≤ c.D ∧ c.D ≤ 9223372036854775807
  hn : c.n.size ≤ 9223372036854775807
  zW : c.W.length * 8 ≤ 140737488355328
  zC : c.C.length * 48 ≤ 140737488355328
  zE : c.E.length * 24 ≤ 140737488355328
abbrev Cfg.sp (c : Cfg) : Value := spv c.F c.B c.D c.cnt c.fold c.rep c.sg
abbrev Cfg.cells (c : Cfg) : Array Value := spc c.F c.B c.D c.cnt c.fold c.rep c.sg
abbrev Cfg.lv (c : Cfg) (v1 v4 v5 : Value) : Value := lval c.n v1 c.lo c.up v4 v5
abbrev Cfg.lcells (c : Cfg) (v1 v4 v5 : Value) : Array Value := #[.string c.n, v1, .string c.lo, .string c.up, v4, v5]
/-- the part of a line that counts -/
def Cfg.K (c : Cfg) (s : ByteArray) : ByteArray := ptS c.F c.B c.D c.fold c.n c.W c.lo c.up c.C c.E s
theorem partc_any (c : Cfg) (hc : c.Ok) (s : ByteArray) (bp bo : Nat) (v1 v4 v5 : Value) (w : World) (hp : w.heap[bp]? = some (.cells c.cells 23 (0, 0))) (ho : w.heap[bo]? = some (.cells (c.lcells v1 v4 v5) 28 (0, 0))) (hL : LocAt w v1 v4 v5 c.W c.C c.E) (hs : s.size ≤ 140737488351232) :
    Calls Tryd.prog 26 #[.string s, .pointer (some ⟨bp, 0, none⟩), .pointer (some ⟨bo, 0, none⟩)] w fun e w' => e = .returned (.string (c.K s)) ∧ Below w.heap.size w w' := by
  obtain ⟨c0, c1, c2, c3, c4, c5, c6⟩ := spc_cells hp
  obtain ⟨d0, d1, d2, d3, d4, d5⟩ := lrow_cells ho
  have LO := Lib.hid hL
  have SZ := Lib.hid hs
  have HC := Lib.hid hc
  clear hp ho hL hs hc
  go_enter Tryd.func26, Tryd.ntmps26
  go_wp2_with fail
  refine (part_any c.F c.B c.D c.cnt c.fold c.rep c.sg c.n v1 c.lo c.up v4 v5 c.W c.C c.E s _ LO.out HC.out.hn SZ.out HC.out.hF HC.out.hB HC.out.hD).mono ?_
  rintro e w' ⟨rfl, hb⟩
  go_wp2_with fail
  go_ret
  exact ⟨rfl, hb⟩
theorem info_cls : (Tryd.prog.info? 81).map (fun i => (i.zero, i.size, i.bytes)) = some (some (.agg #[.string ⟨#[]⟩, .int .u64 0, .int .u64 0, .int .u64 0, .int .u64 0]), 5, 48) := by kernel_rfl
theorem info_elm : (Tryd.prog.info? 83).map (fun i => (i.zero, i.size, i.bytes)) = some (some (.agg #[.string ⟨#[]⟩, .int .i64 0]), 2, 24) := by kernel_rfl
theorem printer_any (c : Cfg) (w : World) : Calls Tryd.prog 28 #[c.sp] w fun e w' => e = .returned (.func (.func 34) #[] #[.pointer (some ⟨w.heap.size, 0, none⟩)]) ∧ w' = w.alloc (.cells c.cells 23) := by
  go_enter Tryd.func28, Tryd.ntmps28
  go_wp2
  go_ret
  exact ⟨rfl, rfl⟩
/-- what a filter of the program leans on -/
structure Own (c : Cfg) (w : World) (bp bo bq : Nat) (v1 v4 v5 : Value) : Prop where
  p : w.heap[bp]? = some (.cells c.cells 23 (0, 0))
  o : w.heap[bo]? = some (.cells (c.lcells v1 v4 v5) 28 (0, 0))
  q : w.heap[bq]? = some (.cells c.cells 23 (0, 0))
  l : LocAt w v1 v4 v5 c.W c.C c.E
abbrev fcells (bp bo bq : Nat) (first key : ByteArray) (n : Int) : Array Value :=
  #[.func (.func 26) #[] #[.pointer (some ⟨bp, 0, none⟩), .pointer (some ⟨bo, 0, none⟩)], .func (.func 34) #[] #[.pointer (some ⟨bq, 0, none⟩)], .string first, .string key, .int .i64 n]
/-- block g is a filter of the program -/
structure PFil (c : Cfg) (w0 w : World) (bp bo bq : Nat) (v1 v4 v5 : Value) (g : Nat) (first key : ByteArray) (n : Nat) : Prop where
  own : Own c w0 bp bo bq v1 v4 v5
  le : w0.heap.size ≤ g
  bel : Below w0.heap.size w0 w
  blk : w.heap[g]? = some (.cells (fcells bp bo bq first key n) 55 (0, 0))
theorem Own.below {c : Cfg} {w w' : World} {bp bo bq : Nat} {v1 v4 v5 : Value} (h : Own c w bp bo bq v1 v4 v5) (hb : Below w.heap.size w w') : Own c w' bp bo bq v1 v4 v5 :=
  ⟨by rw [hb.block _ (Array.getElem?_eq_some_iff.1 h.p).1]; exact h.p, by rw [hb.block _ (Array.getElem?_eq_some_iff.1 h.o).1]; exact h.o, by rw [hb.block _ (Array.getElem?_eq_some_iff.1 h.q).1]; exact h.q, h.l.below hb⟩
theorem three_blk {w w' : World} {xs ys zs : Array Value} {T T' T'' : TypeId} (hb : Below (((w.alloc (.cells xs T)).alloc (.cells ys T')).alloc (.cells zs T'')).heap.size (((w.alloc (.cells xs T)).alloc (.cells ys T')).alloc (.cells zs T'')) w') :
    w'.heap[w.heap.size]? = some (.cells xs T (0, 0)) ∧ w'.heap[w.heap.size + 1]? = some (.cells ys T' (0, 0)) ∧ w'.heap[w.heap.size + 1 + 1]? = some (.cells zs T'' (0, 0)) := by
  have s1 : (w.alloc (.cells xs T)).heap.size = w.heap.size + 1 := World.size_alloc _ _
  have s2 : ((w.alloc (.cells xs T)).alloc (.cells ys T')).heap.size = w.heap.size + 1 + 1 := by rw [World.size_alloc, s1]
  have s3 : (((w.alloc (.cells xs T)).alloc (.cells ys T')).alloc (.cells zs T'')).heap.size = w.heap.size + 1 + 1 + 1 := by rw [World.size_alloc, s2]
  refine ⟨?_, ?_, ?_⟩
  · rw [hb.block _ (by omega), Below.heap_alloc _ _ _ (by omega), Below.heap_alloc _ _ _ (by omega)]; exact heap_alloc_new _ _
  · rw [hb.block _ (by omega), Below.heap_alloc _ _ _ (by omega)]
    have := heap_alloc_new (w.alloc (.cells xs T)) (.cells ys T')
    rw [s1] at this; exact this
  · rw [hb.block _ (by omega)]
    have := heap_alloc_new ((w.alloc (.cells xs T)).alloc (.cells ys T')) (.cells zs T'')
    rw [s2] at this; exact this
/-- the three blocks of New: the specification, the locale that came in, the locale of its own -/
structure NB (c : Cfg) (w wr : World) (u1 u4 u5 v1 v4 v5 : Value) : Prop where
  p : wr.heap[w.heap.size]? = some (.cells c.cells 23 (0, 0))
  l : wr.heap[w.heap.size + 1]? = some (.cells (c.lcells u1 u4 u5) 28 (0, 0))
  o : wr.heap[w.heap.size + 1 + 1]? = some (.cells (c.lcells v1 v4 v5) 28 (0, 0))
  bel : Below w.heap.size w wr
theorem NB.below {c : Cfg} {w wr w' : World} {u1 u4 u5 v1 v4 v5 : Value} (h : NB c w wr u1 u4 u5 v1 v4 v5) (hb : Below wr.heap.size wr w') : NB c w w' u1 u4 u5 v1 v4 v5 :=
  ⟨by rw [hb.block _ (Array.getElem?_eq_some_iff.1 h.p).1]; exact h.p, by rw [hb.block _ (Array.getElem?_eq_some_iff.1 h.l).1]; exact h.l, by rw [hb.block _ (Array.getElem?_eq_some_iff.1 h.o).1]; exact h.o, h.bel.trans (hb.mono h.bel.size)⟩
theorem NB.set1 {c : Cfg} {w wr : World} {u1 u4 u5 v1 v4 v5 : Value} (h : NB c w wr u1 u4 u5 v1 v4 v5) (x : Value) : NB c w (wr.setCell ⟨w.heap.size + 1 + 1, 1, none⟩ x) u1 u4 u5 x v4 v5 :=
  ⟨by rw [heap_setCell_other _ _ _ _ (by show w.heap.size ≠ w.heap.size + 1 + 1; omega)]; exact h.p, by rw [heap_setCell_other _ _ _ _ (by show w.heap.size + 1 ≠ w.heap.size + 1 + 1; omega)]; exact h.l, by rw [heap_setCell_same _ _ _ _ _ _ h.o]; rfl, below_set h.bel (by omega)⟩
theorem NB.set4 {c : Cfg} {w wr : World} {u1 u4 u5 v1 v4 v5 : Value} (h : NB c w wr u1 u4 u5 v1 v4 v5) (x : Value) : NB c w (wr.setCell ⟨w.heap.size + 1 + 1, 4, none⟩ x) u1 u4 u5 v1 x v5 :=
  ⟨by rw [heap_setCell_other _ _ _ _ (by show w.heap.size ≠ w.heap.size + 1 + 1; omega)]; exact h.p, by rw [heap_setCell_other _ _ _ _ (by show w.heap.size + 1 ≠ w.heap.size + 1 + 1; omega)]; exact h.l, by rw [heap_setCell_same _ _ _ _ _ _ h.o]; rfl, below_set h.bel (by omega)⟩
theorem NB.set5 {c : Cfg} {w wr : World} {u1 u4 u5 v1 v4 v5 : Value} (h : NB c w wr u1 u4 u5 v1 v4 v5) (x : Value) : NB c w (wr.setCell ⟨w.heap.size + 1 + 1, 5, none⟩ x) u1 u4 u5 v1 v4 x :=
  ⟨by rw [heap_setCell_other _ _ _ _ (by show w.heap.size ≠ w.heap.size + 1 + 1; omega)]; exact h.p, by rw [heap_setCell_other _ _ _ _ (by show w.heap.size + 1 ≠ w.heap.size + 1 + 1; omega)]; exact h.l, by rw [heap_setCell_same _ _ _ _ _ _ h.o]; rfl, below_set h.bel (by omega)⟩
theorem NB.cells {c : Cfg} {w wr : World} {u1 u4 u5 v1 v4 v5 : Value} (h : NB c w wr u1 u4 u5 v1 v4 v5) :
    (wr.cell? ⟨w.heap.size + 1, 1, none⟩ = some u1 ∧ wr.cell? ⟨w.heap.size + 1, 4, none⟩ = some u4 ∧ wr.cell? ⟨w.heap.size + 1, 5, none⟩ = some u5) ∧
    (wr.cell? ⟨w.heap.size + 1 + 1, 1, none⟩ = some v1 ∧ wr.cell? ⟨w.heap.size + 1 + 1, 4, none⟩ = some v4 ∧ wr.cell? ⟨w.heap.size + 1 + 1, 5, none⟩ = some v5) ∧
    (wr.frozen? ⟨w.heap.size + 1 + 1, 1, none⟩ = false ∧ wr.frozen? ⟨w.heap.size + 1 + 1, 4, none⟩ = false ∧ wr.frozen? ⟨w.heap.size + 1 + 1, 5, none⟩ = false) := by
  obtain ⟨-, a1, -, -, a4, a5⟩ := lrow_cells h.l
  obtain ⟨-, b1, -, -, b4, b5⟩ := lrow_cells h.o
  exact ⟨⟨a1, a4, a5⟩, ⟨b1, b4, b5⟩, lrow_frozen h.o 1, lrow_frozen h.o 4, lrow_frozen h.o 5⟩
theorem rows_set {w : World} {v : Value} {k : Nat} {l : List (List Value)} {g j : Nat} {u : Value} (h : RowsAt w v k l) (hne : ∀ a o n cp, v = .slice (some ⟨a, o, none⟩) n cp → a ≠ g) : RowsAt (w.setCell ⟨g, j, none⟩ u) v k l :=
  rows_keep h (fun a o cp n e => heap_setCell_other _ _ _ _ (hne a o n cp e)) (Nat.le_of_eq (by simp [World.setCell]))
theorem w_rows (c : Cfg) : ∀ x ∈ c.W.map (fun n => [Value.int .i64 n]), x.length = 1 := fun x hx => by obtain ⟨_, _, rfl⟩ := List.mem_map.1 hx; rfl
theorem c_rows (c : Cfg) : ∀ x ∈ c.C.map Cl.row, x.length = 5 := fun x hx => by obtain ⟨_, _, rfl⟩ := List.mem_map.1 hx; rfl
theorem e_rows (c : Cfg) : ∀ x ∈ c.E.map El.row, x.length = 2 := fun x hx => by obtain ⟨_, _, rfl⟩ := List.mem_map.1 hx; rfl
theorem w_one (c : Cfg) : ∀ x ∈ c.W.map (fun n => [Value.int .i64 n]), ∀ y ∈ x, y.oneCell' = true := fun x hx y hy => by
  obtain ⟨_, _, rfl⟩ := List.mem_map.1 hx
  simp at hy; subst hy; rfl
theorem c_one (c : Cfg) : ∀ x ∈ c.C.map Cl.row, ∀ y ∈ x, y.oneCell' = true := fun x hx y hy => by
  obtain ⟨_, _, rfl⟩ := List.mem_map.1 hx
  simp only [List.mem_cons, List.not_mem_nil, or_false] at hy
  rcases hy with rfl | rfl | rfl | rfl | rfl <;> rfl
theorem e_one (c : Cfg) : ∀ x ∈ c.E.map El.row, ∀ y ∈ x, y.oneCell' = true := fun x hx y hy => by
  obtain ⟨_, _, rfl⟩ := List.mem_map.1 hx
  simp only [List.mem_cons, List.not_mem_nil, or_false] at hy
  rcases hy with rfl | rfl <;> rfl
/-- a row that was made behind the own block stays while that block is written -/
def RowB (w wr : World) (a : Option Addr) (n cp k : Nat) (l : List (List Value)) : Prop := RowsAt wr (.slice a n cp) k l ∧ (∀ g o sp, a = some ⟨g, o, sp⟩ → w.heap.size + 1 + 1 < g) ∧ w.heap.size + 1 + 1 < wr.heap.size
theorem rows_own1 {c : Cfg} {w wr w1 : World} {u1 u4 u5 v1 v4 v5 : Value} {a : Option Addr} {n cp k : Nat} {l : List (List Value)} (h : RowsAt w1 (.slice a n cp) k l) (hz : ∀ g o sp, a = some ⟨g, o, sp⟩ → wr.heap.size ≤ g) (_S : NB c w wr u1 u4 u5 v1 v4 v5) (hs : w.heap.size + 1 + 1 < wr.heap.size) (j : Nat) (u : Value) (hb : Below wr.heap.size wr w1) :
    RowB w (w1.setCell ⟨w.heap.size + 1 + 1, j, none⟩ u) a n cp k l := by
  refine ⟨rows_set h (fun g o n' c' e => ?_), fun g o sp e => ?_, ?_⟩
  · simp only [Value.slice.injEq] at e
    have := hz g o none e.1
    omega
  · have := hz g o sp e
    omega
  · rw [World.size_setCell]; have := hb.size; omega
theorem rows_own2 {w wr w1 : World} {a : Option Addr} {n cp k : Nat} {l : List (List Value)} (h : RowB w wr a n cp k l) (hb : Below wr.heap.size wr w1) (j : Nat) (u : Value) : RowB w (w1.setCell ⟨w.heap.size + 1 + 1, j, none⟩ u) a n cp k l := by
  refine ⟨rows_set (h.1.below hb) (fun g o n' c' e => ?_), h.2.1, ?_⟩
  · simp only [Value.slice.injEq] at e
    have := h.2.1 g o none e.1
    omega
  · rw [World.size_setCell]; have := h.2.2; have := hb.size; omega
theorem new_done {c : Cfg} {w wr : World} {u1 u4 u5 v1 v4 v5 : Value} (h : NB c w wr u1 u4 u5 v1 v4 v5) (hl : LocAt wr v1 v4 v5 c.W c.C c.E) :
    PFil c (wr.alloc (.cells c.cells 23)) ((wr.alloc (.cells c.cells 23)).alloc (.cells (fcells w.heap.size (w.heap.size + 1 + 1) wr.heap.size ⟨#[]⟩ ⟨#[]⟩ 0) 55)) w.heap.size (w.heap.size + 1 + 1) wr.heap.size v1 v4 v5 (wr.heap.size + 1) ⟨#[]⟩ ⟨#[]⟩ 0 ∧
    Below w.heap.size w ((wr.alloc (.cells c.cells 23)).alloc (.cells (fcells w.heap.size (w.heap.size + 1 + 1) wr.heap.size ⟨#[]⟩ ⟨#[]⟩ 0) 55)) ∧ Below w.heap.size w (wr.alloc (.cells c.cells 23)) ∧ w.heap.size ≤ wr.heap.size + 1 := by
  have hB : Below wr.heap.size wr (wr.alloc (.cells c.cells 23)) := (Below.refl _ _).alloc (Nat.le_refl _) _
  have hs : (wr.alloc (.cells c.cells 23)).heap.size = wr.heap.size + 1 := World.size_alloc _ _
  have h' := h.below hB
  have hw := h.bel.size
  refine ⟨⟨⟨h'.p, h'.o, heap_alloc_new _ _, hl.below hB⟩, by rw [hs]; exact Nat.le_refl _, (Below.refl _ _).alloc (Nat.le_refl _) _, ?_⟩, h'.bel.alloc h'.bel.size _, h'.bel, by omega⟩
  have := heap_alloc_new (wr.alloc (.cells c.cells 23)) (.cells (fcells w.heap.size (w.heap.size + 1 + 1) wr.heap.size ⟨#[]⟩ ⟨#[]⟩ 0) 55)
  rw [hs] at this
  exact this
def NewR (c : Cfg) (w : World) (e : Ending) (w' : World) : Prop :=
  ∃ w0 bp bo bq v1 v4 v5 g, e = .returned (.pointer (some ⟨g, 0, none⟩)) ∧ Hid (PFil c w0 w' bp bo bq v1 v4 v5 g ⟨#[]⟩ ⟨#[]⟩ 0) ∧ Hid (Below w.heap.size w w') ∧ Hid (Below w.heap.size w w0) ∧ Hid (w.heap.size ≤ g)
set_option maxRecDepth 100000 in
set_option maxHeartbeats 8000000 in
theorem new_any (c : Cfg) (hc : c.Ok) (v1 v4 v5 : Value) (w : World) (hL : LocAt w v1 v4 v5 c.W c.C c.E) (n1 : NZ v1) (n4 : NZ v4) (n5 : NZ v5) :
    Calls Tryd.prog 13 #[c.sp, c.lv v1 v4 v5] w (NewR c w) := by
  obtain ⟨i0, ih, iz, is, ib⟩ := info_parts info_i64
  obtain ⟨j0, jh, jz, js, jb⟩ := info_parts info_cls
  obtain ⟨k0, kh, kz, ks, kb⟩ := info_parts info_elm
  obtain ⟨a1, cap1, e1, -⟩ := hL.r1
  obtain ⟨a4, cap4, e4, -⟩ := hL.r4
  obtain ⟨a5, cap5, e5, -⟩ := hL.r5
  rw [List.length_map] at e1 e4 e5
  subst e1 e4 e5
  have LO := Lib.hid hL; clear hL
  have HC := Lib.hid hc; clear hc
  have N1 := Lib.hid n1; clear n1
  have N4 := Lib.hid n4; clear n4
  have N5 := Lib.hid n5; clear n5
  have S3 : Hid (NB c w (((w.alloc (.cells c.cells 23)).alloc (.cells (c.lcells (.slice a1 c.W.length cap1) (.slice a4 c.C.length cap4) (.slice a5 c.E.length cap5)) 28)).alloc (.cells (c.lcells (.slice none 0 0) (.slice none 0 0) (.slice none 0 0)) 28)) (.slice a1 c.W.length cap1) (.slice a4 c.C.length cap4) (.slice a5 c.E.length cap5) (.slice none 0 0) (.slice none 0 0) (.slice none 0 0)) := Lib.hid (by
    obtain ⟨q1, q2, q3⟩ := three_blk (Below.refl (((w.alloc (.cells c.cells 23)).alloc (.cells (c.lcells (.slice a1 c.W.length cap1) (.slice a4 c.C.length cap4) (.slice a5 c.E.length cap5)) 28)).alloc (.cells (c.lcells (.slice none 0 0) (.slice none 0 0) (.slice none 0 0)) 28)).heap.size (((w.alloc (.cells c.cells 23)).alloc (.cells (c.lcells (.slice a1 c.W.length cap1) (.slice a4 c.C.length cap4) (.slice a5 c.E.length cap5)) 28)).alloc (.cells (c.lcells (.slice none 0 0) (.slice none 0 0) (.slice none 0 0)) 28)))
    exact ⟨q1, q2, q3, below_step (below_step (below_step (Below.refl _ _)))⟩)
  go_enter Tryd.func13, Tryd.ntmps13
  go_wp2_with (first
    | (at_builtin; refine append_rows rfl (.tmp 14) (.tmp 16) 24 3 1 8 i0 _ rfl Tryd.underlying24 ih iz is ib rfl (by decide) (c.W.map fun n => [Value.int .i64 n]) _ _ rfl rfl (LO.out.r1.below S3.out.bel) N1.out (w_rows c) (w_one c) (by rw [List.length_map]; exact HC.out.zW) (by rw [List.length_map]; have := HC.out.zW; unfold maxLen; omega) ?_; intro p1 q1 w1 R1 B1 Z1; rw [List.length_map] at R1 ⊢; have S4 := Lib.hid (S3.out.below B1.out); obtain ⟨⟨c1, c4, c5⟩, ⟨d1, d4, d5⟩, ⟨f1, f4, f5⟩⟩ := S4.out.cells; have S5 := Lib.hid (S4.out.set1 (.slice p1 c.W.length q1)); have M1 := Lib.hid (rows_own1 R1.out Z1.out S3.out (by rw [World.size_alloc, World.size_alloc, World.size_alloc]; omega) 1 (.slice p1 c.W.length q1) B1.out); clear R1 Z1 B1)
    | (at_builtin; refine append_rows rfl (.tmp 20) (.tmp 22) 25 81 5 48 j0 _ rfl Tryd.underlying25 jh jz js jb rfl (by decide) (c.C.map Cl.row) _ _ rfl rfl (LO.out.r4.below S5.out.bel) N4.out (c_rows c) (c_one c) (by rw [List.length_map]; exact HC.out.zC) (by rw [List.length_map]; have := HC.out.zC; unfold maxLen; omega) ?_; intro p4 q4 w2 R4 B2 Z4; rw [List.length_map] at R4 ⊢; clear c1 c4 c5 d1 d4 d5 f1 f4 f5; have S6 := Lib.hid (S5.out.below B2.out); obtain ⟨⟨c1, c4, c5⟩, ⟨d1, d4, d5⟩, ⟨f1, f4, f5⟩⟩ := S6.out.cells; have S7 := Lib.hid (S6.out.set4 (.slice p4 c.C.length q4)); have M2 := Lib.hid (rows_own2 M1.out B2.out 4 (.slice p4 c.C.length q4)); have M4 := Lib.hid (rows_own1 R4.out Z4.out S5.out M1.out.2.2 4 (.slice p4 c.C.length q4) B2.out); clear R4 Z4 B2 M1 S4)
    | (at_builtin; refine append_rows rfl (.tmp 26) (.tmp 28) 26 83 2 24 k0 _ rfl Tryd.underlying26 kh kz ks kb rfl (by decide) (c.E.map El.row) _ _ rfl rfl (LO.out.r5.below S7.out.bel) N5.out (e_rows c) (e_one c) (by rw [List.length_map]; exact HC.out.zE) (by rw [List.length_map]; have := HC.out.zE; unfold maxLen; omega) ?_; intro p5 q5 w3 R5 B3 Z5; rw [List.length_map] at R5 ⊢; clear c1 c4 c5 d1 d4 d5 f1 f4 f5; have S8 := Lib.hid (S7.out.below B3.out); obtain ⟨⟨c1, c4, c5⟩, ⟨d1, d4, d5⟩, ⟨f1, f4, f5⟩⟩ := S8.out.cells; have S9 := Lib.hid (S8.out.set5 (.slice p5 c.E.length q5)); have M3 := Lib.hid (rows_own2 M2.out B3.out 5 (.slice p5 c.E.length q5)); have M6 := Lib.hid (rows_own2 M4.out B3.out 5 (.slice p5 c.E.length q5)); have M5 := Lib.hid (rows_own1 R5.out Z5.out S7.out M4.out.2.2 5 (.slice p5 c.E.length q5) B3.out); clear R5 Z5 B3 M2 M4 S6; obtain ⟨s0, s1, s2, s3, s4, s5, s6⟩ := spc_cells S9.out.p)
    | (go_at_call 28; refine (printer_any c _).mono ?_; rintro e w' ⟨rfl, rfl⟩))
  have LF : Hid (LocAt (w3.setCell ⟨w.heap.size + 1 + 1, 5, none⟩ (.slice p5 c.E.length q5)) (.slice p1 c.W.length q1) (.slice p4 c.C.length q4) (.slice p5 c.E.length q5) c.W c.C c.E) := Lib.hid ⟨M3.out.1, M6.out.1, M5.out.1, LO.out.z4, LO.out.z5⟩
  go_ret
  have e3 : (w3.setCell ⟨w.heap.size + 1 + 1, 5, none⟩ (.slice p5 c.E.length q5)).heap.size = w3.heap.size := by rw [World.size_setCell]
  have PF := new_done S9.out LF.out
  rw [e3] at PF
  exact ⟨_, _, _, _, _, _, _, _, rfl, Lib.hid PF.1, Lib.hid PF.2.1, Lib.hid PF.2.2.1, Lib.hid PF.2.2.2⟩
end Go.Proofs.YtoohbgjfhchnmaaDoor
