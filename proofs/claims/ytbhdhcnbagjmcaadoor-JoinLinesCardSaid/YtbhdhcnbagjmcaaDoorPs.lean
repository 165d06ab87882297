/- the joiner's calls, on one state (written by gen_ps.py) -/
import Derived.Test.YtbhdhcnbagjmcaaDoorPn
import Derived.Test.YtbhdhcnbagjmcaaDoorPo
import Derived.Test.YtbhdhcnbagjmcaaDoorPp
import Derived.Test.YtbhdhcnbagjmcaaDoorPr
namespace Go.Proofs.YtbhdhcnbagjmcaaDoor
open Go.RowKit Go.Maps Go.WideMaps
open Jn Lcl
/-- the joiner's state: what is printed so far is D, N lines were looked up -/
structure JP (f1 f2 sep m : Int) (lf rt pr : Bool) (em : ByteArray) (a : Option Addr) (q cap : Nat) (vb pb jb mb B : Nat) (W : World) (D : List (List UInt8)) (vout : Value) (N : Nat) (wr : World) : Prop where
  J : JS f1 f2 sep m lf rt pr em (.slice a q cap) vout vb pb jb mb B vout.ownBlock (N) wr
  O : OwnS wr B vout (D.map bA)
  G : JG jb mb B W wr
/-- what stays as it is while the joiner works -/
structure JC (p : Sp) (f1 f2 sep m : Int) (lf rt pr : Bool) (em : ByteArray) (a : Option Addr) (q cap : Nat) (vb pb jb mb B : Nat) (w W : World) : Prop where
  hp : p = ⟨f1, f2, sep, lf, rt, pr, em.data.toList, p.out⟩
  hO : RowsAt w (.slice a q cap) 2 (outR p)
  hq : p.out.length = q
  hem : em.size ≤ 60
  hql : q ≤ 40
  hf1 : 1 ≤ f1 ∧ f1 ≤ 1024
  hf2 : 1 ≤ f2 ∧ f2 ≤ 1024
  hsep : -1 ≤ sep ∧ sep ≤ 255
  b1 : w.heap.size ≤ jb
  b2 : w.heap.size ≤ mb
  b3 : w.heap.size ≤ B
  hw : Below w.heap.size w W
section
variable {p : Sp} {f1 f2 sep m : Int} {lf rt pr : Bool} {em : ByteArray} {a : Option Addr} {q cap : Nat} {vb pb jb mb B : Nat} {w W wr : World} {D : List (List UInt8)} {vout : Value} {N : Nat}
theorem JP.drew (h : JP f1 f2 sep m lf rt pr em a q cap vb pb jb mb B W D vout N wr) : JP f1 f2 sep m lf rt pr em a q cap vb pb jb mb B W D vout N wr.drew := ⟨h.J.drew, own_below h.O (Below.refl _ _).drew, h.G.trans (JG.below (Below.refl _ _).drew h.J.bw)⟩
theorem JP.mono (h : JP f1 f2 sep m lf rt pr em a q cap vb pb jb mb B W D vout N wr) {N' : Nat} (hn : N ≤ N') : JP f1 f2 sep m lf rt pr em a q cap vb pb jb mb B W D vout N' wr := ⟨h.J.mono hn, h.O, h.G⟩
theorem JP.bel (h : JP f1 f2 sep m lf rt pr em a q cap vb pb jb mb B W D vout N wr) (c : JC p f1 f2 sep m lf rt pr em a q cap vb pb jb mb B w W) : Below w.heap.size w wr := c.hw.trans (h.G.bel c.b1 c.b2 c.b3)
theorem JP.step {w' : World} {N' : Nat} (h : JP f1 f2 sep m lf rt pr em a q cap vb pb jb mb B W D vout N wr) (hj : JS f1 f2 sep m lf rt pr em (.slice a q cap) vout vb pb jb mb B vout.ownBlock (N') w') (hg : wr.grownBy w' (some mb)) : JP f1 f2 sep m lf rt pr em a q cap vb pb jb mb B W D vout N' w' :=
  ⟨hj, h.O.kept hg (.inr (fun e => by have := (h.O.lt mb e).1; have := h.J.bm; omega)), h.G.trans (JG.map hg h.J.bw)⟩
theorem JP.below {w' : World} (h : JP f1 f2 sep m lf rt pr em a q cap vb pb jb mb B W D vout N wr) (hb : Below wr.heap.size wr w') : JP f1 f2 sep m lf rt pr em a q cap vb pb jb mb B W D vout N w' := ⟨h.J.below hb, own_below h.O hb, h.G.trans (JG.below hb h.J.bw)⟩
theorem JP.left (h : JP f1 f2 sep m lf rt pr em a q cap vb pb jb mb B W D vout N wr) (s : ByteArray) (hn : N ≤ 1048000) (hs : s.size ≤ 60) :
    Calls Tryd.prog 36 #[.string s, .pointer (some ⟨vb, 0, none⟩), .pointer (some ⟨pb, 0, none⟩)] wr fun e w' => e = .returned (.string (bA (keyL sep f1 s.data.toList))) ∧ Hid (JP f1 f2 sep m lf rt pr em a q cap vb pb jb mb B W D vout (N + 1) w') :=
  (h.J.left s (by omega) (by omega)).mono fun _ _ ⟨e1, e2, e3⟩ => ⟨e1, Lib.hid (h.step e2.out e3.out)⟩
theorem JP.right (h : JP f1 f2 sep m lf rt pr em a q cap vb pb jb mb B W D vout N wr) (s : ByteArray) (hn : N ≤ 1048000) (hs : s.size ≤ 60) :
    Calls Tryd.prog 38 #[.string s, .pointer (some ⟨vb, 0, none⟩), .pointer (some ⟨pb, 0, none⟩)] wr fun e w' => e = .returned (.string (bA (keyL sep f2 s.data.toList))) ∧ Hid (JP f1 f2 sep m lf rt pr em a q cap vb pb jb mb B W D vout (N + 1) w') :=
  (h.J.right s (by omega) (by omega)).mono fun _ _ ⟨e1, e2, e3⟩ => ⟨e1, Lib.hid (h.step e2.out e3.out)⟩
theorem JP.strs (h : JP f1 f2 sep m lf rt pr em a q cap vb pb jb mb B W D vout N wr) (c : JC p f1 f2 sep m lf rt pr em a q cap vb pb jb mb B w W) {v : Value} {L : List ByteArray} (hv : Strs w v L) : Strs wr v L := Strs.below hv (h.bel c)
theorem strs_own {v : Value} {L : List ByteArray} (hv : Strs w v L) (h0 : L ≠ []) (hb : w.heap.size ≤ mb) : ∀ g, v.ownBlock = some g → g ≠ mb := by
  obtain ⟨g, o, c, rfl, -, -, hg, -⟩ := Strs.cons hv h0
  intro g' e
  cases e
  show g ≠ mb
  omega
theorem JP.grpA (h : JP f1 f2 sep m lf rt pr em a q cap vb pb jb mb B W D vout N wr) (c : JC p f1 f2 sep m lf rt pr em a q cap vb pb jb mb B w W) (L : List ByteArray) (v : Value) (hv : Strs w v L) (h0 : L ≠ []) (hl : L.length ≤ 12) (hs : ∀ x ∈ L, x.size ≤ 60) (hn : N ≤ 1047000) :
    Calls Tryd.prog 39 #[v, .func (.func 36) #[] #[.pointer (some ⟨vb, 0, none⟩), .pointer (some ⟨pb, 0, none⟩)]] wr fun e w' => e = .returned (.int .i64 (grpN (keyL sep f1) (L.map (·.data.toList)) : Nat)) ∧ Hid (JP f1 f2 sep m lf rt pr em a q cap vb pb jb mb B W D vout (N + 24) w') :=
  (group1_any L v f1 f2 sep m lf rt pr em (.slice a q cap) vout vb pb jb mb B vout.ownBlock N wr h.J (h.strs c hv) h0 hl (fun x hx => Nat.le_trans (hs x hx) (by omega)) (by omega) (strs_own hv h0 c.b2)).mono fun _ _ ⟨e1, e2, e3⟩ => ⟨e1, Lib.hid (h.step e2.out e3.out)⟩
theorem JP.grpB (h : JP f1 f2 sep m lf rt pr em a q cap vb pb jb mb B W D vout N wr) (c : JC p f1 f2 sep m lf rt pr em a q cap vb pb jb mb B w W) (L : List ByteArray) (v : Value) (hv : Strs w v L) (h0 : L ≠ []) (hl : L.length ≤ 12) (hs : ∀ x ∈ L, x.size ≤ 60) (hn : N ≤ 1047000) :
    Calls Tryd.prog 39 #[v, .func (.func 38) #[] #[.pointer (some ⟨vb, 0, none⟩), .pointer (some ⟨pb, 0, none⟩)]] wr fun e w' => e = .returned (.int .i64 (grpN (keyL sep f2) (L.map (·.data.toList)) : Nat)) ∧ Hid (JP f1 f2 sep m lf rt pr em a q cap vb pb jb mb B W D vout (N + 24) w') :=
  (group2_any L v f1 f2 sep m lf rt pr em (.slice a q cap) vout vb pb jb mb B vout.ownBlock N wr h.J (h.strs c hv) h0 hl (fun x hx => Nat.le_trans (hs x hx) (by omega)) (by omega) (strs_own hv h0 c.b2)).mono fun _ _ ⟨e1, e2, e3⟩ => ⟨e1, Lib.hid (h.step e2.out e3.out)⟩
theorem cell_ne {g o : Nat} {v : Value} (h : w.cell? ⟨g, o, none⟩ = some v) (hb : w.heap.size ≤ mb) : some mb ≠ some g := fun e => by
  have : g < w.heap.size := by
    refine Decidable.byContradiction fun hn => ?_
    simp [World.cell?, Array.getElem?_eq_none (Nat.le_of_not_lt hn)] at h
  have := Option.some.inj e
  omega
theorem rows_own2 {l : List (List Value)} {g : Nat} (h : RowsAt w (.slice a q cap) 2 l) (h0 : l ≠ []) (hg : (Value.slice a q cap).ownBlock = some g) (b1 : w.heap.size ≤ jb) (b2 : w.heap.size ≤ mb) (b3 : w.heap.size ≤ B) : g < B ∧ g ≠ mb ∧ g ≠ jb := by
  obtain ⟨g', o, c, e, -, -, hlt, -⟩ := h.cons h0
  rw [e] at hg
  have e2 : g' = g := Option.some.inj hg
  omega
theorem JP.putab (h : JP f1 f2 sep m lf rt pr em a q cap vb pb jb mb B W D vout N wr) (c : JC p f1 f2 sep m lf rt pr em a q cap vb pb jb mb B w W) (s1 : ByteArray) (g1 o1 : Nat) (s2 : ByteArray) (g2 o2 : Nat) (h1 : w.cell? ⟨g1, o1, none⟩ = some (.string s1)) (z1 : s1.size ≤ 60) (h2 : w.cell? ⟨g2, o2, none⟩ = some (.string s2)) (z2 : s2.size ≤ 60) (hn : N ≤ 1048000) (hD : D.length ≤ 100000) :
    Calls Tryd.prog 40 #[.pointer (some ⟨jb, 0, none⟩), .pointer (some ⟨g1, o1, none⟩), .pointer (some ⟨g2, o2, none⟩)] wr fun e w' => e = .returned (.tuple #[]) ∧ ∃ v', Hid (JP f1 f2 sep m lf rt pr em a q cap vb pb jb mb B W (D ++ [putL p (some s1.data.toList) (some s2.data.toList)]) v' (N + 2) w') :=
  (putab_any p s1 g1 o1 s2 g2 o2 (D.map bA) f1 f2 sep m lf rt pr em a q cap vout vb pb jb mb B N wr c.hp h.J (c.hO.below (h.bel c)) c.hq (fun h0 g hg => (rows_own2 c.hO h0 hg c.b1 c.b2 c.b3)) h.O (kp (h.bel c) h1) (cell_ne h1 c.b2) z1 (kp (h.bel c) h2) (cell_ne h2 c.b2) z2 hn c.hem c.hql (by rw [List.length_map]; exact hD) c.hf1 c.hf2 c.hsep).mono fun _ _ ⟨e1, v', e2, e3, e4⟩ => ⟨e1, v', Lib.hid ⟨e2.out, by rw [List.map_append]; exact e3.out, h.G.trans e4.out⟩⟩
theorem JP.puta (h : JP f1 f2 sep m lf rt pr em a q cap vb pb jb mb B W D vout N wr) (c : JC p f1 f2 sep m lf rt pr em a q cap vb pb jb mb B w W) (s1 : ByteArray) (g1 o1 : Nat) (h1 : w.cell? ⟨g1, o1, none⟩ = some (.string s1)) (z1 : s1.size ≤ 60) (hn : N ≤ 1048000) (hD : D.length ≤ 100000) :
    Calls Tryd.prog 40 #[.pointer (some ⟨jb, 0, none⟩), .pointer (some ⟨g1, o1, none⟩), .pointer none] wr fun e w' => e = .returned (.tuple #[]) ∧ ∃ v', Hid (JP f1 f2 sep m lf rt pr em a q cap vb pb jb mb B W (D ++ [putL p (some s1.data.toList) none]) v' (N + 1) w') :=
  (puta_any p s1 g1 o1 (D.map bA) f1 f2 sep m lf rt pr em a q cap vout vb pb jb mb B N wr c.hp h.J (c.hO.below (h.bel c)) c.hq (fun h0 g hg => (rows_own2 c.hO h0 hg c.b1 c.b2 c.b3)) h.O (kp (h.bel c) h1) (cell_ne h1 c.b2) z1 hn c.hem c.hql (by rw [List.length_map]; exact hD) c.hf1 c.hf2 c.hsep).mono fun _ _ ⟨e1, v', e2, e3, e4⟩ => ⟨e1, v', Lib.hid ⟨e2.out, by rw [List.map_append]; exact e3.out, h.G.trans e4.out⟩⟩
theorem JP.putb (h : JP f1 f2 sep m lf rt pr em a q cap vb pb jb mb B W D vout N wr) (c : JC p f1 f2 sep m lf rt pr em a q cap vb pb jb mb B w W) (s2 : ByteArray) (g2 o2 : Nat) (h2 : w.cell? ⟨g2, o2, none⟩ = some (.string s2)) (z2 : s2.size ≤ 60) (hn : N ≤ 1048000) (hD : D.length ≤ 100000) :
    Calls Tryd.prog 40 #[.pointer (some ⟨jb, 0, none⟩), .pointer none, .pointer (some ⟨g2, o2, none⟩)] wr fun e w' => e = .returned (.tuple #[]) ∧ ∃ v', Hid (JP f1 f2 sep m lf rt pr em a q cap vb pb jb mb B W (D ++ [putL p none (some s2.data.toList)]) v' (N + 1) w') :=
  (putb_any p s2 g2 o2 (D.map bA) f1 f2 sep m lf rt pr em a q cap vout vb pb jb mb B N wr c.hp h.J (c.hO.below (h.bel c)) c.hq (fun h0 g hg => (rows_own2 c.hO h0 hg c.b1 c.b2 c.b3)) h.O (kp (h.bel c) h2) (cell_ne h2 c.b2) z2 hn c.hem c.hql (by rw [List.length_map]; exact hD) c.hf1 c.hf2 c.hsep).mono fun _ _ ⟨e1, v', e2, e3, e4⟩ => ⟨e1, v', Lib.hid ⟨e2.out, by rw [List.map_append]; exact e3.out, h.G.trans e4.out⟩⟩
end
end Go.Proofs.YtbhdhcnbagjmcaaDoor
