/- arguments: patches -/
import Derived.Test.YtnkpigibjicmaaaDoorVh
import Derived.Deep.Slices
import Derived.Deep.Fields
import Derived.ChangeSame
import Derived.Lib.SmallJoins
import Derived.SizedLaws
namespace Go.Proofs.YtnkpigibjicmaaaDoor
open Go.Joins Go.ChangeShapes Go.WideShapes Go.RowKit Go.Deep Go.Maps
open Pt
section
variable {H : Type} {enc : TypeId × Value → H} {P : Program} {w : World} {base : Nat} {spare : Nat → Bool} {held : Bool}
theorem own_agg3 {r : Reach} {b0 : Nat} {t : TypeId} {f0 f1 f2 : Field} {v : Value} {d : DataW H} {p : List MemPlace} (hs : P.underlying t = some (.struct #[f0, f1, f2])) (hone : oneCellFields P #[f0, f1, f2] = true) (hC : P.cellsOf t = 3)
    (hv : Value.okWide P w r b0 t v) (h : DataW.Trod enc P w base spare held t v d p) :
    ∃ (v0 v1 v2 : Value) (y0 y1 y2 : DataW H × List MemPlace) (n : Nat), v = .agg #[v0, v1, v2] ∧ d = .agg [y0.1, y1.1, y2.1] ∧ p = y0.2 ++ (y1.2 ++ (y2.2)) ∧
      DataW.trod enc P w base spare held n f0.type [v0] = some y0 ∧ DataW.trod enc P w base spare held n f1.type [v1] = some y1 ∧ DataW.trod enc P w base spare held n f2.type [v2] = some y2 := by
  obtain ⟨cs, rfl, hsz⟩ := okWide_struct hs hv
  obtain ⟨l⟩ := cs
  match l, hsz.trans hC with
  | [c0, c1, c2], _ =>
    obtain ⟨fuel, hf⟩ := h
    obtain ⟨xs, n, _, hx, _, hlen, hg⟩ := DataW.trod_struct hs hf
    obtain ⟨o0, k0⟩ := hone_of hone 0 f0 rfl
    obtain ⟨o1, k1⟩ := hone_of hone 1 f1 rfl
    obtain ⟨o2, k2⟩ := hone_of hone 2 f2 rfl
    match xs, hlen with
    | [y0, y1, y2], _ =>
      simp only [Prod.mk.injEq] at hx
      exact ⟨c0, c1, c2, y0, y1, y2, n, rfl, by simpa using hx.1, by simpa using hx.2, by simpa [Value.cells, o0, k0] using hg 0 f0 rfl, by simpa [Value.cells, o1, k1] using hg 1 f1 rfl, by simpa [Value.cells, o2, k2] using hg 2 f2 rfl⟩
theorem list_of {α : Type} {p : Nat → α → Prop} : ∀ (m : Nat), (∀ i, i < m → ∃ z, p i z) → ∃ l : List α, l.length = m ∧ ∀ i z, l[i]? = some z → p i z
  | 0, _ => ⟨[], rfl, fun i z h => by simp at h⟩
  | m + 1, h => by
    obtain ⟨l, hl, hp⟩ := list_of m fun i hi => h i (by omega)
    obtain ⟨z, hz⟩ := h m (by omega)
    refine ⟨l ++ [z], by simp [hl], fun i y hy => ?_⟩
    rcases Nat.lt_or_ge i l.length with hi | hi
    · rw [List.getElem?_append_left hi] at hy; exact hp i y hy
    · rw [List.getElem?_append_right hi] at hy
      have : i = m := by
        rcases Nat.eq_zero_or_pos (i - l.length) with h0 | h0
        · omega
        · rw [List.getElem?_eq_none (by simp; omega)] at hy; cases hy
      subst this
      rw [hl, Nat.sub_self] at hy
      cases hy; exact hz
/-- a slice, read row by row -/
theorem open_rowsq {α : Type} (R : α → List Value) (Q : α → Prop) (k : Nat) {t e : TypeId} {fuel : Nat} {v : Value} {x : DataW H × List MemPlace} (ht : P.underlying t = some (.slice e)) (hk : 0 < k)
    (hC : P.cellsOf e = k) (h : DataW.trod enc P w 0 (fun _ => true) true fuel t [v] = some x) (hlt : ∀ q ∈ x.2, q.block < w.heap.size)
    (hrow : ∀ cs y n, DataW.trod enc P w 0 (fun _ => true) true n e cs = some y → cs.length = k → (∀ q ∈ y.2, q.block < w.heap.size) → ∃ z : α, Q z ∧ cs = R z) :
    ∃ l : List α, RowsAt w v k (l.map R) ∧ ∀ z ∈ l, Q z := by
  rcases open_slice ht h with ⟨hcs, hx⟩ | ⟨a, len, cap, m, n, D, Pl, hcs, -, hl, hm, hmm, hx, hi⟩
  · obtain rfl : v = .slice none 0 0 := by simpa using hcs
    exact ⟨[], .inl ⟨rfl, _, rfl⟩, fun z hz => by cases hz⟩
  · obtain rfl : v = .slice (some a) len cap := by simpa using hcs
    simp only [if_true] at hmm
    subst m
    rw [hC] at hx hi
    obtain ⟨l, hll, hp⟩ := list_of (p := fun i z => Q z ∧ ∀ (j : Nat) v, (R z)[j]? = some v → w.cell? (a.add (i * k + j)) = some v) len (fun i hil => by
      obtain ⟨cs, hc, htr⟩ := hi i (by omega)
      obtain ⟨-, hlen, hat⟩ := World.cells?_some hc
      obtain ⟨z, hq, rfl⟩ := hrow cs _ _ htr hlen (fun q hq => hlt q (by
        rw [hx]
        exact List.mem_append_right _ (List.mem_flatMap.2 ⟨i, List.mem_range.2 (by omega), hq⟩)))
      refine ⟨z, hq, fun j v hj => ?_⟩
      have hjk : j < k := by rw [← hlen]; exact (List.getElem?_eq_some_iff.1 hj).1
      have := hat j hjk
      rw [add_add, hj] at this
      exact this)
    refine ⟨l, ?_, fun z hz => ?_⟩
    · by_cases h0 : cap = 0
      · subst h0
        obtain rfl : len = 0 := by omega
        rw [List.length_eq_zero_iff.1 hll]
        exact .inl ⟨rfl, _, rfl⟩
      · obtain ⟨cs, hc, -⟩ := hi 0 (by omega)
        obtain ⟨-, hlen, hat⟩ := World.cells?_some hc
        have h00 := hat 0 hk
        rw [List.getElem?_eq_getElem (by omega)] at h00
        obtain ⟨g, o, spot⟩ := a
        have hspot : spot = none := by simpa [Addr.add] using World.cell?_spot h00
        subst hspot
        refine .inr ⟨g, o, cap, by rw [List.length_map, hll], by rw [List.length_map, hll]; exact hl, hm, hlt (.cell g o) (by rw [hx]; exact List.mem_append_left _ (MemPlace.mem_row.2 ⟨0, Nat.mul_pos (by omega) hk, by simp⟩)), fun j x hj i y hy => ?_⟩
        rw [List.getElem?_map] at hj
        obtain ⟨z, hz, rfl⟩ := Option.map_eq_some_iff.1 hj
        have h9 := (hp j z hz).2 i y hy
        rw [Go.WideShapes.add_plain, ← Nat.add_assoc] at h9
        exact h9
    · obtain ⟨i, hi2⟩ := List.getElem?_of_mem hz
      exact (hp i z hi2).1
end
section
variable {H : Type} {enc : TypeId × Value → H} {W : World}
set_option maxRecDepth 100000 in
theorem row_dl (cs : List Value) (y : DataW H × List MemPlace) (n : Nat) (h : DataW.trod enc Tryd.prog W 0 (fun _ => true) true n 59 cs = some y) (hl : cs.length = 3) (_ : ∀ q ∈ y.2, q.block < W.heap.size) : ∃ z : DL, z.2.1.size ≤ 9223372036854775807 ∧ cs = rowD z := by
  match cs, hl with
  | [c0, c1, c2], _ =>
    obtain ⟨xs, m, -, -, -, hxl, hg⟩ := DataW.trod_struct Tryd.underlying59 h
    match xs, hxl with
    | [x0, x1, x2], _ =>
      have g0 : DataW.trod enc Tryd.prog W 0 (fun _ => true) true m 3 [c0] = some x0 := hg 0 _ rfl
      have g1 : DataW.trod enc Tryd.prog W 0 (fun _ => true) true m 9 [c1] = some x1 := hg 1 _ rfl
      have g2 : DataW.trod enc Tryd.prog W 0 (fun _ => true) true m 4 [c2] = some x2 := hg 2 _ rfl
      obtain ⟨i0, e0, -, -⟩ := DataW.trod_int Tryd.underlying3 g0
      obtain ⟨s, e1, -, hs⟩ := DataW.trod_string Tryd.underlying9 g1
      obtain ⟨b, e2, -⟩ := DataW.trod_bool Tryd.underlying4 g2
      cases e0; cases e1; cases e2
      exact ⟨(i0, s, b), hs, rfl⟩
/-- a hunk that lies in memory -/
def HkQ (W : World) (p : HV) : Prop := RowsAt W p.2 3 (p.1.ls.map rowD) ∧ ∀ x ∈ p.1.ls, x.2.1.size ≤ 9223372036854775807
set_option maxRecDepth 100000 in
theorem row_hk (cs : List Value) (y : DataW H × List MemPlace) (n : Nat) (h : DataW.trod enc Tryd.prog W 0 (fun _ => true) true n 38 cs = some y) (hl : cs.length = 5) (hq : ∀ q ∈ y.2, q.block < W.heap.size) : ∃ z : HV, HkQ W z ∧ cs = rowH z := by
  match cs, hl with
  | [c0, c1, c2, c3, c4], _ =>
    obtain ⟨xs, m, -, hx, -, hxl, hg⟩ := DataW.trod_struct Tryd.underlying38 h
    match xs, hxl with
    | [x0, x1, x2, x3, x4], _ =>
      have g0 : DataW.trod enc Tryd.prog W 0 (fun _ => true) true m 3 [c0] = some x0 := hg 0 _ rfl
      have g1 : DataW.trod enc Tryd.prog W 0 (fun _ => true) true m 3 [c1] = some x1 := hg 1 _ rfl
      have g2 : DataW.trod enc Tryd.prog W 0 (fun _ => true) true m 3 [c2] = some x2 := hg 2 _ rfl
      have g3 : DataW.trod enc Tryd.prog W 0 (fun _ => true) true m 3 [c3] = some x3 := hg 3 _ rfl
      have g4 : DataW.trod enc Tryd.prog W 0 (fun _ => true) true m 36 [c4] = some x4 := hg 4 _ rfl
      obtain ⟨i0, e0, -, -⟩ := DataW.trod_int Tryd.underlying3 g0
      obtain ⟨i1, e1, -, -⟩ := DataW.trod_int Tryd.underlying3 g1
      obtain ⟨i2, e2, -, -⟩ := DataW.trod_int Tryd.underlying3 g2
      obtain ⟨i3, e3, -, -⟩ := DataW.trod_int Tryd.underlying3 g3
      cases e0; cases e1; cases e2; cases e3
      obtain ⟨l, h1, h2⟩ := open_rowsq (w := W) rowD (fun z => z.2.1.size ≤ 9223372036854775807) 3 Tryd.underlying36 (by omega) (by kernel_rfl) g4 (fun q hq2 => hq q (by rw [hx]; simp [hq2])) row_dl
      exact ⟨(⟨i0, i1, i2, i3, l⟩, c4), ⟨h1, h2⟩, rfl⟩
set_option maxRecDepth 100000 in
theorem open_patch {b0 : Nat} {v : Value} {d : DataW H} {p : List MemPlace} (hv : Value.okWide Tryd.prog W .any b0 24 v) (h : DataW.Trod enc Tryd.prog W 0 (fun _ => true) true 24 v d p) (hlt : ∀ x ∈ p, x.block < W.heap.size) :
    ∃ (old new : ByteArray) (u : Value) (L : List HV), v = .agg #[.string old, .string new, u] ∧ HksAt W u L ∧ ∀ q ∈ L, ∀ x ∈ q.1.ls, x.2.1.size ≤ 9223372036854775807 := by
  obtain ⟨v0, v1, v2, y0, y1, y2, n, rfl, -, hp, h0, h1, h2⟩ := own_agg3 Tryd.underlying24 (by kernel_rfl) (by kernel_rfl) hv h
  obtain ⟨s0, e0, -, -⟩ := DataW.trod_string Tryd.underlying9 h0
  obtain ⟨s1, e1, -, -⟩ := DataW.trod_string Tryd.underlying9 h1
  cases e0; cases e1
  obtain ⟨L, hL, hQ⟩ := open_rowsq (w := W) rowH (HkQ W) 5 Tryd.underlying22 (by omega) (by kernel_rfl) h2 (fun q hq => hlt q (by rw [hp]; simp [hq])) row_hk
  exact ⟨s0, s1, v2, L, rfl, ⟨hL, fun q hq => (hQ q hq).1⟩, fun q hq => (hQ q hq).2⟩
end
end Go.Proofs.YtnkpigibjicmaaaDoor
