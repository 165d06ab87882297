/- arguments: files, patches -/
import Derived.Test.YtnkpigibjicmaaaDoorVcg
import Derived.Test.YtnkpigibjicmaaaDoorVcm
namespace Go.Proofs.YtnkpigibjicmaaaDoor
open Go.Joins Go.ChangeShapes Go.WideShapes Go.RowKit Go.Deep Go.Maps
open Pt
section
variable {H : Type} {enc : TypeId × Value → H} {W : World}
set_option maxRecDepth 100000 in
theorem row_named (cs : List Value) (y : DataW H × List MemPlace) (n : Nat) (h : DataW.trod enc Tryd.prog W 0 (fun _ => true) true n 35 cs = some y) (hl : cs.length = 2) (_ : ∀ q ∈ y.2, q.block < W.heap.size) : ∃ z : Nm, z.2.size ≤ 9223372036854775807 ∧ cs = rowN z := by
  match cs, hl with
  | [c0, c1], _ =>
    obtain ⟨xs, m, -, -, -, hxl, hg⟩ := DataW.trod_struct Tryd.underlying35 h
    match xs, hxl with
    | [x0, x1], _ =>
      have g0 : DataW.trod enc Tryd.prog W 0 (fun _ => true) true m 9 [c0] = some x0 := hg 0 _ rfl
      have g1 : DataW.trod enc Tryd.prog W 0 (fun _ => true) true m 9 [c1] = some x1 := hg 1 _ rfl
      obtain ⟨s0, e0, -, -⟩ := DataW.trod_string Tryd.underlying9 g0
      obtain ⟨s1, e1, -, h1⟩ := DataW.trod_string Tryd.underlying9 g1
      cases e0; cases e1
      exact ⟨(s0, s1), h1, rfl⟩
set_option maxRecDepth 100000 in
theorem open_files {b0 : Nat} {v : Value} {d : DataW H} {p : List MemPlace} (hv : Value.okWide Tryd.prog W .any b0 46 v) (h : DataW.Trod enc Tryd.prog W 0 (fun _ => true) true 46 v d p) (hlt : ∀ x ∈ p, x.block < W.heap.size) :
    ∃ L : List Nm, RowsAt W v 2 (L.map rowN) ∧ ∀ x ∈ L, x.2.size ≤ 9223372036854775807 := by
  obtain ⟨a0, len, cap, rfl⟩ := okWide_slice Tryd.underlying46 hv
  obtain ⟨fuel, hf⟩ := h
  exact open_rowsq (w := W) rowN (fun z => z.2.size ≤ 9223372036854775807) 2 Tryd.underlying46 (by omega) (by kernel_rfl) hf hlt row_named
/-- a patch that lies in memory -/
def PvQ (W : World) (p : PV) : Prop := HksAt W p.2 p.1.2.2 ∧ ∀ q ∈ p.1.2.2, ∀ x ∈ q.1.ls, x.2.1.size ≤ 9223372036854775807
set_option maxRecDepth 100000 in
theorem row_patch (cs : List Value) (y : DataW H × List MemPlace) (n : Nat) (h : DataW.trod enc Tryd.prog W 0 (fun _ => true) true n 24 cs = some y) (hl : cs.length = 3) (hq : ∀ q ∈ y.2, q.block < W.heap.size) : ∃ z : PV, PvQ W z ∧ cs = rowP z := by
  match cs, hl with
  | [c0, c1, c2], _ =>
    obtain ⟨xs, m, -, hx, -, hxl, hg⟩ := DataW.trod_struct Tryd.underlying24 h
    match xs, hxl with
    | [x0, x1, x2], _ =>
      have g0 : DataW.trod enc Tryd.prog W 0 (fun _ => true) true m 9 [c0] = some x0 := hg 0 _ rfl
      have g1 : DataW.trod enc Tryd.prog W 0 (fun _ => true) true m 9 [c1] = some x1 := hg 1 _ rfl
      have g2 : DataW.trod enc Tryd.prog W 0 (fun _ => true) true m 22 [c2] = some x2 := hg 2 _ rfl
      obtain ⟨s0, e0, -, -⟩ := DataW.trod_string Tryd.underlying9 g0
      obtain ⟨s1, e1, -, -⟩ := DataW.trod_string Tryd.underlying9 g1
      cases e0; cases e1
      obtain ⟨L, hL, hQ⟩ := open_rowsq (w := W) rowH (HkQ W) 5 Tryd.underlying22 (by omega) (by kernel_rfl) g2 (fun q hq2 => hq q (by rw [hx]; simp [hq2])) row_hk
      exact ⟨((s0, s1, L), c2), ⟨⟨hL, fun q hq => (hQ q hq).1⟩, fun q hq => (hQ q hq).2⟩, rfl⟩
set_option maxRecDepth 100000 in
theorem open_patches {b0 : Nat} {v : Value} {d : DataW H} {p : List MemPlace} (hv : Value.okWide Tryd.prog W .any b0 47 v) (h : DataW.Trod enc Tryd.prog W 0 (fun _ => true) true 47 v d p) (hlt : ∀ x ∈ p, x.block < W.heap.size) :
    ∃ L : List PV, PsAt W v L ∧ ∀ p ∈ L, ∀ q ∈ p.1.2.2, ∀ x ∈ q.1.ls, x.2.1.size ≤ 9223372036854775807 := by
  obtain ⟨a0, len, cap, rfl⟩ := okWide_slice Tryd.underlying47 hv
  obtain ⟨fuel, hf⟩ := h
  obtain ⟨L, hL, hQ⟩ := open_rowsq (w := W) rowP (PvQ W) 3 Tryd.underlying47 (by omega) (by kernel_rfl) hf hlt row_patch
  exact ⟨L, ⟨hL, fun q hq => (hQ q hq).1⟩, fun q hq => (hQ q hq).2⟩
end
end Go.Proofs.YtnkpigibjicmaaaDoor
