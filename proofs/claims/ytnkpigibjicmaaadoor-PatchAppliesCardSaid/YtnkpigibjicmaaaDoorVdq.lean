/- arguments: the options of a difference -/
import Derived.Test.YtnkpigibjicmaaaDoorVcg
namespace Go.Proofs.YtnkpigibjicmaaaDoor
open Go.Joins Go.ChangeShapes Go.WideShapes Go.RowKit Go.Deep Go.Maps
section
variable {H : Type} {enc : TypeId × Value → H} {W : World}
set_option maxRecDepth 100000 in
theorem open_opts {b0 : Nat} {v : Value} {d : DataW H} {p : List MemPlace} (hv : Value.okWide Tryd.prog W .any b0 56 v) (h : DataW.Trod enc Tryd.prog W 0 (fun _ => true) true 56 v d p) (_ : ∀ x ∈ p, x.block < W.heap.size) :
    ∃ (c f : Int), v = .agg #[.int .i64 c, .int .i64 f] := by
  obtain ⟨cs, rfl, hsz⟩ := okWide_struct Tryd.underlying56 hv
  obtain ⟨l⟩ := cs
  have hC : Tryd.prog.cellsOf 56 = 2 := by kernel_rfl
  match l, hsz.trans hC with
  | [c0, c1], _ =>
    obtain ⟨fuel, hf⟩ := h
    obtain ⟨xs, n, _, -, _, hlen, hg⟩ := DataW.trod_struct Tryd.underlying56 hf
    match xs, hlen with
    | [x0, x1], _ =>
      have g0 : DataW.trod enc Tryd.prog W 0 (fun _ => true) true n 3 [c0] = some x0 := hg 0 _ rfl
      have g1 : DataW.trod enc Tryd.prog W 0 (fun _ => true) true n 3 [c1] = some x1 := hg 1 _ rfl
      obtain ⟨i0, e0, -, -⟩ := DataW.trod_int Tryd.underlying3 g0
      obtain ⟨i1, e1, -, -⟩ := DataW.trod_int Tryd.underlying3 g1
      cases e0; cases e1
      exact ⟨i0, i1, rfl⟩
end
end Go.Proofs.YtnkpigibjicmaaaDoor
