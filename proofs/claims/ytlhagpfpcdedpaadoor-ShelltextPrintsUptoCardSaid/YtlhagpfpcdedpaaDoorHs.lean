/- walks: the examples of the chapter -/
import Derived.Test.YtlhagpfpcdedpaaDoorHt
import Derived.Test.YtlhagpfpcdedpaaDoorHn
import Derived.Test.YtlhagpfpcdedpaaDoorHo
namespace Go.Proofs.YtlhagpfpcdedpaaDoor
open Go.RowKit
open Shp
abbrev awL : List Pl := [⟨[⟨[97], [[98, 32, 99]], [(2, [100])], 0⟩], false, 1⟩, ⟨[⟨[101], [], [], 17⟩, ⟨[102], [], [], 21⟩], true, 2⟩]
/-- the cells of the example -/
structure AwC (v : Value) (w : World) (g o cap g0 o0 c0 g1 o1 c1 ga oa ca gr or cr : Nat) (va1 vr1 va2 vr2 : Value) : Prop where
  v : v = .slice (some ⟨g, o, none⟩) 2 cap
  lim : 2 ≤ cap ∧ cap ≤ maxLen ∧ 1 ≤ c0 ∧ c0 ≤ maxLen ∧ 2 ≤ c1 ∧ c1 ≤ maxLen ∧ 1 ≤ ca ∧ ca ≤ maxLen ∧ 1 ≤ cr ∧ cr ≤ maxLen
  p0 : w.cell? ⟨g, o, none⟩ = some (.slice (some ⟨g0, o0, none⟩) 1 c0)
  p3 : w.cell? ⟨g, o + 3, none⟩ = some (.slice (some ⟨g1, o1, none⟩) 2 c1)
  p4 : w.cell? ⟨g, o + 3 + 1, none⟩ = some (.bool true)
  p5 : w.cell? ⟨g, o + 3 + 2, none⟩ = some (.int .i64 2)
  q0 : w.cell? ⟨g0, o0, none⟩ = some (.string ⟨#[97]⟩)
  q1 : w.cell? ⟨g0, o0 + 1, none⟩ = some (.slice (some ⟨ga, oa, none⟩) 1 ca)
  q2 : w.cell? ⟨g0, o0 + 2, none⟩ = some (.slice (some ⟨gr, or, none⟩) 1 cr)
  q3 : w.cell? ⟨g0, o0 + 3, none⟩ = some (.int .i64 0)
  a0 : w.cell? ⟨ga, oa, none⟩ = some (.string ⟨#[98, 32, 99]⟩)
  z0 : w.cell? ⟨g1, o1, none⟩ = some (.string ⟨#[101]⟩)
  z1 : w.cell? ⟨g1, o1 + 1, none⟩ = some va1
  z2 : w.cell? ⟨g1, o1 + 2, none⟩ = some vr1
  z3 : w.cell? ⟨g1, o1 + 3, none⟩ = some (.int .i64 17)
  z4 : w.cell? ⟨g1, o1 + 4, none⟩ = some (.string ⟨#[102]⟩)
  z5 : w.cell? ⟨g1, o1 + 4 + 1, none⟩ = some va2
  z6 : w.cell? ⟨g1, o1 + 4 + 2, none⟩ = some vr2
  z7 : w.cell? ⟨g1, o1 + 4 + 3, none⟩ = some (.int .i64 21)
  lt : g < w.heap.size ∧ g0 < w.heap.size ∧ g1 < w.heap.size ∧ ga < w.heap.size
theorem awC {v : Value} {w : World} (h : PlsD w v awL) : ∃ g o cap g0 o0 c0 g1 o1 c1 ga oa ca gr or cr va1 vr1 va2 vr2, AwC v w g o cap g0 o0 c0 g1 o1 c1 ga oa ca gr or cr va1 vr1 va2 vr2 := by
  obtain ⟨g, o, cap, e, l1, l2, lg, hc⟩ := h.get (by simp)
  obtain ⟨r0, ⟨vc0, rfl, hD0⟩, h0⟩ := hc 0 _ rfl
  obtain ⟨r1, ⟨vc1, rfl, hD1⟩, h1⟩ := hc 1 _ rfl
  obtain ⟨g0, o0, c0, rfl, l3, l4, lg0, hc0⟩ := hD0.get (by simp)
  obtain ⟨g1, o1, c1, rfl, l5, l6, lg1, hc1⟩ := hD1.get (by simp)
  obtain ⟨r2, ⟨va, vr, rfl, ha, hr⟩, h2⟩ := hc0 0 _ rfl
  obtain ⟨r3, ⟨va1, vr1, rfl, -, -⟩, h3⟩ := hc1 0 _ rfl
  obtain ⟨r4, ⟨va2, vr2, rfl, -, -⟩, h4⟩ := hc1 1 _ rfl
  obtain ⟨ga, oa, ca, rfl, l7, l8, lga, ca0⟩ := ha.cons (by simp)
  obtain ⟨gr, or, cr, rfl, l9, l10, lgr, cr0⟩ := hr.cons (by simp)
  exact ⟨g, o, cap, g0, o0, c0, g1, o1, c1, ga, oa, ca, gr, or, cr, va1, vr1, va2, vr2, e, ⟨l1, l2, l3, l4, l5, l6, l7, l8, l9, l10⟩, h0 0 _ rfl, h1 0 _ rfl, h1 1 _ rfl, h1 2 _ rfl, h2 0 _ rfl, h2 1 _ rfl, h2 2 _ rfl, h2 3 _ rfl, ca0 0 _ rfl 0 _ rfl, h3 0 _ rfl, h3 1 _ rfl, h3 2 _ rfl, h3 3 _ rfl, h4 0 _ rfl, h4 1 _ rfl, h4 2 _ rfl, h4 3 _ rfl, ⟨lg, lg0, lg1, lga⟩⟩
theorem AwC.below {v : Value} {w w' : World} {g o cap g0 o0 c0 g1 o1 c1 ga oa ca gr or cr : Nat} {va1 vr1 va2 vr2 : Value} (h : AwC v w g o cap g0 o0 c0 g1 o1 c1 ga oa ca gr or cr va1 vr1 va2 vr2) (hb : Below w.heap.size w w') : AwC v w' g o cap g0 o0 c0 g1 o1 c1 ga oa ca gr or cr va1 vr1 va2 vr2 := by
  obtain ⟨i1, i2, i3, i4⟩ := h.lt
  have e := hb.size
  exact ⟨h.v, h.lim, (hb.cell (p := ⟨g, _, none⟩) i1).trans h.p0, (hb.cell (p := ⟨g, _, none⟩) i1).trans h.p3, (hb.cell (p := ⟨g, _, none⟩) i1).trans h.p4, (hb.cell (p := ⟨g, _, none⟩) i1).trans h.p5, (hb.cell (p := ⟨g0, _, none⟩) i2).trans h.q0, (hb.cell (p := ⟨g0, _, none⟩) i2).trans h.q1, (hb.cell (p := ⟨g0, _, none⟩) i2).trans h.q2, (hb.cell (p := ⟨g0, _, none⟩) i2).trans h.q3, (hb.cell (p := ⟨ga, _, none⟩) i4).trans h.a0, (hb.cell (p := ⟨g1, _, none⟩) i3).trans h.z0, (hb.cell (p := ⟨g1, _, none⟩) i3).trans h.z1, (hb.cell (p := ⟨g1, _, none⟩) i3).trans h.z2, (hb.cell (p := ⟨g1, _, none⟩) i3).trans h.z3, (hb.cell (p := ⟨g1, _, none⟩) i3).trans h.z4, (hb.cell (p := ⟨g1, _, none⟩) i3).trans h.z5, (hb.cell (p := ⟨g1, _, none⟩) i3).trans h.z6, (hb.cell (p := ⟨g1, _, none⟩) i3).trans h.z7, ⟨by omega, by omega, by omega, by omega⟩⟩
theorem cell_lt {w : World} {b i : Nat} {v : Value} (h : w.cell? ⟨b, i, none⟩ = some v) : b < w.heap.size := by
  refine Decidable.byContradiction fun hn => ?_
  simp [World.cell?, Array.getElem?_eq_none (Nat.le_of_not_lt hn)] at h
set_option maxRecDepth 100000 in
set_option maxHeartbeats 4000000 in
theorem awake_any (m : Int) (w : World) (hm : w.cell? ⟨0, 0, none⟩ = some (.int .i64 m)) :
    Calls Tryd.prog 12 #[] w fun e w' => e = .returned (.bool true) ∧ Hid (Below w.heap.size w w') := by
  have PA : Hid (paR ⟨#[97, 32, 39, 98, 32, 99, 39, 32, 62, 32, 100, 32, 38, 38, 32, 33, 32, 101, 32, 124, 32, 102]⟩ = (awL, 0, 0)) := Lib.hid awA_is
  have PB : Hid (paR ⟨#[97, 32, 124, 32, 124, 32, 98]⟩ = ([], 1, 4)) := Lib.hid awB_is
  have HM := Lib.hid hm
  clear hm
  go_enter Tryd.func12, Tryd.ntmps12
  go_wp2_with (first | (go_at_call 9; with_reducible refine (parse_is _ _ PA).mono ?_; rintro e w1 ⟨v1, rfl, D1, B1⟩; obtain ⟨g, o, cap, g0, o0, c0, g1, o1, c1, ga, oa, ca, gr, or, cr, va1, vr1, va2, vr2, C1⟩ := awC D1.out; obtain rfl := C1.v; obtain ⟨l1, l2, l3, l4, l5, l6, l7, l8, l9, l10⟩ := C1.lim; have C1 := Lib.hid C1; have B1a := Lib.hid (((Below.refl w1.heap.size w1).alloc (Nat.le_refl _) (.cells #[.slice (some ⟨g, o, none⟩) 2 cap] 24)))))
  go_at_call 9
  with_reducible refine (parse_is _ _ PB).mono ?_
  rintro e w2 ⟨v2, rfl, D2, B2⟩
  obtain ⟨a2, cap2, rfl, l11, l12⟩ := D2.out.slice
  have B3 := Lib.hid (B1a.out.trans (B2.out.mono (by simp)))
  have B4 := Lib.hid (B3.out.alloc B3.out.size (.cells #[.slice a2 0 cap2] 24))
  have C2 := Lib.hid (C1.out.below B4.out)
  have p0 := C2.out.p0
  have p3 := C2.out.p3
  have p4 := C2.out.p4
  have p5 := C2.out.p5
  have q0 := C2.out.q0
  have q1 := C2.out.q1
  have q2 := C2.out.q2
  have q3 := C2.out.q3
  have a0 := C2.out.a0
  have z4 := C2.out.z4
  have z5 := C2.out.z5
  have z6 := C2.out.z6
  have z7 := C2.out.z7
  have B5 := Lib.hid (B4.out.alloc (by have := B3.out.size; simp; omega) (.cells #[.string ⟨#[97]⟩, .slice (some ⟨ga, oa, none⟩) 1 ca, .slice (some ⟨gr, or, none⟩) 1 cr, .int .i64 0] 40))
  have C3 := Lib.hid (C1.out.below B5.out)
  have p0' := C3.out.p0
  have p3' := C3.out.p3
  have p4' := C3.out.p4
  have p5' := C3.out.p5
  have q0' := C3.out.q0
  have q1' := C3.out.q1
  have q2' := C3.out.q2
  have q3' := C3.out.q3
  have a0' := C3.out.a0
  have z4' := C3.out.z4
  have z5' := C3.out.z5
  have z6' := C3.out.z6
  have z7' := C3.out.z7
  have s1 : w2.cell? ⟨w1.heap.size, 0, none⟩ = some (.slice (some ⟨g, o, none⟩) 2 cap) := (B2.out.cell (p := ⟨w1.heap.size, 0, none⟩) (by simp)).trans (blk_cell (heap_alloc_new w1 (.cells #[.slice (some ⟨g, o, none⟩) 2 cap] 24)) 0)
  have s2 := (((Below.refl w2.heap.size w2).alloc (Nat.le_refl _) (.cells #[.slice a2 0 cap2] 24)).cell (p := ⟨w1.heap.size, 0, none⟩) (by have := B2.out.size; simp at this; show w1.heap.size < _; omega)).trans s1
  have s3 := (((Below.refl w2.heap.size w2).alloc (Nat.le_refl _) (.cells #[.slice a2 0 cap2] 24)).alloc (by simp) (.cells #[.string ⟨#[97]⟩, .slice (some ⟨ga, oa, none⟩) 1 ca, .slice (some ⟨gr, or, none⟩) 1 cr, .int .i64 0] 40)).cell (p := ⟨w1.heap.size, 0, none⟩) (by have := B2.out.size; simp at this; show w1.heap.size < _; omega) |>.trans s1
  have QE : Hid (quoteL (ByteArray.mk #[]).data.toList = [39, 39]) := Lib.hid (by decide)
  go_wp2_with (go_at_call 13; refine (quote_any ⟨#[]⟩ m _ (((B1.out.trans (B5.out.mono B1.out.size)).cell (p := ⟨0, 0, none⟩) (cell_lt HM.out)).trans HM.out) (by decide)).mono ?_; rw [QE.out]; rintro e w4 ⟨rfl, B6⟩)
  go_ret
  exact ⟨rfl, Lib.hid ((B1.out.trans (B5.out.mono B1.out.size)).trans (B6.out.mono (B1.out.trans (B5.out.mono B1.out.size)).size))⟩
end Go.Proofs.YtlhagpfpcdedpaaDoor
