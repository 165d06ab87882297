/- walks: the reference's comparison of pipelines (written by gen_hu.py) -/
import Derived.Test.YtlhagpfpcdedpaaDoorHt
import Derived.Deep.CutBlock
namespace Go.Proofs.YtlhagpfpcdedpaaDoor
open Go.RowKit
open Shp
/-- are two commands alike, the second one being moved? -/
def sameC (d : Int) (off : Bool) (a b : Cm) : Bool :=
  decide (a.name = b.name) && decide (a.args.length = b.args.length) && decide (a.red.length = b.red.length) && (!off || decide (IntKind.i64.wrap (a.at_ + d) = b.at_)) && decide (a.args = b.args) && decide (a.red = b.red)
def samePl (d : Int) (off : Bool) (a b : Pl) : Bool :=
  decide (a.no = b.no) && decide (a.conn = b.conn) && decide (a.cmds.length = b.cmds.length) && (a.cmds.zip b.cmds).all fun p => sameC d off p.1 p.2
def sameL (d : Int) (off : Bool) (a b : List Pl) : Bool := decide (a.length = b.length) && (a.zip b).all fun p => samePl d off p.1 p.2
theorem take_more {α : Type} {l m : List α} {k : Nat} (h : l.take k = m.take k) {x y : α} (hx : l[k]? = some x) (hy : m[k]? = some y) (e : x = y) : l.take (k + 1) = m.take (k + 1) := by
  rw [List.take_add_one, List.take_add_one, h, hx, hy, e]
abbrev argR (c : Cm) : List (List Value) := c.args.map fun a => [.string ⟨a.toArray⟩]
abbrev redR (c : Cm) : List (List Value) := c.red.map fun r => [.int .i64 r.1, .string ⟨r.2.toArray⟩]
/-- the two boxes -/
structure BX (g : Nat) (u v : ByteArray) (x1 x2 y1 y2 : Value) (z1 z2 : Int) (w : World) : Prop where
  a : w.heap[g]? = some (.cells #[.string u, x1, x2, .int .i64 z1] 40 (0, 0))
  b : w.heap[g + 1]? = some (.cells #[.string v, y1, y2, .int .i64 z2] 40 (0, 0))
theorem BX.cells {g : Nat} {u v : ByteArray} {x1 x2 y1 y2 : Value} {z1 z2 : Int} {w : World} (h : BX g u v x1 x2 y1 y2 z1 z2 w) :
    w.cell? ⟨g, 0, none⟩ = some (.string u) ∧ w.cell? ⟨g, 1, none⟩ = some x1 ∧ w.cell? ⟨g, 2, none⟩ = some x2 ∧ w.cell? ⟨g, 3, none⟩ = some (.int .i64 z1) ∧
    w.cell? ⟨g + 1, 0, none⟩ = some (.string v) ∧ w.cell? ⟨g + 1, 1, none⟩ = some y1 ∧ w.cell? ⟨g + 1, 2, none⟩ = some y2 ∧ w.cell? ⟨g + 1, 3, none⟩ = some (.int .i64 z2) :=
  ⟨blk_cell h.a 0, blk_cell h.a 1, blk_cell h.a 2, blk_cell h.a 3, blk_cell h.b 0, blk_cell h.b 1, blk_cell h.b 2, blk_cell h.b 3⟩
theorem BX.new (u v : ByteArray) (x1 x2 y1 y2 : Value) (z1 z2 : Int) (w : World) : BX w.heap.size u v x1 x2 y1 y2 z1 z2 ((w.alloc (.cells #[.string u, x1, x2, .int .i64 z1] 40)).alloc (.cells #[.string v, y1, y2, .int .i64 z2] 40)) := by
  have h := heap_alloc_new (w.alloc (.cells #[.string u, x1, x2, .int .i64 z1] 40)) (.cells #[.string v, y1, y2, .int .i64 z2] 40)
  rw [show (w.alloc (.cells #[.string u, x1, x2, .int .i64 z1] 40)).heap.size = w.heap.size + 1 by simp] at h
  exact ⟨(heap_alloc_old _ _ (by simp)).trans (heap_alloc_new w _), h⟩
theorem BX.same {g : Nat} {u v : ByteArray} {x1 x2 y1 y2 : Value} {z1 z2 : Int} {w w' : World} (h : BX g u v x1 x2 y1 y2 z1 z2 w) (e : SameW w w') : BX g u v x1 x2 y1 y2 z1 z2 w' := ⟨by rw [e.1]; exact h.a, by rw [e.1]; exact h.b⟩
theorem SameW.cell {w w' : World} (e : SameW w w') (p : Addr) : w'.cell? p = w.cell? p := by simp only [World.cell?, e.1]
theorem SameW.bel {w w' : World} (e : SameW w w') : Below w.heap.size w w' := ⟨e.2.1, e.2.2.1, e.2.2.2, by rw [e.1]; exact Nat.le_refl _, fun _ _ => by rw [e.1]⟩
set_option maxRecDepth 100000 in
set_option maxHeartbeats 4000000 in
theorem same_command (c d : Cm) (u v : ByteArray) (n1 n2 n3 n4 : Nat) (z1 z2 : Int) (p1 p2 q1 q2 : Option Addr) (k1 k2 j1 j2 : Nat) (dl : Int) (off : Bool) (w : World)
    (E : Hid (u.data.toList = c.name ∧ v.data.toList = d.name ∧ c.args.length = n1 ∧ c.red.length = n2 ∧ d.args.length = n3 ∧ d.red.length = n4 ∧ c.at_ = z1 ∧ d.at_ = z2))
    (H1 : Hid (RowsAt w (.slice p1 n1 k1) 1 (argR c))) (H2 : Hid (RowsAt w (.slice p2 n2 k2) 2 (redR c))) (H3 : Hid (RowsAt w (.slice q1 n3 j1) 1 (argR d))) (H4 : Hid (RowsAt w (.slice q2 n4 j2) 2 (redR d))) {r : Bool} (hr : Hid (sameC dl off c d = r)) :
    Calls Tryd.prog 30 #[.agg #[.string u, .slice p1 n1 k1, .slice p2 n2 k2, .int .i64 z1], .agg #[.string v, .slice q1 n3 j1, .slice q2 n4 j2, .int .i64 z2], .int .i64 dl, .bool off] w fun e w' => e = .returned (.bool r) ∧ Hid (Below w.heap.size w w') := by
  have N1 : n1 ≤ 9223372036854775807 := by have := H1.out.len; rw [List.length_map, E.out.2.2.1] at this; exact this
  have N2 : n2 ≤ 9223372036854775807 := by have := H2.out.len; rw [List.length_map, E.out.2.2.2.1] at this; exact this
  have N3 : n3 ≤ 9223372036854775807 := by have := H3.out.len; rw [List.length_map, E.out.2.2.2.2.1] at this; exact this
  have N4 : n4 ≤ 9223372036854775807 := by have := H4.out.len; rw [List.length_map, E.out.2.2.2.2.2.1] at this; exact this
  have X0 := Lib.hid (BX.new u v (.slice p1 n1 k1) (.slice p2 n2 k2) (.slice q1 n3 j1) (.slice q2 n4 j2) z1 z2 w)
  have B0 := Lib.hid (((Below.refl w.heap.size w).alloc (Nat.le_refl _) (.cells #[.string u, .slice p1 n1 k1, .slice p2 n2 k2, .int .i64 z1] 40)).alloc (by simp) (.cells #[.string v, .slice q1 n3 j1, .slice q2 n4 j2, .int .i64 z2] 40))
  obtain ⟨t1, ht1⟩ : ∃ t, (u.toList == v.toList) = t := ⟨_, rfl⟩
  obtain ⟨t4, ht4⟩ : ∃ t, (IntKind.i64.wrap (z1 + dl) == z2) = t := ⟨_, rfl⟩
  have S1 : Hid (r = (t1 && decide (n1 = n3) && decide (n2 = n4) && (!off || t4) && decide (c.args = d.args) && decide (c.red = d.red))) := Lib.hid (by
    obtain ⟨e1, e2, e3, e4, e5, e6, e7, e8⟩ := E.out
    rw [← hr.out, ← ht1, ← ht4, Lib.toList_data, Lib.toList_data, e1, e2]
    unfold sameC
    rw [e3, e4, e5, e6, e7, e8]
    congr 5
    rw [Bool.eq_iff_iff, decide_eq_true_eq, beq_iff_eq])
  obtain ⟨d0, d1, d2, d3, f0, f1, f2, f3⟩ := X0.out.cells
  go_enter Tryd.func30, Tryd.ntmps30
  go_upto_region 1 with (fail)
  go_cut [49] from 11 (fun x w' => x = .bool (!(t1 && decide (n1 = n3) && decide (n2 = n4) && (!off || t4))) ∧ Hid (SameW ((w.alloc (.cells #[.string u, .slice p1 n1 k1, .slice p2 n2 k2, .int .i64 z1] 40)).alloc (.cells #[.string v, .slice q1 n3 j1, .slice q2 n4 j2, .int .i64 z2] 40)) w'))
  · have SR : SameW ((w.alloc (.cells #[.string u, .slice p1 n1 k1, .slice p2 n2 k2, .int .i64 z1] 40)).alloc (.cells #[.string v, .slice q1 n3 j1, .slice q2 n4 j2, .int .i64 z2] 40)) ((w.alloc (.cells #[.string u, .slice p1 n1 k1, .slice p2 n2 k2, .int .i64 z1] 40)).alloc (.cells #[.string v, .slice q1 n3 j1, .slice q2 n4 j2, .int .i64 z2] 40)) := ⟨rfl, rfl, rfl, rfl⟩
    have SR := Lib.hid SR
    clear S1
    cases t1 with
    | false =>
      clear ht4
      go_wp2_with fail
      go_meet
      case rel => exact ⟨by simp, SR⟩
    | true =>
      by_cases e1 : n1 = n3
      · subst e1
        by_cases e2 : n2 = n4
        · subst e2
          cases off with
          | false =>
            clear ht4
            go_wp2_with fail
            go_meet
            case rel => exact ⟨by simp, SR⟩
          | true =>
            have ht5 : (wrap64 (z1 + dl) == z2) = t4 := by rw [← ht4, IntWalk.i64_left]
            go_wp2_with fail
            go_meet
            case rel => exact ⟨by simp [bne, ht5], SR⟩
        · have e4 : Hid (decide (n2 = n4) = false) := Lib.hid (decide_eq_false e2)
          clear ht4
          go_wp2_with fail
          go_meet
          case rel => exact ⟨by simp [e4.out], SR⟩
      · have e4 : Hid (decide (n1 = n3) = false) := Lib.hid (decide_eq_false e1)
        clear ht4
        go_wp2_with fail
        go_meet
        case rel => exact ⟨by simp [e4.out], SR⟩
  obtain ⟨rfl, S0⟩ := hcut
  have XC := Lib.hid (X0.out.same S0.out)
  have BC := Lib.hid (B0.out.trans (S0.out.bel.mono (by simp; omega)))
  clear d0 d1 d2 d3 f0 f1 f2 f3 X0 B0 S0 ht1 ht4
  refine ‹∀ (a : Act) (w : World), Code.wp _ _ _ a w → _› _ _ ?_
  obtain ⟨hd, hhd⟩ : ∃ hd, (t1 && decide (n1 = n3) && decide (n2 = n4) && (!off || t4)) = hd := ⟨_, rfl⟩
  rw [hhd] at S1 ⊢
  cases hd with
  | false =>
    obtain rfl : r = false := by rw [S1.out]; simp
    clear hhd
    rw [show (!false) = true from rfl]
    go_wp2_with fail
    go_ret
    exact ⟨rfl, BC⟩
  | true =>
    simp only [Bool.and_eq_true, decide_eq_true_eq] at hhd
    obtain ⟨⟨⟨-, rfl⟩, rfl⟩, -⟩ := hhd
    have S2 : Hid (r = (decide (c.args = d.args) && decide (c.red = d.red))) := Lib.hid (by rw [S1.out]; simp)
    clear S1 hr
    rw [show (!true) = false from rfl]
    obtain ⟨d0, d1, d2, d3, f0, f1, f2, f3⟩ := XC.out.cells
    have A1 := Lib.hid (H1.out.below BC.out)
    have A2 := Lib.hid (H2.out.below BC.out)
    have A3 := Lib.hid (H3.out.below BC.out)
    have A4 := Lib.hid (H4.out.below BC.out)
    have LE : Hid (c.args.length = n1 ∧ d.args.length = n1 ∧ c.red.length = n2 ∧ d.red.length = n2) := Lib.hid ⟨E.out.2.2.1, E.out.2.2.2.2.1, E.out.2.2.2.1, E.out.2.2.2.2.2.1⟩
    clear H1 H2 H3 H4 E
    go_wp2_with fail
    go_loopw [9] (fun i wr => ∃ k : Nat, k ≤ n1 ∧ i = .int .i64 k ∧ Hid (c.args.take k = d.args.take k) ∧ Hid (SameW wc wr)) (fun i _ => n1 - (intOf i).toNat)
    case atStart => exact ⟨0, Nat.zero_le _, rfl, Lib.hid rfl, Lib.hid ⟨rfl, rfl, rfl, rfl⟩⟩
    case round =>
      obtain ⟨k, hk, rfl, TK, SK⟩ := hrel
      clear d0 d1 d2 d3 f0 f1 f2 f3
      obtain ⟨d0, d1, d2, d3, f0, f1, f2, f3⟩ := (XC.out.same SK.out).cells
      by_cases hlt : k < n1
      · obtain ⟨g, o, cap, e1, m1, m2, -, hc1⟩ := A1.out.cons (by intro h; have := congrArg List.length h; rw [List.length_map, LE.out.1] at this; simp at this; omega)
        obtain ⟨g', o', cap', e2, m3, m4, -, hc2⟩ := A3.out.cons (by intro h; have := congrArg List.length h; rw [List.length_map, LE.out.2.1] at this; simp at this; omega)
        obtain ⟨x, hx⟩ : ∃ x, c.args[k]? = some x := ⟨_, List.getElem?_eq_getElem (by rw [LE.out.1]; exact hlt)⟩
        obtain ⟨y, hy⟩ : ∃ y, d.args[k]? = some y := ⟨_, List.getElem?_eq_getElem (by rw [LE.out.2.1]; exact hlt)⟩
        have b1 : wr.cell? ⟨g, o + k, none⟩ = some (.string ⟨x.toArray⟩) := (SK.out.cell _).trans (by have := hc1 k _ (by rw [List.getElem?_map, hx]; rfl) 0 _ rfl; simpa using this)
        have b2 : wr.cell? ⟨g', o' + k, none⟩ = some (.string ⟨y.toArray⟩) := (SK.out.cell _).trans (by have := hc2 k _ (by rw [List.getElem?_map, hy]; rfl) 0 _ rfl; simpa using this)
        injection e1 with e11 e12 e13
        injection e2 with e21 e22 e23
        subst e11 e21
        obtain ⟨us, hus⟩ : ∃ us, ByteArray.mk x.toArray = us := ⟨_, rfl⟩
        obtain ⟨vs, hvs⟩ : ∃ vs, ByteArray.mk y.toArray = vs := ⟨_, rfl⟩
        obtain ⟨tt, htt⟩ : ∃ tt, (us.toList == vs.toList) = tt := ⟨_, rfl⟩
        have EQ : Hid (tt = true ↔ x = y) := Lib.hid (by
          rw [← htt, ← hus, ← hvs, Lib.toList_data, Lib.toList_data, beq_iff_eq])
        rw [hus] at b1
        rw [hvs] at b2
        have HX := Lib.hid hx
        have HY := Lib.hid hy
        clear e12 e13 e22 e23 hc1 hc2 hx hy hus hvs m1 m2 m3 m4
        cases tt with
        | true =>
          go_wp2_with fail
          repeat (go_region; go_wp2_with fail)
          go_roundw
          case rel => exact ⟨k + 1, by omega, by go_num, Lib.hid (take_more TK.out HX.out HY.out (EQ.out.1 (by trivial))), Lib.hid (same_trans SK.out ⟨rfl, rfl, rfl, rfl⟩)⟩
          case measure => simp [intOf]; omega
        | false =>
          have RF : r = false := by
            rw [S2.out, decide_eq_false, Bool.false_and]
            intro h
            have := EQ.out.2 (by have h1 := HX.out; rw [h, HY.out] at h1; exact (Option.some.inj h1).symm)
            cases this
          subst RF
          go_wp2_with fail
          repeat (go_region; go_wp2_with fail)
          go_ret
          refine ⟨rfl, Lib.hid (BC.out.trans (Below.mono (SameW.bel (same_trans SK.out ?_)) BC.out.size))⟩
          exact ⟨rfl, rfl, rfl, rfl⟩
      · have S3 : Hid (r = decide (c.red = d.red)) := Lib.hid (by
          have e : c.args = d.args := by
            have := TK.out
            rw [List.take_of_length_le (by rw [LE.out.1]; omega), List.take_of_length_le (by rw [LE.out.2.1]; omega)] at this
            exact this
          rw [S2.out, decide_eq_true e, Bool.true_and])
        clear S2 TK
        go_wp2_with fail
        go_loopw [10] (fun i wx => ∃ k : Nat, k ≤ n2 ∧ i = .int .i64 k ∧ Hid (c.red.take k = d.red.take k) ∧ Hid (SameW wc wx)) (fun i _ => n2 - (intOf i).toNat)
        case atStart => exact ⟨0, Nat.zero_le _, rfl, Lib.hid rfl, SK⟩
        case round =>
          clear hlt hk
          obtain ⟨k2', hk, rfl, TK, SX⟩ := hrel
          clear d0 d1 d2 d3 f0 f1 f2 f3
          obtain ⟨d0, d1, d2, d3, f0, f1, f2, f3⟩ := (XC.out.same SX.out).cells
          by_cases hlt : k2' < n2
          · obtain ⟨g, o, cap, e1, m1, m2, -, hc1⟩ := A2.out.cons (by intro h; have := congrArg List.length h; rw [List.length_map, LE.out.2.2.1] at this; simp at this; omega)
            obtain ⟨g', o', cap', e2, m3, m4, -, hc2⟩ := A4.out.cons (by intro h; have := congrArg List.length h; rw [List.length_map, LE.out.2.2.2] at this; simp at this; omega)
            obtain ⟨⟨x0, x⟩, hx⟩ : ∃ x, c.red[k2']? = some x := ⟨_, List.getElem?_eq_getElem (by rw [LE.out.2.2.1]; exact hlt)⟩
            obtain ⟨⟨y0, y⟩, hy⟩ : ∃ y, d.red[k2']? = some y := ⟨_, List.getElem?_eq_getElem (by rw [LE.out.2.2.2]; exact hlt)⟩
            have b1 : _ = some (Value.int .i64 x0) := (SX.out.cell _).trans (hc1 k2' _ (by rw [List.getElem?_map, hx]; rfl) 0 _ rfl)
            have b2 : _ = some (Value.string ⟨x.toArray⟩) := (SX.out.cell _).trans (hc1 k2' _ (by rw [List.getElem?_map, hx]; rfl) 1 _ rfl)
            have b3 : _ = some (Value.int .i64 y0) := (SX.out.cell _).trans (hc2 k2' _ (by rw [List.getElem?_map, hy]; rfl) 0 _ rfl)
            have b4 : _ = some (Value.string ⟨y.toArray⟩) := (SX.out.cell _).trans (hc2 k2' _ (by rw [List.getElem?_map, hy]; rfl) 1 _ rfl)
            rw [Nat.add_zero] at b1 b3
            injection e1 with e11 e12 e13
            injection e2 with e21 e22 e23
            subst e11 e21
            obtain ⟨us, hus⟩ : ∃ us, ByteArray.mk x.toArray = us := ⟨_, rfl⟩
            obtain ⟨vs, hvs⟩ : ∃ vs, ByteArray.mk y.toArray = vs := ⟨_, rfl⟩
            rw [hus] at b2
            rw [hvs] at b4
            obtain ⟨tt, htt⟩ : ∃ tt, (us.toList == vs.toList) = tt := ⟨_, rfl⟩
            obtain ⟨t0, ht0⟩ : ∃ t0, (x0 == y0) = t0 := ⟨_, rfl⟩
            have EQ : Hid ((t0 && tt) = true ↔ (x0, x) = (y0, y)) := Lib.hid (by
              rw [← htt, ← hus, ← hvs, ← ht0, Lib.toList_data, Lib.toList_data, Bool.and_eq_true, beq_iff_eq, beq_iff_eq, Prod.mk.injEq])
            have HX := Lib.hid hx
            have HY := Lib.hid hy
            clear e12 e13 e22 e23 hc1 hc2 hx hy hus hvs m1 m2 m3 m4
            cases t0 with
            | false =>
              clear htt
              have RF : r = false := by
                rw [S3.out]
                refine decide_eq_false fun h => ?_
                have := EQ.out.2 (by have h1 := HX.out; rw [h, HY.out] at h1; exact (Option.some.inj h1).symm)
                cases this
              subst RF
              go_wp2_with fail
              repeat (go_region; go_wp2_with fail)
              go_ret
              refine ⟨rfl, Lib.hid (BC.out.trans (Below.mono (SameW.bel (same_trans SX.out ?_)) BC.out.size))⟩
              exact ⟨rfl, rfl, rfl, rfl⟩
            | true =>
              cases tt with
              | false =>
                have RF : r = false := by
                  rw [S3.out]
                  refine decide_eq_false fun h => ?_
                  have := EQ.out.2 (by have h1 := HX.out; rw [h, HY.out] at h1; exact (Option.some.inj h1).symm)
                  cases this
                subst RF
                go_wp2_with fail
                repeat (go_region; go_wp2_with fail)
                go_ret
                refine ⟨rfl, Lib.hid (BC.out.trans (Below.mono (SameW.bel (same_trans SX.out ?_)) BC.out.size))⟩
                exact ⟨rfl, rfl, rfl, rfl⟩
              | true =>
                go_wp2_with fail
                repeat (go_region; go_wp2_with fail)
                go_roundw
                case rel => exact ⟨k2' + 1, by omega, by go_num, Lib.hid (take_more TK.out HX.out HY.out (EQ.out.1 (by trivial))), Lib.hid (same_trans SX.out ⟨rfl, rfl, rfl, rfl⟩)⟩
                case measure => simp [intOf]; omega
          · have RT : r = true := by
              have := TK.out
              rw [List.take_of_length_le (by rw [LE.out.2.2.1]; omega), List.take_of_length_le (by rw [LE.out.2.2.2]; omega)] at this
              rw [S3.out]; exact decide_eq_true this
            subst RT
            go_wp2_with fail
            go_ret
            exact ⟨rfl, Lib.hid (BC.out.trans (Below.mono (SameW.bel SX.out) BC.out.size))⟩
end Go.Proofs.YtlhagpfpcdedpaaDoor
