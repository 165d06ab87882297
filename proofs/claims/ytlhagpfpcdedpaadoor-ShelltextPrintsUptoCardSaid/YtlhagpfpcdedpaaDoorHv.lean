/- walks: the reference's comparison of lists of pipelines (written by gen_hv.py) -/
import Derived.Test.YtlhagpfpcdedpaaDoorHu
import Derived.BigQuiet
namespace Go.Proofs.YtlhagpfpcdedpaaDoor
open Go.RowKit
open Shp
theorem RowsAt.below' {w w' : World} {v : Value} {k : Nat} {l : List (List Value)} (h : RowsAt w v k l) (hb : Below w.heap.size w w') : RowsAt w' v k l := h.below hb
theorem zip_at {α β : Type} {l : List α} {m : List β} {k : Nat} {x : α} {y : β} (hx : l[k]? = some x) (hy : m[k]? = some y) : (l.zip m)[k]? = some (x, y) := List.getElem?_zip_eq_some.2 ⟨hx, hy⟩
theorem all_more {α : Type} {f : α → Bool} {l : List α} {k : Nat} {x : α} (hx : l[k]? = some x) : (l.take (k + 1)).all f = ((l.take k).all f && f x) := by
  rw [List.take_add_one, hx, Option.toList_some, List.all_append, List.all_cons, List.all_nil, Bool.and_true]
theorem all_not {α : Type} {f : α → Bool} {l : List α} {k : Nat} {x : α} (hx : l[k]? = some x) (hf : f x = false) : l.all f = false := by
  rw [List.all_eq_false]
  exact ⟨x, List.mem_of_getElem? hx, by rw [hf]; decide⟩
/-- a command's row, opened -/
theorem CmD.parts {w : World} {c : Cm} {r : List Value} (h : CmD w c r) : ∃ (u : ByteArray) (p1 p2 : Option Addr) (m1 m2 k1 k2 : Nat) (z : Int), r = [.string u, .slice p1 m1 k1, .slice p2 m2 k2, .int .i64 z] ∧ u.data.toList = c.name ∧ c.args.length = m1 ∧ c.red.length = m2 ∧ c.at_ = z ∧ RowsAt w (.slice p1 m1 k1) 1 (argR c) ∧ RowsAt w (.slice p2 m2 k2) 2 (redR c) := by
  obtain ⟨va, vr, rfl, h1, h2⟩ := h
  have s1 := h1
  have s2 := h2
  obtain ⟨p1, k1, rfl, -⟩ := s1
  obtain ⟨p2, k2, rfl, -⟩ := s2
  refine ⟨_, p1, p2, _, _, k1, k2, _, rfl, rfl, ?_, ?_, rfl, h1, h2⟩
  · rw [List.length_map]
  · rw [List.length_map]
theorem drewN_bel {w w' : World} (h : Below w.heap.size w w') (n : Nat) : Below w.heap.size w (w'.drewN n) := ⟨h.os, h.tape, h.output, h.size, h.block⟩
theorem kp {w w' : World} (h : Below w.heap.size w w') {b i : Nat} {v : Value} (hc : w.cell? ⟨b, i, none⟩ = some v) : w'.cell? ⟨b, i, none⟩ = some v := by
  refine (h.cell (p := ⟨b, i, none⟩) ?_).trans hc
  refine Decidable.byContradiction fun hn => ?_
  simp [World.cell?, Array.getElem?_eq_none (Nat.le_of_not_lt hn)] at hc
theorem keepP {w wa wb : World} {g1 o1 k n2 c3 c4 g2 o2 g3 o3 g4 o4 j m1 m2 m3 m4 k1 k2 j1 j2 : Nat} {u v : ByteArray} {p1 p2 q1 q2 : Option Addr} {z1 z2 : Int} (hb : Below w.heap.size w wb) (h : Below wa.heap.size wa wb)
    (s : Below w.heap.size w wa ∧ wa.cell? ⟨g1, o1 + k * 3, none⟩ = some (.slice (some ⟨g3, o3, none⟩) n2 c3) ∧ wa.cell? ⟨g2, o2 + k * 3, none⟩ = some (.slice (some ⟨g4, o4, none⟩) n2 c4) ∧ wa.cell? ⟨g3, o3 + j * 4, none⟩ = some (.string u) ∧ wa.cell? ⟨g3, o3 + j * 4 + 1, none⟩ = some (.slice p1 m1 k1) ∧ wa.cell? ⟨g3, o3 + j * 4 + 2, none⟩ = some (.slice p2 m2 k2) ∧ wa.cell? ⟨g3, o3 + j * 4 + 3, none⟩ = some (.int .i64 z1) ∧ wa.cell? ⟨g4, o4 + j * 4, none⟩ = some (.string v) ∧ wa.cell? ⟨g4, o4 + j * 4 + 1, none⟩ = some (.slice q1 m3 j1) ∧ wa.cell? ⟨g4, o4 + j * 4 + 2, none⟩ = some (.slice q2 m4 j2) ∧ wa.cell? ⟨g4, o4 + j * 4 + 3, none⟩ = some (.int .i64 z2)) : Below w.heap.size w wb ∧ wb.cell? ⟨g1, o1 + k * 3, none⟩ = some (.slice (some ⟨g3, o3, none⟩) n2 c3) ∧ wb.cell? ⟨g2, o2 + k * 3, none⟩ = some (.slice (some ⟨g4, o4, none⟩) n2 c4) ∧ wb.cell? ⟨g3, o3 + j * 4, none⟩ = some (.string u) ∧ wb.cell? ⟨g3, o3 + j * 4 + 1, none⟩ = some (.slice p1 m1 k1) ∧ wb.cell? ⟨g3, o3 + j * 4 + 2, none⟩ = some (.slice p2 m2 k2) ∧ wb.cell? ⟨g3, o3 + j * 4 + 3, none⟩ = some (.int .i64 z1) ∧ wb.cell? ⟨g4, o4 + j * 4, none⟩ = some (.string v) ∧ wb.cell? ⟨g4, o4 + j * 4 + 1, none⟩ = some (.slice q1 m3 j1) ∧ wb.cell? ⟨g4, o4 + j * 4 + 2, none⟩ = some (.slice q2 m4 j2) ∧ wb.cell? ⟨g4, o4 + j * 4 + 3, none⟩ = some (.int .i64 z2) := by
  obtain ⟨-, a1, a2, a3, a4, a5, a6, a7, a8, a9, a10⟩ := s
  exact ⟨hb, kp h a1, kp h a2, kp h a3, kp h a4, kp h a5, kp h a6, kp h a7, kp h a8, kp h a9, kp h a10⟩
set_option maxRecDepth 100000 in
set_option maxHeartbeats 8000000 in
theorem same_pipelines (la lb : List Pl) (a b : Value) (dl : Int) (off : Bool) (w : World) (ha : PlsD w a la) (hb : PlsD w b lb) {r : Bool} (hr : Hid (sameL dl off la lb = r)) :
    Calls Tryd.prog 11 #[a, b, .int .i64 dl, .bool off] w fun e w' => e = .returned (.bool r) ∧ Hid (Below w.heap.size w w') := by
  obtain ⟨pa, ka, rfl, l1, l2⟩ := ha.slice
  obtain ⟨pb, kb, rfl, l3, l4⟩ := hb.slice
  have HA := Lib.hid ha
  have HB := Lib.hid hb
  clear ha hb
  obtain ⟨n, hn⟩ : ∃ n, la.length = n := ⟨_, rfl⟩
  obtain ⟨m, hm⟩ : ∃ n, lb.length = n := ⟨_, rfl⟩
  rw [hn] at HA l1 ⊢
  rw [hm] at HB l3 ⊢
  have NL : n ≤ 9223372036854775807 := by unfold maxLen at l2; omega
  have NM : m ≤ 9223372036854775807 := by unfold maxLen at l4; omega
  have HN : Hid (la.length = n ∧ lb.length = m) := Lib.hid ⟨hn, hm⟩
  clear l1 l2 l3 l4 hn hm
  by_cases enm : n = m
  · subst enm
    have S2 : Hid (r = ((la.zip lb).all fun p => samePl dl off p.1 p.2)) := Lib.hid (by rw [← hr.out]; unfold sameL; rw [HN.out.1, HN.out.2]; simp)
    clear hr
    go_enter Tryd.func11, Tryd.ntmps11
    go_wp2_with fail
    go_loopw [9] (fun i wr => ∃ k : Nat, k ≤ n ∧ i = .int .i64 k ∧ Hid (((la.zip lb).take k).all (fun p => samePl dl off p.1 p.2) = true) ∧ Hid (Below w.heap.size w wr)) (fun i _ => n - (intOf i).toNat)
    case atStart => exact ⟨0, Nat.zero_le _, rfl, Lib.hid rfl, Lib.hid (Below.refl _ _)⟩
    case round =>
      obtain ⟨k, hk, rfl, TK, BK⟩ := hrel
      by_cases hlt : k < n
      · obtain ⟨x, hx⟩ : ∃ x, la[k]? = some x := ⟨_, List.getElem?_eq_getElem (by rw [HN.out.1]; exact hlt)⟩
        obtain ⟨y, hy⟩ : ∃ y, lb[k]? = some y := ⟨_, List.getElem?_eq_getElem (by rw [HN.out.2]; exact hlt)⟩
        have ZX := Lib.hid (zip_at hx hy)
        obtain ⟨g1, o1, c1, e1, -, -, -, hc1⟩ := HA.out.get (by intro h; rw [h] at hx; simp at hx)
        obtain ⟨g2, o2, c2, e2, -, -, -, hc2⟩ := HB.out.get (by intro h; rw [h] at hy; simp at hy)
        injection e1 with e11 e12 e13
        injection e2 with e21 e22 e23
        subst e11 e21
        clear e12 e13 e22 e23
        obtain ⟨r1, ⟨v1, rfl, D1⟩, f1⟩ := hc1 k x hx
        obtain ⟨r2, ⟨v2, rfl, D2⟩, f2⟩ := hc2 k y hy
        obtain ⟨p3, c3, rfl, m1, m2⟩ := D1.slice
        obtain ⟨p4, c4, rfl, m3, m4⟩ := D2.slice
        have L1 : x.cmds.length ≤ 9223372036854775807 := by unfold maxLen at m2; omega
        have L2 : y.cmds.length ≤ 9223372036854775807 := by unfold maxLen at m4; omega
        obtain ⟨n2, hn2⟩ : ∃ n, x.cmds.length = n := ⟨_, rfl⟩
        obtain ⟨n3, hn3⟩ : ∃ n, y.cmds.length = n := ⟨_, rfl⟩
        rw [hn2] at f1 D1 L1
        rw [hn3] at f2 D2 L2
        have s0 := kp BK.out (f1 0 _ rfl)
        have s1 := kp BK.out (f1 1 _ rfl)
        have s2 := kp BK.out (f1 2 _ rfl)
        have s3 := kp BK.out (f2 0 _ rfl)
        have s4 := kp BK.out (f2 1 _ rfl)
        have s5 := kp BK.out (f2 2 _ rfl)
        have F0 : Hid (w.cell? ⟨g1, o1 + k * 3, none⟩ = some (.slice p3 n2 c3)) := Lib.hid (by have := f1 0 _ rfl; rw [Nat.add_zero] at this; exact this)
        have F3 : Hid (w.cell? ⟨g2, o2 + k * 3, none⟩ = some (.slice p4 n3 c4)) := Lib.hid (by have := f2 0 _ rfl; rw [Nat.add_zero] at this; exact this)
        have D1 := Lib.hid D1
        have D2 := Lib.hid D2
        rw [Nat.add_zero] at s0 s3
        obtain ⟨b1, hb1⟩ : ∃ t, x.no = t := ⟨_, rfl⟩
        obtain ⟨b2, hb2⟩ : ∃ t, y.no = t := ⟨_, rfl⟩
        obtain ⟨i1, hi1⟩ : ∃ t, x.conn = t := ⟨_, rfl⟩
        obtain ⟨i2, hi2⟩ : ∃ t, y.conn = t := ⟨_, rfl⟩
        rw [hb1] at s1
        rw [hi1] at s2
        rw [hb2] at s4
        rw [hi2] at s5
        obtain ⟨t1, ht1⟩ : ∃ t, (b1 == b2) = t := ⟨_, rfl⟩
        have ht1' : (b1 != b2) = !t1 := by rw [← ht1]; rfl
        obtain ⟨t2, ht2⟩ : ∃ t, (i1 == i2) = t := ⟨_, rfl⟩
        have SP : Hid (samePl dl off x y = (t1 && t2 && decide (n2 = n3) && (x.cmds.zip y.cmds).all fun p => sameC dl off p.1 p.2)) := Lib.hid (by
          unfold samePl
          rw [hb1, hb2, hi1, hi2, hn2, hn3, ← ht1, ← ht2]
          congr 3)
        have LE : Hid (x.cmds.length = n2 ∧ y.cmds.length = n3) := Lib.hid ⟨hn2, hn3⟩
        clear hx hy hc1 hc2 f1 f2 hn2 hn3 hb1 hb2 hi1 hi2 m1 m2 m3 m4
        go_wp2_with fail
        go_cut [60] from 16 to 90 (fun z w' => z = .bool (!(t1 && t2 && decide (n2 = n3))) ∧ Hid (Below w.heap.size w w'))
        · cases t1 with
          | false =>
            clear ht2
            go_wp2_with fail
            go_quiet (fail)
            go_wp2_with fail
            go_meet
            case rel => exact ⟨by simp, Lib.hid (drewN_bel BK.out _)⟩
          | true =>
            obtain rfl := beq_iff_eq.1 ht1
            clear ht1 ht1'
            by_cases e3 : i1 = i2
            · subst e3
              obtain rfl : t2 = true := by rw [← ht2]; exact beq_self_eq_true _
              clear ht2
              by_cases e4 : n2 = n3
              · subst e4
                go_wp2_with fail
                go_quiet (fail)
                go_wp2_with fail
                go_meet
                case rel => exact ⟨by simp, Lib.hid (drewN_bel BK.out _)⟩
              · have e5 : Hid (decide (n2 = n3) = false) := Lib.hid (decide_eq_false e4)
                go_wp2_with fail
                go_quiet (fail)
                go_wp2_with fail
                go_meet
                case rel => exact ⟨by simp [e5.out]; omega, Lib.hid (drewN_bel BK.out _)⟩
            · obtain rfl : t2 = false := by rw [← ht2, beq_eq_false_iff_ne]; exact e3
              have ht3 : (i1 != i2) = true := by rw [bne, ht2]; rfl
              go_wp2_with fail
              go_quiet (fail)
              go_wp2_with fail
              go_meet
              case rel => exact ⟨by simp, Lib.hid (drewN_bel BK.out _)⟩
        obtain ⟨rfl, BL⟩ := hcut
        refine ‹∀ (a : Act) (w : World), Code.wp _ _ _ a w → _› _ _ ?_
        obtain ⟨hd, hhd⟩ : ∃ hd, (t1 && t2 && decide (n2 = n3)) = hd := ⟨_, rfl⟩
        rw [hhd] at SP ⊢
        cases hd with
        | false =>
          obtain rfl : r = false := by rw [S2.out]; exact all_not ZX.out (by rw [SP.out, Bool.false_and])
          clear hhd
          rw [show (!false) = true from rfl]
          go_wp2_with fail
          go_ret
          exact ⟨rfl, BL⟩
        | true =>
          simp only [Bool.and_eq_true, decide_eq_true_eq] at hhd
          obtain ⟨-, rfl⟩ := hhd
          have SQ : Hid (samePl dl off x y = (x.cmds.zip y.cmds).all fun p => sameC dl off p.1 p.2) := Lib.hid (by rw [SP.out, Bool.true_and])
          clear SP ht1 ht1' ht2 s0 s1 s2 s3 s4 s5
          rw [show (!true) = false from rfl]
          go_wp2_with fail
          go_loopw [10] (fun i wx => ∃ j : Nat, j ≤ n2 ∧ i = .int .i64 j ∧ Hid (((x.cmds.zip y.cmds).take j).all (fun p => sameC dl off p.1 p.2) = true) ∧ Hid (Below w.heap.size w wx)) (fun i _ => n2 - (intOf i).toNat)
          case atStart => exact ⟨0, Nat.zero_le _, rfl, Lib.hid rfl, BL⟩
          case round =>
            obtain ⟨j, hj, rfl, TJ, BJ⟩ := hrel
            have s0 := kp BJ.out F0.out
            have s3 := kp BJ.out F3.out
            by_cases hjt : j < n2
            · obtain ⟨c, hc⟩ : ∃ c, x.cmds[j]? = some c := ⟨_, List.getElem?_eq_getElem (by rw [LE.out.1]; exact hjt)⟩
              obtain ⟨d, hd⟩ : ∃ d, y.cmds[j]? = some d := ⟨_, List.getElem?_eq_getElem (by rw [LE.out.2]; exact hjt)⟩
              have ZC := Lib.hid (zip_at hc hd)
              obtain ⟨g3, o3, c3', e1, -, -, -, hc3⟩ := D1.out.get (by intro h; rw [h] at hc; simp at hc)
              obtain ⟨g4, o4, c4', e2, -, -, -, hc4⟩ := D2.out.get (by intro h; rw [h] at hd; simp at hd)
              injection e1 with e11 e12 e13
              injection e2 with e21 e22 e23
              subst e11 e21
              clear e12 e13 e22 e23
              obtain ⟨r1, q1', f1⟩ := hc3 j c hc
              obtain ⟨r2, q2', f2⟩ := hc4 j d hd
              obtain ⟨u, p1, p2, m1, m2, k1, k2, z1, rfl, u1, u2, u3, u4, R1, R2⟩ := q1'.parts
              obtain ⟨v, q1, q2, m3, m4, j1, j2, z2, rfl, u5, u6, u7, u8', R3, R4⟩ := q2'.parts
              have EE : Hid (u.data.toList = c.name ∧ v.data.toList = d.name ∧ c.args.length = m1 ∧ c.red.length = m2 ∧ d.args.length = m3 ∧ d.red.length = m4 ∧ c.at_ = z1 ∧ d.at_ = z2) := Lib.hid ⟨u1, u5, u2, u3, u6, u7, u4, u8'⟩
              have R1 := Lib.hid R1
              have R2 := Lib.hid R2
              have R3 := Lib.hid R3
              have R4 := Lib.hid R4
              have S0 : Below w.heap.size w wr.drew ∧ wr.drew.cell? ⟨g1, o1 + k * 3, none⟩ = some (.slice (some ⟨g3, o3, none⟩) n2 c3) ∧ wr.drew.cell? ⟨g2, o2 + k * 3, none⟩ = some (.slice (some ⟨g4, o4, none⟩) n2 c4) ∧ wr.drew.cell? ⟨g3, o3 + j * 4, none⟩ = some (.string u) ∧ wr.drew.cell? ⟨g3, o3 + j * 4 + 1, none⟩ = some (.slice p1 m1 k1) ∧ wr.drew.cell? ⟨g3, o3 + j * 4 + 2, none⟩ = some (.slice p2 m2 k2) ∧ wr.drew.cell? ⟨g3, o3 + j * 4 + 3, none⟩ = some (.int .i64 z1) ∧ wr.drew.cell? ⟨g4, o4 + j * 4, none⟩ = some (.string v) ∧ wr.drew.cell? ⟨g4, o4 + j * 4 + 1, none⟩ = some (.slice q1 m3 j1) ∧ wr.drew.cell? ⟨g4, o4 + j * 4 + 2, none⟩ = some (.slice q2 m4 j2) ∧ wr.drew.cell? ⟨g4, o4 + j * 4 + 3, none⟩ = some (.int .i64 z2) := by
                refine ⟨BJ.out.drew, s0, s3, ?_, kp BJ.out (f1 1 _ rfl), kp BJ.out (f1 2 _ rfl), kp BJ.out (f1 3 _ rfl), ?_, kp BJ.out (f2 1 _ rfl), kp BJ.out (f2 2 _ rfl), kp BJ.out (f2 3 _ rfl)⟩
                · have := kp BJ.out (f1 0 _ rfl); rw [Nat.add_zero] at this; exact this
                · have := kp BJ.out (f2 0 _ rfl); rw [Nat.add_zero] at this; exact this
              obtain ⟨rr, hrr⟩ : ∃ rr, sameC dl off c d = rr := ⟨_, rfl⟩
              have HR := Lib.hid hrr
              clear hc3 hc4 hc hd f1 f2 q1' q2' u1 u2 u3 u4 u5 u6 u7 u8' hrr
              go_wp2_with fail
              go_region_held3 (fun w' => Below w.heap.size w w' ∧ w'.cell? ⟨g1, o1 + k * 3, none⟩ = some (.slice (some ⟨g3, o3, none⟩) n2 c3) ∧ w'.cell? ⟨g2, o2 + k * 3, none⟩ = some (.slice (some ⟨g4, o4, none⟩) n2 c4) ∧ w'.cell? ⟨g3, o3 + j * 4, none⟩ = some (.string u) ∧ w'.cell? ⟨g3, o3 + j * 4 + 1, none⟩ = some (.slice p1 m1 k1) ∧ w'.cell? ⟨g3, o3 + j * 4 + 2, none⟩ = some (.slice p2 m2 k2) ∧ w'.cell? ⟨g3, o3 + j * 4 + 3, none⟩ = some (.int .i64 z1) ∧ w'.cell? ⟨g4, o4 + j * 4, none⟩ = some (.string v) ∧ w'.cell? ⟨g4, o4 + j * 4 + 1, none⟩ = some (.slice q1 m3 j1) ∧ w'.cell? ⟨g4, o4 + j * 4 + 2, none⟩ = some (.slice q2 m4 j2) ∧ w'.cell? ⟨g4, o4 + j * 4 + 3, none⟩ = some (.int .i64 z2)) (first | exact S0) (first | (go_at_call 30; refine (same_command c d u v m1 m2 m3 m4 z1 z2 p1 p2 q1 q2 k1 k2 j1 j2 dl off _ EE (Lib.hid (R1.out.below' S0.1)) (Lib.hid (R2.out.below' S0.1)) (Lib.hid (R3.out.below' S0.1)) (Lib.hid (R4.out.below' S0.1)) HR).mono ?_; rintro e w7 ⟨rfl, B7⟩; have BB := Lib.hid (S0.1.trans (B7.out.mono S0.1.size)); have S0 : Below w.heap.size w w7 ∧ w7.cell? ⟨g1, o1 + k * 3, none⟩ = some (.slice (some ⟨g3, o3, none⟩) n2 c3) ∧ w7.cell? ⟨g2, o2 + k * 3, none⟩ = some (.slice (some ⟨g4, o4, none⟩) n2 c4) ∧ w7.cell? ⟨g3, o3 + j * 4, none⟩ = some (.string u) ∧ w7.cell? ⟨g3, o3 + j * 4 + 1, none⟩ = some (.slice p1 m1 k1) ∧ w7.cell? ⟨g3, o3 + j * 4 + 2, none⟩ = some (.slice p2 m2 k2) ∧ w7.cell? ⟨g3, o3 + j * 4 + 3, none⟩ = some (.int .i64 z1) ∧ w7.cell? ⟨g4, o4 + j * 4, none⟩ = some (.string v) ∧ w7.cell? ⟨g4, o4 + j * 4 + 1, none⟩ = some (.slice q1 m3 j1) ∧ w7.cell? ⟨g4, o4 + j * 4 + 2, none⟩ = some (.slice q2 m4 j2) ∧ w7.cell? ⟨g4, o4 + j * 4 + 3, none⟩ = some (.int .i64 z2) := keepP BB.out B7.out S0))
              cases rr with
              | true =>
                go_wp2_with fail
                go_roundw
                case rel => exact ⟨j + 1, by omega, by go_num, Lib.hid (by rw [all_more ZC.out, TJ.out, HR.out]; rfl), Lib.hid S0.1⟩
                case measure => simp [intOf]; omega
              | false =>
                obtain rfl : r = false := by rw [S2.out]; exact all_not ZX.out (by rw [SQ.out]; exact all_not ZC.out HR.out)
                go_wp2_with fail
                go_ret
                exact ⟨rfl, Lib.hid S0.1⟩
            · have SX : Hid (samePl dl off x y = true) := Lib.hid (by
                have := TJ.out
                rw [List.take_of_length_le (by rw [List.length_zip, LE.out.1, LE.out.2]; omega)] at this
                rw [SQ.out]; exact this)
              go_wp2_with fail
              go_roundw
              case rel => exact ⟨k + 1, by omega, by go_num, Lib.hid (by rw [all_more ZX.out, TK.out, SX.out]; rfl), BJ⟩
              case measure => simp [intOf]; omega
      · obtain rfl : r = true := by
          have := TK.out
          rw [List.take_of_length_le (by rw [List.length_zip, HN.out.1, HN.out.2]; omega)] at this
          rw [S2.out]; exact this
        go_wp2_with fail
        go_ret
        exact ⟨rfl, BK⟩
  · obtain rfl : r = false := by rw [← hr.out]; unfold sameL; rw [HN.out.1, HN.out.2, decide_eq_false enm, Bool.false_and]
    go_enter Tryd.func11, Tryd.ntmps11
    go_wp2_with fail
    go_ret
    exact ⟨rfl, Lib.hid (Below.refl _ _)⟩
end Go.Proofs.YtlhagpfpcdedpaaDoor
