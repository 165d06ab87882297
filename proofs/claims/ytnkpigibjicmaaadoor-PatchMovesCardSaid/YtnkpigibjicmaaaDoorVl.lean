/- walks: the reference's Reverse (written by gen_vl.py) -/
import Derived.Test.YtnkpigibjicmaaaDoorVk
namespace Go.Proofs.YtnkpigibjicmaaaDoor
open Go.RowKit Go.Maps
open Pt
set_option maxRecDepth 100000 in
set_option maxHeartbeats 8000000 in
theorem rreverse_any (old new : ByteArray) (L : List HV) (v : Value) (w : World) (hv : HksAt w v L) (hs : smallR L) :
    Calls Tryd.prog 24 #[.agg #[.string old, .string new, v]] w fun e w' => ∃ v' M, e = .returned (.agg #[.string new, .string old, v']) ∧ Hid (M.map (·.1) = L.map (fun p => revH p.1)) ∧ Hid (HksAt w' v' M) ∧ Hid (Below w.heap.size w w') := by
  obtain ⟨n, hn⟩ : ∃ n, L.length = n := ⟨_, rfl⟩
  have HN := Lib.hid hn
  have HVH := Lib.hid hv
  have HS := Lib.hid hs
  obtain ⟨a, cap, rfl, c1, c2, hc⟩ := hv.rows.sl (n := n) (by rw [List.length_map]; exact hn)
  have HC := Lib.hid hc
  have hl1 := hs.1
  rw [hn] at hl1
  unfold maxLen at c2
  have s1 : (w.alloc (.cells #[.string old, .string new, .slice a n cap] 24)).heap.size = w.heap.size + 1 := World.size_alloc _ _
  have s2 : ((w.alloc (.cells #[.string old, .string new, .slice a n cap] 24)).alloc (.cells #[.string ⟨#[]⟩, .string ⟨#[]⟩, .slice none 0 0] 24)).heap.size = w.heap.size + 2 := by rw [World.size_alloc, s1]
  have B0 : Hid (Below w.heap.size w (((w.alloc (.cells #[.string old, .string new, .slice a n cap] 24)).alloc (.cells #[.string ⟨#[]⟩, .string ⟨#[]⟩, .slice none 0 0] 24)).alloc (.cells #[.string new, .string old, .slice none 0 0] 24))) := Lib.hid ((((Below.refl _ _).alloc (Nat.le_refl _) _).alloc (by rw [s1]; omega) _).alloc (by rw [s2]; omega) _)
  have NA : Hid ((((w.alloc (.cells #[.string old, .string new, .slice a n cap] 24)).alloc (.cells #[.string ⟨#[]⟩, .string ⟨#[]⟩, .slice none 0 0] 24)).alloc (.cells #[.string new, .string old, .slice none 0 0] 24)).heap[w.heap.size]? = some (.cells #[.string old, .string new, .slice a n cap] 24 (0, 0))) := Lib.hid ((Below.heap_alloc ((w.alloc (.cells #[.string old, .string new, .slice a n cap] 24)).alloc (.cells #[.string ⟨#[]⟩, .string ⟨#[]⟩, .slice none 0 0] 24)) (.cells #[.string new, .string old, .slice none 0 0] 24) w.heap.size (by rw [s2]; omega)).trans ((Below.heap_alloc (w.alloc (.cells #[.string old, .string new, .slice a n cap] 24)) (.cells #[.string ⟨#[]⟩, .string ⟨#[]⟩, .slice none 0 0] 24) w.heap.size (by rw [s1]; omega)).trans (heap_alloc_new w (.cells #[.string old, .string new, .slice a n cap] 24))))
  have RV0 : Hid (RV (w.heap.size + 2) (w.heap.size + 3) new old (.slice none 0 0) [] w (((w.alloc (.cells #[.string old, .string new, .slice a n cap] 24)).alloc (.cells #[.string ⟨#[]⟩, .string ⟨#[]⟩, .slice none 0 0] 24)).alloc (.cells #[.string new, .string old, .slice none 0 0] 24))) := Lib.hid ⟨by have := heap_alloc_new ((w.alloc (.cells #[.string old, .string new, .slice a n cap] 24)).alloc (.cells #[.string ⟨#[]⟩, .string ⟨#[]⟩, .slice none 0 0] 24)) (.cells #[.string new, .string old, .slice none 0 0] 24); rw [s2] at this; exact this, OwnR.nil _ _ _ _, (fun p hp => by cases hp), B0.out, by omega⟩
  have ZR0 : Hid ((((w.alloc (.cells #[.string old, .string new, .slice a n cap] 24)).alloc (.cells #[.string ⟨#[]⟩, .string ⟨#[]⟩, .slice none 0 0] 24)).alloc (.cells #[.string new, .string old, .slice none 0 0] 24)).heap[w.heap.size + 1]? = some (.cells #[.string ⟨#[]⟩, .string ⟨#[]⟩, .slice none 0 0] 24 (0, 0))) := Lib.hid (by have := heap_alloc_new (w.alloc (.cells #[.string old, .string new, .slice a n cap] 24)) (.cells #[.string ⟨#[]⟩, .string ⟨#[]⟩, .slice none 0 0] 24); rw [s1] at this; exact (Below.heap_alloc ((w.alloc (.cells #[.string old, .string new, .slice a n cap] 24)).alloc (.cells #[.string ⟨#[]⟩, .string ⟨#[]⟩, .slice none 0 0] 24)) (.cells #[.string new, .string old, .slice none 0 0] 24) (w.heap.size + 1) (by rw [s2]; omega)).trans this)
  have Y0 := Lib.hid (blk_cellx NA.out 0 _ rfl)
  have Y1 := Lib.hid (blk_cellx NA.out 1 _ rfl)
  have Y2 := Lib.hid (blk_cellx NA.out 2 _ rfl)
  have y2 := Y2.out
  clear hv hs hn hc s1 s2
  go_enter Tryd.func24, Tryd.ntmps24
  go_wp2_with fail
  clear y2
  go_loopw [4] (fun i wr => ∃ (j : Nat) (vv : Value) (M : List HV), i = .int .i64 j ∧ j ≤ n ∧ Hid (M.map (·.1) = (L.take j).map (fun p => revH p.1)) ∧ Hid (RV (w.heap.size + 2) (w.heap.size + 3) new old vv M w wr) ∧ Hid (wr.heap[w.heap.size + 1]? = some (.cells #[.string ⟨#[]⟩, .string ⟨#[]⟩, .slice none 0 0] 24 (0, 0))) ∧ Hid (wr.heap[w.heap.size]? = some (.cells #[.string old, .string new, .slice a n cap] 24 (0, 0)))) (fun i _ => n - (intOf i).toNat)
  case atStart => exact ⟨0, _, [], rfl, Nat.zero_le _, Lib.hid rfl, RV0, ZR0, NA⟩
  case round =>
    obtain ⟨j, vv, M, rfl, hj, HM, HR, HZ, HPB⟩ := hrel
    have y2 := blk_cellx HPB.out 2 _ rfl
    have BW := Lib.hid HR.out.bel
    by_cases hlt : j < n
    · obtain ⟨x, hx⟩ : ∃ x, L[j]? = some x := ⟨_, List.getElem?_eq_getElem (by rw [HN.out]; exact hlt)⟩
      have hmem := List.mem_of_getElem? hx
      rcases HC.out with h0 | ⟨g, o, rfl, -, hcc⟩
      · omega
      have m1 : (L.map rowH)[j]? = some (rowH x) := by rw [List.getElem?_map, hx]; rfl
      have d0 := kp BW.out (hcc j _ m1 0 _ rfl)
      have d1 := kp BW.out (hcc j _ m1 1 _ rfl)
      have d2 := kp BW.out (hcc j _ m1 2 _ rfl)
      have d3 := kp BW.out (hcc j _ m1 3 _ rfl)
      have d4 := kp BW.out (hcc j _ m1 4 _ rfl)
      rw [Nat.add_zero] at d0
      have HX := Lib.hid ((HVH.out.each x hmem).below BW.out)
      have SX := Lib.hid (HS.out.2 x hmem)
      have TK : Hid ((L.take (j + 1)).map (fun p => revH p.1) = (L.take j).map (fun p => revH p.1) ++ [revH x.1]) := Lib.hid (by rw [take_get hx, List.map_append]; rfl)
      have p0 : (0 : Int) ≤ (j : Int) := by omega
      have p1 : (j : Int) < (n : Int) := by omega
      have p2 : IntKind.i64.wrap (j : Int) = (j : Int) := IntWalk.i64_in _ (by omega)
      obtain ⟨⟨fa, la, fb, lb, ls⟩, u⟩ := x
      simp only at d0 d1 d2 d3 d4 HX SX TK
      clear hcc m1 hx hmem
      obtain ⟨un, hun⟩ : ∃ n, ls.length = n := ⟨_, rfl⟩
      obtain ⟨ua, uc, rfl, -, -, -⟩ := HX.out.sl (n := un) (by rw [List.length_map]; exact hun)
      have hunk := hun
      clear hun
      have LM : Hid ((M.map rowH).length ≤ 1048000) := Lib.hid (by
        have := congrArg List.length HM.out
        rw [List.length_map, List.length_map, List.length_take] at this
        rw [List.length_map]; omega)
      have BX1 := (Below.refl wr.heap.size wr).alloc (Nat.le_refl _) (.cells #[.int .i64 fa, .int .i64 la, .int .i64 fb, .int .i64 lb, .slice ua un uc] 38)
      have BX := Lib.hid (BX1.alloc (by rw [World.size_alloc]; omega) (.cells #[.int .i64 fb, .int .i64 lb, .int .i64 fa, .int .i64 la, .slice none 0 0] 38))
      have n1 := (Below.heap_alloc (wr.alloc (.cells #[.int .i64 fa, .int .i64 la, .int .i64 fb, .int .i64 lb, .slice ua un uc] 38)) (.cells #[.int .i64 fb, .int .i64 lb, .int .i64 fa, .int .i64 la, .slice none 0 0] 38) wr.heap.size (by rw [World.size_alloc]; omega)).trans (heap_alloc_new wr (.cells #[.int .i64 fa, .int .i64 la, .int .i64 fb, .int .i64 lb, .slice ua un uc] 38))
      have n2 := heap_alloc_new (wr.alloc (.cells #[.int .i64 fa, .int .i64 la, .int .i64 fb, .int .i64 lb, .slice ua un uc] 38)) (.cells #[.int .i64 fb, .int .i64 lb, .int .i64 fa, .int .i64 la, .slice none 0 0] 38)
      rw [World.size_alloc] at n2
      have LU : Hid (ls.length = un) := Lib.hid hunk
      have SU : un ≤ 1000 := by rw [← hunk]; exact SX.out
      obtain ⟨ua2, uc2, eU, -, -, hcU⟩ := HX.out.sl (n := un) (by rw [List.length_map]; exact hunk)
      cases eU
      have HCU := Lib.hid hcU
      clear hcU hunk
      go_wp2_with fail
      obtain ⟨wb, hwb⟩ : ∃ W, (wr.alloc (.cells #[.int .i64 fa, .int .i64 la, .int .i64 fb, .int .i64 lb, .slice ua un uc] 38)).alloc (.cells #[.int .i64 fb, .int .i64 lb, .int .i64 fa, .int .i64 la, .slice none 0 0] 38) = W := ⟨_, rfl⟩
      rw [hwb] at BX n1 n2
      rw [hwb]
      obtain ⟨hk, hhk⟩ : ∃ k, wr.heap.size = k := ⟨_, rfl⟩
      rw [hhk] at n1 n2 ⊢
      have HHK := Lib.hid hhk
      have N1 := Lib.hid n1
      have N2 := Lib.hid n2
      clear n1 n2 hwb hhk
      clear d0 d1 d2 d3 d4 y2
      go_loopw [7, 8] (fun lv qi wi => ∃ q : Nat, qi = .int .i64 q ∧ q ≤ un ∧ Hid (OwnR wi wb.heap.size 59 3 lv (((ls.take q).map flipD).map rowD)) ∧ Hid (Below wb.heap.size wb wi)) (fun _ qi _ => un - (intOf qi).toNat)
      case atStart => exact ⟨0, rfl, Nat.zero_le _, Lib.hid (OwnR.nil _ _ _ _), Lib.hid (Below.refl _ _)⟩
      case round =>
        obtain ⟨q, rfl, hq, OW, BK⟩ := hrel
        have y4 : wr.cell? ⟨hk, 4, none⟩ = some (.slice ua un uc) := blk_cellx ((BK.out.block _ (Array.getElem?_eq_some_iff.1 N1.out).1).trans N1.out) 4 _ rfl
        by_cases hlq : q < un
        · obtain ⟨x, hx⟩ : ∃ x, ls[q]? = some x := ⟨_, List.getElem?_eq_getElem (by rw [LU.out]; exact hlq)⟩
          rcases HCU.out with h0 | ⟨g3, o3, rfl, -, hcc⟩
          · omega
          have m1 : (ls.map rowD)[q]? = some (rowD x) := by rw [List.getElem?_map, hx]; rfl
          have BI := Lib.hid (BX.out.trans (BK.out.mono BX.out.size))
          have d0 := kp BI.out (hcc q _ m1 0 _ rfl)
          have d1 := kp BI.out (hcc q _ m1 1 _ rfl)
          have d2 := kp BI.out (hcc q _ m1 2 _ rfl)
          rw [Nat.add_zero] at d0
          have TQ : Hid ((ls.take (q + 1)).map flipD = (ls.take q).map flipD ++ [flipD x]) := Lib.hid (by rw [take_get hx, List.map_append]; rfl)
          have p3 : (0 : Int) ≤ (q : Int) := by omega
          have p4 : (q : Int) < (un : Int) := by omega
          have p5 : IntKind.i64.wrap (q : Int) = (q : Int) := IntWalk.i64_in _ (by omega)
          have LQ : Hid ((((ls.take q).map flipD).map rowD).length ≤ 1048576) := Lib.hid (by rw [List.length_map, List.length_map, List.length_take]; omega)
          obtain ⟨xo, xt, xn⟩ := x
          clear hcc m1 hx
          by_cases h2 : xo = 2
          · subst h2
            have B1 := Lib.hid (BK.out.alloc BK.out.size (.cells #[.int .i64 3, .string xt, .bool xn] 59))
            have O1 := Lib.hid (OW.out.below ((Below.refl _ _).alloc (Nat.le_refl _) (.cells #[.int .i64 3, .string xt, .bool xn] 59)))
            have FL : Hid (flipD (2, xt, xn) = (3, xt, xn)) := Lib.hid (by unfold flipD; simp)
            go_wp2_with (first | (at_builtin; (first | (refine append_row rtD rfl _ _ rfl _ (((ls.take q).map flipD).map rowD) #[.int .i64 3, .string xt, .bool xn] wb.heap.size wb _ O1.out rfl (one_D (x := (3, xt, xn))) B1.out B1.out.size LQ.out (by simp [Act.eval]) (by simp [Act.eval]) ?_; intro v2 w2 own2 bel2) | go_in)))
            go_roundw
            case rel => exact ⟨q + 1, by go_num, by omega, Lib.hid (by rw [TQ.out, FL.out, List.map_append]; exact own2.out), bel2⟩
            case measure => simp [intOf] <;> omega
          by_cases h3 : xo = 3
          · subst h3
            have B1 := Lib.hid (BK.out.alloc BK.out.size (.cells #[.int .i64 2, .string xt, .bool xn] 59))
            have O1 := Lib.hid (OW.out.below ((Below.refl _ _).alloc (Nat.le_refl _) (.cells #[.int .i64 2, .string xt, .bool xn] 59)))
            have FL : Hid (flipD (3, xt, xn) = (2, xt, xn)) := Lib.hid (by unfold flipD; simp)
            go_wp2_with (first | (at_builtin; (first | (refine append_row rtD rfl _ _ rfl _ (((ls.take q).map flipD).map rowD) #[.int .i64 2, .string xt, .bool xn] wb.heap.size wb _ O1.out rfl (one_D (x := (2, xt, xn))) B1.out B1.out.size LQ.out (by simp [Act.eval]) (by simp [Act.eval]) ?_; intro v2 w2 own2 bel2) | go_in)))
            go_roundw
            case rel => exact ⟨q + 1, by go_num, by omega, Lib.hid (by rw [TQ.out, FL.out, List.map_append]; exact own2.out), bel2⟩
            case measure => simp [intOf] <;> omega
          have t2 : (xo == 2) = false := beq_eq_false_iff_ne.2 h2
          have t3 : (xo == 3) = false := beq_eq_false_iff_ne.2 h3
          have B1 := Lib.hid (BK.out.alloc BK.out.size (.cells #[.int .i64 xo, .string xt, .bool xn] 59))
          have O1 := Lib.hid (OW.out.below ((Below.refl _ _).alloc (Nat.le_refl _) (.cells #[.int .i64 xo, .string xt, .bool xn] 59)))
          have FL : Hid (flipD (xo, xt, xn) = (xo, xt, xn)) := Lib.hid (by unfold flipD; simp [h2, h3])
          go_wp2_with (first | (at_builtin; (first | (refine append_row rtD rfl _ _ rfl _ (((ls.take q).map flipD).map rowD) #[.int .i64 xo, .string xt, .bool xn] wb.heap.size wb _ O1.out rfl (one_D (x := (xo, xt, xn))) B1.out B1.out.size LQ.out (by simp [Act.eval]) (by simp [Act.eval]) ?_; intro v2 w2 own2 bel2) | go_in)))
          go_roundw
          case rel => exact ⟨q + 1, by go_num, by omega, Lib.hid (by rw [TQ.out, FL.out, List.map_append]; exact own2.out), bel2⟩
          case measure => simp [intOf] <;> omega
        · obtain rfl : q = un := by omega
          have TL : ls.take q = ls := List.take_of_length_le (by rw [LU.out]; exact Nat.le_refl _)
          rw [TL] at OW
          have OC := Lib.hid (ordered_any (ls.map flipD) u7 wr (OW.out.rows rowD_len) (by rw [List.length_map, LU.out]; exact SU))
          rw [ord_rev] at OC
          have BXW := Lib.hid (BX.out.trans (BK.out.mono BX.out.size))
          have X2 := Lib.hid ((BK.out.block _ (Array.getElem?_eq_some_iff.1 N2.out).1).trans N2.out)
          clear TL OW
          go_upto_region 16 with (go_at_call 53; refine OC.out.mono ?_; rintro _ w5 ⟨v5, rfl, O5, B5⟩; obtain ⟨a5, k5, e5⟩ := O5.out.sl; obtain ⟨n5, hn5⟩ : ∃ n, ((revF [] ls).map rowD).length = n := ⟨_, rfl⟩; rw [hn5] at e5; subst e5; clear hn5; have X5 := Lib.hid ((B5.out.block _ (Array.getElem?_eq_some_iff.1 X2.out).1).trans X2.out); have fx : w5.frozen? ⟨hk + 1, 4, none⟩ = false := (by have := X5.out; simp [World.frozen?, this]); have cx : w5.cell? ⟨hk + 1, 4, none⟩ = some (.slice none 0 0) := blk_cellx X5.out 4 _ rfl)
          obtain ⟨wx, hwx⟩ : ∃ W, w5.setCell ⟨hk + 1, 4, none⟩ (.slice a5 n5 k5) = W := ⟨_, rfl⟩
          have XX : Hid (wx.heap[hk + 1]? = some (.cells #[.int .i64 fb, .int .i64 lb, .int .i64 fa, .int .i64 la, .slice a5 n5 k5] 38 (0, 0))) := Lib.hid (by rw [← hwx]; simp only [World.setCell, Array.getElem?_modify, X5.out, if_pos, Option.map_some]; rfl)
          have BWX := Lib.hid ((BXW.out.trans (B5.out.mono BXW.out.size)).setCell (p := ⟨hk + 1, 4, none⟩) (by have := HHK.out; show _ ≤ hk + 1; omega) (.slice a5 n5 k5))
          have LWR := (Array.getElem?_eq_some_iff.1 X2.out).1
          have OX0 := Lib.hid (O5.out.mono (show w.heap.size + 3 ≤ wr.heap.size by have := (Array.getElem?_eq_some_iff.1 HR.out.blk).1; have := HHK.out; omega))
          have OX : Hid (OwnR (w5.setCell ⟨hk + 1, 4, none⟩ (.slice a5 n5 k5)) (w.heap.size + 3) 59 3 (.slice a5 n5 k5) ((revF [] ls).map rowD)) := Lib.hid (OX0.out.ty (fun i cs z hi => by
            have hne : hk + 1 ≠ i := fun e => by subst e; rw [X5.out] at hi; cases hi
            simp only [World.setCell, Array.getElem?_modify, if_neg hne]))
          rw [hwx] at BWX OX ⊢
          clear hwx fx cx
          have RX := Lib.hid (HR.out.below BWX.out)
          have x0 : wx.cell? ⟨hk + 1, 0, none⟩ = some (.int .i64 fb) := blk_cellx XX.out 0 _ rfl
          have x1 : wx.cell? ⟨hk + 1, 1, none⟩ = some (.int .i64 lb) := blk_cellx XX.out 1 _ rfl
          have x2 : wx.cell? ⟨hk + 1, 2, none⟩ = some (.int .i64 fa) := blk_cellx XX.out 2 _ rfl
          have x3 : wx.cell? ⟨hk + 1, 3, none⟩ = some (.int .i64 la) := blk_cellx XX.out 3 _ rfl
          have x4 : wx.cell? ⟨hk + 1, 4, none⟩ = some (.slice a5 n5 k5) := blk_cellx XX.out 4 _ rfl
          have o2 : wx.cell? ⟨w.heap.size + 2, 2, none⟩ = some vv := blk_cellx RX.out.blk 2 _ rfl
          have LBX : Hid (w.heap.size + 3 ≤ wx.heap.size) := Lib.hid (by have := (Array.getElem?_eq_some_iff.1 RX.out.blk).1; omega)
          go_wp2_with (first | (at_builtin; (first | (refine append_own2 rtH rfl _ _ rfl vv _ (M.map rowH) [rowH (⟨fb, lb, fa, la, revF [] ls⟩, .slice a5 n5 k5)] (w.heap.size + 3) wx _ (World.ownsRow.alloc RX.out.own _) (row_blk (heap_alloc_new wx (.cells #[.int .i64 fb, .int .i64 lb, .int .i64 fa, .int .i64 la, .slice a5 n5 k5] 38))) (fun e => by cases e) (by intro x hx; simp at hx; subst hx; rfl) (by intro x hx; rw [List.mem_singleton] at hx; subst hx; exact one_H rfl) ((Below.refl _ _).alloc LBX.out _) (by rw [World.size_alloc]; have := LBX.out; omega) (by have := LM.out; show _ + 1 ≤ 1048577; omega) (by simp [Act.eval]) (by simp [Act.eval]) ?_; intro v9 w9 own9 bel9 gr9 pu9; obtain ⟨a9, k9, e9⟩ := own9.out.sl; obtain ⟨n9, hn9⟩ : ∃ n, (M.map rowH ++ [rowH (⟨fb, lb, fa, la, revF [] ls⟩, .slice a5 n5 k5)]).length = n := ⟨_, rfl⟩; rw [hn9] at e9; subst e9; clear hn9; have PU := Lib.hid (RV.push (h := ⟨fb, lb, fa, la, revF [] ls⟩) RX.out OX.out gr9.out (by rw [List.map_append]; exact own9.out) (RX.out.bel.trans (bel9.out.mono (by omega)))); have fz := PU.out.2.1; have cz := PU.out.2.2) | go_in)))
          have KB : Hid (∀ i, i < w.heap.size + 2 → wx.heap[i]?.isSome → (w9.setCell ⟨w.heap.size + 2, 2, none⟩ (.slice a9 n9 k9)).heap[i]? = wx.heap[i]?) := Lib.hid (fun i hi hs => by
            have hlt : i < wx.heap.size := by have := LBX.out; omega
            have e9 := (gr9.out.block i (by rw [World.size_alloc]; omega) (fun e => by have := (HR.out.own.lt _ e.symm).1; omega)).trans (heap_alloc_old wx (.cells #[.int .i64 fb, .int .i64 lb, .int .i64 fa, .int .i64 la, .slice a5 n5 k5] 38) hlt)
            simp only [World.setCell, Array.getElem?_modify]
            rw [if_neg (by omega)]
            exact e9)
          have HZX := (BWX.out.block _ (Array.getElem?_eq_some_iff.1 HZ.out).1).trans HZ.out
          have HPX := (BWX.out.block _ (Array.getElem?_eq_some_iff.1 HPB.out).1).trans HPB.out
          go_roundw
          case rel => exact ⟨j + 1, _, M ++ [(⟨fb, lb, fa, la, revF [] ls⟩, .slice a5 n5 k5)], by go_num, by omega, Lib.hid (by rw [TK.out, List.map_append, HM.out]; rfl), Lib.hid PU.out.1, Lib.hid ((KB.out _ (by omega) (by rw [HZX]; rfl)).trans HZX), Lib.hid ((KB.out _ (by omega) (by rw [HPX]; rfl)).trans HPX)⟩
          case measure => simp [intOf]; omega
    · obtain rfl : j = n := by omega
      have MM : Hid (M.map (·.1) = L.map (fun p => revH p.1)) := Lib.hid (by rw [HM.out, List.take_of_length_le (by rw [HN.out]; exact Nat.le_refl _)])
      have o0 : wr.cell? ⟨w.heap.size + 2, 0, none⟩ = some (.string new) := blk_cellx HR.out.blk 0 _ rfl
      have o1 : wr.cell? ⟨w.heap.size + 2, 1, none⟩ = some (.string old) := blk_cellx HR.out.blk 1 _ rfl
      have o2 : wr.cell? ⟨w.heap.size + 2, 2, none⟩ = some vv := blk_cellx HR.out.blk 2 _ rfl
      obtain ⟨va, vc, evv⟩ := HR.out.own.sl
      obtain ⟨vn, hvn⟩ : ∃ n, (M.map rowH).length = n := ⟨_, rfl⟩
      rw [hvn] at evv
      subst evv
      clear hvn
      have c0 : wr.cell? ⟨w.heap.size + 1, 0, none⟩ = some (.string ⟨#[]⟩) := blk_cellx HZ.out 0 _ rfl
      have c1 : wr.cell? ⟨w.heap.size + 1, 1, none⟩ = some (.string ⟨#[]⟩) := blk_cellx HZ.out 1 _ rfl
      have c2 : wr.cell? ⟨w.heap.size + 1, 2, none⟩ = some (.slice none 0 0) := blk_cellx HZ.out 2 _ rfl
      have f0 : wr.frozen? ⟨w.heap.size + 1, 0, none⟩ = false := by have := HZ.out; simp [World.frozen?, this]
      have f1 : wr.frozen? ⟨w.heap.size + 1, 1, none⟩ = false := by have := HZ.out; simp [World.frozen?, this]
      have f2 : wr.frozen? ⟨w.heap.size + 1, 2, none⟩ = false := by have := HZ.out; simp [World.frozen?, this]
      go_wp2_with fail
      obtain ⟨r0, r1, r2⟩ := three_set (.string new) (.string old) (.slice va vn vc) c0 c1 c2
      have HK : Hid (HksAt (((wr.setCell ⟨w.heap.size + 1, 0, none⟩ (.string new)).setCell ⟨w.heap.size + 1, 1, none⟩ (.string old)).setCell ⟨w.heap.size + 1, 2, none⟩ (.slice va vn vc)) (.slice va vn vc) M) := Lib.hid ⟨(HR.out.own.ty (fun i cs z hi => sets_keep _ _ _ (fun e => by subst e; rw [HZ.out] at hi; cases hi))).rows rowH_len, fun p hp => ((HR.out.each p hp).ty (fun i cs z hi => sets_keep _ _ _ (fun e => by subst e; rw [HZ.out] at hi; cases hi))).rows rowD_len⟩
      refine bodyPost_ret (v := .agg #[.string new, .string old, .slice va vn vc]) (by simp [results, Tryd.results24, go_sem, r0, r1, r2]) rfl ⟨_, M, rfl, MM, HK, Lib.hid (below_sets HR.out.bel (by omega) _ _ _)⟩
end Go.Proofs.YtnkpigibjicmaaaDoor
