/- the law UniqGroups -/
import Derived.Test.YtoohbgjfhchnmaaDoorRn
import Derived.Deep.Cut
import Derived.IntWalk
namespace Go.Proofs.YtoohbgjfhchnmaaDoor
open Go.RowKit Go.Maps
open Lcl
def FourI (W : World) (z0 z1 z2 z3 z4 z5 z6 : Value) (a0 : Act) (d : Nat → Bool) (a : Act) (w' : World) : Prop :=
  ∃ u p : Nat → Value, a = ((((((((a0.put (some 16) (u 0)).put (some 17) (u 1)).put (some 18) (u 2)).put (some 19) (u 3)).put (some 7) (p 0)).put (some 8) (p 1)).put (some 9) (p 2)).put (some 10) (p 3)) ∧ Four W z0 z1 z2 z3 z4 z5 z6 d w' u p
set_option maxRecDepth 100000 in
set_option maxHeartbeats 16000000 in
theorem law_groups (c : Cfg) (hc : c.Ok) (v1 v4 v5 vl : Value) (L : List ByteArray) (w : World) (hL : LocAt w v1 v4 v5 c.W c.C c.E) (n1 : NZ v1) (n4 : NZ v4) (n5 : NZ v5) (ht : Tab w) (hr : RowsAt w vl 1 (strs L)) (hz : ∀ x ∈ L, x.size ≤ 140737488351232) (hl : L.length * 16 ≤ 140737488351232) :
    Calls Tryd.prog 6 #[c.sp, c.lv v1 v4 v5, vl] w fun e w' => e = .returned (.bool true) ∧ Below w.heap.size w w' := by
  have LO := Lib.hid hL
  have HT := Lib.hid ht
  have RL := Lib.hid hr
  obtain ⟨G, hG⟩ : ∃ G, grp c.K st0 L = G := ⟨_, rfl⟩
  have GP : ∀ p ∈ G, 1 ≤ p.2 ∧ p.1.size ≤ 140737488351232 := fun p hp => by
    rw [← hG] at hp
    exact ⟨grp_pos _ _ _ p hp, hz _ (grp_mem0 hp)⟩
  have GS : sumG G = L.length := by rw [← hG]; show ((grp c.K st0 L).map (·.2)).sum = _; rw [grp_sum]; show 0 + L.length = _; omega
  have GL : G.length ≤ L.length := by have := grp_len c.K L st0; rw [hG] at this; simpa [st0] using this
  have X1 := mk3_lines c false false false L
  have X2 := mk3_lines c true false false L
  have X3 := mk3_lines c false true false L
  have X4 := mk3_lines c false false true L
  have X5 := mk3_lines c false true true L
  have X6 := lines_again c L
  rw [hG] at X1 X2 X3 X4 X5
  rw [out_plain] at X1
  rw [out_count] at X2
  rw [out_none G (fun p hp => (GP p hp).1)] at X5
  rw [X1] at X6
  have ND := out_parts G (fun p hp => (GP p hp).1)
  obtain ⟨nd, hnd⟩ : ∃ nd, (G.flatMap fun p => outL false true false p.1 p.2).length = nd := ⟨_, rfl⟩
  obtain ⟨nu, hnu⟩ : ∃ nu, (G.flatMap fun p => outL false false true p.1 p.2).length = nu := ⟨_, rfl⟩
  rw [hnd, hnu] at ND
  have XZ : ∀ x ∈ G.map (·.1), x.size ≤ 140737488351232 := fun x hx => by
    obtain ⟨p, hp, rfl⟩ := List.mem_map.1 hx
    exact (GP p hp).2
  obtain ⟨N, hN⟩ : ∃ N, G.length = N := ⟨_, rfl⟩
  rw [hN] at ND GL
  have CX := linesd c hc false false false v1 v4 v5 vl L _ N n1 n4 n5 hz hl X1 (by rw [List.length_map]; exact hN)
  have CY := linesd c hc true false false v1 v4 v5 vl L _ N n1 n4 n5 hz hl X2 (by rw [List.length_map]; exact hN)
  have CD := linesd c hc false true false v1 v4 v5 vl L _ nd n1 n4 n5 hz hl X3 hnd
  have CU := linesd c hc false false true v1 v4 v5 vl L _ nu n1 n4 n5 hz hl X4 hnu
  have CN := linesd c hc false true true v1 v4 v5 vl L [] 0 n1 n4 n5 hz hl X5 rfl
  have CA : Hid (∀ vx, LinesD c false false false v1 v4 v5 vx (G.map (·.1)) (G.map (·.1)) N) := Lib.hid fun vx => (linesd c hc false false false v1 v4 v5 vx _ _ N n1 n4 n5 XZ (by rw [List.length_map, hN]; omega) X6 (by rw [List.length_map]; exact hN)).out
  obtain ⟨n, hn⟩ : ∃ n, L.length = n := ⟨_, rfl⟩
  rw [hn] at GS GL hl
  have CT : Hid (∀ v w', RowsAt w' v 1 (strs (G.map fun p => lineS true p.1 p.2)) → Calls Tryd.prog 20 #[v] w' fun e w'' => e = .returned (.int .i64 n) ∧ w' = w'') := Lib.hid fun v w' h => by
    have := total_any v G w' h GP (by rw [GS]; omega) (by rw [hN]; omega)
    rw [GS] at this
    exact this
  obtain ⟨al, capl, hvl⟩ := hr.slS
  rw [hn] at hvl
  subst hvl
  have NDH := Lib.hid ND
  have HLN := Lib.hid hl
  have GLN := Lib.hid GL
  clear X1 X2 X3 X4 X5 X6 XZ GP GS hN hn hnd hnu hG ND GL hL n1 n4 n5 ht hr hz hl hc
  go_enter Tryd.func6, Tryd.ntmps6
  go_wp2_with fail
  refine wp_region_inv (FourI ((w.alloc (.cells (c.mk3 false false false).cells 23)).alloc (.cells (c.lcells v1 v4 v5) 28)) (.int .i64 c.F) (.int .i64 c.B) (.int .i64 c.D) (.bool false) (.bool c.fold) (.bool false) (.bool false)) (by kernel_rfl) (by kernel_rfl) ?_ ?_ ?_

  · exact ⟨fun _ => undef, fun _ => undef, by simp only [Act.put, List.setIfInBounds_toArray, List.set_cons_zero, List.set_cons_succ], (Below.refl _ _).drew, fun k hk => not_yet (by rcases k with _ | _ | _ | _ | k <;> first | omega | kernel_rfl), fun k hk => not_yet (by rcases k with _ | _ | _ | _ | k <;> first | omega | kernel_rfl), fun k hk => not_yet (by rcases k with _ | _ | _ | _ | k <;> first | omega | kernel_rfl), fun j k hj hk _ => not_yet (by rcases j with _ | _ | _ | _ | j <;> first | omega | kernel_rfl)⟩
  · refine StepsL.cons 1 rfl ?_ ?_
    · intro d a w' hI hd hdep K hK
      obtain ⟨u, p, ha, F⟩ := hI
      simp only [Act.put, List.setIfInBounds_toArray, List.set_cons_zero, List.set_cons_succ] at ha
      subst ha
      obtain ⟨q0, q1⟩ := two_blk F.bel
      obtain ⟨a0, a1, a2, a3, a4, a5, a6⟩ := spc_cells (F := c.F) (B := c.B) (Wd := c.D) (cnt := false) (fold := c.fold) (rep := false) (sg := false) q0
      clear q0 q1
      go_simp
      exact hK.out _ _ ⟨put4 u 0 _, p, by simp only [Act.put, List.setIfInBounds_toArray, List.set_cons_zero, List.set_cons_succ]; rfl, F.load 0 (by decide)⟩
    refine StepsL.cons 2 rfl ?_ ?_
    · intro d a w' hI hd hdep K hK
      obtain ⟨u, p, ha, F⟩ := hI
      simp only [Act.put, List.setIfInBounds_toArray, List.set_cons_zero, List.set_cons_succ] at ha
      subst ha
      obtain ⟨q0, q1⟩ := two_blk F.bel
      obtain ⟨a0, a1, a2, a3, a4, a5, a6⟩ := spc_cells (F := c.F) (B := c.B) (Wd := c.D) (cnt := false) (fold := c.fold) (rep := false) (sg := false) q0
      clear q0 q1
      go_simp
      exact hK.out _ _ ⟨put4 u 1 _, p, by simp only [Act.put, List.setIfInBounds_toArray, List.set_cons_zero, List.set_cons_succ]; rfl, F.load 1 (by decide)⟩
    refine StepsL.cons 3 rfl ?_ ?_
    · intro d a w' hI hd hdep K hK
      obtain ⟨u, p, ha, F⟩ := hI
      simp only [Act.put, List.setIfInBounds_toArray, List.set_cons_zero, List.set_cons_succ] at ha
      subst ha
      obtain ⟨q0, q1⟩ := two_blk F.bel
      obtain ⟨a0, a1, a2, a3, a4, a5, a6⟩ := spc_cells (F := c.F) (B := c.B) (Wd := c.D) (cnt := false) (fold := c.fold) (rep := false) (sg := false) q0
      clear q0 q1
      go_simp
      exact hK.out _ _ ⟨put4 u 2 _, p, by simp only [Act.put, List.setIfInBounds_toArray, List.set_cons_zero, List.set_cons_succ]; rfl, F.load 2 (by decide)⟩
    refine StepsL.cons 4 rfl ?_ ?_
    · intro d a w' hI hd hdep K hK
      obtain ⟨u, p, ha, F⟩ := hI
      simp only [Act.put, List.setIfInBounds_toArray, List.set_cons_zero, List.set_cons_succ] at ha
      subst ha
      obtain ⟨q0, q1⟩ := two_blk F.bel
      obtain ⟨a0, a1, a2, a3, a4, a5, a6⟩ := spc_cells (F := c.F) (B := c.B) (Wd := c.D) (cnt := false) (fold := c.fold) (rep := false) (sg := false) q0
      clear q0 q1
      go_simp
      exact hK.out _ _ ⟨put4 u 3 _, p, by simp only [Act.put, List.setIfInBounds_toArray, List.set_cons_zero, List.set_cons_succ]; rfl, F.load 3 (by decide)⟩
    refine StepsL.cons 5 rfl ?_ ?_
    · intro d a w' hI hd hdep K hK
      obtain ⟨u, p, ha, F⟩ := hI
      simp only [Act.put, List.setIfInBounds_toArray, List.set_cons_zero, List.set_cons_succ] at ha
      subst ha
      go_simp
      exact hK.out _ _ ⟨u, put4 p 0 _, by simp only [Act.put, List.setIfInBounds_toArray, List.set_cons_zero, List.set_cons_succ]; rfl, F.alloc 0 (by decide) hd _ _ _ _ _ _ _⟩
    refine StepsL.cons 6 rfl ?_ ?_
    · intro d a w' hI hd hdep K hK
      obtain ⟨u, p, ha, F⟩ := hI
      simp only [Act.put, List.setIfInBounds_toArray, List.set_cons_zero, List.set_cons_succ] at ha
      subst ha
      go_simp
      exact hK.out _ _ ⟨u, put4 p 1 _, by simp only [Act.put, List.setIfInBounds_toArray, List.set_cons_zero, List.set_cons_succ]; rfl, F.alloc 1 (by decide) hd _ _ _ _ _ _ _⟩
    refine StepsL.cons 7 rfl ?_ ?_
    · intro d a w' hI hd hdep K hK
      obtain ⟨u, p, ha, F⟩ := hI
      simp only [Act.put, List.setIfInBounds_toArray, List.set_cons_zero, List.set_cons_succ] at ha
      subst ha
      go_simp
      exact hK.out _ _ ⟨u, put4 p 2 _, by simp only [Act.put, List.setIfInBounds_toArray, List.set_cons_zero, List.set_cons_succ]; rfl, F.alloc 2 (by decide) hd _ _ _ _ _ _ _⟩
    refine StepsL.cons 8 rfl ?_ ?_
    · intro d a w' hI hd hdep K hK
      obtain ⟨u, p, ha, F⟩ := hI
      simp only [Act.put, List.setIfInBounds_toArray, List.set_cons_zero, List.set_cons_succ] at ha
      subst ha
      go_simp
      exact hK.out _ _ ⟨u, put4 p 3 _, by simp only [Act.put, List.setIfInBounds_toArray, List.set_cons_zero, List.set_cons_succ]; rfl, F.alloc 3 (by decide) hd _ _ _ _ _ _ _⟩
    refine StepsL.cons 9 rfl ?_ ?_
    · intro d a w' hI hd hdep K hK
      obtain ⟨u, p, ha, F⟩ := hI
      simp only [Act.put, List.setIfInBounds_toArray, List.set_cons_zero, List.set_cons_succ] at ha
      subst ha
      have D6 := (hdep ⟨4, .data⟩ (by simp) (by rfl))
      obtain ⟨g, y0, y1, y2, y3, y4, y5, y6, hg, hB, hb, -⟩ := F.sl 0 (by decide) D6
      have hu := F.ld 0 (by decide) (hdep ⟨0, .data⟩ (by simp) (by rfl))
      have F' := F.store 0 (by decide) hg hB hb D6
      obtain ⟨c0, c1, c2, c3, c4, c5, c6⟩ := hb.cells
      have f0 := lrow_frozen hb 0
      have f1 := lrow_frozen hb 1
      have f2 := lrow_frozen hb 2
      have f3 := lrow_frozen hb 3
      have f4 := lrow_frozen hb 4
      have f5 := lrow_frozen hb 5
      have f6 := lrow_frozen hb 6
      simp only [hg, hu]
      go_simp
      exact hK.out _ _ ⟨u, p, by simp only [Act.put, List.setIfInBounds_toArray, List.set_cons_zero, List.set_cons_succ, hg, hu], F'⟩
    refine StepsL.cons 10 rfl ?_ ?_
    · intro d a w' hI hd hdep K hK
      obtain ⟨u, p, ha, F⟩ := hI
      simp only [Act.put, List.setIfInBounds_toArray, List.set_cons_zero, List.set_cons_succ] at ha
      subst ha
      have D6 := (hdep ⟨5, .data⟩ (by simp) (by rfl))
      obtain ⟨g, y0, y1, y2, y3, y4, y5, y6, hg, hB, hb, -⟩ := F.sl 1 (by decide) D6
      have hu := F.ld 1 (by decide) (hdep ⟨1, .data⟩ (by simp) (by rfl))
      have F' := F.store 1 (by decide) hg hB hb D6
      obtain ⟨c0, c1, c2, c3, c4, c5, c6⟩ := hb.cells
      have f0 := lrow_frozen hb 0
      have f1 := lrow_frozen hb 1
      have f2 := lrow_frozen hb 2
      have f3 := lrow_frozen hb 3
      have f4 := lrow_frozen hb 4
      have f5 := lrow_frozen hb 5
      have f6 := lrow_frozen hb 6
      simp only [hg, hu]
      go_simp
      exact hK.out _ _ ⟨u, p, by simp only [Act.put, List.setIfInBounds_toArray, List.set_cons_zero, List.set_cons_succ, hg, hu], F'⟩
    refine StepsL.cons 11 rfl ?_ ?_
    · intro d a w' hI hd hdep K hK
      obtain ⟨u, p, ha, F⟩ := hI
      simp only [Act.put, List.setIfInBounds_toArray, List.set_cons_zero, List.set_cons_succ] at ha
      subst ha
      have D6 := (hdep ⟨6, .data⟩ (by simp) (by rfl))
      obtain ⟨g, y0, y1, y2, y3, y4, y5, y6, hg, hB, hb, -⟩ := F.sl 2 (by decide) D6
      have hu := F.ld 2 (by decide) (hdep ⟨2, .data⟩ (by simp) (by rfl))
      have F' := F.store 2 (by decide) hg hB hb D6
      obtain ⟨c0, c1, c2, c3, c4, c5, c6⟩ := hb.cells
      have f0 := lrow_frozen hb 0
      have f1 := lrow_frozen hb 1
      have f2 := lrow_frozen hb 2
      have f3 := lrow_frozen hb 3
      have f4 := lrow_frozen hb 4
      have f5 := lrow_frozen hb 5
      have f6 := lrow_frozen hb 6
      simp only [hg, hu]
      go_simp
      exact hK.out _ _ ⟨u, p, by simp only [Act.put, List.setIfInBounds_toArray, List.set_cons_zero, List.set_cons_succ, hg, hu], F'⟩
    refine StepsL.cons 12 rfl ?_ ?_
    · intro d a w' hI hd hdep K hK
      obtain ⟨u, p, ha, F⟩ := hI
      simp only [Act.put, List.setIfInBounds_toArray, List.set_cons_zero, List.set_cons_succ] at ha
      subst ha
      have D6 := (hdep ⟨7, .data⟩ (by simp) (by rfl))
      obtain ⟨g, y0, y1, y2, y3, y4, y5, y6, hg, hB, hb, -⟩ := F.sl 3 (by decide) D6
      have hu := F.ld 3 (by decide) (hdep ⟨3, .data⟩ (by simp) (by rfl))
      have F' := F.store 3 (by decide) hg hB hb D6
      obtain ⟨c0, c1, c2, c3, c4, c5, c6⟩ := hb.cells
      have f0 := lrow_frozen hb 0
      have f1 := lrow_frozen hb 1
      have f2 := lrow_frozen hb 2
      have f3 := lrow_frozen hb 3
      have f4 := lrow_frozen hb 4
      have f5 := lrow_frozen hb 5
      have f6 := lrow_frozen hb 6
      simp only [hg, hu]
      go_simp
      exact hK.out _ _ ⟨u, p, by simp only [Act.put, List.setIfInBounds_toArray, List.set_cons_zero, List.set_cons_succ, hg, hu], F'⟩
    exact StepsL.nil
  · intro d a w2 hI hall
    obtain ⟨u, p, ha, F⟩ := hI
    simp only [Act.put, List.setIfInBounds_toArray, List.set_cons_zero, List.set_cons_succ] at ha
    obtain ⟨g7, a0, a1, a2, a3, a4, a5, a6, e7, B7, k7, i7⟩ := F.sl 0 (by decide) (hall 4)
    obtain ⟨rfl, rfl, rfl, rfl, rfl, rfl, rfl⟩ := i7 (hall 8)
    obtain ⟨g8, a0, a1, a2, a3, a4, a5, a6, e8, B8, k8, i8⟩ := F.sl 1 (by decide) (hall 5)
    obtain ⟨rfl, rfl, rfl, rfl, rfl, rfl, rfl⟩ := i8 (hall 9)
    obtain ⟨g9, a0, a1, a2, a3, a4, a5, a6, e9, B9, k9, i9⟩ := F.sl 2 (by decide) (hall 6)
    obtain ⟨rfl, rfl, rfl, rfl, rfl, rfl, rfl⟩ := i9 (hall 10)
    obtain ⟨g10, a0, a1, a2, a3, a4, a5, a6, e10, B10, k10, i10⟩ := F.sl 3 (by decide) (hall 7)
    obtain ⟨rfl, rfl, rfl, rfl, rfl, rfl, rfl⟩ := i10 (hall 11)
    have n78 := F.ne 0 1 (by decide) (by decide) (by decide) (hall 4) (hall 5)
    have n79 := F.ne 0 2 (by decide) (by decide) (by decide) (hall 4) (hall 6)
    have n70 := F.ne 0 3 (by decide) (by decide) (by decide) (hall 4) (hall 7)
    have n89 := F.ne 1 2 (by decide) (by decide) (by decide) (hall 5) (hall 6)
    have n80 := F.ne 1 3 (by decide) (by decide) (by decide) (hall 5) (hall 7)
    have n90 := F.ne 2 3 (by decide) (by decide) (by decide) (hall 6) (hall 7)
    rw [F.ld 0 (by decide) (hall 0), F.ld 1 (by decide) (hall 1), F.ld 2 (by decide) (hall 2), F.ld 3 (by decide) (hall 3), e7, e8, e9, e10] at ha
    rw [e7] at n78 n79 n70
    rw [e8] at n78 n89 n80
    rw [e9] at n79 n89 n90
    rw [e10] at n70 n80 n90
    have n78 := ptr_ne n78
    have n79 := ptr_ne n79
    have n70 := ptr_ne n70
    have n89 := ptr_ne n89
    have n80 := ptr_ne n80
    have n90 := ptr_ne n90
    have bel := F.bel
    subst ha
    clear F i7 i8 i9 i10 e7 e8 e9 e10 hall
    have GG := Lib.hid (gw_start bel k7 k8 k9 k10 B7 B8 B9 B10 n78 n79 n70 n89 n80 n90)
    have f7 := lrow_frozen k7 3
    have f8 := lrow_frozen (k8.far1 (k := 3) n78.symm (.bool true)) 5
    have f9 := lrow_frozen ((k9.far1 (k := 3) n79.symm (.bool true)).far1 (k := 5) n89.symm (.bool true)) 6
    have k10' := ((k10.far1 (k := 3) n70.symm (.bool true)).far1 (k := 5) n80.symm (.bool true)).far1 (k := 6) n90.symm (.bool true)
    have f10 := lrow_frozen k10' 5
    have f11 := lrow_frozen (k10'.set1_5 (.bool true)) 6
    obtain ⟨-, -, -, m7, -, -, -⟩ := k7.cells
    obtain ⟨-, -, -, -, -, m8, -⟩ := (k8.far1 (k := 3) n78.symm (.bool true)).cells
    obtain ⟨-, -, -, -, -, -, m9⟩ := ((k9.far1 (k := 3) n79.symm (.bool true)).far1 (k := 5) n89.symm (.bool true)).cells
    obtain ⟨-, -, -, -, -, m10, -⟩ := k10'.cells
    obtain ⟨-, -, -, -, -, -, m11⟩ := (k10'.set1_5 (.bool true)).cells
    clear k7 k8 k9 k10 k10' bel n78 n79 n70 n89 n80 n90 B7 B8 B9 B10
    clear n78 n79 n70 n89 n80 n90
    go_upto_region 10 with (fail)
    obtain ⟨W5, hW5⟩ : ∃ W5, (((((w2.setCell ⟨g7, 3, none⟩ (.bool true)).setCell ⟨g8, 5, none⟩ (.bool true)).setCell ⟨g9, 6, none⟩ (.bool true)).setCell ⟨g10, 5, none⟩ (.bool true)).setCell ⟨g10, 6, none⟩ (.bool true)) = W5 := ⟨_, rfl⟩
    rw [hW5] at GG ⊢
    clear hW5 f7 f8 f9 f10 f11 m7 m8 m9 m10 m11
    obtain ⟨p0, p1, p2, p3, p4, p5, p6⟩ := GG.out.pcells
    obtain ⟨l0, l1, l2, l3, l4, l5⟩ := GG.out.lcells
    go_wp2_with fail
    refine (CX.out _ (LO.out.below GG.out.out) (tab_below HT.out GG.out.out) (RL.out.below GG.out.out)).mono ?_
    rintro e wx ⟨ax, cx, rfl, RX, bx⟩
    have GG := Lib.hid (GG.out.step bx.out)
    clear bx p0 p1 p2 p3 p4 p5 p6 l0 l1 l2 l3 l4 l5
    obtain ⟨p0, p1, p2, p3, p4, p5, p6⟩ := GG.out.b7.cells
    obtain ⟨l0, l1, l2, l3, l4, l5⟩ := GG.out.lcells
    go_wp2_with fail
    refine (CY.out _ (LO.out.below GG.out.out) (tab_below HT.out GG.out.out) (RL.out.below GG.out.out)).mono ?_
    rintro e wy ⟨ay, cy, rfl, RY, byy⟩
    have RX := Lib.hid (RX.out.below byy.out)
    have GG := Lib.hid (GG.out.step byy.out)
    clear byy p0 p1 p2 p3 p4 p5 p6 l0 l1 l2 l3 l4 l5
    have S0 := keepD (GG.out.step (Below.refl _ _).drew)
    have RY := Lib.hid (RY.out.below (Below.refl _ _).drew)
    have RX := Lib.hid (RX.out.below (Below.refl _ _).drew)
    clear GG
    have SU : IntKind.i64.wrap ((nd : Int) + nu) = N := by
      have h1 := NDH.out
      have h2 := HLN.out
      have h3 := GLN.out
      rw [IntWalk.i64_in _ (by omega)]; omega
    go_wp2_with fail
    go_region_held3 (fun w' => GW c v1 v4 v5 w g7 g8 g9 g10 w' ∧ w'.cell? ⟨g8, 0, none⟩ = some (.int .i64 c.F) ∧ w'.cell? ⟨g8, 1, none⟩ = some (.int .i64 c.B) ∧ w'.cell? ⟨g8, 2, none⟩ = some (.int .i64 c.D) ∧ w'.cell? ⟨g8, 3, none⟩ = some (.bool false) ∧ w'.cell? ⟨g8, 4, none⟩ = some (.bool c.fold) ∧ w'.cell? ⟨g8, 5, none⟩ = some (.bool true) ∧ w'.cell? ⟨g8, 6, none⟩ = some (.bool false) ∧ w'.cell? ⟨g9, 0, none⟩ = some (.int .i64 c.F) ∧ w'.cell? ⟨g9, 1, none⟩ = some (.int .i64 c.B) ∧ w'.cell? ⟨g9, 2, none⟩ = some (.int .i64 c.D) ∧ w'.cell? ⟨g9, 3, none⟩ = some (.bool false) ∧ w'.cell? ⟨g9, 4, none⟩ = some (.bool c.fold) ∧ w'.cell? ⟨g9, 5, none⟩ = some (.bool false) ∧ w'.cell? ⟨g9, 6, none⟩ = some (.bool true) ∧ w'.cell? ⟨w.heap.size + 1, 0, none⟩ = some (.string c.n) ∧ w'.cell? ⟨w.heap.size + 1, 1, none⟩ = some v1 ∧ w'.cell? ⟨w.heap.size + 1, 2, none⟩ = some (.string c.lo) ∧ w'.cell? ⟨w.heap.size + 1, 3, none⟩ = some (.string c.up) ∧ w'.cell? ⟨w.heap.size + 1, 4, none⟩ = some v4 ∧ w'.cell? ⟨w.heap.size + 1, 5, none⟩ = some v5) (first | exact S0)
      (first
        | (go_at_call 20; with_reducible refine (CT.out _ _ RY.out).mono ?_; rintro e w' ⟨rfl, rfl⟩)
        | (go_at_call 10; with_reducible refine (CD.out _ (LO.out.below S0.1.out) (tab_below HT.out S0.1.out) (RL.out.below S0.1.out)).mono ?_; rintro e w' ⟨ad, cd, rfl, RD, bd⟩; have RX := Lib.hid (RX.out.below bd.out); have S0 := keepD (S0.1.step bd.out))
        | (go_at_call 10; with_reducible refine (CU.out _ (LO.out.below S0.1.out) (tab_below HT.out S0.1.out) (RL.out.below S0.1.out)).mono ?_; rintro e w' ⟨au, cu, rfl, RU, bu⟩; have RX := Lib.hid (RX.out.below bu.out); have S0 := keepD (S0.1.step bu.out)))
    have GG := Lib.hid S0.1
    clear S0 SU
    obtain ⟨p0, p1, p2, p3, p4, p5, p6⟩ := GG.out.b10.cells
    obtain ⟨l0, l1, l2, l3, l4, l5⟩ := GG.out.lcells
    go_wp2_with fail
    refine (CN.out _ (LO.out.below GG.out.out) (tab_below HT.out GG.out.out) (RL.out.below GG.out.out)).mono ?_
    rintro e wn ⟨an, cn, rfl, RN, bn⟩
    have RX := Lib.hid (RX.out.below bn.out)
    have GG := Lib.hid (GG.out.step bn.out)
    clear bn p0 p1 p2 p3 p4 p5 p6 l0 l1 l2 l3 l4 l5
    obtain ⟨p0, p1, p2, p3, p4, p5, p6⟩ := GG.out.pcells
    obtain ⟨l0, l1, l2, l3, l4, l5⟩ := GG.out.lcells
    go_wp2_with fail
    refine (CA.out _ _ (LO.out.below GG.out.out) (tab_below HT.out GG.out.out) RX.out).mono ?_
    rintro e wa ⟨aa, ca, rfl, RA, ba⟩
    have RX := Lib.hid (RX.out.below ba.out)
    have GG := Lib.hid (GG.out.step ba.out)
    clear ba p0 p1 p2 p3 p4 p5 p6 l0 l1 l2 l3 l4 l5
    go_wp2_with fail
    refine (sametexts_eq _ _ _ _ RA.out RX.out).mono ?_
    rintro e ws ⟨rfl, bs⟩
    have GG := Lib.hid (GG.out.step bs)
    clear bs
    go_wp2_with fail
    refine (awake_any _ (tab_below HT.out GG.out.out)).mono ?_
    rintro e wk ⟨rfl, bk⟩
    have GG := Lib.hid (GG.out.step bk)
    clear bk
    go_wp2_with fail
    go_ret
    exact ⟨rfl, GG.out.out⟩
end Go.Proofs.YtoohbgjfhchnmaaDoor
