/- walks: equal hunks are the same (written by gen_vj.py) -/
import Derived.Test.YtnkpigibjicmaaaDoorVi
namespace Go.Proofs.YtnkpigibjicmaaaDoor
open Go.RowKit Go.Maps
open Pt
set_option maxRecDepth 100000 in
set_option maxHeartbeats 4000000 in
theorem samehunk_eq (h : Hk) (u x : Value) (w : World) (hu : RowsAt w u 3 (h.ls.map rowD)) (hx : RowsAt w x 3 (h.ls.map rowD)) (hl : h.ls.length ≤ 1048576) :
    Calls Tryd.prog 36 #[vH h u, vH h x] w fun e w' => e = .returned (.bool true) ∧ Hid (Below w.heap.size w w') := by
  obtain ⟨fa, la, fb, lb, l⟩ := h
  simp only at hu hx hl
  obtain ⟨n, hn⟩ : ∃ n, l.length = n := ⟨_, rfl⟩
  have HN := Lib.hid hn
  obtain ⟨ua, uc, rfl, u1, u2, hcu⟩ := hu.sl (n := n) (by rw [List.length_map]; exact hn)
  obtain ⟨xa, xc, rfl, x1, x2, hcx⟩ := hx.sl (n := n) (by rw [List.length_map]; exact hn)
  have HU := Lib.hid hcu
  have HX := Lib.hid hcx
  rw [hn] at hl
  unfold maxLen at u2 x2
  have s1 : (w.alloc (.cells #[.int .i64 fa, .int .i64 la, .int .i64 fb, .int .i64 lb, .slice ua n uc] 38)).heap.size = w.heap.size + 1 := World.size_alloc _ _
  have B0 : Hid (Below w.heap.size w ((w.alloc (.cells #[.int .i64 fa, .int .i64 la, .int .i64 fb, .int .i64 lb, .slice ua n uc] 38)).alloc (.cells #[.int .i64 fa, .int .i64 la, .int .i64 fb, .int .i64 lb, .slice xa n xc] 38))) := Lib.hid (((Below.refl _ _).alloc (Nat.le_refl _) _).alloc (by rw [s1]; omega) _)
  have n1 := (Below.heap_alloc (w.alloc (.cells #[.int .i64 fa, .int .i64 la, .int .i64 fb, .int .i64 lb, .slice ua n uc] 38)) (.cells #[.int .i64 fa, .int .i64 la, .int .i64 fb, .int .i64 lb, .slice xa n xc] 38) w.heap.size (by rw [s1]; omega)).trans (heap_alloc_new w (.cells #[.int .i64 fa, .int .i64 la, .int .i64 fb, .int .i64 lb, .slice ua n uc] 38))
  have n2 := heap_alloc_new (w.alloc (.cells #[.int .i64 fa, .int .i64 la, .int .i64 fb, .int .i64 lb, .slice ua n uc] 38)) (.cells #[.int .i64 fa, .int .i64 la, .int .i64 fb, .int .i64 lb, .slice xa n xc] 38)
  rw [s1] at n2
  have Y0 : Hid (((w.alloc (.cells #[.int .i64 fa, .int .i64 la, .int .i64 fb, .int .i64 lb, .slice ua n uc] 38)).alloc (.cells #[.int .i64 fa, .int .i64 la, .int .i64 fb, .int .i64 lb, .slice xa n xc] 38)).cell? ⟨w.heap.size, 0, none⟩ = some (.int .i64 fa)) := Lib.hid (blk_cellx n1 0 _ rfl)
  have Z0 : Hid (((w.alloc (.cells #[.int .i64 fa, .int .i64 la, .int .i64 fb, .int .i64 lb, .slice ua n uc] 38)).alloc (.cells #[.int .i64 fa, .int .i64 la, .int .i64 fb, .int .i64 lb, .slice xa n xc] 38)).cell? ⟨w.heap.size + 1, 0, none⟩ = some (.int .i64 fa)) := Lib.hid (blk_cellx n2 0 _ rfl)
  have y0 := Y0.out
  have z0 := Z0.out
  have Y1 : Hid (((w.alloc (.cells #[.int .i64 fa, .int .i64 la, .int .i64 fb, .int .i64 lb, .slice ua n uc] 38)).alloc (.cells #[.int .i64 fa, .int .i64 la, .int .i64 fb, .int .i64 lb, .slice xa n xc] 38)).cell? ⟨w.heap.size, 1, none⟩ = some (.int .i64 la)) := Lib.hid (blk_cellx n1 1 _ rfl)
  have Z1 : Hid (((w.alloc (.cells #[.int .i64 fa, .int .i64 la, .int .i64 fb, .int .i64 lb, .slice ua n uc] 38)).alloc (.cells #[.int .i64 fa, .int .i64 la, .int .i64 fb, .int .i64 lb, .slice xa n xc] 38)).cell? ⟨w.heap.size + 1, 1, none⟩ = some (.int .i64 la)) := Lib.hid (blk_cellx n2 1 _ rfl)
  have y1 := Y1.out
  have z1 := Z1.out
  have Y2 : Hid (((w.alloc (.cells #[.int .i64 fa, .int .i64 la, .int .i64 fb, .int .i64 lb, .slice ua n uc] 38)).alloc (.cells #[.int .i64 fa, .int .i64 la, .int .i64 fb, .int .i64 lb, .slice xa n xc] 38)).cell? ⟨w.heap.size, 2, none⟩ = some (.int .i64 fb)) := Lib.hid (blk_cellx n1 2 _ rfl)
  have Z2 : Hid (((w.alloc (.cells #[.int .i64 fa, .int .i64 la, .int .i64 fb, .int .i64 lb, .slice ua n uc] 38)).alloc (.cells #[.int .i64 fa, .int .i64 la, .int .i64 fb, .int .i64 lb, .slice xa n xc] 38)).cell? ⟨w.heap.size + 1, 2, none⟩ = some (.int .i64 fb)) := Lib.hid (blk_cellx n2 2 _ rfl)
  have y2 := Y2.out
  have z2 := Z2.out
  have Y3 : Hid (((w.alloc (.cells #[.int .i64 fa, .int .i64 la, .int .i64 fb, .int .i64 lb, .slice ua n uc] 38)).alloc (.cells #[.int .i64 fa, .int .i64 la, .int .i64 fb, .int .i64 lb, .slice xa n xc] 38)).cell? ⟨w.heap.size, 3, none⟩ = some (.int .i64 lb)) := Lib.hid (blk_cellx n1 3 _ rfl)
  have Z3 : Hid (((w.alloc (.cells #[.int .i64 fa, .int .i64 la, .int .i64 fb, .int .i64 lb, .slice ua n uc] 38)).alloc (.cells #[.int .i64 fa, .int .i64 la, .int .i64 fb, .int .i64 lb, .slice xa n xc] 38)).cell? ⟨w.heap.size + 1, 3, none⟩ = some (.int .i64 lb)) := Lib.hid (blk_cellx n2 3 _ rfl)
  have y3 := Y3.out
  have z3 := Z3.out
  have Y4 : Hid (((w.alloc (.cells #[.int .i64 fa, .int .i64 la, .int .i64 fb, .int .i64 lb, .slice ua n uc] 38)).alloc (.cells #[.int .i64 fa, .int .i64 la, .int .i64 fb, .int .i64 lb, .slice xa n xc] 38)).cell? ⟨w.heap.size, 4, none⟩ = some (.slice ua n uc)) := Lib.hid (blk_cellx n1 4 _ rfl)
  have Z4 : Hid (((w.alloc (.cells #[.int .i64 fa, .int .i64 la, .int .i64 fb, .int .i64 lb, .slice ua n uc] 38)).alloc (.cells #[.int .i64 fa, .int .i64 la, .int .i64 fb, .int .i64 lb, .slice xa n xc] 38)).cell? ⟨w.heap.size + 1, 4, none⟩ = some (.slice xa n xc)) := Lib.hid (blk_cellx n2 4 _ rfl)
  have y4 := Y4.out
  have z4 := Z4.out
  clear hu hx hn hcu hcx n1 n2 s1
  go_enter Tryd.func36, Tryd.ntmps36
  go_wp2_with fail
  clear y0 y1 y2 y3 y4 z0 z1 z2 z3 z4
  go_loopw [5] (fun i wr => ∃ j : Nat, i = .int .i64 j ∧ j ≤ n ∧ Hid (Below ((w.alloc (.cells #[.int .i64 fa, .int .i64 la, .int .i64 fb, .int .i64 lb, .slice ua n uc] 38)).alloc (.cells #[.int .i64 fa, .int .i64 la, .int .i64 fb, .int .i64 lb, .slice xa n xc] 38)).heap.size ((w.alloc (.cells #[.int .i64 fa, .int .i64 la, .int .i64 fb, .int .i64 lb, .slice ua n uc] 38)).alloc (.cells #[.int .i64 fa, .int .i64 la, .int .i64 fb, .int .i64 lb, .slice xa n xc] 38)) wr)) (fun i _ => n - (intOf i).toNat)
  case atStart => exact ⟨0, rfl, Nat.zero_le _, Lib.hid (Below.refl _ _)⟩
  case round =>
    obtain ⟨j, rfl, hj, BK⟩ := hrel
    have BW := Lib.hid (B0.out.trans (BK.out.mono B0.out.size))
    have y4 := kp BK.out Y4.out
    have z4 := kp BK.out Z4.out
    by_cases hlt : j < n
    · obtain ⟨x, hx⟩ : ∃ x, l[j]? = some x := ⟨_, List.getElem?_eq_getElem (by rw [HN.out]; exact hlt)⟩
      rcases HU.out with h0 | ⟨g, o, rfl, -, hcc⟩
      · omega
      rcases HX.out with h0 | ⟨g2, o2, rfl, -, hcc2⟩
      · omega
      have m1 : (l.map rowD)[j]? = some (rowD x) := by rw [List.getElem?_map, hx]; rfl
      have d0 := kp BW.out (hcc j _ m1 0 _ rfl)
      have d1 := kp BW.out (hcc j _ m1 1 _ rfl)
      have d2 := kp BW.out (hcc j _ m1 2 _ rfl)
      rw [Nat.add_zero] at d0
      have e0 := kp BW.out (hcc2 j _ m1 0 _ rfl)
      have e1 := kp BW.out (hcc2 j _ m1 1 _ rfl)
      have e2 := kp BW.out (hcc2 j _ m1 2 _ rfl)
      rw [Nat.add_zero] at e0
      have p0 : (0 : Int) ≤ (j : Int) := by omega
      have p1 : (j : Int) < (n : Int) := by omega
      have p2 : IntKind.i64.wrap (j : Int) = (j : Int) := IntWalk.i64_in _ (by omega)
      obtain ⟨xo, xt, xn⟩ := x
      clear hcc hcc2 m1 hx
      go_wp2_with fail
      go_quiet (fail)
      go_wp2_with fail
      go_roundw
      case rel => exact ⟨j + 1, by go_num, by omega, Lib.hid (BK.out.trans ((bel_dn wr _).mono BK.out.size))⟩
      case measure => simp [intOf]; omega
    · obtain rfl : j = n := by omega
      go_wp2_with fail
      go_ret
      exact ⟨rfl, BW⟩
set_option maxRecDepth 100000 in
set_option maxHeartbeats 4000000 in
theorem samehunks_eq (L M : List HV) (u v : Value) (w : World) (hu : HksAt w u L) (hv : HksAt w v M) (he : L.map (·.1) = M.map (·.1)) (hs : smallH L) :
    Calls Tryd.prog 14 #[u, v] w fun e w' => e = .returned (.bool true) ∧ Hid (Below w.heap.size w w') := by
  obtain ⟨n, hn⟩ : ∃ n, L.length = n := ⟨_, rfl⟩
  have hm : M.length = n := by have := congrArg List.length he; simp at this; omega
  have HN := Lib.hid (And.intro hn hm)
  have HE := Lib.hid he
  have HS := Lib.hid hs
  have HUV := Lib.hid (And.intro hu.each hv.each)
  obtain ⟨ua, uc, rfl, u1, u2, hcu⟩ := hu.rows.sl (n := n) (by rw [List.length_map]; exact hn)
  obtain ⟨xa, xc, rfl, x1, x2, hcx⟩ := hv.rows.sl (n := n) (by rw [List.length_map]; exact hm)
  have HU := Lib.hid hcu
  have HX := Lib.hid hcx
  have hl := hs.1
  rw [hn] at hl
  unfold maxLen at u2 x2
  clear hu hv hn hm hcu hcx he hs
  go_enter Tryd.func14, Tryd.ntmps14
  go_wp2_with fail
  go_loopw [5] (fun i wr => ∃ j : Nat, i = .int .i64 j ∧ j ≤ n ∧ Hid (Below w.heap.size w wr)) (fun i _ => n - (intOf i).toNat)
  case atStart => exact ⟨0, rfl, Nat.zero_le _, Lib.hid (Below.refl _ _)⟩
  case round =>
    obtain ⟨j, rfl, hj, BK⟩ := hrel
    by_cases hlt : j < n
    · obtain ⟨x, hx⟩ : ∃ x, L[j]? = some x := ⟨_, List.getElem?_eq_getElem (by rw [HN.out.1]; exact hlt)⟩
      obtain ⟨y, hy⟩ : ∃ y, M[j]? = some y := ⟨_, List.getElem?_eq_getElem (by rw [HN.out.2]; exact hlt)⟩
      have exy : x.1 = y.1 := by
        have := congrArg (fun l : List Hk => l[j]?) HE.out
        simp only [List.getElem?_map, hx, hy, Option.map_some] at this
        exact Option.some.inj this
      rcases HU.out with h0 | ⟨g, o, rfl, -, hcc⟩
      · omega
      rcases HX.out with h0 | ⟨g2, o2, rfl, -, hcc2⟩
      · omega
      have m1 : (L.map rowH)[j]? = some (rowH x) := by rw [List.getElem?_map, hx]; rfl
      have m2 : (M.map rowH)[j]? = some (rowH y) := by rw [List.getElem?_map, hy]; rfl
      have d0 := kp BK.out (hcc j _ m1 0 _ rfl)
      have e0 := kp BK.out (hcc2 j _ m2 0 _ rfl)
      have d1 := kp BK.out (hcc j _ m1 1 _ rfl)
      have e1 := kp BK.out (hcc2 j _ m2 1 _ rfl)
      have d2 := kp BK.out (hcc j _ m1 2 _ rfl)
      have e2 := kp BK.out (hcc2 j _ m2 2 _ rfl)
      have d3 := kp BK.out (hcc j _ m1 3 _ rfl)
      have e3 := kp BK.out (hcc2 j _ m2 3 _ rfl)
      have d4 := kp BK.out (hcc j _ m1 4 _ rfl)
      have e4 := kp BK.out (hcc2 j _ m2 4 _ rfl)
      rw [Nat.add_zero] at d0 e0
      have RX := Lib.hid ((HUV.out.1 x (List.mem_of_getElem? hx)).below BK.out)
      have RY := Lib.hid ((HUV.out.2 y (List.mem_of_getElem? hy)).below BK.out)
      have SX := Lib.hid (HS.out.2 x (List.mem_of_getElem? hx))
      have p0 : (0 : Int) ≤ (j : Int) := by omega
      have p1 : (j : Int) < (n : Int) := by omega
      have p2 : IntKind.i64.wrap (j : Int) = (j : Int) := IntWalk.i64_in _ (by omega)
      obtain ⟨hx1, ux⟩ := x
      obtain ⟨hy1, uy⟩ := y
      simp only at exy
      subst exy
      simp only at RX RY SX d0 d1 d2 d3 d4 e0 e1 e2 e3 e4
      have SE := Lib.hid (fun W (hb : Below wr.heap.size wr W) => samehunk_eq hx1 ux uy W (RX.out.below hb) (RY.out.below hb) SX.out.1)
      obtain ⟨fa, la, fb, lb, ls⟩ := hx1
      simp only at d0 d1 d2 d3 d4 e0 e1 e2 e3 e4
      have DD := Lib.hid (And.intro d0 (And.intro d1 (And.intro d2 (And.intro d3 (And.intro d4 (And.intro e0 (And.intro e1 (And.intro e2 (And.intro e3 e4)))))))))
      have CE : Hid (∀ w', Below wr.heap.size wr w' → Below wr.heap.size wr w' ∧ w'.cell? ⟨g, o + j * 5, none⟩ = some (.int .i64 fa) ∧ w'.cell? ⟨g, o + j * 5 + 1, none⟩ = some (.int .i64 la) ∧ w'.cell? ⟨g, o + j * 5 + 2, none⟩ = some (.int .i64 fb) ∧ w'.cell? ⟨g, o + j * 5 + 3, none⟩ = some (.int .i64 lb) ∧ w'.cell? ⟨g, o + j * 5 + 4, none⟩ = some (ux) ∧ w'.cell? ⟨g2, o2 + j * 5, none⟩ = some (.int .i64 fa) ∧ w'.cell? ⟨g2, o2 + j * 5 + 1, none⟩ = some (.int .i64 la) ∧ w'.cell? ⟨g2, o2 + j * 5 + 2, none⟩ = some (.int .i64 fb) ∧ w'.cell? ⟨g2, o2 + j * 5 + 3, none⟩ = some (.int .i64 lb) ∧ w'.cell? ⟨g2, o2 + j * 5 + 4, none⟩ = some (uy)) := Lib.hid (fun w' h => ⟨h, kp h DD.out.1, kp h DD.out.2.1, kp h DD.out.2.2.1, kp h DD.out.2.2.2.1, kp h DD.out.2.2.2.2.1, kp h DD.out.2.2.2.2.2.1, kp h DD.out.2.2.2.2.2.2.1, kp h DD.out.2.2.2.2.2.2.2.1, kp h DD.out.2.2.2.2.2.2.2.2.1, kp h DD.out.2.2.2.2.2.2.2.2.2⟩)
      have S0 := CE.out _ (Below.refl wr.heap.size wr).drew
      clear hcc hcc2 m1 m2 hx hy
      clear d0 d1 d2 d3 d4 e0 e1 e2 e3 e4
      go_wp2_with fail
      go_region_held3 (fun w' => Below wr.heap.size wr w' ∧ w'.cell? ⟨g, o + j * 5, none⟩ = some (.int .i64 fa) ∧ w'.cell? ⟨g, o + j * 5 + 1, none⟩ = some (.int .i64 la) ∧ w'.cell? ⟨g, o + j * 5 + 2, none⟩ = some (.int .i64 fb) ∧ w'.cell? ⟨g, o + j * 5 + 3, none⟩ = some (.int .i64 lb) ∧ w'.cell? ⟨g, o + j * 5 + 4, none⟩ = some (ux) ∧ w'.cell? ⟨g2, o2 + j * 5, none⟩ = some (.int .i64 fa) ∧ w'.cell? ⟨g2, o2 + j * 5 + 1, none⟩ = some (.int .i64 la) ∧ w'.cell? ⟨g2, o2 + j * 5 + 2, none⟩ = some (.int .i64 fb) ∧ w'.cell? ⟨g2, o2 + j * 5 + 3, none⟩ = some (.int .i64 lb) ∧ w'.cell? ⟨g2, o2 + j * 5 + 4, none⟩ = some (uy)) (first | exact S0)
        (first | (go_at_call 36; refine (SE.out _ S0.1).mono ?_; rintro _ w3 ⟨rfl, B3⟩; have S0 := CE.out _ (S0.1.trans (B3.out.mono S0.1.size))))
      go_wp2_with fail
      go_roundw
      case rel => exact ⟨j + 1, by go_num, by omega, Lib.hid (BK.out.trans (S0.1.mono BK.out.size))⟩
      case measure => simp [intOf]; omega
    · obtain rfl : j = n := by omega
      go_wp2_with fail
      go_ret
      exact ⟨rfl, BK⟩
end Go.Proofs.YtnkpigibjicmaaaDoor
