/- walks: PatchApplies (written by gen_vdm.py) -/
import Derived.Test.YtnkpigibjicmaaaDoorVdl
import Derived.Test.YtnkpigibjicmaaaDoorVxb
namespace Go.Proofs.YtnkpigibjicmaaaDoor
open Go.RowKit Go.Maps
open Pt Tx
theorem seg_small {a b : ByteArray} {M : List HV} (h : SegL 0 0 (scrD a b) (M.map (·.1))) (ha : a.size ≤ 300) (hb : b.size ≤ 300) : smallA M ∧ chk (M.map (·.1)) = 0 ∧ FitH (lnsP a) (lnsP b) 0 0 (M.map (·.1)) := by
  obtain ⟨h1, h2, h3, h4⟩ := seg_law h (by omega) (by omega)
  rw [List.length_map] at h3
  refine ⟨⟨by omega, fun p hp => ?_⟩, h2, h1⟩
  obtain ⟨h5, h6⟩ := h4 p.1 (List.mem_map_of_mem hp)
  exact ⟨by omega, fun x hx => by have := h6 x hx; omega⟩
theorem plc_row {M : List Hk} {j : Nat} {x : Int × Int × Int} (h : (M.map fun h => (beginP h.fa h.la + 1, (0 : Int), (0 : Int)))[j]? = some x) : x.2.1 = 0 ∧ x.2.2 = 0 := by
  rw [List.getElem?_map] at h
  obtain ⟨y, -, rfl⟩ := Option.map_eq_some_iff.1 h
  exact ⟨rfl, rfl⟩
set_option maxRecDepth 100000 in
set_option maxHeartbeats 8000000 in
theorem law_applies (a b : ByteArray) (ctx fuzz m : Int) (w : World) (hm : w.cell? ⟨0, 0, none⟩ = some (.int .i64 m)) (za : a.size ≤ 140737488351232) (zb : b.size ≤ 140737488351232) :
    Calls Tryd.prog 7 #[.string a, .string b, .agg #[.int .i64 ctx, .int .i64 fuzz]] w fun e w' => e = .returned (.bool true) ∧ Below w.heap.size w w' := by
  have HM := Lib.hid hm
  have AW := Lib.hid (fun W (hb : Below w.heap.size w W) => awake_any m W (kp hb HM.out))
  have B0 : Hid (Below w.heap.size w (w.alloc (.cells #[.int .i64 ctx, .int .i64 fuzz] 56))) := Lib.hid ((Below.refl _ _).alloc (Nat.le_refl _) _)
  have NA : Hid ((w.alloc (.cells #[.int .i64 ctx, .int .i64 fuzz] 56)).heap[w.heap.size]? = some (.cells #[.int .i64 ctx, .int .i64 fuzz] 56 (0, 0))) := Lib.hid (heap_alloc_new w _)
  have o0 : (w.alloc (.cells #[.int .i64 ctx, .int .i64 fuzz] 56)).cell? ⟨w.heap.size, 0, none⟩ = some (.int .i64 ctx) := blk_cellx NA.out 0 _ rfl
  have o1 : (w.alloc (.cells #[.int .i64 ctx, .int .i64 fuzz] 56)).cell? ⟨w.heap.size, 1, none⟩ = some (.int .i64 fuzz) := blk_cellx NA.out 1 _ rfl
  have o0d : (w.alloc (.cells #[.int .i64 ctx, .int .i64 fuzz] 56)).drew.cell? ⟨w.heap.size, 0, none⟩ = some (.int .i64 ctx) := o0
  have o1d : (w.alloc (.cells #[.int .i64 ctx, .int .i64 fuzz] 56)).drew.cell? ⟨w.heap.size, 1, none⟩ = some (.int .i64 fuzz) := o1
  clear hm
  by_cases h1 : a.size ≤ 300
  rotate_left
  · have t1 : (300 : Int) < (a.size : Int) := by omega
    go_enter Tryd.func7, Tryd.ntmps7
    go_wp2_with (go_at_call 10; (with_reducible refine (AW.out _ B0.out).mono ?_); rintro e w2 ⟨rfl, hb⟩; have B0 := Lib.hid (B0.out.trans (hb.out.mono B0.out.size)))
    go_region
    have B0 := Lib.hid B0.out.drew
    go_wp2_with (go_at_call 10; (with_reducible refine (AW.out _ B0.out).mono ?_); rintro e w2 ⟨rfl, hb⟩; have B0 := Lib.hid (B0.out.trans (hb.out.mono B0.out.size)))
    go_ret
    exact ⟨rfl, B0.out⟩
  have t1 : ¬ (300 : Int) < (a.size : Int) := by omega
  by_cases h2 : b.size ≤ 300
  rotate_left
  · have t2 : (300 : Int) < (b.size : Int) := by omega
    go_enter Tryd.func7, Tryd.ntmps7
    go_wp2_with (go_at_call 10; (with_reducible refine (AW.out _ B0.out).mono ?_); rintro e w2 ⟨rfl, hb⟩; have B0 := Lib.hid (B0.out.trans (hb.out.mono B0.out.size)))
    go_region
    have B0 := Lib.hid B0.out.drew
    go_wp2_with (go_at_call 10; (with_reducible refine (AW.out _ B0.out).mono ?_); rintro e w2 ⟨rfl, hb⟩; have B0 := Lib.hid (B0.out.trans (hb.out.mono B0.out.size)))
    go_ret
    exact ⟨rfl, B0.out⟩
  have t2 : ¬ (300 : Int) < (b.size : Int) := by omega
  by_cases h3 : ctx ≤ 8
  rotate_left
  · have t3 : (8 : Int) < ctx := by omega
    go_enter Tryd.func7, Tryd.ntmps7
    go_wp2_with (go_at_call 10; (with_reducible refine (AW.out _ B0.out).mono ?_); rintro e w2 ⟨rfl, hb⟩; have B0 := Lib.hid (B0.out.trans (hb.out.mono B0.out.size)))
    go_region
    have B0 := Lib.hid B0.out.drew
    go_wp2_with (go_at_call 10; (with_reducible refine (AW.out _ B0.out).mono ?_); rintro e w2 ⟨rfl, hb⟩; have B0 := Lib.hid (B0.out.trans (hb.out.mono B0.out.size)))
    go_ret
    exact ⟨rfl, B0.out⟩
  have t3 : ¬ (8 : Int) < ctx := by omega
  have CP := Lib.hid (fun W => compare_any ⟨#[97]⟩ ⟨#[98]⟩ a b ctx W h1 h2)
  have HSZ := Lib.hid (And.intro h1 h2)
  go_enter Tryd.func7, Tryd.ntmps7
  go_wp2_with fail
  go_region
  have B0 := Lib.hid B0.out.drew
  clear o0d o1d
  go_upto_region 5 with (go_at_call 15; (with_reducible refine (CP.out _).mono ?_); rintro _ w4 ⟨v4, M, rfl, HSG, HK0, hb⟩; have B0 := Lib.hid (B0.out.trans (hb.out.mono B0.out.size)); obtain ⟨n, hn⟩ : ∃ n, M.length = n := ⟨_, rfl⟩; obtain ⟨va, vc, e4, -⟩ := HK0.out.rows.sl (n := n) (by rw [List.length_map]; exact hn); subst e4)
  have HN := Lib.hid hn
  obtain ⟨w5, hw5⟩ : ∃ W, w4.alloc (.cells #[.string ⟨#[97]⟩, .string ⟨#[98]⟩, .slice va n vc] 24) = W := ⟨_, rfl⟩
  have B45 : Hid (Below w4.heap.size w4 w5) := Lib.hid (by rw [← hw5]; exact (Below.refl _ _).alloc (Nat.le_refl _) _)
  have N5 : Hid (w5.heap[w4.heap.size]? = some (.cells #[.string ⟨#[97]⟩, .string ⟨#[98]⟩, .slice va n vc] 24 (0, 0))) := Lib.hid (by rw [← hw5]; exact heap_alloc_new w4 _)
  have B0 := Lib.hid (B0.out.trans (B45.out.mono B0.out.size))
  have HK := Lib.hid (HK0.out.below B45.out)
  rw [hw5]
  obtain ⟨pb, hpb⟩ : ∃ k, w4.heap.size = k := ⟨_, rfl⟩
  rw [hpb] at N5 ⊢
  clear hw5 hpb hn B45 HK0 o0 o1 NA
  have y0 := blk_cellx N5.out 0 _ rfl
  have y1 := blk_cellx N5.out 1 _ rfl
  have y2 := blk_cellx N5.out 2 _ rfl
  have SS := Lib.hid (seg_small HSG.out HSZ.out.1 HSZ.out.2)
  have C0 := Lib.hid (Below.refl w5.heap.size w5)
  have WB : Hid (∀ W : World, Below w5.heap.size w5 W → Below w.heap.size w W) := Lib.hid (fun W hb => B0.out.trans (hb.mono B0.out.size))
  have AP1 := Lib.hid (fun W (hb : Below w5.heap.size w5 W) => apply_any a ⟨#[97]⟩ ⟨#[98]⟩ M (.slice va n vc) fuzz m W (kp (WB.out W hb) HM.out) (HK.out.below hb) SS.out.1 (by have := HSZ.out.1; omega) (Lib.hid (fit_apply SS.out.2.2 SS.out.2.1 fuzz)))
  rw [bA_self] at AP1
  have RV1 := Lib.hid (fun W (hb : Below w5.heap.size w5 W) => reverse_any ⟨#[97]⟩ ⟨#[98]⟩ M (.slice va n vc) W (HK.out.below hb) SS.out.1.r)
  have RFIT : Hid (∀ M2 : List HV, M2.map (·.1) = M.map (fun p => revH p.1) → smallA M2 ∧ chk (M2.map (·.1)) = 0 ∧ FitH (lnsP b) (lnsP a) 0 0 (M2.map (·.1))) := Lib.hid (fun M2 e => by
    have e2 : M.map (fun p => revH p.1) = (M.map (·.1)).map revH := by rw [List.map_map]; rfl
    refine ⟨smallA_rev SS.out.1 e, ?_, ?_⟩
    · rw [e, e2]; exact chk_revs SS.out.2.1
    · rw [e, e2]; exact SS.out.2.2.rev)
  have AP2 := Lib.hid (fun W (hb : Below w5.heap.size w5 W) (M2 : List HV) v2 (e : M2.map (·.1) = M.map (fun p => revH p.1)) (hv : HksAt W v2 M2) => apply_any b ⟨#[98]⟩ ⟨#[97]⟩ M2 v2 fuzz m W (kp (WB.out W hb) HM.out) hv (RFIT.out M2 e).1 (by have := HSZ.out.2; omega) (Lib.hid (fit_apply (RFIT.out M2 e).2.2 (RFIT.out M2 e).2.1 fuzz)))
  rw [bA_self] at AP2
  have CK1 := Lib.hid (fun W (hb : Below w5.heap.size w5 W) => check_any ⟨#[97]⟩ ⟨#[98]⟩ M (.slice va n vc) W (HK.out.below hb) SS.out.1.h)
  rw [SS.out.2.1] at CK1
  have CK2 : Hid (∀ W (M2 : List HV) v2, M2.map (·.1) = M.map (fun p => revH p.1) → HksAt W v2 M2 → Calls Tryd.prog 20 #[.agg #[.string ⟨#[98]⟩, .string ⟨#[97]⟩, v2]] W fun e w' => e = .returned (.int .i64 0) ∧ Hid (Below W.heap.size W w')) := Lib.hid (fun W M2 v2 e hv => by
    have := check_any ⟨#[98]⟩ ⟨#[97]⟩ M2 v2 W hv (RFIT.out M2 e).1.h
    rw [(RFIT.out M2 e).2.1] at this
    exact this)
  go_upto_region 7 with (first
    | (go_at_call 23; (with_reducible refine (RV1.out _ C0.out).mono ?_); rintro e w6 ⟨v6, M6, rfl, h6, H6, hb⟩; have C0 := Lib.hid (C0.out.trans (hb.out.mono C0.out.size)); have y0 := kp hb.out y0; have y1 := kp hb.out y1; have y2 := kp hb.out y2; have P1 := Lib.hid (P1.out.below hb.out))
    | (go_at_call 11; (first
      | ((with_reducible refine (AP1.out _ C0.out).mono ?_); rintro e w7 ⟨vp, vh, Mb, rfl, P1, h1, H1, -, -, hb⟩; have C0 := Lib.hid (C0.out.trans (hb.out.mono C0.out.size)); have y0 := kp hb.out y0; have y1 := kp hb.out y1; have y2 := kp hb.out y2; obtain ⟨ba, bc, eb, -⟩ := H1.out.rows.sl (n := 0) (by have := congrArg List.length h1.out; rw [List.length_map] at this ⊢; exact this); obtain ⟨pa, pc, ep, -⟩ := P1.out.sl (n := n) (by rw [List.length_map, List.length_map, List.length_map]; exact HN.out); subst eb ep)
      | ((with_reducible refine (AP2.out _ C0.out M6 v6 h6.out H6.out).mono ?_); rintro e w8 ⟨vp2, vh2, Mb2, rfl, P2, h2, H2, -, -, hb⟩; have C0 := Lib.hid (C0.out.trans (hb.out.mono C0.out.size)); have y0 := kp hb.out y0; have y1 := kp hb.out y1; have y2 := kp hb.out y2; have P1 := Lib.hid (P1.out.below hb.out); obtain ⟨ba2, bc2, eb2, -⟩ := H2.out.rows.sl (n := 0) (by have := congrArg List.length h2.out; rw [List.length_map] at this ⊢; exact this); obtain ⟨pa2, pc2, ep2, -⟩ := P2.out.sl (n := n) (by rw [List.length_map, List.length_map]; have := congrArg List.length h6.out; rw [List.length_map, List.length_map, HN.out] at this; rw [List.length_map]; exact this); subst eb2 ep2))))
  have HP1 := P1
  have HP2 := P2
  go_upto_region 9 with (first
    | (go_at_call 20; (first | ((with_reducible refine (CK1.out _ C0.out).mono ?_); rintro e w9 ⟨rfl, hb⟩) | ((with_reducible refine (CK2.out _ M9 v9 h9.out H9.out).mono ?_); rintro e w9 ⟨rfl, hb⟩)); have C0 := Lib.hid (C0.out.trans (hb.out.mono C0.out.size)); have y0 := kp hb.out y0; have y1 := kp hb.out y1; have y2 := kp hb.out y2; have HP1 := Lib.hid (HP1.out.below hb.out); have HP2 := Lib.hid (HP2.out.below hb.out))
    | (go_at_call 23; (with_reducible refine (RV1.out _ C0.out).mono ?_); rintro e w9 ⟨v9, M9, rfl, h9, H9, hb⟩; have C0 := Lib.hid (C0.out.trans (hb.out.mono C0.out.size)); have y0 := kp hb.out y0; have y1 := kp hb.out y1; have y2 := kp hb.out y2; have HP1 := Lib.hid (HP1.out.below hb.out); have HP2 := Lib.hid (HP2.out.below hb.out)))
  have CF := C0
  have Q1 := HP1
  have Q2 := HP2
  obtain ⟨wf, hwf⟩ : ∃ W : World, W = W := ⟨w, rfl⟩
  clear hwf wf
  have AWF := Lib.hid (fun W (hb : Below w5.heap.size w5 W) => awake_any m W (kp (WB.out W hb) HM.out))
  obtain ⟨pa', pc', e1, -, -, hc1⟩ := Q1.out.sl (n := n) (by rw [List.length_map, List.length_map, List.length_map]; exact HN.out)
  cases e1
  obtain ⟨pa', pc', e2, -, -, hc2⟩ := Q2.out.sl (n := n) (by rw [List.length_map, List.length_map]; have := congrArg List.length h6.out; rw [List.length_map, List.length_map, HN.out] at this; rw [List.length_map]; exact this)
  cases e2
  have H1C := Lib.hid hc1
  have H2C := Lib.hid hc2
  have LN6 : Hid (M6.length = n) := Lib.hid (by have := congrArg List.length h6.out; rw [List.length_map, List.length_map, HN.out] at this; exact this)
  have LN1 : Hid (n ≤ 610) := Lib.hid (by have := SS.out.1.1; rw [HN.out] at this; exact this)
  clear hc1 hc2
  go_wp2_with fail
  go_loop [16] (fun i => ∃ j : Nat, i = .int .i64 j ∧ j ≤ n) (fun i => n - (intOf i).toNat)
  case atStart => exact ⟨0, rfl, Nat.zero_le _⟩
  case round =>
    obtain ⟨j, rfl, hj⟩ := hrel
    have LN2 := LN1.out
    by_cases hlt : j < n
    · obtain ⟨x, hx⟩ : ∃ x, ((M.map (·.1)).map fun h => (beginP h.fa h.la + 1, (0 : Int), (0 : Int)))[j]? = some x := ⟨_, List.getElem?_eq_getElem (by rw [List.length_map, List.length_map, HN.out]; exact hlt)⟩
      obtain ⟨y, hy⟩ : ∃ x, ((M6.map (·.1)).map fun h => (beginP h.fa h.la + 1, (0 : Int), (0 : Int)))[j]? = some x := ⟨_, List.getElem?_eq_getElem (by rw [List.length_map, List.length_map, LN6.out]; exact hlt)⟩
      obtain ⟨ex1, ex2⟩ := plc_row hx
      obtain ⟨ey1, ey2⟩ := plc_row hy
      rcases H1C.out with h0 | ⟨g1, o1, rfl, -, hd1⟩
      · omega
      rcases H2C.out with h0 | ⟨g2, o2, rfl, -, hd2⟩
      · omega
      have a1 := hd1 j (rowG x) (by rw [List.getElem?_map, hx]; rfl) 1 _ rfl
      have a2 := hd1 j (rowG x) (by rw [List.getElem?_map, hx]; rfl) 2 _ rfl
      have b1 := hd2 j (rowG y) (by rw [List.getElem?_map, hy]; rfl) 1 _ rfl
      have b2 := hd2 j (rowG y) (by rw [List.getElem?_map, hy]; rfl) 2 _ rfl
      rw [ex1] at a1
      rw [ex2] at a2
      rw [ey1] at b1
      rw [ey2] at b2
      have p0 : (0 : Int) ≤ (j : Int) := by omega
      have p1 : (j : Int) < (n : Int) := by omega
      have p2 : IntKind.i64.wrap (j : Int) = (j : Int) := IntWalk.i64_in _ (by omega)
      have p3 : IntKind.i64.wrap ((j : Int) + 1) = (j : Int) + 1 := IntWalk.i64_in _ (by omega)
      clear hx hy ex1 ex2 ey1 ey2 hd1 hd2
      go_wp2_with fail
      go_round
      case rel => exact ⟨j + 1, by go_num, by omega⟩
      case measure => simp [intOf]; omega
    · have p1 : ¬ (j : Int) < (n : Int) := by omega
      go_wp2_with (go_at_call 10; (with_reducible refine (AWF.out _ CF.out).mono ?_); rintro e w2 ⟨rfl, hb⟩; have CG := Lib.hid (CF.out.trans (hb.out.mono CF.out.size)))
      go_ret
      exact ⟨rfl, WB.out _ CG.out⟩
end Go.Proofs.YtnkpigibjicmaaaDoor
