/- walks: Compare of the program's locale, the comparison itself -/
import Derived.Test.YtbhdhcnbagjmcaaDoorZd
import Derived.Deep.Cut
namespace Go.Proofs.YtbhdhcnbagjmcaaDoor
open Go.RowKit Go.Maps Go.WideMaps
open Lcl
def CmpR (c : Int) (w : World) (e : Ending) (w' : World) : Prop := e = .returned (.int .i64 c) ∧ Below w.heap.size w w'
theorem cmpr_mk {c d : Int} {w w' : World} (h : d = c) (hb : Below w.heap.size w w') : CmpR c w (.returned (.int .i64 d)) w' := ⟨by rw [h], hb⟩
/-- a row of numbers: where its cells are -/
theorem irow_cells {w : World} {B : Nat} {v : Value} {L : List Int} (h : IRow w B v L) : ∃ a cap, v = .slice a L.length cap ∧ ∀ (k : Nat) x, L[k]? = some x → ∃ g, a = some ⟨g, 0, none⟩ ∧ g < w.heap.size ∧ w.cell? ⟨g, k, none⟩ = some (.int .i64 x) := by
  rcases h.2 with ⟨rfl, hn⟩ | ⟨g, cap, cur, rfl, hB, hg, r⟩
  · exact ⟨none, 0, by rw [hn], fun k x hx => by have := (List.getElem?_eq_some_iff.1 hx).1; omega⟩
  · refine ⟨some ⟨g, 0, none⟩, cap, rfl, fun k x hx => ⟨g, rfl, (Array.getElem?_eq_some_iff.1 hg).1, ?_⟩⟩
    have hlt := (List.getElem?_eq_some_iff.1 hx).1
    rw [h.cellAt k (by omega)]
    simp [ints, hx]
theorem not_int {w : World} {v : Value} {k : Nat} {l : List (List Value)} (h : RowsAt w v k l) : ∀ (K : IntKind) (n : Int), v ≠ Value.int K n := by
  obtain ⟨a, cap, rfl, _⟩ := h
  intro K n e; cases e
set_option maxRecDepth 100000 in
set_option maxHeartbeats 8000000 in
theorem compare_any (n : ByteArray) (v1 : Value) (lo up : ByteArray) (v4 v5 : Value) (W : List Int) (C : List Cl) (E : List El) (a b : ByteArray) (w : World) (hL : LocAt w v1 v4 v5 W C E) (hn : n.size ≤ 9223372036854775807) (ha : a.size ≤ 1048576) (hb : b.size ≤ 1048576) :
    Calls Tryd.prog 29 #[lval n v1 lo up v4 v5, .string a, .string b] w (CmpR (locC n W lo up C E a b) w) := by
  have LO := Lib.hid (hL.below ((Below.refl w.heap.size w).alloc (Nat.le_refl _) (.cells #[.string n, v1, .string lo, .string up, v4, v5] 30))); clear hL
  have ZN := Lib.hid hn; clear hn
  have SA := Lib.hid ha; clear ha
  have SB := Lib.hid hb; clear hb
  obtain ⟨kw, ke⟩ := ok_facts n W lo up C E
  have VA := Lib.hid (valid_any n v1 lo up v4 v5 W C E _ LO.out ZN.out)
  unfold locC
  obtain ⟨ok, hok⟩ : ∃ b, okL n W lo up C E = b := ⟨_, rfl⟩
  rw [hok] at VA kw ke ⊢
  clear hok
  obtain ⟨W', hW'⟩ : ∃ W', eL ok W (wtab 256) = W' := ⟨_, rfl⟩
  obtain ⟨E', hE'⟩ : ∃ E', eL ok E [] = E' := ⟨_, rfl⟩
  rw [hW'] at kw ⊢
  rw [hE'] at ke ⊢
  have HW' := Lib.hid hW'
  have HE' := Lib.hid hE'
  have KW := Lib.hid kw
  have KE := Lib.hid ke
  clear hW' hE' kw ke
  go_enter Tryd.func29, Tryd.ntmps29
  go_wp2_with fail
  refine VA.out.mono ?_
  intro e w1 h1
  obtain ⟨n', v1', v4', v5', rfl, LV, hb1⟩ := vout_is h1
  clear h1
  rw [HW'.out, HE'.out] at LV
  obtain ⟨a1', c1', ee1, -⟩ := LV.out.r1
  obtain ⟨a4', c4', ee4, -⟩ := LV.out.r4
  obtain ⟨a5', c5', ee5, -⟩ := LV.out.r5
  rw [List.length_map] at ee1 ee4 ee5
  subst ee1 ee4 ee5
  obtain ⟨lo', hlo⟩ : ∃ x, eS ok lo (ltab 256) = x := ⟨_, rfl⟩
  obtain ⟨up', hup⟩ : ∃ x, eS ok up (utab 256) = x := ⟨_, rfl⟩
  rw [hlo, hup]
  clear hlo hup
  have q1 : w1.heap[w.heap.size]? = some (.cells #[.string n, v1, .string lo, .string up, v4, v5] 30 (0, 0)) := by
    rw [hb1.out.block _ (by rw [World.size_alloc]; omega)]; exact heap_alloc_new _ _
  have z1 : w.heap.size + 1 ≤ w1.heap.size := by have := hb1.out.size; rw [World.size_alloc] at this; exact this
  have NI := six_none q1 (not_int LO.out.r1) (not_int LO.out.r4) (not_int LO.out.r5)
  obtain ⟨d0, d1, d2, d3, d4, d5⟩ := lrow_cells q1
  have e0 := lrow_frozen q1 0
  have e1 := lrow_frozen q1 1
  have e2 := lrow_frozen q1 2
  have e3 := lrow_frozen q1 3
  have e4 := lrow_frozen q1 4
  have e5 := lrow_frozen q1 5
  have blk8 := six_set (a := .string n') (b := (.slice a1' W'.length c1')) (c := .string lo') (d := .string up') (e := (.slice a4' (eL ok C []).length c4')) (f := (.slice a5' E'.length c5')) q1
  have LW := Lib.hid (loc_off LV.out (fun g hg => six_other (a := .string n') (b := (.slice a1' W'.length c1')) (c := .string lo') (d := .string up') (e := (.slice a4' (eL ok C []).length c4')) (f := (.slice a5' E'.length c5')) hg) (by simp only [World.size_setCell]; exact Nat.le_refl _) NI)
  have BZ := Lib.hid <| six_below (g := w.heap.size) (a := .string n') (b := (.slice a1' W'.length c1')) (c := .string lo') (d := .string up') (e := (.slice a4' (eL ok C []).length c4')) (f := (.slice a5' E'.length c5')) (below_step hb1.out) (Nat.le_refl _)
  have BK := Lib.hid (LBlk.mk (lrow_cells blk8).1 (lrow_cells blk8).2.1 (lrow_cells blk8).2.2.1 (lrow_cells blk8).2.2.2.1 (lrow_cells blk8).2.2.2.2.1 (lrow_cells blk8).2.2.2.2.2)
  have Q1 := Lib.hid q1
  clear q1 NI blk8 LV hb1
  go_upto_region 2 with (fail)
  obtain ⟨w2, hw2⟩ : ∃ w2, ((((((w1.setCell ⟨w.heap.size, 0, none⟩ (.string n')).setCell ⟨w.heap.size, 1, none⟩ (.slice a1' W'.length c1')).setCell ⟨w.heap.size, 2, none⟩ (.string lo')).setCell ⟨w.heap.size, 3, none⟩ (.string up')).setCell ⟨w.heap.size, 4, none⟩ (.slice a4' (eL ok C []).length c4')).setCell ⟨w.heap.size, 5, none⟩ (.slice a5' E'.length c5')) = w2 := ⟨_, rfl⟩
  rw [hw2] at BK LW BZ ⊢
  clear hw2 d0 d1 d2 d3 d4 d5 e0 e1 e2 e3 e4 e5 z1 Q1
  go_wp2_with fail
  refine (weights_any n' lo' up' (.slice a1' W'.length c1') (.slice a4' (eL ok C []).length c4') (.slice a5' E'.length c5') W' _ E' a w.heap.size w2 BK.out LW.out KW.out KE.out SA.out).mono ?_
  rintro e w3 ⟨x, rfl, R1, hb3⟩
  go_wp2_with fail
  refine (weights_any n' lo' up' (.slice a1' W'.length c1') (.slice a4' (eL ok C []).length c4') (.slice a5' E'.length c5') W' _ E' b w.heap.size w3 (BK.out.below hb3.out) (LW.out.below hb3.out) KW.out KE.out SB.out).mono ?_
  rintro e w4 ⟨y, rfl, R2, hb4⟩
  obtain ⟨X, hX⟩ : ∃ X, wts W' (fstE (E'.map El.pr)) a.data.toList = X := ⟨_, rfl⟩
  obtain ⟨Y, hY⟩ : ∃ Y, wts W' (fstE (E'.map El.pr)) b.data.toList = Y := ⟨_, rfl⟩
  have mX := wts_len W' (fstE (E'.map El.pr)) _ a.data.toList (Nat.le_refl _)
  have mY := wts_len W' (fstE (E'.map El.pr)) _ b.data.toList (Nat.le_refl _)
  rw [hX] at R1 mX
  rw [hY] at R2 mY
  have CS : Hid (cmpS W' (fstE (E'.map El.pr)) a.data.toList b.data.toList = if ordI X Y = 0 then ordI (bys a.data.toList) (bys b.data.toList) else ordI X Y) := Lib.hid (by unfold cmpS; rw [hX, hY])
  have lX : X.length ≤ 1048576 := Nat.le_trans mX SA.out
  have lY : Y.length ≤ 1048576 := Nat.le_trans mY SB.out
  obtain ⟨ax, capx, rfl, hcx⟩ := irow_cells (irow_below R1.out hb4.out)
  obtain ⟨ay, capy, rfl, hcy⟩ := irow_cells R2.out
  have B4 := Lib.hid ((BZ.out.trans (hb3.out.mono BZ.out.size)).trans (hb4.out.mono (Nat.le_trans BZ.out.size hb3.out.size)))
  have HCX := Lib.hid hcx
  have HCY := Lib.hid hcy
  clear mX mY hX hY hcx hcy R1 R2 BK LW hb3 hb4 BZ VA LO HW' HE' KW KE
  go_wp2_with fail
  go_loopw [25] (fun i wr => ∃ k : Nat, k ≤ X.length ∧ k ≤ Y.length ∧ i = .int .i64 k ∧ Hid (X.take k = Y.take k) ∧ Hid (Below w4.heap.size w4 wr)) (fun i _ => X.length - (intOf i).toNat)
  case atStart => exact ⟨0, Nat.zero_le _, Nat.zero_le _, rfl, Lib.hid rfl, Lib.hid (Below.refl _ _)⟩
  case round =>
    obtain ⟨k, hk1, hk2, rfl, TK, BK⟩ := hrel
    by_cases hlt : k < X.length ∧ k < Y.length
    · obtain ⟨h1, h2⟩ := hlt
      have tm : decide ((k : Int) < min (X.length : Int) (Y.length : Int)) = true := by rw [decide_eq_true_eq]; omega
      obtain ⟨x, hx⟩ : ∃ x, X[k]? = some x := ⟨_, List.getElem?_eq_getElem h1⟩
      obtain ⟨y, hy⟩ : ∃ y, Y[k]? = some y := ⟨_, List.getElem?_eq_getElem h2⟩
      obtain ⟨g, rfl, hg, hc⟩ := HCX.out k x hx
      obtain ⟨g2, rfl, hg2, hc2⟩ := HCY.out k y hy
      have r1 := (BK.out.cell (p := ⟨g, k, none⟩) hg).trans hc
      have r2 := (BK.out.cell (p := ⟨g2, k, none⟩) hg2).trans hc2
      obtain ⟨o1, o2, o3⟩ := ordI_at TK.out hx hy
      clear hx hy hc hc2
      rcases (show x < y ∨ y < x ∨ x = y by omega) with hxy | hxy | hxy
      · have O := Lib.hid (o1 hxy)
        have t1 : decide (x < y) = true := decide_eq_true hxy
        clear o1 o2 o3 hxy
        go_wp2_with fail
        go_quiet (fail)
        go_wp2_with fail
        go_ret
        exact cmpr_mk (by rw [CS.out, O.out]; rfl) (B4.out.trans ((below_drewN BK.out _).mono B4.out.size))
      · have O := Lib.hid (o2 hxy)
        have t1 : decide (x < y) = false := decide_eq_false (by omega)
        have t2 : decide (y < x) = true := decide_eq_true hxy
        clear o1 o2 o3 hxy
        go_wp2_with fail
        go_quiet (fail)
        go_wp2_with fail
        go_quiet (fail)
        go_wp2_with fail
        go_ret
        exact cmpr_mk (by rw [CS.out, O.out]; rfl) (B4.out.trans ((below_drewN (below_drewN BK.out _) _).mono B4.out.size))
      · have O := Lib.hid (o3 hxy)
        subst hxy
        have t1 : decide (x < x) = false := decide_eq_false (by omega)
        clear o1 o2 o3
        go_wp2_with fail
        go_quiet (fail)
        go_wp2_with fail
        go_quiet (fail)
        go_wp2_with fail
        go_roundw
        case rel => exact ⟨k + 1, h1, h2, by go_num, O, Lib.hid (below_drewN BK.out _)⟩
        case measure => simp [intOf]; omega
    · have tm : decide ((k : Int) < min (X.length : Int) (Y.length : Int)) = false := by rw [decide_eq_false_iff_not]; omega
      obtain ⟨o1, o2, o3⟩ := ordI_end TK.out hk1 hk2 (by omega)
      have BN := Lib.hid (B4.out.trans (BK.out.mono B4.out.size))
      clear HCX HCY TK BK
      rcases (show X.length < Y.length ∨ Y.length < X.length ∨ X.length = Y.length by omega) with hxy | hxy | hxy
      · have O := Lib.hid (o1 hxy)
        clear o1 o2 o3
        go_wp2_with fail
        go_ret
        exact cmpr_mk (by rw [CS.out, O.out]; rfl) BN.out
      · have O := Lib.hid (o2 hxy)
        clear o1 o2 o3
        go_wp2_with fail
        go_ret
        exact cmpr_mk (by rw [CS.out, O.out]; rfl) BN.out
      · have O := Lib.hid (o3 hxy)
        have t1 : Y.length ≤ X.length := by omega
        have t2 : X.length ≤ Y.length := by omega
        have CB := Lib.hid (compareBytes_ord a.data.toList b.data.toList)
        clear o1 o2 o3 hlt hk1 hk2
        have HXY := Lib.hid hxy
        clear hxy
        go_wp2_with (go_at_call 48; refine (Tryd.strings_Compare a b _).mono ?_; rintro e w' ⟨rfl, rfl⟩)
        go_ret
        exact cmpr_mk (by rw [CS.out, O.out, if_pos rfl, CB.out]) BN.out
end Go.Proofs.YtbhdhcnbagjmcaaDoor
