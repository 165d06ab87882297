/- walks: the order of two lists of numbers, of the bytes of two strings; Compare of the reference -/
import Derived.Test.YtbhdhcnbagjmcaaDoorZg
namespace Go.Proofs.YtbhdhcnbagjmcaaDoor
open Go.RowKit Go.Maps Go.WideMaps
open Lcl
set_option maxRecDepth 100000 in
set_option maxHeartbeats 8000000 in
theorem order_any (vx vy : Value) (X Y : List Int) (B B' : Nat) (w : World) (hX : IRow w B vx X) (hY : IRow w B' vy Y) (lX : X.length ≤ 1048576) (_lY : Y.length ≤ 1048576) :
    Calls Tryd.prog 50 #[vx, vy] w (CmpR (ordI X Y) w) := by
  obtain ⟨ax, capx, rfl, hcx⟩ := irow_cells hX
  obtain ⟨ay, capy, rfl, hcy⟩ := irow_cells hY
  have HCX := Lib.hid hcx
  have HCY := Lib.hid hcy
  clear hcx hcy hX hY
  go_enter Tryd.func50, Tryd.ntmps50
  go_wp2_with fail
  go_loopw [5] (fun i wr => ∃ k : Nat, k ≤ X.length ∧ k ≤ Y.length ∧ i = .int .i64 k ∧ Hid (X.take k = Y.take k) ∧ Hid (Below w.heap.size w wr)) (fun i _ => X.length - (intOf i).toNat)
  case atStart => exact ⟨0, Nat.zero_le _, Nat.zero_le _, rfl, Lib.hid rfl, Lib.hid (Below.refl _ _)⟩
  case round =>
    obtain ⟨k, hk1, hk2, rfl, TK, BK⟩ := hrel
    by_cases h1 : k < X.length
    · by_cases h2 : k < Y.length
      · obtain ⟨x, hx⟩ : ∃ x, X[k]? = some x := ⟨_, List.getElem?_eq_getElem h1⟩
        obtain ⟨y, hy⟩ : ∃ y, Y[k]? = some y := ⟨_, List.getElem?_eq_getElem h2⟩
        obtain ⟨g, rfl, hg, hc⟩ := HCX.out k x hx
        obtain ⟨g2, rfl, hg2, hc2⟩ := HCY.out k y hy
        have r1 := (BK.out.cell (p := ⟨g, k, none⟩) hg).trans hc
        have r2 := (BK.out.cell (p := ⟨g2, k, none⟩) hg2).trans hc2
        obtain ⟨o1, o2, o3⟩ := ordI_at TK.out hx hy
        clear hx hy hc hc2
        rcases (show x < y ∨ y < x ∨ x = y by omega) with hxy | hxy | hxy
        · have O := Lib.hid (o1 hxy)
          have t1 : decide (x < y) = true := decide_eq_true hxy
          clear o1 o2 o3 hxy
          go_wp2_with fail
          go_quiet (fail)
          go_wp2_with fail
          go_ret
          exact cmpr_mk (by rw [O.out]) (below_drewN BK.out _)
        · have O := Lib.hid (o2 hxy)
          have t1 : decide (x < y) = false := decide_eq_false (by omega)
          have t2 : decide (y < x) = true := decide_eq_true hxy
          clear o1 o2 o3 hxy
          go_wp2_with fail
          go_quiet (fail)
          go_wp2_with fail
          go_quiet (fail)
          go_wp2_with fail
          go_ret
          exact cmpr_mk (by rw [O.out]) (below_drewN (below_drewN BK.out _) _)
        · have O := Lib.hid (o3 hxy)
          subst hxy
          have t1 : decide (x < x) = false := decide_eq_false (by omega)
          clear o1 o2 o3
          go_wp2_with fail
          go_quiet (fail)
          go_wp2_with fail
          go_quiet (fail)
          go_wp2_with fail
          go_roundw
          case rel => exact ⟨k + 1, h1, h2, by go_num, O, Lib.hid (below_drewN BK.out _)⟩
          case measure => simp [intOf]; omega
      · obtain ⟨o1, o2, o3⟩ := ordI_end TK.out hk1 hk2 (by omega)
        have O := Lib.hid (o2 (by omega))
        have t1 : Y.length ≤ X.length := by omega
        have t2 : Y.length < X.length := by omega
        clear HCX HCY TK o1 o2 o3
        go_wp2_with fail
        go_ret
        exact cmpr_mk (by rw [O.out]) BK.out
    · obtain ⟨o1, o2, o3⟩ := ordI_end TK.out hk1 hk2 (by omega)
      rcases (show X.length < Y.length ∨ X.length = Y.length by omega) with hxy | hxy
      · have O := Lib.hid (o1 hxy)
        clear HCX HCY TK o1 o2 o3
        go_wp2_with fail
        go_ret
        exact cmpr_mk (by rw [O.out]) BK.out
      · have O := Lib.hid (o3 hxy)
        have t1 : Y.length ≤ X.length := by omega
        have t2 : X.length ≤ Y.length := by omega
        have HXY := Lib.hid hxy
        clear hxy HCX HCY TK o1 o2 o3
        go_wp2_with fail
        go_ret
        exact cmpr_mk (by rw [O.out]) BK.out
theorem bys_len (l : List UInt8) : (bys l).length = l.length := by simp [bys]
theorem bys_snoc (s : ByteArray) (k : Nat) (h : k < s.size) : bys (s.data.toList.take (k + 1)) = bys (s.data.toList.take k) ++ [(s[k].toNat : Int)] := by
  rw [take_b s k h]; simp [bys]
theorem bys_tlen (s : ByteArray) (k : Nat) (h : k ≤ s.size) : (bys (s.data.toList.take k)).length = k := by
  rw [bys_len, List.length_take]; show min k s.size = k; omega
set_option maxRecDepth 100000 in
set_option maxHeartbeats 8000000 in
theorem rbytes_any (a b : ByteArray) (w : World) (ha : a.size ≤ 1048576) (hb : b.size ≤ 1048576) :
    Calls Tryd.prog 52 #[.string a, .string b] w (CmpR (ordI (bys a.data.toList) (bys b.data.toList)) w) := by
  go_enter Tryd.func52, Tryd.ntmps52
  go_wp2_with fail
  go_loopw [5, 7] (fun v i wr => ∃ k : Nat, k ≤ a.size ∧ i = .int .i64 k ∧ Hid (IRow wr w.heap.size v (bys (a.data.toList.take k))) ∧ Hid (Below w.heap.size w wr)) (fun _ i _ => a.size - (intOf i).toNat)
  case atStart => exact ⟨0, Nat.zero_le _, rfl, Lib.hid (row_empty _ _), Lib.hid (Below.refl _ _)⟩
  case round =>
    obtain ⟨k, hk, rfl, RK, BK⟩ := hrel
    by_cases hlt : k < a.size
    · have SN := Lib.hid (bys_snoc a k hlt)
      have HL : Hid ((bys (a.data.toList.take k)).length + 1 ≤ 1048577) := Lib.hid (by rw [bys_tlen a k hk]; omega)
      have h257 := a[k].toNat_lt
      have LE : Hid (w.heap.size ≤ wr.heap.size) := Lib.hid BK.out.size
      go_wp2_with (at_builtin; refine append_int rfl _ _ rfl _ _ (a[k].toNat : Int) w.heap.size w _ RK.out BK.out LE.out HL.out rfl rfl ?_; intro g2 cap2 w2 own2 bel2 gr2 at2)
      have RN : Hid (IRow w2 w.heap.size (.slice (some ⟨g2, 0, none⟩) ((bys (a.data.toList.take k)).length + 1) cap2) (bys (a.data.toList.take (k + 1)))) := Lib.hid (by rw [SN.out]; exact own2.out)
      clear own2 gr2 at2 RK SN
      go_roundw
      case rel => exact ⟨k + 1, by omega, by go_num, RN, bel2⟩
      case measure => simp [intOf]; omega
    · have ek : k = a.size := by omega
      subst ek
      have R1 : Hid (IRow wr w.heap.size u5 (bys a.data.toList)) := Lib.hid (by have h := RK.out; rw [List.take_of_length_le (show a.data.toList.length ≤ a.size from Nat.le_refl _)] at h; exact h)
      clear RK
      rename World => wo
      go_wp2_with fail
      go_loopw [6, 8] (fun v i wq => ∃ k : Nat, k ≤ b.size ∧ i = .int .i64 k ∧ Hid (IRow wq wo.heap.size v (bys (b.data.toList.take k))) ∧ Hid (Below wo.heap.size wo wq)) (fun _ i _ => b.size - (intOf i).toNat)
      case atStart => exact ⟨0, Nat.zero_le _, rfl, Lib.hid (row_empty _ _), Lib.hid (Below.refl _ _)⟩
      case round =>
        obtain ⟨k, hk, rfl, RK, BQ⟩ := hrel
        by_cases hlt : k < b.size
        · have SN := Lib.hid (bys_snoc b k hlt)
          have HL : Hid ((bys (b.data.toList.take k)).length + 1 ≤ 1048577) := Lib.hid (by rw [bys_tlen b k hk]; omega)
          have h257 := b[k].toNat_lt
          have LE : Hid (wo.heap.size ≤ wr.heap.size) := Lib.hid BQ.out.size
          go_wp2_with (at_builtin; refine append_int rfl _ _ rfl _ _ (b[k].toNat : Int) wo.heap.size wo _ RK.out BQ.out LE.out HL.out rfl rfl ?_; intro g2 cap2 w2 own2 bel2 gr2 at2)
          have RN : Hid (IRow w2 wo.heap.size (.slice (some ⟨g2, 0, none⟩) ((bys (b.data.toList.take k)).length + 1) cap2) (bys (b.data.toList.take (k + 1)))) := Lib.hid (by rw [SN.out]; exact own2.out)
          clear own2 gr2 at2 RK SN
          go_roundw
          case rel => exact ⟨k + 1, by omega, by go_num, RN, bel2⟩
          case measure => simp [intOf]; omega
        · have ek : k = b.size := by omega
          subst ek
          have R2 : Hid (IRow wr wo.heap.size u6 (bys b.data.toList)) := Lib.hid (by have h := RK.out; rw [List.take_of_length_le (show b.data.toList.length ≤ b.size from Nat.le_refl _)] at h; exact h)
          have LA : Hid ((bys a.data.toList).length ≤ 1048576) := Lib.hid (by rw [bys_len]; exact ha)
          have LB : Hid ((bys b.data.toList).length ≤ 1048576) := Lib.hid (by rw [bys_len]; exact hb)
          clear RK
          go_wp2_with fail
          refine (order_any _ _ (bys a.data.toList) (bys b.data.toList) w.heap.size wo.heap.size wr (irow_below R1.out BQ.out) R2.out LA.out LB.out).mono ?_
          rintro e w3 ⟨rfl, hb3⟩
          go_wp2_with fail
          go_ret
          exact cmpr_mk rfl ((BK.out.trans (BQ.out.mono BK.out.size)).trans (hb3.mono (Nat.le_trans BK.out.size BQ.out.size)))
theorem keepL {w2 w' : World} {q : Nat} {n lo up : ByteArray} {v1 v4 v5 : Value} {T : TypeId} (h : w2.heap[q]? = some (.cells #[.string n, v1, .string lo, .string up, v4, v5] T (0, 0))) (hb : Below w2.heap.size w2 w') : Below w2.heap.size w2 w' ∧ w'.cell? ⟨q, 0, none⟩ = some (.string n) ∧ w'.cell? ⟨q, 1, none⟩ = some v1 ∧ w'.cell? ⟨q, 2, none⟩ = some (.string lo) ∧ w'.cell? ⟨q, 3, none⟩ = some (.string up) ∧ w'.cell? ⟨q, 4, none⟩ = some v4 ∧ w'.cell? ⟨q, 5, none⟩ = some v5 := by
  have hw : w'.heap[q]? = some (.cells #[.string n, v1, .string lo, .string up, v4, v5] T (0, 0)) := by rw [hb.block q (Array.getElem?_eq_some_iff.1 h).1]; exact h
  obtain ⟨d0, d1, d2, d3, d4, d5⟩ := lrow_cells hw
  exact ⟨hb, d0, d1, d2, d3, d4, d5⟩
theorem order_is (c : Int) (vx vy : Value) (X Y : List Int) (B B' : Nat) (w : World) (hc : Hid (ordI X Y = c)) (hX : IRow w B vx X) (hY : IRow w B' vy Y) (lX : X.length ≤ 1048576) (lY : Y.length ≤ 1048576) :
    Calls Tryd.prog 50 #[vx, vy] w (CmpR c w) := by
  rw [← hc.out]; exact order_any vx vy X Y B B' w hX hY lX lY
set_option maxRecDepth 100000 in
set_option maxHeartbeats 8000000 in
theorem rcompare_any (n : ByteArray) (v1 : Value) (lo up : ByteArray) (v4 v5 : Value) (W : List Int) (C : List Cl) (E : List El) (a b : ByteArray) (w : World) (hL : LocAt w v1 v4 v5 W C E) (hn : n.size ≤ 9223372036854775807) (ha : a.size ≤ 1048576) (hb : b.size ≤ 1048576) :
    Calls Tryd.prog 30 #[lval n v1 lo up v4 v5, .string a, .string b] w (CmpR (locC n W lo up C E a b) w) := by
  have LO := Lib.hid (hL.below ((Below.refl w.heap.size w).alloc (Nat.le_refl _) (.cells #[.string n, v1, .string lo, .string up, v4, v5] 30))); clear hL
  have ZN := Lib.hid hn; clear hn
  have SA := Lib.hid ha; clear ha
  have SB := Lib.hid hb; clear hb
  obtain ⟨kw, ke⟩ := ok_facts n W lo up C E
  have VA := Lib.hid (rvalid_any n v1 lo up v4 v5 W C E _ LO.out ZN.out)
  unfold locC
  obtain ⟨ok, hok⟩ : ∃ b, okL n W lo up C E = b := ⟨_, rfl⟩
  rw [hok] at VA kw ke ⊢
  clear hok
  obtain ⟨W', hW'⟩ : ∃ W', eL ok W (wtab 256) = W' := ⟨_, rfl⟩
  obtain ⟨E', hE'⟩ : ∃ E', eL ok E [] = E' := ⟨_, rfl⟩
  rw [hW'] at kw ⊢
  rw [hE'] at ke ⊢
  have HW' := Lib.hid hW'
  have HE' := Lib.hid hE'
  have KW := Lib.hid kw
  have KE := Lib.hid (elsOk_B ke).2
  clear hW' hE' kw ke
  go_enter Tryd.func30, Tryd.ntmps30
  go_wp2_with fail
  refine VA.out.mono ?_
  intro e w1 h1
  obtain ⟨n', v1', v4', v5', rfl, LV, hb1⟩ := vout_is h1
  clear h1
  rw [HW'.out, HE'.out] at LV
  obtain ⟨a1', c1', ee1, -⟩ := LV.out.r1
  obtain ⟨a4', c4', ee4, -⟩ := LV.out.r4
  obtain ⟨a5', c5', ee5, -⟩ := LV.out.r5
  rw [List.length_map] at ee1 ee4 ee5
  subst ee1 ee4 ee5
  obtain ⟨lo', hlo⟩ : ∃ x, eS ok lo (ltab 256) = x := ⟨_, rfl⟩
  obtain ⟨up', hup⟩ : ∃ x, eS ok up (utab 256) = x := ⟨_, rfl⟩
  rw [hlo, hup]
  clear hlo hup
  have q1 : w1.heap[w.heap.size]? = some (.cells #[.string n, v1, .string lo, .string up, v4, v5] 30 (0, 0)) := by
    rw [hb1.out.block _ (by rw [World.size_alloc]; omega)]; exact heap_alloc_new _ _
  have NI := six_none q1 (not_int LO.out.r1) (not_int LO.out.r4) (not_int LO.out.r5)
  obtain ⟨d0, d1, d2, d3, d4, d5⟩ := lrow_cells q1
  have e0 := lrow_frozen q1 0
  have e1 := lrow_frozen q1 1
  have e2 := lrow_frozen q1 2
  have e3 := lrow_frozen q1 3
  have e4 := lrow_frozen q1 4
  have e5 := lrow_frozen q1 5
  have blk8 := six_set (a := .string n') (b := .slice a1' W'.length c1') (c := .string lo') (d := .string up') (e := .slice a4' (eL ok C []).length c4') (f := .slice a5' E'.length c5') q1
  have LW := Lib.hid (loc_off LV.out (fun g hg => six_other (a := .string n') (b := .slice a1' W'.length c1') (c := .string lo') (d := .string up') (e := .slice a4' (eL ok C []).length c4') (f := .slice a5' E'.length c5') hg) (by simp only [World.size_setCell]; exact Nat.le_refl _) NI)
  have BZ := Lib.hid <| six_below (g := w.heap.size) (a := .string n') (b := .slice a1' W'.length c1') (c := .string lo') (d := .string up') (e := .slice a4' (eL ok C []).length c4') (f := .slice a5' E'.length c5') (below_step hb1.out) (Nat.le_refl _)
  have BK := Lib.hid blk8
  clear q1 NI blk8 LV hb1
  go_upto_region 2 with (fail)
  obtain ⟨w2, hw2⟩ : ∃ w2, ((((((w1.setCell ⟨w.heap.size, 0, none⟩ (.string n')).setCell ⟨w.heap.size, 1, none⟩ (.slice a1' W'.length c1')).setCell ⟨w.heap.size, 2, none⟩ (.string lo')).setCell ⟨w.heap.size, 3, none⟩ (.string up')).setCell ⟨w.heap.size, 4, none⟩ (.slice a4' (eL ok C []).length c4')).setCell ⟨w.heap.size, 5, none⟩ (.slice a5' E'.length c5')) = w2 := ⟨_, rfl⟩
  rw [hw2] at BK LW BZ ⊢
  clear hw2 d0 d1 d2 d3 d4 d5 e0 e1 e2 e3 e4 e5
  go_wp2_with fail
  obtain ⟨X, hX⟩ : ∃ X, wts W' (fstE (E'.map El.pr)) a.data.toList = X := ⟨_, rfl⟩
  obtain ⟨Y, hY⟩ : ∃ Y, wts W' (fstE (E'.map El.pr)) b.data.toList = Y := ⟨_, rfl⟩
  have CS : Hid (cmpS W' (fstE (E'.map El.pr)) a.data.toList b.data.toList = if ordI X Y = 0 then ordI (bys a.data.toList) (bys b.data.toList) else ordI X Y) := Lib.hid (by unfold cmpS; rw [hX, hY])
  have mX := wts_len W' (fstE (E'.map El.pr)) _ a.data.toList (Nat.le_refl _)
  have mY := wts_len W' (fstE (E'.map El.pr)) _ b.data.toList (Nat.le_refl _)
  rw [hX] at mX
  rw [hY] at mY
  have LX : Hid (X.length ≤ 1048576) := Lib.hid (Nat.le_trans mX SA.out)
  have LY : Hid (Y.length ≤ 1048576) := Lib.hid (Nat.le_trans mY SB.out)
  have CA : Hid (∀ w', LocAt w' (.slice a1' W'.length c1') (.slice a4' (eL ok C []).length c4') (.slice a5' E'.length c5') W' (eL ok C []) E' → Calls Tryd.prog 51 #[.agg #[.string n', .slice a1' W'.length c1', .string lo', .string up', .slice a4' (eL ok C []).length c4', .slice a5' E'.length c5'], .string a] w' fun e w'' => ∃ v, e = .returned v ∧ Hid (IRow w'' (w'.heap.size + 1) v X) ∧ Hid (Below w'.heap.size w' w'')) := Lib.hid fun w' h => by
    rw [← hX]; exact rweights_any n' lo' up' _ _ _ W' _ E' a w' h KW.out KE.out SA.out
  have CB : Hid (∀ w', LocAt w' (.slice a1' W'.length c1') (.slice a4' (eL ok C []).length c4') (.slice a5' E'.length c5') W' (eL ok C []) E' → Calls Tryd.prog 51 #[.agg #[.string n', .slice a1' W'.length c1', .string lo', .string up', .slice a4' (eL ok C []).length c4', .slice a5' E'.length c5'], .string b] w' fun e w'' => ∃ v, e = .returned v ∧ Hid (IRow w'' (w'.heap.size + 1) v Y) ∧ Hid (Below w'.heap.size w' w'')) := Lib.hid fun w' h => by
    rw [← hY]; exact rweights_any n' lo' up' _ _ _ W' _ E' b w' h KW.out KE.out SB.out
  obtain ⟨c, hc⟩ : ∃ c, ordI X Y = c := ⟨_, rfl⟩
  rw [hc] at CS
  have OC := Lib.hid hc
  have BQ := Lib.hid BK.out
  have S0 := keepL BK.out ((Below.refl _ _).drew)
  clear hX hY mX mY hc HW' HE' KW KE BK VA LO
  by_cases hc0 : c = 0
  · subst hc0
    go_region_held3 (fun w' => Below w2.heap.size w2 w' ∧ w'.cell? ⟨w.heap.size, 0, none⟩ = some (.string n') ∧ w'.cell? ⟨w.heap.size, 1, none⟩ = some (.slice a1' W'.length c1') ∧ w'.cell? ⟨w.heap.size, 2, none⟩ = some (.string lo') ∧ w'.cell? ⟨w.heap.size, 3, none⟩ = some (.string up') ∧ w'.cell? ⟨w.heap.size, 4, none⟩ = some (.slice a4' (eL ok C []).length c4') ∧ w'.cell? ⟨w.heap.size, 5, none⟩ = some (.slice a5' E'.length c5')) (first | exact S0)
      (first
        | (go_at_call 51; (with_reducible refine (CA.out _ (LW.out.below S0.1)).mono ?_); rintro e w' ⟨x, rfl, R1, hb⟩; have S0 := keepL BQ.out (S0.1.trans (hb.out.mono S0.1.size)))
        | (go_at_call 51; (with_reducible refine (CB.out _ (LW.out.below S0.1)).mono ?_); rintro e w' ⟨y, rfl, R2, hb⟩; have S0 := keepL BQ.out (S0.1.trans (hb.out.mono S0.1.size)); have R1 := Lib.hid (irow_below R1.out hb.out))
        | (go_at_call 50; (with_reducible refine (order_is 0 _ _ X Y _ _ _ OC R1.out R2.out LX.out LY.out).mono ?_); rintro e w' ⟨rfl, hb⟩; have S0 := keepL BQ.out (S0.1.trans (hb.mono S0.1.size))))
    have SB1 := Lib.hid S0.1
    clear S0
    go_wp2_with fail
    refine (rbytes_any a b _ SA.out SB.out).mono ?_
    rintro e w3 ⟨rfl, hb3⟩
    go_wp2_with fail
    go_ret
    exact cmpr_mk (by rw [CS.out, if_pos trivial]) (BZ.out.trans ((SB1.out.trans (hb3.mono SB1.out.size)).mono BZ.out.size))
  · have t : (c != 0) = true := by rw [bne_iff_ne]; exact hc0
    have HC0 := Lib.hid hc0
    clear hc0
    go_region_held3 (fun w' => Below w2.heap.size w2 w' ∧ w'.cell? ⟨w.heap.size, 0, none⟩ = some (.string n') ∧ w'.cell? ⟨w.heap.size, 1, none⟩ = some (.slice a1' W'.length c1') ∧ w'.cell? ⟨w.heap.size, 2, none⟩ = some (.string lo') ∧ w'.cell? ⟨w.heap.size, 3, none⟩ = some (.string up') ∧ w'.cell? ⟨w.heap.size, 4, none⟩ = some (.slice a4' (eL ok C []).length c4') ∧ w'.cell? ⟨w.heap.size, 5, none⟩ = some (.slice a5' E'.length c5')) (first | exact S0)
      (first
        | (go_at_call 51; (with_reducible refine (CA.out _ (LW.out.below S0.1)).mono ?_); rintro e w' ⟨x, rfl, R1, hb⟩; have S0 := keepL BQ.out (S0.1.trans (hb.out.mono S0.1.size)))
        | (go_at_call 51; (with_reducible refine (CB.out _ (LW.out.below S0.1)).mono ?_); rintro e w' ⟨y, rfl, R2, hb⟩; have S0 := keepL BQ.out (S0.1.trans (hb.out.mono S0.1.size)); have R1 := Lib.hid (irow_below R1.out hb.out))
        | (go_at_call 50; (with_reducible refine (order_is c _ _ X Y _ _ _ OC R1.out R2.out LX.out LY.out).mono ?_); rintro e w' ⟨rfl, hb⟩; have S0 := keepL BQ.out (S0.1.trans (hb.mono S0.1.size))))
    have SB1 := Lib.hid S0.1
    clear S0
    go_wp2_with fail
    go_ret
    exact cmpr_mk (by rw [CS.out, if_neg HC0.out]) (BZ.out.trans (SB1.out.mono BZ.out.size))
end Go.Proofs.YtbhdhcnbagjmcaaDoor
