/- walks: the shape of a hunk, both (written by gen_vg.py) -/
import Derived.Test.YtnkpigibjicmaaaDoorVf
namespace Go.Proofs.YtnkpigibjicmaaaDoor
open Go.RowKit Go.Maps
open Pt Tx
theorem contains_is (s : ByteArray) (b : Bool) (w : World) (hb : Hid (decide ((10 : UInt8) ∈ s.data.toList) = b)) : Calls Tryd.prog 66 #[.string s, .string ⟨#[10]⟩] w fun e w' => e = .returned (.bool b) ∧ w' = w := by
  refine (Tryd.strings_Contains_one s 10 w).mono fun e w' ⟨h1, h2⟩ => ⟨?_, h2⟩
  rw [h1, ← hb.out]
  have key : (0 ≤ Lib.indexByte s.data.toList 10) ↔ (10 : UInt8) ∈ s.data.toList := by
    induction s.data.toList with
    | nil => simp [Lib.indexByte]
    | cons c l ih =>
      have hg := Lib.indexByte_ge l 10
      unfold Lib.indexByte
      by_cases hc : c = 10
      · subst hc; simp
      · have hc' : ¬ (10 : UInt8) = c := fun e => hc e.symm
        simp only [List.mem_cons, hc', false_or, ← ih]
        simp [hc]
        split <;> omega
  rw [decide_eq_decide.2 key]
set_option maxRecDepth 100000 in
abbrev vH (h : Hk) (u : Value) : Value := .agg #[.int .i64 h.fa, .int .i64 h.la, .int .i64 h.fb, .int .i64 h.lb, u]
theorem lineE_cons (x : DL) (r : List DL) : lineE (x :: r) = if opB x.1 = false then 7 else if (10 : UInt8) ∈ x.2.1.data.toList then 1 else lineE r := rfl
set_option maxRecDepth 100000 in
set_option maxHeartbeats 8000000 in
theorem hunk_any (h : Hk) (u : Value) (w : World) (hv : RowsAt w u 3 (h.ls.map rowD)) (hl : h.ls.length ≤ 1048576) (hs : ∀ x ∈ h.ls, x.2.1.size ≤ 1048576) :
    Calls Tryd.prog 46 #[vH h u] w fun e w' => e = .returned (.int .i64 (shapeE h)) ∧ Hid (Below w.heap.size w w') := by
  obtain ⟨fa, la, fb, lb, l⟩ := h
  simp only at hv hl hs
  obtain ⟨n, hn⟩ : ∃ n, l.length = n := ⟨_, rfl⟩
  have HN := Lib.hid hn
  have HV := Lib.hid hv
  have HS := Lib.hid hs
  have SA := Lib.hid (fun W (hb : Below w.heap.size w W) => side_any l u 2 W (hv.below hb) (by rw [hn]; omega))
  have SB := Lib.hid (fun W (hb : Below w.heap.size w W) => side_any l u 3 W (hv.below hb) (by rw [hn]; omega))
  obtain ⟨a, cap, rfl, c1, c2, hc⟩ := hv.sl (n := n) (by rw [List.length_map]; exact hn)
  have HC := Lib.hid hc
  rw [hn] at hl
  unfold maxLen at c2
  have B0 : Hid (Below w.heap.size w (w.alloc (.cells #[.int .i64 fa, .int .i64 la, .int .i64 fb, .int .i64 lb, .slice a n cap] 38))) := Lib.hid ((Below.refl _ _).alloc (Nat.le_refl _) _)
  have N0 := heap_alloc_new w (.cells #[.int .i64 fa, .int .i64 la, .int .i64 fb, .int .i64 lb, .slice a n cap] 38)
  have Y0 : Hid ((w.alloc (.cells #[.int .i64 fa, .int .i64 la, .int .i64 fb, .int .i64 lb, .slice a n cap] 38)).cell? ⟨w.heap.size, 0, none⟩ = some (.int .i64 fa)) := Lib.hid (blk_cellx N0 0 _ rfl)
  have Y1 : Hid ((w.alloc (.cells #[.int .i64 fa, .int .i64 la, .int .i64 fb, .int .i64 lb, .slice a n cap] 38)).cell? ⟨w.heap.size, 1, none⟩ = some (.int .i64 la)) := Lib.hid (blk_cellx N0 1 _ rfl)
  have Y2 : Hid ((w.alloc (.cells #[.int .i64 fa, .int .i64 la, .int .i64 fb, .int .i64 lb, .slice a n cap] 38)).cell? ⟨w.heap.size, 2, none⟩ = some (.int .i64 fb)) := Lib.hid (blk_cellx N0 2 _ rfl)
  have Y3 : Hid ((w.alloc (.cells #[.int .i64 fa, .int .i64 la, .int .i64 fb, .int .i64 lb, .slice a n cap] 38)).cell? ⟨w.heap.size, 3, none⟩ = some (.int .i64 lb)) := Lib.hid (blk_cellx N0 3 _ rfl)
  have Y4 : Hid ((w.alloc (.cells #[.int .i64 fa, .int .i64 la, .int .i64 fb, .int .i64 lb, .slice a n cap] 38)).cell? ⟨w.heap.size, 4, none⟩ = some (.slice a n cap)) := Lib.hid (blk_cellx N0 4 _ rfl)
  obtain ⟨r, hr⟩ : ∃ r, shapeE ⟨fa, la, fb, lb, l⟩ = r := ⟨_, rfl⟩
  have HR := Lib.hid hr
  rw [hr]
  have y4 := Y4.out
  clear hv hs hn hc N0 hr
  go_enter Tryd.func46, Tryd.ntmps46
  go_wp2_with fail
  clear y4
  go_loopw [8] (fun i wr => ∃ j : Nat, i = .int .i64 j ∧ j ≤ n ∧ Hid (lineE l = lineE (l.drop j)) ∧ Hid (Below (w.alloc (.cells #[.int .i64 fa, .int .i64 la, .int .i64 fb, .int .i64 lb, .slice a n cap] 38)).heap.size (w.alloc (.cells #[.int .i64 fa, .int .i64 la, .int .i64 fb, .int .i64 lb, .slice a n cap] 38)) wr)) (fun i _ => n - (intOf i).toNat)
  case atStart => exact ⟨0, rfl, Nat.zero_le _, Lib.hid rfl, Lib.hid (Below.refl _ _)⟩
  case round =>
    obtain ⟨j, rfl, hj, HI, BK⟩ := hrel
    have BW := Lib.hid (B0.out.trans (BK.out.mono B0.out.size))
    have y0 := kp BK.out Y0.out
    have y1 := kp BK.out Y1.out
    have y2 := kp BK.out Y2.out
    have y3 := kp BK.out Y3.out
    have y4 := kp BK.out Y4.out
    by_cases hlt : j < n
    · obtain ⟨x, hx⟩ : ∃ x, l[j]? = some x := ⟨_, List.getElem?_eq_getElem (by rw [HN.out]; exact hlt)⟩
      have HX := Lib.hid (HS.out x (List.mem_of_getElem? hx))
      rcases HC.out with h0 | ⟨g, o, rfl, -, hcc⟩
      · omega
      have m1 : (l.map rowD)[j]? = some (rowD x) := by rw [List.getElem?_map, hx]; rfl
      have d0 := kp BW.out (hcc j _ m1 0 _ rfl)
      have d1 := kp BW.out (hcc j _ m1 1 _ rfl)
      have d2 := kp BW.out (hcc j _ m1 2 _ rfl)
      rw [Nat.add_zero] at d0
      have DR := Lib.hid (drop_get hx)
      have p0 : (0 : Int) ≤ (j : Int) := by omega
      have p1 : (j : Int) < (n : Int) := by omega
      have p2 : IntKind.i64.wrap (j : Int) = (j : Int) := IntWalk.i64_in _ (by omega)
      obtain ⟨xo, xt, xn⟩ := x
      simp only at HX
      clear hcc m1 hx
      have BX := Lib.hid (BK.out.alloc BK.out.size (.cells #[.int .i64 xo, .string xt, .bool xn] 59))
      have HXO := Lib.hid (show lineE l = if opB xo = false then 7 else if (10 : UInt8) ∈ xt.data.toList then 1 else lineE (l.drop (j + 1)) by rw [HI.out, DR.out]; rfl)
      clear HI DR
      have fin : ∀ k : Int, k ≠ 0 → lineE l = k → r = k := fun k hk e => by
        rw [← HR.out]; unfold shapeE; simp only; rw [if_pos (by rw [e]; exact hk), e]
      have FIN := Lib.hid fin
      clear fin
      obtain ⟨b, hb⟩ : ∃ b, decide ((10 : UInt8) ∈ xt.data.toList) = b := ⟨_, rfl⟩
      have CB := Lib.hid hb
      clear hb
      have bad : opB xo = false → r = 7 := fun e => FIN.out 7 (by decide) (by rw [HXO.out, if_pos e])
      have BAD := Lib.hid bad
      clear bad
      by_cases x1 : xo = 1
      · subst x1
        cases b with
        | true =>
          obtain rfl : r = 1 := FIN.out 1 (by decide) (by rw [HXO.out, if_neg (by decide), if_pos (of_decide_eq_true CB.out)])
          go_wp2_with (go_at_call 66; refine (contains_is xt true _ CB).mono ?_; rintro _ wq ⟨rfl, hq⟩; replace hq := hq.symm; subst hq)
          go_ret
          exact ⟨rfl, Lib.hid (B0.out.trans (BX.out.mono B0.out.size))⟩
        | false =>
          have E : Hid (lineE l = lineE (l.drop (j + 1))) := Lib.hid (by rw [HXO.out, if_neg (by decide), if_neg (of_decide_eq_false CB.out)])
          go_wp2_with (go_at_call 66; refine (contains_is xt false _ CB).mono ?_; rintro _ wq ⟨rfl, hq⟩; replace hq := hq.symm; subst hq)
          go_roundw
          case rel => exact ⟨j + 1, by go_num, by omega, E, BX⟩
          case measure => simp [intOf]; omega
      by_cases x2 : xo = 2
      · subst x2
        cases b with
        | true =>
          obtain rfl : r = 1 := FIN.out 1 (by decide) (by rw [HXO.out, if_neg (by decide), if_pos (of_decide_eq_true CB.out)])
          go_wp2_with (go_at_call 66; refine (contains_is xt true _ CB).mono ?_; rintro _ wq ⟨rfl, hq⟩; replace hq := hq.symm; subst hq)
          go_ret
          exact ⟨rfl, Lib.hid (B0.out.trans (BX.out.mono B0.out.size))⟩
        | false =>
          have E : Hid (lineE l = lineE (l.drop (j + 1))) := Lib.hid (by rw [HXO.out, if_neg (by decide), if_neg (of_decide_eq_false CB.out)])
          go_wp2_with (go_at_call 66; refine (contains_is xt false _ CB).mono ?_; rintro _ wq ⟨rfl, hq⟩; replace hq := hq.symm; subst hq)
          go_roundw
          case rel => exact ⟨j + 1, by go_num, by omega, E, BX⟩
          case measure => simp [intOf]; omega
      by_cases x3 : xo = 3
      · subst x3
        cases b with
        | true =>
          obtain rfl : r = 1 := FIN.out 1 (by decide) (by rw [HXO.out, if_neg (by decide), if_pos (of_decide_eq_true CB.out)])
          go_wp2_with (go_at_call 66; refine (contains_is xt true _ CB).mono ?_; rintro _ wq ⟨rfl, hq⟩; replace hq := hq.symm; subst hq)
          go_ret
          exact ⟨rfl, Lib.hid (B0.out.trans (BX.out.mono B0.out.size))⟩
        | false =>
          have E : Hid (lineE l = lineE (l.drop (j + 1))) := Lib.hid (by rw [HXO.out, if_neg (by decide), if_neg (of_decide_eq_false CB.out)])
          go_wp2_with (go_at_call 66; refine (contains_is xt false _ CB).mono ?_; rintro _ wq ⟨rfl, hq⟩; replace hq := hq.symm; subst hq)
          go_roundw
          case rel => exact ⟨j + 1, by go_num, by omega, E, BX⟩
          case measure => simp [intOf]; omega
      have t1 : (xo != 1) = true := bne_iff_ne.2 x1
      have t2 : (xo != 2) = true := bne_iff_ne.2 x2
      have t3 : (xo != 3) = true := bne_iff_ne.2 x3
      obtain rfl := BAD.out (by unfold opB; simp [x1, x2, x3])
      go_wp2_with fail
      go_ret
      exact ⟨rfl, Lib.hid (B0.out.trans (BX.out.mono B0.out.size))⟩
    · obtain rfl : j = n := by omega
      have HL0 : lineE l = 0 := by rw [HI.out, List.drop_eq_nil_of_le (by rw [HN.out]; exact Nat.le_refl _)]; rfl
      obtain ⟨sa, hsa⟩ : ∃ s, sideP 2 l = s := ⟨_, rfl⟩
      obtain ⟨sb, hsb⟩ : ∃ s, sideP 3 l = s := ⟨_, rfl⟩
      obtain ⟨na, hna⟩ : ∃ n, sa.length = n := ⟨_, rfl⟩
      obtain ⟨nb, hnb⟩ : ∃ n, sb.length = n := ⟨_, rfl⟩
      have hr := HR.out
      unfold shapeE at hr
      simp only at hr
      rw [if_neg (by rw [HL0]; simp), hsa, hsb, hna, hnb] at hr
      rw [hsa] at SA
      rw [hsb] at SB
      have NA := Lib.hid hna
      have NB := Lib.hid hnb
      have SA2 := Lib.hid (fun W (hb : Below wr.heap.size wr W) => SA.out W (BW.out.trans (hb.mono BW.out.size)))
      have SB2 := Lib.hid (fun W (hb : Below wr.heap.size wr W) => SB.out W (BW.out.trans (hb.mono BW.out.size)))
      have CE : Hid (∀ w', Below wr.heap.size wr w' → Below wr.heap.size wr w' ∧ w'.cell? ⟨w.heap.size, 0, none⟩ = some (.int .i64 fa) ∧ w'.cell? ⟨w.heap.size, 1, none⟩ = some (.int .i64 la) ∧ w'.cell? ⟨w.heap.size, 2, none⟩ = some (.int .i64 fb) ∧ w'.cell? ⟨w.heap.size, 3, none⟩ = some (.int .i64 lb) ∧ w'.cell? ⟨w.heap.size, 4, none⟩ = some (.slice a j cap)) := Lib.hid (fun w' h => ⟨h, kp h (kp BK.out Y0.out), kp h (kp BK.out Y1.out), kp h (kp BK.out Y2.out), kp h (kp BK.out Y3.out), kp h (kp BK.out Y4.out)⟩)
      have S0 := CE.out _ (Below.refl wr.heap.size wr).drew
      clear hsa hsb hna hnb HI HL0 HR y0 y1 y2 y3
      by_cases h1 : la ≠ (na : Int)
      · have t0 : (la != (na : Int)) = true := bne_iff_ne.2 h1
        obtain rfl : r = 2 := by rw [← hr, if_pos (by omega)]
        clear hr h1
        go_wp2_with fail
        clear y4
        refine wp_region_held_drew (S := (fun w' => Below wr.heap.size wr w' ∧ w'.cell? ⟨w.heap.size, 0, none⟩ = some (.int .i64 fa) ∧ w'.cell? ⟨w.heap.size, 1, none⟩ = some (.int .i64 la) ∧ w'.cell? ⟨w.heap.size, 2, none⟩ = some (.int .i64 fb) ∧ w'.cell? ⟨w.heap.size, 3, none⟩ = some (.int .i64 lb) ∧ w'.cell? ⟨w.heap.size, 4, none⟩ = some (.slice a j cap))) (by kernel_rfl) ?_ (fun hHeld => ?_)
        · exact S0
        refine wpAnyH_take (i := 0) (oi := ⟨some 29, _, _, _, _, _⟩) (v := ?v1) rfl (by kernel_rfl) (by kernel_rfl) (by kernel_rfl) (fun _ _ _ h => h) (Or.inl ⟨by rfl, ?hy1⟩) (by assumption) ?rest1
        case hy1 => (intro w hSw; (try dsimp only at hSw); (go_simp <;> (with_reducible rfl)))
        try simp only [Act.put, List.setIfInBounds_toArray, List.set_cons_zero, List.set_cons_succ]
        refine wpAnyH_take (i := 1) (oi := ⟨some 30, _, _, _, _, _⟩) (v := ?v2) rfl (by kernel_rfl) (by kernel_rfl) (by kernel_rfl) (fun _ _ _ h => h) (Or.inl ⟨by rfl, ?hy2⟩) (by assumption) ?rest2
        case hy2 => (intro w hSw; (try dsimp only at hSw); (go_simp <;> (with_reducible rfl)))
        try simp only [Act.put, List.setIfInBounds_toArray, List.set_cons_zero, List.set_cons_succ]
        refine wpAnyH_take (i := 2) (oi := ⟨some 31, _, _, _, _, _⟩) (v := ?v3) rfl (by kernel_rfl) (by kernel_rfl) (by kernel_rfl) (fun _ _ _ h => h) (Or.inl ⟨by rfl, ?hy3⟩) (by assumption) ?rest3
        case hy3 => (intro w hSw; (try dsimp only at hSw); (go_simp <;> (with_reducible rfl)))
        try simp only [Act.put, List.setIfInBounds_toArray, List.set_cons_zero, List.set_cons_succ]
        refine wpAnyH_take (i := 3) (oi := ⟨some 32, _, _, _, _, _⟩) (v := ?v4) rfl (by kernel_rfl) (by kernel_rfl) (by kernel_rfl) (fun _ _ _ h => h) (Or.inl ⟨by rfl, ?hy4⟩) (by assumption) ?rest4
        case hy4 => (intro w hSw; (try dsimp only at hSw); (go_simp <;> (with_reducible rfl)))
        try simp only [Act.put, List.setIfInBounds_toArray, List.set_cons_zero, List.set_cons_succ]
        refine wpAnyH_ready (rs := [4]) (by kernel_rfl) (by simp) ?_
        refine AllReadyH.cons (o := ⟨some 33, _, _, _, _, _⟩) rfl (fun K hK => ?_) AllReadyH.nil
        go_simp
        (first | (go_at_call 49; (first | ((with_reducible refine (SA2.out _ S0.1).mono ?_); rintro _ w5 ⟨v5, rfl, O5, B5⟩; obtain ⟨a5, k5, e5⟩ := O5.out.sl; rw [List.length_map, NA.out] at e5; subst e5; have S0 := CE.out _ (S0.1.trans (B5.out.mono S0.1.size))) | ((with_reducible refine (SB2.out _ S0.1).mono ?_); rintro _ w5 ⟨v5, rfl, O5, B5⟩; obtain ⟨a5, k5, e5⟩ := O5.out.sl; rw [List.length_map, NB.out] at e5; subst e5; have S0 := CE.out _ (S0.1.trans (B5.out.mono S0.1.size))))))
        refine hK.out _ _ ?_ (fun hHeld => ?_)
        · exact S0
        clear hK K
        try simp only [Act.put, List.setIfInBounds_toArray, List.set_cons_zero, List.set_cons_succ]
        refine wpAnyH_take (i := 5) (oi := ⟨some 34, _, _, _, _, _⟩) (v := ?v5) rfl (by kernel_rfl) (by kernel_rfl) (by kernel_rfl) (fun _ _ _ h => h) (Or.inl ⟨by rfl, ?hy5⟩) (by assumption) ?rest5
        case hy5 => (intro w hSw; (try dsimp only at hSw); (go_simp <;> (with_reducible rfl)))
        try simp only [Act.put, List.setIfInBounds_toArray, List.set_cons_zero, List.set_cons_succ]
        refine wpAnyH_take (i := 6) (oi := ⟨some 35, _, _, _, _, _⟩) (v := ?v6) rfl (by kernel_rfl) (by kernel_rfl) (by kernel_rfl) (fun _ _ _ h => h) (Or.inl ⟨by rfl, ?hy6⟩) (by assumption) ?rest6
        case hy6 => (intro w hSw; (try dsimp only at hSw); (go_simp <;> (with_reducible rfl)))
        try simp only [Act.put, List.setIfInBounds_toArray, List.set_cons_zero, List.set_cons_succ]
        refine wpAnyH_take (i := 7) (oi := ⟨some 36, _, _, _, _, _⟩) (v := ?v7) rfl (by kernel_rfl) (by kernel_rfl) (by kernel_rfl) (fun _ _ _ h => h) (Or.inl ⟨by rfl, ?hy7⟩) (by assumption) ?rest7
        case hy7 => (intro w hSw; (try dsimp only at hSw); (go_simp <;> (with_reducible rfl)))
        try simp only [Act.put, List.setIfInBounds_toArray, List.set_cons_zero, List.set_cons_succ]
        refine wpAnyH_take (i := 8) (oi := ⟨some 37, _, _, _, _, _⟩) (v := undef) rfl (by kernel_rfl) (by kernel_rfl) (by kernel_rfl) (fun _ _ _ h => h) (Or.inr ⟨by rfl, rfl⟩) (by assumption) ?_
        try simp only [Act.put, List.setIfInBounds_toArray, List.set_cons_zero, List.set_cons_succ]
        refine wpAnyH_take (i := 9) (oi := ⟨some 38, _, _, _, _, _⟩) (v := undef) rfl (by kernel_rfl) (by kernel_rfl) (by kernel_rfl) (fun _ _ _ h => h) (Or.inr ⟨by rfl, rfl⟩) (by assumption) ?_
        try simp only [Act.put, List.setIfInBounds_toArray, List.set_cons_zero, List.set_cons_succ]
        refine wpAnyH_take (i := 10) (oi := ⟨some 39, _, _, _, _, _⟩) (v := undef) rfl (by kernel_rfl) (by kernel_rfl) (by kernel_rfl) (fun _ _ _ h => h) (Or.inr ⟨by rfl, rfl⟩) (by assumption) ?_
        try simp only [Act.put, List.setIfInBounds_toArray, List.set_cons_zero, List.set_cons_succ]
        refine wpAnyH_take (i := 11) (oi := ⟨some 40, _, _, _, _, _⟩) (v := undef) rfl (by kernel_rfl) (by kernel_rfl) (by kernel_rfl) (fun _ _ _ h => h) (Or.inr ⟨by rfl, rfl⟩) (by assumption) ?_
        try simp only [Act.put, List.setIfInBounds_toArray, List.set_cons_zero, List.set_cons_succ]
        refine wpAnyH_ready (rs := [12]) (by kernel_rfl) (by simp) ?_
        refine AllReadyH.cons (o := ⟨some 41, _, _, _, _, _⟩) rfl (fun K hK => ?_) AllReadyH.nil
        rw [if_neg (by rw [show Region.wanted _ _ = false from rfl]; decide)]
        refine hK.out _ _ ?_ (fun hHeld => ?_)
        · exact S0
        clear hK K
        try simp only [Act.put, List.setIfInBounds_toArray, List.set_cons_zero, List.set_cons_succ]
        refine wpAnyH_take (i := 13) (oi := ⟨some 42, _, _, _, _, _⟩) (v := undef) rfl (by kernel_rfl) (by kernel_rfl) (by kernel_rfl) (fun _ _ _ h => h) (Or.inr ⟨by rfl, rfl⟩) (by assumption) ?_
        try simp only [Act.put, List.setIfInBounds_toArray, List.set_cons_zero, List.set_cons_succ]
        refine wpAnyH_take (i := 14) (oi := ⟨some 43, _, _, _, _, _⟩) (v := undef) rfl (by kernel_rfl) (by kernel_rfl) (by kernel_rfl) (fun _ _ _ h => h) (Or.inr ⟨by rfl, rfl⟩) (by assumption) ?_
        try simp only [Act.put, List.setIfInBounds_toArray, List.set_cons_zero, List.set_cons_succ]
        refine wpAnyH_take (i := 15) (oi := ⟨some 44, _, _, _, _, _⟩) (v := ?v8) rfl (by kernel_rfl) (by kernel_rfl) (by kernel_rfl) (fun _ _ _ h => h) (Or.inl ⟨by rfl, ?hy8⟩) (by assumption) ?rest8
        case hy8 => (intro w hSw; (try dsimp only at hSw); (go_simp <;> (with_reducible rfl)))
        try simp only [Act.put, List.setIfInBounds_toArray, List.set_cons_zero, List.set_cons_succ]
        refine wpAnyH_done (by kernel_rfl) ?_ _
        obtain ⟨S1, y0, y1, y2, y3, y4⟩ := S0
        have BS := Lib.hid S1
        clear S1
        go_wp2_with fail
        go_ret
        exact ⟨rfl, Lib.hid (BW.out.trans (BS.out.mono BW.out.size))⟩
      have t0 : (la != (na : Int)) = false := by simpa using h1
      have g0 := h1
      clear h1
      by_cases h1 : lb ≠ (nb : Int)
      · have t1 : (lb != (nb : Int)) = true := bne_iff_ne.2 h1
        obtain rfl : r = 2 := by rw [← hr, if_pos (by omega)]
        clear hr h1
        go_wp2_with fail
        clear y4
        go_region_held3 (fun w' => Below wr.heap.size wr w' ∧ w'.cell? ⟨w.heap.size, 0, none⟩ = some (.int .i64 fa) ∧ w'.cell? ⟨w.heap.size, 1, none⟩ = some (.int .i64 la) ∧ w'.cell? ⟨w.heap.size, 2, none⟩ = some (.int .i64 fb) ∧ w'.cell? ⟨w.heap.size, 3, none⟩ = some (.int .i64 lb) ∧ w'.cell? ⟨w.heap.size, 4, none⟩ = some (.slice a j cap)) (first | exact S0)
          (first | (go_at_call 49; (first | ((with_reducible refine (SA2.out _ S0.1).mono ?_); rintro _ w5 ⟨v5, rfl, O5, B5⟩; obtain ⟨a5, k5, e5⟩ := O5.out.sl; rw [List.length_map, NA.out] at e5; subst e5; have S0 := CE.out _ (S0.1.trans (B5.out.mono S0.1.size))) | ((with_reducible refine (SB2.out _ S0.1).mono ?_); rintro _ w5 ⟨v5, rfl, O5, B5⟩; obtain ⟨a5, k5, e5⟩ := O5.out.sl; rw [List.length_map, NB.out] at e5; subst e5; have S0 := CE.out _ (S0.1.trans (B5.out.mono S0.1.size))))))
        obtain ⟨S1, y0, y1, y2, y3, y4⟩ := S0
        have BS := Lib.hid S1
        clear S1
        go_wp2_with fail
        go_ret
        exact ⟨rfl, Lib.hid (BW.out.trans (BS.out.mono BW.out.size))⟩
      have t1 : (lb != (nb : Int)) = false := by simpa using h1
      have g1 := h1
      clear h1
      by_cases h1 : fa < 0
      · have t2 : decide (fa < 0) = true := decide_eq_true h1
        obtain rfl : r = 2 := by rw [← hr, if_pos (by omega)]
        clear hr h1
        go_wp2_with fail
        clear y4
        go_region_held3 (fun w' => Below wr.heap.size wr w' ∧ w'.cell? ⟨w.heap.size, 0, none⟩ = some (.int .i64 fa) ∧ w'.cell? ⟨w.heap.size, 1, none⟩ = some (.int .i64 la) ∧ w'.cell? ⟨w.heap.size, 2, none⟩ = some (.int .i64 fb) ∧ w'.cell? ⟨w.heap.size, 3, none⟩ = some (.int .i64 lb) ∧ w'.cell? ⟨w.heap.size, 4, none⟩ = some (.slice a j cap)) (first | exact S0)
          (first | (go_at_call 49; (first | ((with_reducible refine (SA2.out _ S0.1).mono ?_); rintro _ w5 ⟨v5, rfl, O5, B5⟩; obtain ⟨a5, k5, e5⟩ := O5.out.sl; rw [List.length_map, NA.out] at e5; subst e5; have S0 := CE.out _ (S0.1.trans (B5.out.mono S0.1.size))) | ((with_reducible refine (SB2.out _ S0.1).mono ?_); rintro _ w5 ⟨v5, rfl, O5, B5⟩; obtain ⟨a5, k5, e5⟩ := O5.out.sl; rw [List.length_map, NB.out] at e5; subst e5; have S0 := CE.out _ (S0.1.trans (B5.out.mono S0.1.size))))))
        obtain ⟨S1, y0, y1, y2, y3, y4⟩ := S0
        have BS := Lib.hid S1
        clear S1
        go_wp2_with fail
        go_ret
        exact ⟨rfl, Lib.hid (BW.out.trans (BS.out.mono BW.out.size))⟩
      have t2 : decide (fa < 0) = false := decide_eq_false h1
      have g2 := h1
      clear h1
      by_cases h1 : 2147483647 < fa
      · have t3 : decide (2147483647 < fa) = true := decide_eq_true h1
        obtain rfl : r = 2 := by rw [← hr, if_pos (by omega)]
        clear hr h1
        go_wp2_with fail
        clear y4
        go_region_held3 (fun w' => Below wr.heap.size wr w' ∧ w'.cell? ⟨w.heap.size, 0, none⟩ = some (.int .i64 fa) ∧ w'.cell? ⟨w.heap.size, 1, none⟩ = some (.int .i64 la) ∧ w'.cell? ⟨w.heap.size, 2, none⟩ = some (.int .i64 fb) ∧ w'.cell? ⟨w.heap.size, 3, none⟩ = some (.int .i64 lb) ∧ w'.cell? ⟨w.heap.size, 4, none⟩ = some (.slice a j cap)) (first | exact S0)
          (first | (go_at_call 49; (first | ((with_reducible refine (SA2.out _ S0.1).mono ?_); rintro _ w5 ⟨v5, rfl, O5, B5⟩; obtain ⟨a5, k5, e5⟩ := O5.out.sl; rw [List.length_map, NA.out] at e5; subst e5; have S0 := CE.out _ (S0.1.trans (B5.out.mono S0.1.size))) | ((with_reducible refine (SB2.out _ S0.1).mono ?_); rintro _ w5 ⟨v5, rfl, O5, B5⟩; obtain ⟨a5, k5, e5⟩ := O5.out.sl; rw [List.length_map, NB.out] at e5; subst e5; have S0 := CE.out _ (S0.1.trans (B5.out.mono S0.1.size))))))
        obtain ⟨S1, y0, y1, y2, y3, y4⟩ := S0
        have BS := Lib.hid S1
        clear S1
        go_wp2_with fail
        go_ret
        exact ⟨rfl, Lib.hid (BW.out.trans (BS.out.mono BW.out.size))⟩
      have t3 : decide (2147483647 < fa) = false := decide_eq_false h1
      have g3 := h1
      clear h1
      by_cases h1 : fb < 0
      · have t4 : decide (fb < 0) = true := decide_eq_true h1
        obtain rfl : r = 2 := by rw [← hr, if_pos (by omega)]
        clear hr h1
        go_wp2_with fail
        clear y4
        go_region_held3 (fun w' => Below wr.heap.size wr w' ∧ w'.cell? ⟨w.heap.size, 0, none⟩ = some (.int .i64 fa) ∧ w'.cell? ⟨w.heap.size, 1, none⟩ = some (.int .i64 la) ∧ w'.cell? ⟨w.heap.size, 2, none⟩ = some (.int .i64 fb) ∧ w'.cell? ⟨w.heap.size, 3, none⟩ = some (.int .i64 lb) ∧ w'.cell? ⟨w.heap.size, 4, none⟩ = some (.slice a j cap)) (first | exact S0)
          (first | (go_at_call 49; (first | ((with_reducible refine (SA2.out _ S0.1).mono ?_); rintro _ w5 ⟨v5, rfl, O5, B5⟩; obtain ⟨a5, k5, e5⟩ := O5.out.sl; rw [List.length_map, NA.out] at e5; subst e5; have S0 := CE.out _ (S0.1.trans (B5.out.mono S0.1.size))) | ((with_reducible refine (SB2.out _ S0.1).mono ?_); rintro _ w5 ⟨v5, rfl, O5, B5⟩; obtain ⟨a5, k5, e5⟩ := O5.out.sl; rw [List.length_map, NB.out] at e5; subst e5; have S0 := CE.out _ (S0.1.trans (B5.out.mono S0.1.size))))))
        obtain ⟨S1, y0, y1, y2, y3, y4⟩ := S0
        have BS := Lib.hid S1
        clear S1
        go_wp2_with fail
        go_ret
        exact ⟨rfl, Lib.hid (BW.out.trans (BS.out.mono BW.out.size))⟩
      have t4 : decide (fb < 0) = false := decide_eq_false h1
      have g4 := h1
      clear h1
      by_cases h1 : 2147483647 < fb
      · have t5 : decide (2147483647 < fb) = true := decide_eq_true h1
        obtain rfl : r = 2 := by rw [← hr, if_pos (by omega)]
        clear hr h1
        go_wp2_with fail
        clear y4
        go_region_held3 (fun w' => Below wr.heap.size wr w' ∧ w'.cell? ⟨w.heap.size, 0, none⟩ = some (.int .i64 fa) ∧ w'.cell? ⟨w.heap.size, 1, none⟩ = some (.int .i64 la) ∧ w'.cell? ⟨w.heap.size, 2, none⟩ = some (.int .i64 fb) ∧ w'.cell? ⟨w.heap.size, 3, none⟩ = some (.int .i64 lb) ∧ w'.cell? ⟨w.heap.size, 4, none⟩ = some (.slice a j cap)) (first | exact S0)
          (first | (go_at_call 49; (first | ((with_reducible refine (SA2.out _ S0.1).mono ?_); rintro _ w5 ⟨v5, rfl, O5, B5⟩; obtain ⟨a5, k5, e5⟩ := O5.out.sl; rw [List.length_map, NA.out] at e5; subst e5; have S0 := CE.out _ (S0.1.trans (B5.out.mono S0.1.size))) | ((with_reducible refine (SB2.out _ S0.1).mono ?_); rintro _ w5 ⟨v5, rfl, O5, B5⟩; obtain ⟨a5, k5, e5⟩ := O5.out.sl; rw [List.length_map, NB.out] at e5; subst e5; have S0 := CE.out _ (S0.1.trans (B5.out.mono S0.1.size))))))
        obtain ⟨S1, y0, y1, y2, y3, y4⟩ := S0
        have BS := Lib.hid S1
        clear S1
        go_wp2_with fail
        go_ret
        exact ⟨rfl, Lib.hid (BW.out.trans (BS.out.mono BW.out.size))⟩
      have t5 : decide (2147483647 < fb) = false := decide_eq_false h1
      have g5 := h1
      clear h1
      obtain rfl : r = 0 := by rw [← hr, if_neg (by omega)]
      clear hr
      go_wp2_with fail
      clear y4
      go_region_held3 (fun w' => Below wr.heap.size wr w' ∧ w'.cell? ⟨w.heap.size, 0, none⟩ = some (.int .i64 fa) ∧ w'.cell? ⟨w.heap.size, 1, none⟩ = some (.int .i64 la) ∧ w'.cell? ⟨w.heap.size, 2, none⟩ = some (.int .i64 fb) ∧ w'.cell? ⟨w.heap.size, 3, none⟩ = some (.int .i64 lb) ∧ w'.cell? ⟨w.heap.size, 4, none⟩ = some (.slice a j cap)) (first | exact S0)
        (first | (go_at_call 49; (first | ((with_reducible refine (SA2.out _ S0.1).mono ?_); rintro _ w5 ⟨v5, rfl, O5, B5⟩; obtain ⟨a5, k5, e5⟩ := O5.out.sl; rw [List.length_map, NA.out] at e5; subst e5; have S0 := CE.out _ (S0.1.trans (B5.out.mono S0.1.size))) | ((with_reducible refine (SB2.out _ S0.1).mono ?_); rintro _ w5 ⟨v5, rfl, O5, B5⟩; obtain ⟨a5, k5, e5⟩ := O5.out.sl; rw [List.length_map, NB.out] at e5; subst e5; have S0 := CE.out _ (S0.1.trans (B5.out.mono S0.1.size))))))
      obtain ⟨S1, y0, y1, y2, y3, y4⟩ := S0
      have BS := Lib.hid S1
      clear S1
      go_wp2_with fail
      go_ret
      exact ⟨rfl, Lib.hid (BW.out.trans (BS.out.mono BW.out.size))⟩
set_option maxRecDepth 100000 in
set_option maxHeartbeats 8000000 in
theorem shape_any (h : Hk) (u : Value) (w : World) (hv : RowsAt w u 3 (h.ls.map rowD)) (hl : h.ls.length ≤ 1048576) (hs : ∀ x ∈ h.ls, x.2.1.size ≤ 1048576) :
    Calls Tryd.prog 50 #[vH h u] w fun e w' => e = .returned (.int .i64 (shapeE h)) ∧ Hid (Below w.heap.size w w') := by
  obtain ⟨fa, la, fb, lb, l⟩ := h
  simp only at hv hl hs
  obtain ⟨n, hn⟩ : ∃ n, l.length = n := ⟨_, rfl⟩
  have HN := Lib.hid hn
  have HV := Lib.hid hv
  have HS := Lib.hid hs
  have SA := Lib.hid (fun W (hb : Below w.heap.size w W) => part_any l u 2 W (hv.below hb) (by rw [hn]; omega))
  have SB := Lib.hid (fun W (hb : Below w.heap.size w W) => part_any l u 3 W (hv.below hb) (by rw [hn]; omega))
  obtain ⟨a, cap, rfl, c1, c2, hc⟩ := hv.sl (n := n) (by rw [List.length_map]; exact hn)
  have HC := Lib.hid hc
  rw [hn] at hl
  unfold maxLen at c2
  have B0 : Hid (Below w.heap.size w (w.alloc (.cells #[.int .i64 fa, .int .i64 la, .int .i64 fb, .int .i64 lb, .slice a n cap] 38))) := Lib.hid ((Below.refl _ _).alloc (Nat.le_refl _) _)
  have N0 := heap_alloc_new w (.cells #[.int .i64 fa, .int .i64 la, .int .i64 fb, .int .i64 lb, .slice a n cap] 38)
  have Y0 : Hid ((w.alloc (.cells #[.int .i64 fa, .int .i64 la, .int .i64 fb, .int .i64 lb, .slice a n cap] 38)).cell? ⟨w.heap.size, 0, none⟩ = some (.int .i64 fa)) := Lib.hid (blk_cellx N0 0 _ rfl)
  have Y1 : Hid ((w.alloc (.cells #[.int .i64 fa, .int .i64 la, .int .i64 fb, .int .i64 lb, .slice a n cap] 38)).cell? ⟨w.heap.size, 1, none⟩ = some (.int .i64 la)) := Lib.hid (blk_cellx N0 1 _ rfl)
  have Y2 : Hid ((w.alloc (.cells #[.int .i64 fa, .int .i64 la, .int .i64 fb, .int .i64 lb, .slice a n cap] 38)).cell? ⟨w.heap.size, 2, none⟩ = some (.int .i64 fb)) := Lib.hid (blk_cellx N0 2 _ rfl)
  have Y3 : Hid ((w.alloc (.cells #[.int .i64 fa, .int .i64 la, .int .i64 fb, .int .i64 lb, .slice a n cap] 38)).cell? ⟨w.heap.size, 3, none⟩ = some (.int .i64 lb)) := Lib.hid (blk_cellx N0 3 _ rfl)
  have Y4 : Hid ((w.alloc (.cells #[.int .i64 fa, .int .i64 la, .int .i64 fb, .int .i64 lb, .slice a n cap] 38)).cell? ⟨w.heap.size, 4, none⟩ = some (.slice a n cap)) := Lib.hid (blk_cellx N0 4 _ rfl)
  obtain ⟨r, hr⟩ : ∃ r, shapeE ⟨fa, la, fb, lb, l⟩ = r := ⟨_, rfl⟩
  have HR := Lib.hid hr
  rw [hr]
  have y4 := Y4.out
  clear hv hs hn hc N0 hr
  go_enter Tryd.func50, Tryd.ntmps50
  go_wp2_with fail
  clear y4
  go_loopw [3] (fun i wr => ∃ j : Nat, i = .int .i64 j ∧ j ≤ n ∧ Hid (lineE l = lineE (l.drop j)) ∧ Hid (Below (w.alloc (.cells #[.int .i64 fa, .int .i64 la, .int .i64 fb, .int .i64 lb, .slice a n cap] 38)).heap.size (w.alloc (.cells #[.int .i64 fa, .int .i64 la, .int .i64 fb, .int .i64 lb, .slice a n cap] 38)) wr)) (fun i _ => n - (intOf i).toNat)
  case atStart => exact ⟨0, rfl, Nat.zero_le _, Lib.hid rfl, Lib.hid (Below.refl _ _)⟩
  case round =>
    obtain ⟨j, rfl, hj, HI, BK⟩ := hrel
    have BW := Lib.hid (B0.out.trans (BK.out.mono B0.out.size))
    have y0 := kp BK.out Y0.out
    have y1 := kp BK.out Y1.out
    have y2 := kp BK.out Y2.out
    have y3 := kp BK.out Y3.out
    have y4 := kp BK.out Y4.out
    by_cases hlt : j < n
    · obtain ⟨x, hx⟩ : ∃ x, l[j]? = some x := ⟨_, List.getElem?_eq_getElem (by rw [HN.out]; exact hlt)⟩
      have HX := Lib.hid (HS.out x (List.mem_of_getElem? hx))
      rcases HC.out with h0 | ⟨g, o, rfl, -, hcc⟩
      · omega
      have m1 : (l.map rowD)[j]? = some (rowD x) := by rw [List.getElem?_map, hx]; rfl
      have d0 := kp BW.out (hcc j _ m1 0 _ rfl)
      have d1 := kp BW.out (hcc j _ m1 1 _ rfl)
      have d2 := kp BW.out (hcc j _ m1 2 _ rfl)
      rw [Nat.add_zero] at d0
      have DR := Lib.hid (drop_get hx)
      have p0 : (0 : Int) ≤ (j : Int) := by omega
      have p1 : (j : Int) < (n : Int) := by omega
      have p2 : IntKind.i64.wrap (j : Int) = (j : Int) := IntWalk.i64_in _ (by omega)
      obtain ⟨xo, xt, xn⟩ := x
      simp only at HX
      clear hcc m1 hx
      have BX := Lib.hid (BK.out.alloc BK.out.size (.cells #[.int .i64 xo, .string xt, .bool xn] 59))
      have HXO := Lib.hid (show lineE l = if opB xo = false then 7 else if (10 : UInt8) ∈ xt.data.toList then 1 else lineE (l.drop (j + 1)) by rw [HI.out, DR.out]; rfl)
      clear HI DR
      have fin : ∀ k : Int, k ≠ 0 → lineE l = k → r = k := fun k hk e => by
        rw [← HR.out]; unfold shapeE; simp only; rw [if_pos (by rw [e]; exact hk), e]
      have FIN := Lib.hid fin
      clear fin
      obtain ⟨b, hb⟩ : ∃ b, decide ((10 : UInt8) ∈ xt.data.toList) = b := ⟨_, rfl⟩
      have CB := Lib.hid hb
      clear hb
      have bad : opB xo = false → r = 7 := fun e => FIN.out 7 (by decide) (by rw [HXO.out, if_pos e])
      have BAD := Lib.hid bad
      clear bad
      by_cases x1 : xo = 1
      · subst x1
        have ONE : Hid ((10 : UInt8) ∈ xt.data.toList → r = 1) := Lib.hid (fun hm => FIN.out 1 (by decide) (by rw [HXO.out, if_neg (by decide), if_pos hm]))
        have E : Hid ((10 : UInt8) ∉ xt.data.toList → lineE l = lineE (l.drop (j + 1))) := Lib.hid (fun hm => by rw [HXO.out, if_neg (by decide), if_neg hm])
        have TX : Hid ((wr.alloc (.cells #[.int .i64 1, .string xt, .bool xn] 59)).cell? ⟨wr.heap.size, 1, none⟩ = some (.string xt)) := Lib.hid (blk_cellx (heap_alloc_new wr _) 1 _ rfl)
        clear HXO BAD FIN
        go_wp2_with fail
        clear d0 d1 d2
        go_loop [5] (fun i => ∃ q : Nat, i = .int .i64 q ∧ q ≤ xt.size ∧ Hid ((10 : UInt8) ∉ xt.data.toList.take q)) (fun i => xt.size - (intOf i).toNat)
        case atStart => exact ⟨0, rfl, Nat.zero_le _, Lib.hid (by simp)⟩
        case round =>
          obtain ⟨q, rfl, hq, HQ⟩ := hrel
          have tx := TX.out
          have xz : xt.size ≤ 1048576 := HX.out
          by_cases hq2 : q < xt.size
          · by_cases h10 : xt[q] = 10
            · have t2 : ((xt[q].toNat : Int) == 10) = true := by rw [(is_nl _).1 h10]; rfl
              obtain rfl := ONE.out (by rw [← h10]; simp [ByteArray.getElem_eq_getElem_data])
              clear h10
              go_wp2_with fail
              go_ret
              exact ⟨rfl, Lib.hid (B0.out.trans (BX.out.mono B0.out.size))⟩
            · have t2 : ((xt[q].toNat : Int) == 10) = false := by rw [beq_eq_false_iff_ne]; exact fun e => h10 ((is_nl _).2 e)
              have HQ2 : Hid ((10 : UInt8) ∉ xt.data.toList.take (q + 1)) := Lib.hid (by
                have hq3 : q < xt.data.toList.length := by simpa using hq2
                rw [List.take_add_one, List.getElem?_eq_getElem hq3]
                intro hm
                rcases List.mem_append.1 hm with hm | hm
                · exact HQ.out hm
                · simp at hm; exact h10 (by rw [hm]; simp [ByteArray.getElem_eq_getElem_data]))
              clear h10
              go_wp2_with fail
              go_round
              case rel => exact ⟨q + 1, by go_num, by omega, HQ2⟩
              case measure => simp [intOf]; omega
          · obtain rfl : q = xt.size := by omega
            have E2 := Lib.hid (E.out (by have := HQ.out; rwa [List.take_of_length_le (by simp)] at this))
            go_wp2_with fail
            go_roundw
            case rel => exact ⟨j + 1, by go_num, by omega, E2, BX⟩
            case measure => simp [intOf]; omega
      by_cases x2 : xo = 2
      · subst x2
        have ONE : Hid ((10 : UInt8) ∈ xt.data.toList → r = 1) := Lib.hid (fun hm => FIN.out 1 (by decide) (by rw [HXO.out, if_neg (by decide), if_pos hm]))
        have E : Hid ((10 : UInt8) ∉ xt.data.toList → lineE l = lineE (l.drop (j + 1))) := Lib.hid (fun hm => by rw [HXO.out, if_neg (by decide), if_neg hm])
        have TX : Hid ((wr.alloc (.cells #[.int .i64 2, .string xt, .bool xn] 59)).cell? ⟨wr.heap.size, 1, none⟩ = some (.string xt)) := Lib.hid (blk_cellx (heap_alloc_new wr _) 1 _ rfl)
        clear HXO BAD FIN
        go_wp2_with fail
        clear d0 d1 d2
        go_loop [5] (fun i => ∃ q : Nat, i = .int .i64 q ∧ q ≤ xt.size ∧ Hid ((10 : UInt8) ∉ xt.data.toList.take q)) (fun i => xt.size - (intOf i).toNat)
        case atStart => exact ⟨0, rfl, Nat.zero_le _, Lib.hid (by simp)⟩
        case round =>
          obtain ⟨q, rfl, hq, HQ⟩ := hrel
          have tx := TX.out
          have xz : xt.size ≤ 1048576 := HX.out
          by_cases hq2 : q < xt.size
          · by_cases h10 : xt[q] = 10
            · have t2 : ((xt[q].toNat : Int) == 10) = true := by rw [(is_nl _).1 h10]; rfl
              obtain rfl := ONE.out (by rw [← h10]; simp [ByteArray.getElem_eq_getElem_data])
              clear h10
              go_wp2_with fail
              go_ret
              exact ⟨rfl, Lib.hid (B0.out.trans (BX.out.mono B0.out.size))⟩
            · have t2 : ((xt[q].toNat : Int) == 10) = false := by rw [beq_eq_false_iff_ne]; exact fun e => h10 ((is_nl _).2 e)
              have HQ2 : Hid ((10 : UInt8) ∉ xt.data.toList.take (q + 1)) := Lib.hid (by
                have hq3 : q < xt.data.toList.length := by simpa using hq2
                rw [List.take_add_one, List.getElem?_eq_getElem hq3]
                intro hm
                rcases List.mem_append.1 hm with hm | hm
                · exact HQ.out hm
                · simp at hm; exact h10 (by rw [hm]; simp [ByteArray.getElem_eq_getElem_data]))
              clear h10
              go_wp2_with fail
              go_round
              case rel => exact ⟨q + 1, by go_num, by omega, HQ2⟩
              case measure => simp [intOf]; omega
          · obtain rfl : q = xt.size := by omega
            have E2 := Lib.hid (E.out (by have := HQ.out; rwa [List.take_of_length_le (by simp)] at this))
            go_wp2_with fail
            go_roundw
            case rel => exact ⟨j + 1, by go_num, by omega, E2, BX⟩
            case measure => simp [intOf]; omega
      by_cases x3 : xo = 3
      · subst x3
        have ONE : Hid ((10 : UInt8) ∈ xt.data.toList → r = 1) := Lib.hid (fun hm => FIN.out 1 (by decide) (by rw [HXO.out, if_neg (by decide), if_pos hm]))
        have E : Hid ((10 : UInt8) ∉ xt.data.toList → lineE l = lineE (l.drop (j + 1))) := Lib.hid (fun hm => by rw [HXO.out, if_neg (by decide), if_neg hm])
        have TX : Hid ((wr.alloc (.cells #[.int .i64 3, .string xt, .bool xn] 59)).cell? ⟨wr.heap.size, 1, none⟩ = some (.string xt)) := Lib.hid (blk_cellx (heap_alloc_new wr _) 1 _ rfl)
        clear HXO BAD FIN
        go_wp2_with fail
        clear d0 d1 d2
        go_loop [5] (fun i => ∃ q : Nat, i = .int .i64 q ∧ q ≤ xt.size ∧ Hid ((10 : UInt8) ∉ xt.data.toList.take q)) (fun i => xt.size - (intOf i).toNat)
        case atStart => exact ⟨0, rfl, Nat.zero_le _, Lib.hid (by simp)⟩
        case round =>
          obtain ⟨q, rfl, hq, HQ⟩ := hrel
          have tx := TX.out
          have xz : xt.size ≤ 1048576 := HX.out
          by_cases hq2 : q < xt.size
          · by_cases h10 : xt[q] = 10
            · have t2 : ((xt[q].toNat : Int) == 10) = true := by rw [(is_nl _).1 h10]; rfl
              obtain rfl := ONE.out (by rw [← h10]; simp [ByteArray.getElem_eq_getElem_data])
              clear h10
              go_wp2_with fail
              go_ret
              exact ⟨rfl, Lib.hid (B0.out.trans (BX.out.mono B0.out.size))⟩
            · have t2 : ((xt[q].toNat : Int) == 10) = false := by rw [beq_eq_false_iff_ne]; exact fun e => h10 ((is_nl _).2 e)
              have HQ2 : Hid ((10 : UInt8) ∉ xt.data.toList.take (q + 1)) := Lib.hid (by
                have hq3 : q < xt.data.toList.length := by simpa using hq2
                rw [List.take_add_one, List.getElem?_eq_getElem hq3]
                intro hm
                rcases List.mem_append.1 hm with hm | hm
                · exact HQ.out hm
                · simp at hm; exact h10 (by rw [hm]; simp [ByteArray.getElem_eq_getElem_data]))
              clear h10
              go_wp2_with fail
              go_round
              case rel => exact ⟨q + 1, by go_num, by omega, HQ2⟩
              case measure => simp [intOf]; omega
          · obtain rfl : q = xt.size := by omega
            have E2 := Lib.hid (E.out (by have := HQ.out; rwa [List.take_of_length_le (by simp)] at this))
            go_wp2_with fail
            go_roundw
            case rel => exact ⟨j + 1, by go_num, by omega, E2, BX⟩
            case measure => simp [intOf]; omega
      have t1 : (xo != 1) = true := bne_iff_ne.2 x1
      have t2 : (xo != 2) = true := bne_iff_ne.2 x2
      have t3 : (xo != 3) = true := bne_iff_ne.2 x3
      obtain rfl := BAD.out (by unfold opB; simp [x1, x2, x3])
      go_wp2_with fail
      go_ret
      exact ⟨rfl, Lib.hid (B0.out.trans (BX.out.mono B0.out.size))⟩
    · obtain rfl : j = n := by omega
      have HL0 : lineE l = 0 := by rw [HI.out, List.drop_eq_nil_of_le (by rw [HN.out]; exact Nat.le_refl _)]; rfl
      obtain ⟨sa, hsa⟩ : ∃ s, sideP 2 l = s := ⟨_, rfl⟩
      obtain ⟨sb, hsb⟩ : ∃ s, sideP 3 l = s := ⟨_, rfl⟩
      obtain ⟨na, hna⟩ : ∃ n, sa.length = n := ⟨_, rfl⟩
      obtain ⟨nb, hnb⟩ : ∃ n, sb.length = n := ⟨_, rfl⟩
      have hr := HR.out
      unfold shapeE at hr
      simp only at hr
      rw [if_neg (by rw [HL0]; simp), hsa, hsb, hna, hnb] at hr
      rw [hsa] at SA
      rw [hsb] at SB
      have NA := Lib.hid hna
      have NB := Lib.hid hnb
      have SA2 := Lib.hid (fun W (hb : Below wr.heap.size wr W) => SA.out W (BW.out.trans (hb.mono BW.out.size)))
      have SB2 := Lib.hid (fun W (hb : Below wr.heap.size wr W) => SB.out W (BW.out.trans (hb.mono BW.out.size)))
      have CE : Hid (∀ w', Below wr.heap.size wr w' → Below wr.heap.size wr w' ∧ w'.cell? ⟨w.heap.size, 0, none⟩ = some (.int .i64 fa) ∧ w'.cell? ⟨w.heap.size, 1, none⟩ = some (.int .i64 la) ∧ w'.cell? ⟨w.heap.size, 2, none⟩ = some (.int .i64 fb) ∧ w'.cell? ⟨w.heap.size, 3, none⟩ = some (.int .i64 lb) ∧ w'.cell? ⟨w.heap.size, 4, none⟩ = some (.slice a j cap)) := Lib.hid (fun w' h => ⟨h, kp h (kp BK.out Y0.out), kp h (kp BK.out Y1.out), kp h (kp BK.out Y2.out), kp h (kp BK.out Y3.out), kp h (kp BK.out Y4.out)⟩)
      have S0 := CE.out _ (Below.refl wr.heap.size wr).drew
      clear hsa hsb hna hnb HI HL0 HR y0 y1 y2 y3
      by_cases h1 : la ≠ (na : Int)
      · have t0 : (la != (na : Int)) = true := bne_iff_ne.2 h1
        obtain rfl : r = 2 := by rw [← hr, if_pos (by omega)]
        clear hr h1
        go_wp2_with fail
        clear y4
        refine wp_region_held_drew (S := (fun w' => Below wr.heap.size wr w' ∧ w'.cell? ⟨w.heap.size, 0, none⟩ = some (.int .i64 fa) ∧ w'.cell? ⟨w.heap.size, 1, none⟩ = some (.int .i64 la) ∧ w'.cell? ⟨w.heap.size, 2, none⟩ = some (.int .i64 fb) ∧ w'.cell? ⟨w.heap.size, 3, none⟩ = some (.int .i64 lb) ∧ w'.cell? ⟨w.heap.size, 4, none⟩ = some (.slice a j cap))) (by kernel_rfl) ?_ (fun hHeld => ?_)
        · exact S0
        refine wpAnyH_take (i := 0) (oi := ⟨some 43, _, _, _, _, _⟩) (v := ?v9) rfl (by kernel_rfl) (by kernel_rfl) (by kernel_rfl) (fun _ _ _ h => h) (Or.inl ⟨by rfl, ?hy9⟩) (by assumption) ?rest9
        case hy9 => (intro w hSw; (try dsimp only at hSw); (go_simp <;> (with_reducible rfl)))
        try simp only [Act.put, List.setIfInBounds_toArray, List.set_cons_zero, List.set_cons_succ]
        refine wpAnyH_take (i := 1) (oi := ⟨some 44, _, _, _, _, _⟩) (v := ?v10) rfl (by kernel_rfl) (by kernel_rfl) (by kernel_rfl) (fun _ _ _ h => h) (Or.inl ⟨by rfl, ?hy10⟩) (by assumption) ?rest10
        case hy10 => (intro w hSw; (try dsimp only at hSw); (go_simp <;> (with_reducible rfl)))
        try simp only [Act.put, List.setIfInBounds_toArray, List.set_cons_zero, List.set_cons_succ]
        refine wpAnyH_take (i := 2) (oi := ⟨some 45, _, _, _, _, _⟩) (v := ?v11) rfl (by kernel_rfl) (by kernel_rfl) (by kernel_rfl) (fun _ _ _ h => h) (Or.inl ⟨by rfl, ?hy11⟩) (by assumption) ?rest11
        case hy11 => (intro w hSw; (try dsimp only at hSw); (go_simp <;> (with_reducible rfl)))
        try simp only [Act.put, List.setIfInBounds_toArray, List.set_cons_zero, List.set_cons_succ]
        refine wpAnyH_take (i := 3) (oi := ⟨some 46, _, _, _, _, _⟩) (v := ?v12) rfl (by kernel_rfl) (by kernel_rfl) (by kernel_rfl) (fun _ _ _ h => h) (Or.inl ⟨by rfl, ?hy12⟩) (by assumption) ?rest12
        case hy12 => (intro w hSw; (try dsimp only at hSw); (go_simp <;> (with_reducible rfl)))
        try simp only [Act.put, List.setIfInBounds_toArray, List.set_cons_zero, List.set_cons_succ]
        refine wpAnyH_ready (rs := [4]) (by kernel_rfl) (by simp) ?_
        refine AllReadyH.cons (o := ⟨some 47, _, _, _, _, _⟩) rfl (fun K hK => ?_) AllReadyH.nil
        go_simp
        (first | (go_at_call 33; (first | ((with_reducible refine (SA2.out _ S0.1).mono ?_); rintro _ w5 ⟨v5, rfl, O5, B5⟩; obtain ⟨a5, k5, e5⟩ := O5.out.sl; rw [List.length_map, NA.out] at e5; subst e5; have S0 := CE.out _ (S0.1.trans (B5.out.mono S0.1.size))) | ((with_reducible refine (SB2.out _ S0.1).mono ?_); rintro _ w5 ⟨v5, rfl, O5, B5⟩; obtain ⟨a5, k5, e5⟩ := O5.out.sl; rw [List.length_map, NB.out] at e5; subst e5; have S0 := CE.out _ (S0.1.trans (B5.out.mono S0.1.size))))))
        refine hK.out _ _ ?_ (fun hHeld => ?_)
        · exact S0
        clear hK K
        try simp only [Act.put, List.setIfInBounds_toArray, List.set_cons_zero, List.set_cons_succ]
        refine wpAnyH_take (i := 5) (oi := ⟨some 48, _, _, _, _, _⟩) (v := ?v13) rfl (by kernel_rfl) (by kernel_rfl) (by kernel_rfl) (fun _ _ _ h => h) (Or.inl ⟨by rfl, ?hy13⟩) (by assumption) ?rest13
        case hy13 => (intro w hSw; (try dsimp only at hSw); (go_simp <;> (with_reducible rfl)))
        try simp only [Act.put, List.setIfInBounds_toArray, List.set_cons_zero, List.set_cons_succ]
        refine wpAnyH_take (i := 6) (oi := ⟨some 49, _, _, _, _, _⟩) (v := ?v14) rfl (by kernel_rfl) (by kernel_rfl) (by kernel_rfl) (fun _ _ _ h => h) (Or.inl ⟨by rfl, ?hy14⟩) (by assumption) ?rest14
        case hy14 => (intro w hSw; (try dsimp only at hSw); (go_simp <;> (with_reducible rfl)))
        try simp only [Act.put, List.setIfInBounds_toArray, List.set_cons_zero, List.set_cons_succ]
        refine wpAnyH_take (i := 7) (oi := ⟨some 50, _, _, _, _, _⟩) (v := ?v15) rfl (by kernel_rfl) (by kernel_rfl) (by kernel_rfl) (fun _ _ _ h => h) (Or.inl ⟨by rfl, ?hy15⟩) (by assumption) ?rest15
        case hy15 => (intro w hSw; (try dsimp only at hSw); (go_simp <;> (with_reducible rfl)))
        try simp only [Act.put, List.setIfInBounds_toArray, List.set_cons_zero, List.set_cons_succ]
        refine wpAnyH_take (i := 8) (oi := ⟨some 51, _, _, _, _, _⟩) (v := undef) rfl (by kernel_rfl) (by kernel_rfl) (by kernel_rfl) (fun _ _ _ h => h) (Or.inr ⟨by rfl, rfl⟩) (by assumption) ?_
        try simp only [Act.put, List.setIfInBounds_toArray, List.set_cons_zero, List.set_cons_succ]
        refine wpAnyH_take (i := 9) (oi := ⟨some 52, _, _, _, _, _⟩) (v := undef) rfl (by kernel_rfl) (by kernel_rfl) (by kernel_rfl) (fun _ _ _ h => h) (Or.inr ⟨by rfl, rfl⟩) (by assumption) ?_
        try simp only [Act.put, List.setIfInBounds_toArray, List.set_cons_zero, List.set_cons_succ]
        refine wpAnyH_take (i := 10) (oi := ⟨some 53, _, _, _, _, _⟩) (v := undef) rfl (by kernel_rfl) (by kernel_rfl) (by kernel_rfl) (fun _ _ _ h => h) (Or.inr ⟨by rfl, rfl⟩) (by assumption) ?_
        try simp only [Act.put, List.setIfInBounds_toArray, List.set_cons_zero, List.set_cons_succ]
        refine wpAnyH_take (i := 11) (oi := ⟨some 54, _, _, _, _, _⟩) (v := undef) rfl (by kernel_rfl) (by kernel_rfl) (by kernel_rfl) (fun _ _ _ h => h) (Or.inr ⟨by rfl, rfl⟩) (by assumption) ?_
        try simp only [Act.put, List.setIfInBounds_toArray, List.set_cons_zero, List.set_cons_succ]
        refine wpAnyH_ready (rs := [12]) (by kernel_rfl) (by simp) ?_
        refine AllReadyH.cons (o := ⟨some 55, _, _, _, _, _⟩) rfl (fun K hK => ?_) AllReadyH.nil
        rw [if_neg (by rw [show Region.wanted _ _ = false from rfl]; decide)]
        refine hK.out _ _ ?_ (fun hHeld => ?_)
        · exact S0
        clear hK K
        try simp only [Act.put, List.setIfInBounds_toArray, List.set_cons_zero, List.set_cons_succ]
        refine wpAnyH_take (i := 13) (oi := ⟨some 56, _, _, _, _, _⟩) (v := undef) rfl (by kernel_rfl) (by kernel_rfl) (by kernel_rfl) (fun _ _ _ h => h) (Or.inr ⟨by rfl, rfl⟩) (by assumption) ?_
        try simp only [Act.put, List.setIfInBounds_toArray, List.set_cons_zero, List.set_cons_succ]
        refine wpAnyH_take (i := 14) (oi := ⟨some 57, _, _, _, _, _⟩) (v := undef) rfl (by kernel_rfl) (by kernel_rfl) (by kernel_rfl) (fun _ _ _ h => h) (Or.inr ⟨by rfl, rfl⟩) (by assumption) ?_
        try simp only [Act.put, List.setIfInBounds_toArray, List.set_cons_zero, List.set_cons_succ]
        refine wpAnyH_take (i := 15) (oi := ⟨some 58, _, _, _, _, _⟩) (v := ?v16) rfl (by kernel_rfl) (by kernel_rfl) (by kernel_rfl) (fun _ _ _ h => h) (Or.inl ⟨by rfl, ?hy16⟩) (by assumption) ?rest16
        case hy16 => (intro w hSw; (try dsimp only at hSw); (go_simp <;> (with_reducible rfl)))
        try simp only [Act.put, List.setIfInBounds_toArray, List.set_cons_zero, List.set_cons_succ]
        refine wpAnyH_take (i := 16) (oi := ⟨some 59, _, _, _, _, _⟩) (v := ?v17) rfl (by kernel_rfl) (by kernel_rfl) (by kernel_rfl) (fun _ _ _ h => h) (Or.inl ⟨by rfl, ?hy17⟩) (by assumption) ?rest17
        case hy17 => (intro w hSw; (try dsimp only at hSw); (go_simp <;> (with_reducible rfl)))
        try simp only [Act.put, List.setIfInBounds_toArray, List.set_cons_zero, List.set_cons_succ]
        refine wpAnyH_take (i := 17) (oi := ⟨some 60, _, _, _, _, _⟩) (v := undef) rfl (by kernel_rfl) (by kernel_rfl) (by kernel_rfl) (fun _ _ _ h => h) (Or.inr ⟨by rfl, rfl⟩) (by assumption) ?_
        try simp only [Act.put, List.setIfInBounds_toArray, List.set_cons_zero, List.set_cons_succ]
        refine wpAnyH_take (i := 18) (oi := ⟨some 61, _, _, _, _, _⟩) (v := undef) rfl (by kernel_rfl) (by kernel_rfl) (by kernel_rfl) (fun _ _ _ h => h) (Or.inr ⟨by rfl, rfl⟩) (by assumption) ?_
        try simp only [Act.put, List.setIfInBounds_toArray, List.set_cons_zero, List.set_cons_succ]
        refine wpAnyH_take (i := 19) (oi := ⟨some 62, _, _, _, _, _⟩) (v := undef) rfl (by kernel_rfl) (by kernel_rfl) (by kernel_rfl) (fun _ _ _ h => h) (Or.inr ⟨by rfl, rfl⟩) (by assumption) ?_
        try simp only [Act.put, List.setIfInBounds_toArray, List.set_cons_zero, List.set_cons_succ]
        refine wpAnyH_take (i := 20) (oi := ⟨some 63, _, _, _, _, _⟩) (v := ?v18) rfl (by kernel_rfl) (by kernel_rfl) (by kernel_rfl) (fun _ _ _ h => h) (Or.inl ⟨by rfl, ?hy18⟩) (by assumption) ?rest18
        case hy18 => (intro w hSw; (try dsimp only at hSw); (go_simp <;> (with_reducible rfl)))
        try simp only [Act.put, List.setIfInBounds_toArray, List.set_cons_zero, List.set_cons_succ]
        refine wpAnyH_take (i := 21) (oi := ⟨some 64, _, _, _, _, _⟩) (v := ?v19) rfl (by kernel_rfl) (by kernel_rfl) (by kernel_rfl) (fun _ _ _ h => h) (Or.inl ⟨by rfl, ?hy19⟩) (by assumption) ?rest19
        case hy19 => (intro w hSw; (try dsimp only at hSw); (go_simp <;> (with_reducible rfl)))
        try simp only [Act.put, List.setIfInBounds_toArray, List.set_cons_zero, List.set_cons_succ]
        refine wpAnyH_take (i := 22) (oi := ⟨some 65, _, _, _, _, _⟩) (v := undef) rfl (by kernel_rfl) (by kernel_rfl) (by kernel_rfl) (fun _ _ _ h => h) (Or.inr ⟨by rfl, rfl⟩) (by assumption) ?_
        try simp only [Act.put, List.setIfInBounds_toArray, List.set_cons_zero, List.set_cons_succ]
        refine wpAnyH_take (i := 23) (oi := ⟨some 66, _, _, _, _, _⟩) (v := undef) rfl (by kernel_rfl) (by kernel_rfl) (by kernel_rfl) (fun _ _ _ h => h) (Or.inr ⟨by rfl, rfl⟩) (by assumption) ?_
        try simp only [Act.put, List.setIfInBounds_toArray, List.set_cons_zero, List.set_cons_succ]
        refine wpAnyH_take (i := 24) (oi := ⟨some 67, _, _, _, _, _⟩) (v := undef) rfl (by kernel_rfl) (by kernel_rfl) (by kernel_rfl) (fun _ _ _ h => h) (Or.inr ⟨by rfl, rfl⟩) (by assumption) ?_
        try simp only [Act.put, List.setIfInBounds_toArray, List.set_cons_zero, List.set_cons_succ]
        refine wpAnyH_take (i := 25) (oi := ⟨some 68, _, _, _, _, _⟩) (v := ?v20) rfl (by kernel_rfl) (by kernel_rfl) (by kernel_rfl) (fun _ _ _ h => h) (Or.inl ⟨by rfl, ?hy20⟩) (by assumption) ?rest20
        case hy20 => (intro w hSw; (try dsimp only at hSw); (go_simp <;> (with_reducible rfl)))
        try simp only [Act.put, List.setIfInBounds_toArray, List.set_cons_zero, List.set_cons_succ]
        refine wpAnyH_take (i := 26) (oi := ⟨some 69, _, _, _, _, _⟩) (v := ?v21) rfl (by kernel_rfl) (by kernel_rfl) (by kernel_rfl) (fun _ _ _ h => h) (Or.inl ⟨by rfl, ?hy21⟩) (by assumption) ?rest21
        case hy21 => (intro w hSw; (try dsimp only at hSw); (go_simp <;> (with_reducible rfl)))
        try simp only [Act.put, List.setIfInBounds_toArray, List.set_cons_zero, List.set_cons_succ]
        refine wpAnyH_take (i := 27) (oi := ⟨some 70, _, _, _, _, _⟩) (v := undef) rfl (by kernel_rfl) (by kernel_rfl) (by kernel_rfl) (fun _ _ _ h => h) (Or.inr ⟨by rfl, rfl⟩) (by assumption) ?_
        try simp only [Act.put, List.setIfInBounds_toArray, List.set_cons_zero, List.set_cons_succ]
        refine wpAnyH_take (i := 28) (oi := ⟨some 71, _, _, _, _, _⟩) (v := undef) rfl (by kernel_rfl) (by kernel_rfl) (by kernel_rfl) (fun _ _ _ h => h) (Or.inr ⟨by rfl, rfl⟩) (by assumption) ?_
        try simp only [Act.put, List.setIfInBounds_toArray, List.set_cons_zero, List.set_cons_succ]
        refine wpAnyH_take (i := 29) (oi := ⟨some 72, _, _, _, _, _⟩) (v := undef) rfl (by kernel_rfl) (by kernel_rfl) (by kernel_rfl) (fun _ _ _ h => h) (Or.inr ⟨by rfl, rfl⟩) (by assumption) ?_
        try simp only [Act.put, List.setIfInBounds_toArray, List.set_cons_zero, List.set_cons_succ]
        refine wpAnyH_take (i := 30) (oi := ⟨some 73, _, _, _, _, _⟩) (v := ?v22) rfl (by kernel_rfl) (by kernel_rfl) (by kernel_rfl) (fun _ _ _ h => h) (Or.inl ⟨by rfl, ?hy22⟩) (by assumption) ?rest22
        case hy22 => (intro w hSw; (try dsimp only at hSw); (go_simp <;> (with_reducible rfl)))
        try simp only [Act.put, List.setIfInBounds_toArray, List.set_cons_zero, List.set_cons_succ]
        refine wpAnyH_take (i := 31) (oi := ⟨some 74, _, _, _, _, _⟩) (v := ?v23) rfl (by kernel_rfl) (by kernel_rfl) (by kernel_rfl) (fun _ _ _ h => h) (Or.inl ⟨by rfl, ?hy23⟩) (by assumption) ?rest23
        case hy23 => (intro w hSw; (try dsimp only at hSw); (go_simp <;> (with_reducible rfl)))
        try simp only [Act.put, List.setIfInBounds_toArray, List.set_cons_zero, List.set_cons_succ]
        refine wpAnyH_take (i := 32) (oi := ⟨some 75, _, _, _, _, _⟩) (v := undef) rfl (by kernel_rfl) (by kernel_rfl) (by kernel_rfl) (fun _ _ _ h => h) (Or.inr ⟨by rfl, rfl⟩) (by assumption) ?_
        try simp only [Act.put, List.setIfInBounds_toArray, List.set_cons_zero, List.set_cons_succ]
        refine wpAnyH_take (i := 33) (oi := ⟨some 76, _, _, _, _, _⟩) (v := undef) rfl (by kernel_rfl) (by kernel_rfl) (by kernel_rfl) (fun _ _ _ h => h) (Or.inr ⟨by rfl, rfl⟩) (by assumption) ?_
        try simp only [Act.put, List.setIfInBounds_toArray, List.set_cons_zero, List.set_cons_succ]
        refine wpAnyH_take (i := 34) (oi := ⟨some 77, _, _, _, _, _⟩) (v := undef) rfl (by kernel_rfl) (by kernel_rfl) (by kernel_rfl) (fun _ _ _ h => h) (Or.inr ⟨by rfl, rfl⟩) (by assumption) ?_
        try simp only [Act.put, List.setIfInBounds_toArray, List.set_cons_zero, List.set_cons_succ]
        refine wpAnyH_take (i := 35) (oi := ⟨some 78, _, _, _, _, _⟩) (v := ?v24) rfl (by kernel_rfl) (by kernel_rfl) (by kernel_rfl) (fun _ _ _ h => h) (Or.inl ⟨by rfl, ?hy24⟩) (by assumption) ?rest24
        case hy24 => (intro w hSw; (try dsimp only at hSw); (go_simp <;> (with_reducible rfl)))
        try simp only [Act.put, List.setIfInBounds_toArray, List.set_cons_zero, List.set_cons_succ]
        refine wpAnyH_done (by kernel_rfl) ?_ _
        obtain ⟨S1, y0, y1, y2, y3, y4⟩ := S0
        have BS := Lib.hid S1
        clear S1
        go_wp2_with fail
        go_ret
        exact ⟨rfl, Lib.hid (BW.out.trans (BS.out.mono BW.out.size))⟩
      have t0 : (la != (na : Int)) = false := by simpa using h1
      have g0 := h1
      clear h1
      by_cases h1 : lb ≠ (nb : Int)
      · have t1 : (lb != (nb : Int)) = true := bne_iff_ne.2 h1
        obtain rfl : r = 2 := by rw [← hr, if_pos (by omega)]
        clear hr h1
        go_wp2_with fail
        clear y4
        refine wp_region_held_drew (S := (fun w' => Below wr.heap.size wr w' ∧ w'.cell? ⟨w.heap.size, 0, none⟩ = some (.int .i64 fa) ∧ w'.cell? ⟨w.heap.size, 1, none⟩ = some (.int .i64 la) ∧ w'.cell? ⟨w.heap.size, 2, none⟩ = some (.int .i64 fb) ∧ w'.cell? ⟨w.heap.size, 3, none⟩ = some (.int .i64 lb) ∧ w'.cell? ⟨w.heap.size, 4, none⟩ = some (.slice a j cap))) (by kernel_rfl) ?_ (fun hHeld => ?_)
        · exact S0
        refine wpAnyH_take (i := 0) (oi := ⟨some 43, _, _, _, _, _⟩) (v := ?v25) rfl (by kernel_rfl) (by kernel_rfl) (by kernel_rfl) (fun _ _ _ h => h) (Or.inl ⟨by rfl, ?hy25⟩) (by assumption) ?rest25
        case hy25 => (intro w hSw; (try dsimp only at hSw); (go_simp <;> (with_reducible rfl)))
        try simp only [Act.put, List.setIfInBounds_toArray, List.set_cons_zero, List.set_cons_succ]
        refine wpAnyH_take (i := 1) (oi := ⟨some 44, _, _, _, _, _⟩) (v := ?v26) rfl (by kernel_rfl) (by kernel_rfl) (by kernel_rfl) (fun _ _ _ h => h) (Or.inl ⟨by rfl, ?hy26⟩) (by assumption) ?rest26
        case hy26 => (intro w hSw; (try dsimp only at hSw); (go_simp <;> (with_reducible rfl)))
        try simp only [Act.put, List.setIfInBounds_toArray, List.set_cons_zero, List.set_cons_succ]
        refine wpAnyH_take (i := 2) (oi := ⟨some 45, _, _, _, _, _⟩) (v := ?v27) rfl (by kernel_rfl) (by kernel_rfl) (by kernel_rfl) (fun _ _ _ h => h) (Or.inl ⟨by rfl, ?hy27⟩) (by assumption) ?rest27
        case hy27 => (intro w hSw; (try dsimp only at hSw); (go_simp <;> (with_reducible rfl)))
        try simp only [Act.put, List.setIfInBounds_toArray, List.set_cons_zero, List.set_cons_succ]
        refine wpAnyH_take (i := 3) (oi := ⟨some 46, _, _, _, _, _⟩) (v := ?v28) rfl (by kernel_rfl) (by kernel_rfl) (by kernel_rfl) (fun _ _ _ h => h) (Or.inl ⟨by rfl, ?hy28⟩) (by assumption) ?rest28
        case hy28 => (intro w hSw; (try dsimp only at hSw); (go_simp <;> (with_reducible rfl)))
        try simp only [Act.put, List.setIfInBounds_toArray, List.set_cons_zero, List.set_cons_succ]
        refine wpAnyH_ready (rs := [4]) (by kernel_rfl) (by simp) ?_
        refine AllReadyH.cons (o := ⟨some 47, _, _, _, _, _⟩) rfl (fun K hK => ?_) AllReadyH.nil
        go_simp
        (first | (go_at_call 33; (first | ((with_reducible refine (SA2.out _ S0.1).mono ?_); rintro _ w5 ⟨v5, rfl, O5, B5⟩; obtain ⟨a5, k5, e5⟩ := O5.out.sl; rw [List.length_map, NA.out] at e5; subst e5; have S0 := CE.out _ (S0.1.trans (B5.out.mono S0.1.size))) | ((with_reducible refine (SB2.out _ S0.1).mono ?_); rintro _ w5 ⟨v5, rfl, O5, B5⟩; obtain ⟨a5, k5, e5⟩ := O5.out.sl; rw [List.length_map, NB.out] at e5; subst e5; have S0 := CE.out _ (S0.1.trans (B5.out.mono S0.1.size))))))
        refine hK.out _ _ ?_ (fun hHeld => ?_)
        · exact S0
        clear hK K
        try simp only [Act.put, List.setIfInBounds_toArray, List.set_cons_zero, List.set_cons_succ]
        refine wpAnyH_take (i := 5) (oi := ⟨some 48, _, _, _, _, _⟩) (v := ?v29) rfl (by kernel_rfl) (by kernel_rfl) (by kernel_rfl) (fun _ _ _ h => h) (Or.inl ⟨by rfl, ?hy29⟩) (by assumption) ?rest29
        case hy29 => (intro w hSw; (try dsimp only at hSw); (go_simp <;> (with_reducible rfl)))
        try simp only [Act.put, List.setIfInBounds_toArray, List.set_cons_zero, List.set_cons_succ]
        refine wpAnyH_take (i := 6) (oi := ⟨some 49, _, _, _, _, _⟩) (v := ?v30) rfl (by kernel_rfl) (by kernel_rfl) (by kernel_rfl) (fun _ _ _ h => h) (Or.inl ⟨by rfl, ?hy30⟩) (by assumption) ?rest30
        case hy30 => (intro w hSw; (try dsimp only at hSw); (go_simp <;> (with_reducible rfl)))
        try simp only [Act.put, List.setIfInBounds_toArray, List.set_cons_zero, List.set_cons_succ]
        refine wpAnyH_take (i := 7) (oi := ⟨some 50, _, _, _, _, _⟩) (v := ?v31) rfl (by kernel_rfl) (by kernel_rfl) (by kernel_rfl) (fun _ _ _ h => h) (Or.inl ⟨by rfl, ?hy31⟩) (by assumption) ?rest31
        case hy31 => (intro w hSw; (try dsimp only at hSw); (go_simp <;> (with_reducible rfl)))
        try simp only [Act.put, List.setIfInBounds_toArray, List.set_cons_zero, List.set_cons_succ]
        refine wpAnyH_take (i := 8) (oi := ⟨some 51, _, _, _, _, _⟩) (v := ?v32) rfl (by kernel_rfl) (by kernel_rfl) (by kernel_rfl) (fun _ _ _ h => h) (Or.inl ⟨by rfl, ?hy32⟩) (by assumption) ?rest32
        case hy32 => (intro w hSw; (try dsimp only at hSw); (go_simp <;> (with_reducible rfl)))
        try simp only [Act.put, List.setIfInBounds_toArray, List.set_cons_zero, List.set_cons_succ]
        refine wpAnyH_take (i := 9) (oi := ⟨some 52, _, _, _, _, _⟩) (v := ?v33) rfl (by kernel_rfl) (by kernel_rfl) (by kernel_rfl) (fun _ _ _ h => h) (Or.inl ⟨by rfl, ?hy33⟩) (by assumption) ?rest33
        case hy33 => (intro w hSw; (try dsimp only at hSw); (go_simp <;> (with_reducible rfl)))
        try simp only [Act.put, List.setIfInBounds_toArray, List.set_cons_zero, List.set_cons_succ]
        refine wpAnyH_take (i := 10) (oi := ⟨some 53, _, _, _, _, _⟩) (v := ?v34) rfl (by kernel_rfl) (by kernel_rfl) (by kernel_rfl) (fun _ _ _ h => h) (Or.inl ⟨by rfl, ?hy34⟩) (by assumption) ?rest34
        case hy34 => (intro w hSw; (try dsimp only at hSw); (go_simp <;> (with_reducible rfl)))
        try simp only [Act.put, List.setIfInBounds_toArray, List.set_cons_zero, List.set_cons_succ]
        refine wpAnyH_take (i := 11) (oi := ⟨some 54, _, _, _, _, _⟩) (v := ?v35) rfl (by kernel_rfl) (by kernel_rfl) (by kernel_rfl) (fun _ _ _ h => h) (Or.inl ⟨by rfl, ?hy35⟩) (by assumption) ?rest35
        case hy35 => (intro w hSw; (try dsimp only at hSw); (go_simp <;> (with_reducible rfl)))
        try simp only [Act.put, List.setIfInBounds_toArray, List.set_cons_zero, List.set_cons_succ]
        refine wpAnyH_ready (rs := [12]) (by kernel_rfl) (by simp) ?_
        refine AllReadyH.cons (o := ⟨some 55, _, _, _, _, _⟩) rfl (fun K hK => ?_) AllReadyH.nil
        go_simp
        (first | (go_at_call 33; (first | ((with_reducible refine (SA2.out _ S0.1).mono ?_); rintro _ w5 ⟨v5, rfl, O5, B5⟩; obtain ⟨a5, k5, e5⟩ := O5.out.sl; rw [List.length_map, NA.out] at e5; subst e5; have S0 := CE.out _ (S0.1.trans (B5.out.mono S0.1.size))) | ((with_reducible refine (SB2.out _ S0.1).mono ?_); rintro _ w5 ⟨v5, rfl, O5, B5⟩; obtain ⟨a5, k5, e5⟩ := O5.out.sl; rw [List.length_map, NB.out] at e5; subst e5; have S0 := CE.out _ (S0.1.trans (B5.out.mono S0.1.size))))))
        refine hK.out _ _ ?_ (fun hHeld => ?_)
        · exact S0
        clear hK K
        try simp only [Act.put, List.setIfInBounds_toArray, List.set_cons_zero, List.set_cons_succ]
        refine wpAnyH_take (i := 13) (oi := ⟨some 56, _, _, _, _, _⟩) (v := ?v36) rfl (by kernel_rfl) (by kernel_rfl) (by kernel_rfl) (fun _ _ _ h => h) (Or.inl ⟨by rfl, ?hy36⟩) (by assumption) ?rest36
        case hy36 => (intro w hSw; (try dsimp only at hSw); (go_simp <;> (with_reducible rfl)))
        try simp only [Act.put, List.setIfInBounds_toArray, List.set_cons_zero, List.set_cons_succ]
        refine wpAnyH_take (i := 14) (oi := ⟨some 57, _, _, _, _, _⟩) (v := ?v37) rfl (by kernel_rfl) (by kernel_rfl) (by kernel_rfl) (fun _ _ _ h => h) (Or.inl ⟨by rfl, ?hy37⟩) (by assumption) ?rest37
        case hy37 => (intro w hSw; (try dsimp only at hSw); (go_simp <;> (with_reducible rfl)))
        try simp only [Act.put, List.setIfInBounds_toArray, List.set_cons_zero, List.set_cons_succ]
        refine wpAnyH_take (i := 15) (oi := ⟨some 58, _, _, _, _, _⟩) (v := ?v38) rfl (by kernel_rfl) (by kernel_rfl) (by kernel_rfl) (fun _ _ _ h => h) (Or.inl ⟨by rfl, ?hy38⟩) (by assumption) ?rest38
        case hy38 => (intro w hSw; (try dsimp only at hSw); (go_simp <;> (with_reducible rfl)))
        try simp only [Act.put, List.setIfInBounds_toArray, List.set_cons_zero, List.set_cons_succ]
        refine wpAnyH_take (i := 16) (oi := ⟨some 59, _, _, _, _, _⟩) (v := ?v39) rfl (by kernel_rfl) (by kernel_rfl) (by kernel_rfl) (fun _ _ _ h => h) (Or.inl ⟨by rfl, ?hy39⟩) (by assumption) ?rest39
        case hy39 => (intro w hSw; (try dsimp only at hSw); (go_simp <;> (with_reducible rfl)))
        try simp only [Act.put, List.setIfInBounds_toArray, List.set_cons_zero, List.set_cons_succ]
        refine wpAnyH_take (i := 17) (oi := ⟨some 60, _, _, _, _, _⟩) (v := undef) rfl (by kernel_rfl) (by kernel_rfl) (by kernel_rfl) (fun _ _ _ h => h) (Or.inr ⟨by rfl, rfl⟩) (by assumption) ?_
        try simp only [Act.put, List.setIfInBounds_toArray, List.set_cons_zero, List.set_cons_succ]
        refine wpAnyH_take (i := 18) (oi := ⟨some 61, _, _, _, _, _⟩) (v := undef) rfl (by kernel_rfl) (by kernel_rfl) (by kernel_rfl) (fun _ _ _ h => h) (Or.inr ⟨by rfl, rfl⟩) (by assumption) ?_
        try simp only [Act.put, List.setIfInBounds_toArray, List.set_cons_zero, List.set_cons_succ]
        refine wpAnyH_take (i := 19) (oi := ⟨some 62, _, _, _, _, _⟩) (v := undef) rfl (by kernel_rfl) (by kernel_rfl) (by kernel_rfl) (fun _ _ _ h => h) (Or.inr ⟨by rfl, rfl⟩) (by assumption) ?_
        try simp only [Act.put, List.setIfInBounds_toArray, List.set_cons_zero, List.set_cons_succ]
        refine wpAnyH_take (i := 20) (oi := ⟨some 63, _, _, _, _, _⟩) (v := ?v40) rfl (by kernel_rfl) (by kernel_rfl) (by kernel_rfl) (fun _ _ _ h => h) (Or.inl ⟨by rfl, ?hy40⟩) (by assumption) ?rest40
        case hy40 => (intro w hSw; (try dsimp only at hSw); (go_simp <;> (with_reducible rfl)))
        try simp only [Act.put, List.setIfInBounds_toArray, List.set_cons_zero, List.set_cons_succ]
        refine wpAnyH_take (i := 21) (oi := ⟨some 64, _, _, _, _, _⟩) (v := ?v41) rfl (by kernel_rfl) (by kernel_rfl) (by kernel_rfl) (fun _ _ _ h => h) (Or.inl ⟨by rfl, ?hy41⟩) (by assumption) ?rest41
        case hy41 => (intro w hSw; (try dsimp only at hSw); (go_simp <;> (with_reducible rfl)))
        try simp only [Act.put, List.setIfInBounds_toArray, List.set_cons_zero, List.set_cons_succ]
        refine wpAnyH_take (i := 22) (oi := ⟨some 65, _, _, _, _, _⟩) (v := undef) rfl (by kernel_rfl) (by kernel_rfl) (by kernel_rfl) (fun _ _ _ h => h) (Or.inr ⟨by rfl, rfl⟩) (by assumption) ?_
        try simp only [Act.put, List.setIfInBounds_toArray, List.set_cons_zero, List.set_cons_succ]
        refine wpAnyH_take (i := 23) (oi := ⟨some 66, _, _, _, _, _⟩) (v := undef) rfl (by kernel_rfl) (by kernel_rfl) (by kernel_rfl) (fun _ _ _ h => h) (Or.inr ⟨by rfl, rfl⟩) (by assumption) ?_
        try simp only [Act.put, List.setIfInBounds_toArray, List.set_cons_zero, List.set_cons_succ]
        refine wpAnyH_take (i := 24) (oi := ⟨some 67, _, _, _, _, _⟩) (v := undef) rfl (by kernel_rfl) (by kernel_rfl) (by kernel_rfl) (fun _ _ _ h => h) (Or.inr ⟨by rfl, rfl⟩) (by assumption) ?_
        try simp only [Act.put, List.setIfInBounds_toArray, List.set_cons_zero, List.set_cons_succ]
        refine wpAnyH_take (i := 25) (oi := ⟨some 68, _, _, _, _, _⟩) (v := ?v42) rfl (by kernel_rfl) (by kernel_rfl) (by kernel_rfl) (fun _ _ _ h => h) (Or.inl ⟨by rfl, ?hy42⟩) (by assumption) ?rest42
        case hy42 => (intro w hSw; (try dsimp only at hSw); (go_simp <;> (with_reducible rfl)))
        try simp only [Act.put, List.setIfInBounds_toArray, List.set_cons_zero, List.set_cons_succ]
        refine wpAnyH_take (i := 26) (oi := ⟨some 69, _, _, _, _, _⟩) (v := ?v43) rfl (by kernel_rfl) (by kernel_rfl) (by kernel_rfl) (fun _ _ _ h => h) (Or.inl ⟨by rfl, ?hy43⟩) (by assumption) ?rest43
        case hy43 => (intro w hSw; (try dsimp only at hSw); (go_simp <;> (with_reducible rfl)))
        try simp only [Act.put, List.setIfInBounds_toArray, List.set_cons_zero, List.set_cons_succ]
        refine wpAnyH_take (i := 27) (oi := ⟨some 70, _, _, _, _, _⟩) (v := undef) rfl (by kernel_rfl) (by kernel_rfl) (by kernel_rfl) (fun _ _ _ h => h) (Or.inr ⟨by rfl, rfl⟩) (by assumption) ?_
        try simp only [Act.put, List.setIfInBounds_toArray, List.set_cons_zero, List.set_cons_succ]
        refine wpAnyH_take (i := 28) (oi := ⟨some 71, _, _, _, _, _⟩) (v := undef) rfl (by kernel_rfl) (by kernel_rfl) (by kernel_rfl) (fun _ _ _ h => h) (Or.inr ⟨by rfl, rfl⟩) (by assumption) ?_
        try simp only [Act.put, List.setIfInBounds_toArray, List.set_cons_zero, List.set_cons_succ]
        refine wpAnyH_take (i := 29) (oi := ⟨some 72, _, _, _, _, _⟩) (v := undef) rfl (by kernel_rfl) (by kernel_rfl) (by kernel_rfl) (fun _ _ _ h => h) (Or.inr ⟨by rfl, rfl⟩) (by assumption) ?_
        try simp only [Act.put, List.setIfInBounds_toArray, List.set_cons_zero, List.set_cons_succ]
        refine wpAnyH_take (i := 30) (oi := ⟨some 73, _, _, _, _, _⟩) (v := ?v44) rfl (by kernel_rfl) (by kernel_rfl) (by kernel_rfl) (fun _ _ _ h => h) (Or.inl ⟨by rfl, ?hy44⟩) (by assumption) ?rest44
        case hy44 => (intro w hSw; (try dsimp only at hSw); (go_simp <;> (with_reducible rfl)))
        try simp only [Act.put, List.setIfInBounds_toArray, List.set_cons_zero, List.set_cons_succ]
        refine wpAnyH_take (i := 31) (oi := ⟨some 74, _, _, _, _, _⟩) (v := ?v45) rfl (by kernel_rfl) (by kernel_rfl) (by kernel_rfl) (fun _ _ _ h => h) (Or.inl ⟨by rfl, ?hy45⟩) (by assumption) ?rest45
        case hy45 => (intro w hSw; (try dsimp only at hSw); (go_simp <;> (with_reducible rfl)))
        try simp only [Act.put, List.setIfInBounds_toArray, List.set_cons_zero, List.set_cons_succ]
        refine wpAnyH_take (i := 32) (oi := ⟨some 75, _, _, _, _, _⟩) (v := undef) rfl (by kernel_rfl) (by kernel_rfl) (by kernel_rfl) (fun _ _ _ h => h) (Or.inr ⟨by rfl, rfl⟩) (by assumption) ?_
        try simp only [Act.put, List.setIfInBounds_toArray, List.set_cons_zero, List.set_cons_succ]
        refine wpAnyH_take (i := 33) (oi := ⟨some 76, _, _, _, _, _⟩) (v := undef) rfl (by kernel_rfl) (by kernel_rfl) (by kernel_rfl) (fun _ _ _ h => h) (Or.inr ⟨by rfl, rfl⟩) (by assumption) ?_
        try simp only [Act.put, List.setIfInBounds_toArray, List.set_cons_zero, List.set_cons_succ]
        refine wpAnyH_take (i := 34) (oi := ⟨some 77, _, _, _, _, _⟩) (v := undef) rfl (by kernel_rfl) (by kernel_rfl) (by kernel_rfl) (fun _ _ _ h => h) (Or.inr ⟨by rfl, rfl⟩) (by assumption) ?_
        try simp only [Act.put, List.setIfInBounds_toArray, List.set_cons_zero, List.set_cons_succ]
        refine wpAnyH_take (i := 35) (oi := ⟨some 78, _, _, _, _, _⟩) (v := ?v46) rfl (by kernel_rfl) (by kernel_rfl) (by kernel_rfl) (fun _ _ _ h => h) (Or.inl ⟨by rfl, ?hy46⟩) (by assumption) ?rest46
        case hy46 => (intro w hSw; (try dsimp only at hSw); (go_simp <;> (with_reducible rfl)))
        try simp only [Act.put, List.setIfInBounds_toArray, List.set_cons_zero, List.set_cons_succ]
        refine wpAnyH_done (by kernel_rfl) ?_ _
        obtain ⟨S1, y0, y1, y2, y3, y4⟩ := S0
        have BS := Lib.hid S1
        clear S1
        go_wp2_with fail
        go_ret
        exact ⟨rfl, Lib.hid (BW.out.trans (BS.out.mono BW.out.size))⟩
      have t1 : (lb != (nb : Int)) = false := by simpa using h1
      have g1 := h1
      clear h1
      by_cases h1 : fa < 0
      · have t2 : decide (fa < 0) = true := decide_eq_true h1
        obtain rfl : r = 2 := by rw [← hr, if_pos (by omega)]
        clear hr h1
        go_wp2_with fail
        clear y4
        refine wp_region_held_drew (S := (fun w' => Below wr.heap.size wr w' ∧ w'.cell? ⟨w.heap.size, 0, none⟩ = some (.int .i64 fa) ∧ w'.cell? ⟨w.heap.size, 1, none⟩ = some (.int .i64 la) ∧ w'.cell? ⟨w.heap.size, 2, none⟩ = some (.int .i64 fb) ∧ w'.cell? ⟨w.heap.size, 3, none⟩ = some (.int .i64 lb) ∧ w'.cell? ⟨w.heap.size, 4, none⟩ = some (.slice a j cap))) (by kernel_rfl) ?_ (fun hHeld => ?_)
        · exact S0
        refine wpAnyH_take (i := 0) (oi := ⟨some 43, _, _, _, _, _⟩) (v := ?v47) rfl (by kernel_rfl) (by kernel_rfl) (by kernel_rfl) (fun _ _ _ h => h) (Or.inl ⟨by rfl, ?hy47⟩) (by assumption) ?rest47
        case hy47 => (intro w hSw; (try dsimp only at hSw); (go_simp <;> (with_reducible rfl)))
        try simp only [Act.put, List.setIfInBounds_toArray, List.set_cons_zero, List.set_cons_succ]
        refine wpAnyH_take (i := 1) (oi := ⟨some 44, _, _, _, _, _⟩) (v := ?v48) rfl (by kernel_rfl) (by kernel_rfl) (by kernel_rfl) (fun _ _ _ h => h) (Or.inl ⟨by rfl, ?hy48⟩) (by assumption) ?rest48
        case hy48 => (intro w hSw; (try dsimp only at hSw); (go_simp <;> (with_reducible rfl)))
        try simp only [Act.put, List.setIfInBounds_toArray, List.set_cons_zero, List.set_cons_succ]
        refine wpAnyH_take (i := 2) (oi := ⟨some 45, _, _, _, _, _⟩) (v := ?v49) rfl (by kernel_rfl) (by kernel_rfl) (by kernel_rfl) (fun _ _ _ h => h) (Or.inl ⟨by rfl, ?hy49⟩) (by assumption) ?rest49
        case hy49 => (intro w hSw; (try dsimp only at hSw); (go_simp <;> (with_reducible rfl)))
        try simp only [Act.put, List.setIfInBounds_toArray, List.set_cons_zero, List.set_cons_succ]
        refine wpAnyH_take (i := 3) (oi := ⟨some 46, _, _, _, _, _⟩) (v := ?v50) rfl (by kernel_rfl) (by kernel_rfl) (by kernel_rfl) (fun _ _ _ h => h) (Or.inl ⟨by rfl, ?hy50⟩) (by assumption) ?rest50
        case hy50 => (intro w hSw; (try dsimp only at hSw); (go_simp <;> (with_reducible rfl)))
        try simp only [Act.put, List.setIfInBounds_toArray, List.set_cons_zero, List.set_cons_succ]
        refine wpAnyH_ready (rs := [4]) (by kernel_rfl) (by simp) ?_
        refine AllReadyH.cons (o := ⟨some 47, _, _, _, _, _⟩) rfl (fun K hK => ?_) AllReadyH.nil
        go_simp
        (first | (go_at_call 33; (first | ((with_reducible refine (SA2.out _ S0.1).mono ?_); rintro _ w5 ⟨v5, rfl, O5, B5⟩; obtain ⟨a5, k5, e5⟩ := O5.out.sl; rw [List.length_map, NA.out] at e5; subst e5; have S0 := CE.out _ (S0.1.trans (B5.out.mono S0.1.size))) | ((with_reducible refine (SB2.out _ S0.1).mono ?_); rintro _ w5 ⟨v5, rfl, O5, B5⟩; obtain ⟨a5, k5, e5⟩ := O5.out.sl; rw [List.length_map, NB.out] at e5; subst e5; have S0 := CE.out _ (S0.1.trans (B5.out.mono S0.1.size))))))
        refine hK.out _ _ ?_ (fun hHeld => ?_)
        · exact S0
        clear hK K
        try simp only [Act.put, List.setIfInBounds_toArray, List.set_cons_zero, List.set_cons_succ]
        refine wpAnyH_take (i := 5) (oi := ⟨some 48, _, _, _, _, _⟩) (v := ?v51) rfl (by kernel_rfl) (by kernel_rfl) (by kernel_rfl) (fun _ _ _ h => h) (Or.inl ⟨by rfl, ?hy51⟩) (by assumption) ?rest51
        case hy51 => (intro w hSw; (try dsimp only at hSw); (go_simp <;> (with_reducible rfl)))
        try simp only [Act.put, List.setIfInBounds_toArray, List.set_cons_zero, List.set_cons_succ]
        refine wpAnyH_take (i := 6) (oi := ⟨some 49, _, _, _, _, _⟩) (v := ?v52) rfl (by kernel_rfl) (by kernel_rfl) (by kernel_rfl) (fun _ _ _ h => h) (Or.inl ⟨by rfl, ?hy52⟩) (by assumption) ?rest52
        case hy52 => (intro w hSw; (try dsimp only at hSw); (go_simp <;> (with_reducible rfl)))
        try simp only [Act.put, List.setIfInBounds_toArray, List.set_cons_zero, List.set_cons_succ]
        refine wpAnyH_take (i := 7) (oi := ⟨some 50, _, _, _, _, _⟩) (v := ?v53) rfl (by kernel_rfl) (by kernel_rfl) (by kernel_rfl) (fun _ _ _ h => h) (Or.inl ⟨by rfl, ?hy53⟩) (by assumption) ?rest53
        case hy53 => (intro w hSw; (try dsimp only at hSw); (go_simp <;> (with_reducible rfl)))
        try simp only [Act.put, List.setIfInBounds_toArray, List.set_cons_zero, List.set_cons_succ]
        refine wpAnyH_take (i := 8) (oi := ⟨some 51, _, _, _, _, _⟩) (v := ?v54) rfl (by kernel_rfl) (by kernel_rfl) (by kernel_rfl) (fun _ _ _ h => h) (Or.inl ⟨by rfl, ?hy54⟩) (by assumption) ?rest54
        case hy54 => (intro w hSw; (try dsimp only at hSw); (go_simp <;> (with_reducible rfl)))
        try simp only [Act.put, List.setIfInBounds_toArray, List.set_cons_zero, List.set_cons_succ]
        refine wpAnyH_take (i := 9) (oi := ⟨some 52, _, _, _, _, _⟩) (v := ?v55) rfl (by kernel_rfl) (by kernel_rfl) (by kernel_rfl) (fun _ _ _ h => h) (Or.inl ⟨by rfl, ?hy55⟩) (by assumption) ?rest55
        case hy55 => (intro w hSw; (try dsimp only at hSw); (go_simp <;> (with_reducible rfl)))
        try simp only [Act.put, List.setIfInBounds_toArray, List.set_cons_zero, List.set_cons_succ]
        refine wpAnyH_take (i := 10) (oi := ⟨some 53, _, _, _, _, _⟩) (v := ?v56) rfl (by kernel_rfl) (by kernel_rfl) (by kernel_rfl) (fun _ _ _ h => h) (Or.inl ⟨by rfl, ?hy56⟩) (by assumption) ?rest56
        case hy56 => (intro w hSw; (try dsimp only at hSw); (go_simp <;> (with_reducible rfl)))
        try simp only [Act.put, List.setIfInBounds_toArray, List.set_cons_zero, List.set_cons_succ]
        refine wpAnyH_take (i := 11) (oi := ⟨some 54, _, _, _, _, _⟩) (v := ?v57) rfl (by kernel_rfl) (by kernel_rfl) (by kernel_rfl) (fun _ _ _ h => h) (Or.inl ⟨by rfl, ?hy57⟩) (by assumption) ?rest57
        case hy57 => (intro w hSw; (try dsimp only at hSw); (go_simp <;> (with_reducible rfl)))
        try simp only [Act.put, List.setIfInBounds_toArray, List.set_cons_zero, List.set_cons_succ]
        refine wpAnyH_ready (rs := [12]) (by kernel_rfl) (by simp) ?_
        refine AllReadyH.cons (o := ⟨some 55, _, _, _, _, _⟩) rfl (fun K hK => ?_) AllReadyH.nil
        go_simp
        (first | (go_at_call 33; (first | ((with_reducible refine (SA2.out _ S0.1).mono ?_); rintro _ w5 ⟨v5, rfl, O5, B5⟩; obtain ⟨a5, k5, e5⟩ := O5.out.sl; rw [List.length_map, NA.out] at e5; subst e5; have S0 := CE.out _ (S0.1.trans (B5.out.mono S0.1.size))) | ((with_reducible refine (SB2.out _ S0.1).mono ?_); rintro _ w5 ⟨v5, rfl, O5, B5⟩; obtain ⟨a5, k5, e5⟩ := O5.out.sl; rw [List.length_map, NB.out] at e5; subst e5; have S0 := CE.out _ (S0.1.trans (B5.out.mono S0.1.size))))))
        refine hK.out _ _ ?_ (fun hHeld => ?_)
        · exact S0
        clear hK K
        try simp only [Act.put, List.setIfInBounds_toArray, List.set_cons_zero, List.set_cons_succ]
        refine wpAnyH_take (i := 13) (oi := ⟨some 56, _, _, _, _, _⟩) (v := ?v58) rfl (by kernel_rfl) (by kernel_rfl) (by kernel_rfl) (fun _ _ _ h => h) (Or.inl ⟨by rfl, ?hy58⟩) (by assumption) ?rest58
        case hy58 => (intro w hSw; (try dsimp only at hSw); (go_simp <;> (with_reducible rfl)))
        try simp only [Act.put, List.setIfInBounds_toArray, List.set_cons_zero, List.set_cons_succ]
        refine wpAnyH_take (i := 14) (oi := ⟨some 57, _, _, _, _, _⟩) (v := ?v59) rfl (by kernel_rfl) (by kernel_rfl) (by kernel_rfl) (fun _ _ _ h => h) (Or.inl ⟨by rfl, ?hy59⟩) (by assumption) ?rest59
        case hy59 => (intro w hSw; (try dsimp only at hSw); (go_simp <;> (with_reducible rfl)))
        try simp only [Act.put, List.setIfInBounds_toArray, List.set_cons_zero, List.set_cons_succ]
        refine wpAnyH_take (i := 15) (oi := ⟨some 58, _, _, _, _, _⟩) (v := ?v60) rfl (by kernel_rfl) (by kernel_rfl) (by kernel_rfl) (fun _ _ _ h => h) (Or.inl ⟨by rfl, ?hy60⟩) (by assumption) ?rest60
        case hy60 => (intro w hSw; (try dsimp only at hSw); (go_simp <;> (with_reducible rfl)))
        try simp only [Act.put, List.setIfInBounds_toArray, List.set_cons_zero, List.set_cons_succ]
        refine wpAnyH_take (i := 16) (oi := ⟨some 59, _, _, _, _, _⟩) (v := ?v61) rfl (by kernel_rfl) (by kernel_rfl) (by kernel_rfl) (fun _ _ _ h => h) (Or.inl ⟨by rfl, ?hy61⟩) (by assumption) ?rest61
        case hy61 => (intro w hSw; (try dsimp only at hSw); (go_simp <;> (with_reducible rfl)))
        try simp only [Act.put, List.setIfInBounds_toArray, List.set_cons_zero, List.set_cons_succ]
        refine wpAnyH_take (i := 17) (oi := ⟨some 60, _, _, _, _, _⟩) (v := ?v62) rfl (by kernel_rfl) (by kernel_rfl) (by kernel_rfl) (fun _ _ _ h => h) (Or.inl ⟨by rfl, ?hy62⟩) (by assumption) ?rest62
        case hy62 => (intro w hSw; (try dsimp only at hSw); (go_simp <;> (with_reducible rfl)))
        try simp only [Act.put, List.setIfInBounds_toArray, List.set_cons_zero, List.set_cons_succ]
        refine wpAnyH_take (i := 18) (oi := ⟨some 61, _, _, _, _, _⟩) (v := ?v63) rfl (by kernel_rfl) (by kernel_rfl) (by kernel_rfl) (fun _ _ _ h => h) (Or.inl ⟨by rfl, ?hy63⟩) (by assumption) ?rest63
        case hy63 => (intro w hSw; (try dsimp only at hSw); (go_simp <;> (with_reducible rfl)))
        try simp only [Act.put, List.setIfInBounds_toArray, List.set_cons_zero, List.set_cons_succ]
        refine wpAnyH_take (i := 19) (oi := ⟨some 62, _, _, _, _, _⟩) (v := ?v64) rfl (by kernel_rfl) (by kernel_rfl) (by kernel_rfl) (fun _ _ _ h => h) (Or.inl ⟨by rfl, ?hy64⟩) (by assumption) ?rest64
        case hy64 => (intro w hSw; (try dsimp only at hSw); (go_simp <;> (with_reducible rfl)))
        try simp only [Act.put, List.setIfInBounds_toArray, List.set_cons_zero, List.set_cons_succ]
        refine wpAnyH_take (i := 20) (oi := ⟨some 63, _, _, _, _, _⟩) (v := ?v65) rfl (by kernel_rfl) (by kernel_rfl) (by kernel_rfl) (fun _ _ _ h => h) (Or.inl ⟨by rfl, ?hy65⟩) (by assumption) ?rest65
        case hy65 => (intro w hSw; (try dsimp only at hSw); (go_simp <;> (with_reducible rfl)))
        try simp only [Act.put, List.setIfInBounds_toArray, List.set_cons_zero, List.set_cons_succ]
        refine wpAnyH_take (i := 21) (oi := ⟨some 64, _, _, _, _, _⟩) (v := ?v66) rfl (by kernel_rfl) (by kernel_rfl) (by kernel_rfl) (fun _ _ _ h => h) (Or.inl ⟨by rfl, ?hy66⟩) (by assumption) ?rest66
        case hy66 => (intro w hSw; (try dsimp only at hSw); (go_simp <;> (with_reducible rfl)))
        try simp only [Act.put, List.setIfInBounds_toArray, List.set_cons_zero, List.set_cons_succ]
        refine wpAnyH_take (i := 22) (oi := ⟨some 65, _, _, _, _, _⟩) (v := undef) rfl (by kernel_rfl) (by kernel_rfl) (by kernel_rfl) (fun _ _ _ h => h) (Or.inr ⟨by rfl, rfl⟩) (by assumption) ?_
        try simp only [Act.put, List.setIfInBounds_toArray, List.set_cons_zero, List.set_cons_succ]
        refine wpAnyH_take (i := 23) (oi := ⟨some 66, _, _, _, _, _⟩) (v := undef) rfl (by kernel_rfl) (by kernel_rfl) (by kernel_rfl) (fun _ _ _ h => h) (Or.inr ⟨by rfl, rfl⟩) (by assumption) ?_
        try simp only [Act.put, List.setIfInBounds_toArray, List.set_cons_zero, List.set_cons_succ]
        refine wpAnyH_take (i := 24) (oi := ⟨some 67, _, _, _, _, _⟩) (v := undef) rfl (by kernel_rfl) (by kernel_rfl) (by kernel_rfl) (fun _ _ _ h => h) (Or.inr ⟨by rfl, rfl⟩) (by assumption) ?_
        try simp only [Act.put, List.setIfInBounds_toArray, List.set_cons_zero, List.set_cons_succ]
        refine wpAnyH_take (i := 25) (oi := ⟨some 68, _, _, _, _, _⟩) (v := ?v67) rfl (by kernel_rfl) (by kernel_rfl) (by kernel_rfl) (fun _ _ _ h => h) (Or.inl ⟨by rfl, ?hy67⟩) (by assumption) ?rest67
        case hy67 => (intro w hSw; (try dsimp only at hSw); (go_simp <;> (with_reducible rfl)))
        try simp only [Act.put, List.setIfInBounds_toArray, List.set_cons_zero, List.set_cons_succ]
        refine wpAnyH_take (i := 26) (oi := ⟨some 69, _, _, _, _, _⟩) (v := ?v68) rfl (by kernel_rfl) (by kernel_rfl) (by kernel_rfl) (fun _ _ _ h => h) (Or.inl ⟨by rfl, ?hy68⟩) (by assumption) ?rest68
        case hy68 => (intro w hSw; (try dsimp only at hSw); (go_simp <;> (with_reducible rfl)))
        try simp only [Act.put, List.setIfInBounds_toArray, List.set_cons_zero, List.set_cons_succ]
        refine wpAnyH_take (i := 27) (oi := ⟨some 70, _, _, _, _, _⟩) (v := undef) rfl (by kernel_rfl) (by kernel_rfl) (by kernel_rfl) (fun _ _ _ h => h) (Or.inr ⟨by rfl, rfl⟩) (by assumption) ?_
        try simp only [Act.put, List.setIfInBounds_toArray, List.set_cons_zero, List.set_cons_succ]
        refine wpAnyH_take (i := 28) (oi := ⟨some 71, _, _, _, _, _⟩) (v := undef) rfl (by kernel_rfl) (by kernel_rfl) (by kernel_rfl) (fun _ _ _ h => h) (Or.inr ⟨by rfl, rfl⟩) (by assumption) ?_
        try simp only [Act.put, List.setIfInBounds_toArray, List.set_cons_zero, List.set_cons_succ]
        refine wpAnyH_take (i := 29) (oi := ⟨some 72, _, _, _, _, _⟩) (v := undef) rfl (by kernel_rfl) (by kernel_rfl) (by kernel_rfl) (fun _ _ _ h => h) (Or.inr ⟨by rfl, rfl⟩) (by assumption) ?_
        try simp only [Act.put, List.setIfInBounds_toArray, List.set_cons_zero, List.set_cons_succ]
        refine wpAnyH_take (i := 30) (oi := ⟨some 73, _, _, _, _, _⟩) (v := ?v69) rfl (by kernel_rfl) (by kernel_rfl) (by kernel_rfl) (fun _ _ _ h => h) (Or.inl ⟨by rfl, ?hy69⟩) (by assumption) ?rest69
        case hy69 => (intro w hSw; (try dsimp only at hSw); (go_simp <;> (with_reducible rfl)))
        try simp only [Act.put, List.setIfInBounds_toArray, List.set_cons_zero, List.set_cons_succ]
        refine wpAnyH_take (i := 31) (oi := ⟨some 74, _, _, _, _, _⟩) (v := ?v70) rfl (by kernel_rfl) (by kernel_rfl) (by kernel_rfl) (fun _ _ _ h => h) (Or.inl ⟨by rfl, ?hy70⟩) (by assumption) ?rest70
        case hy70 => (intro w hSw; (try dsimp only at hSw); (go_simp <;> (with_reducible rfl)))
        try simp only [Act.put, List.setIfInBounds_toArray, List.set_cons_zero, List.set_cons_succ]
        refine wpAnyH_take (i := 32) (oi := ⟨some 75, _, _, _, _, _⟩) (v := undef) rfl (by kernel_rfl) (by kernel_rfl) (by kernel_rfl) (fun _ _ _ h => h) (Or.inr ⟨by rfl, rfl⟩) (by assumption) ?_
        try simp only [Act.put, List.setIfInBounds_toArray, List.set_cons_zero, List.set_cons_succ]
        refine wpAnyH_take (i := 33) (oi := ⟨some 76, _, _, _, _, _⟩) (v := undef) rfl (by kernel_rfl) (by kernel_rfl) (by kernel_rfl) (fun _ _ _ h => h) (Or.inr ⟨by rfl, rfl⟩) (by assumption) ?_
        try simp only [Act.put, List.setIfInBounds_toArray, List.set_cons_zero, List.set_cons_succ]
        refine wpAnyH_take (i := 34) (oi := ⟨some 77, _, _, _, _, _⟩) (v := undef) rfl (by kernel_rfl) (by kernel_rfl) (by kernel_rfl) (fun _ _ _ h => h) (Or.inr ⟨by rfl, rfl⟩) (by assumption) ?_
        try simp only [Act.put, List.setIfInBounds_toArray, List.set_cons_zero, List.set_cons_succ]
        refine wpAnyH_take (i := 35) (oi := ⟨some 78, _, _, _, _, _⟩) (v := ?v71) rfl (by kernel_rfl) (by kernel_rfl) (by kernel_rfl) (fun _ _ _ h => h) (Or.inl ⟨by rfl, ?hy71⟩) (by assumption) ?rest71
        case hy71 => (intro w hSw; (try dsimp only at hSw); (go_simp <;> (with_reducible rfl)))
        try simp only [Act.put, List.setIfInBounds_toArray, List.set_cons_zero, List.set_cons_succ]
        refine wpAnyH_done (by kernel_rfl) ?_ _
        obtain ⟨S1, y0, y1, y2, y3, y4⟩ := S0
        have BS := Lib.hid S1
        clear S1
        go_wp2_with fail
        go_ret
        exact ⟨rfl, Lib.hid (BW.out.trans (BS.out.mono BW.out.size))⟩
      have t2 : decide (fa < 0) = false := decide_eq_false h1
      have g2 := h1
      clear h1
      by_cases h1 : fb < 0
      · have t3 : decide (fb < 0) = true := decide_eq_true h1
        obtain rfl : r = 2 := by rw [← hr, if_pos (by omega)]
        clear hr h1
        go_wp2_with fail
        clear y4
        refine wp_region_held_drew (S := (fun w' => Below wr.heap.size wr w' ∧ w'.cell? ⟨w.heap.size, 0, none⟩ = some (.int .i64 fa) ∧ w'.cell? ⟨w.heap.size, 1, none⟩ = some (.int .i64 la) ∧ w'.cell? ⟨w.heap.size, 2, none⟩ = some (.int .i64 fb) ∧ w'.cell? ⟨w.heap.size, 3, none⟩ = some (.int .i64 lb) ∧ w'.cell? ⟨w.heap.size, 4, none⟩ = some (.slice a j cap))) (by kernel_rfl) ?_ (fun hHeld => ?_)
        · exact S0
        refine wpAnyH_take (i := 0) (oi := ⟨some 43, _, _, _, _, _⟩) (v := ?v72) rfl (by kernel_rfl) (by kernel_rfl) (by kernel_rfl) (fun _ _ _ h => h) (Or.inl ⟨by rfl, ?hy72⟩) (by assumption) ?rest72
        case hy72 => (intro w hSw; (try dsimp only at hSw); (go_simp <;> (with_reducible rfl)))
        try simp only [Act.put, List.setIfInBounds_toArray, List.set_cons_zero, List.set_cons_succ]
        refine wpAnyH_take (i := 1) (oi := ⟨some 44, _, _, _, _, _⟩) (v := ?v73) rfl (by kernel_rfl) (by kernel_rfl) (by kernel_rfl) (fun _ _ _ h => h) (Or.inl ⟨by rfl, ?hy73⟩) (by assumption) ?rest73
        case hy73 => (intro w hSw; (try dsimp only at hSw); (go_simp <;> (with_reducible rfl)))
        try simp only [Act.put, List.setIfInBounds_toArray, List.set_cons_zero, List.set_cons_succ]
        refine wpAnyH_take (i := 2) (oi := ⟨some 45, _, _, _, _, _⟩) (v := ?v74) rfl (by kernel_rfl) (by kernel_rfl) (by kernel_rfl) (fun _ _ _ h => h) (Or.inl ⟨by rfl, ?hy74⟩) (by assumption) ?rest74
        case hy74 => (intro w hSw; (try dsimp only at hSw); (go_simp <;> (with_reducible rfl)))
        try simp only [Act.put, List.setIfInBounds_toArray, List.set_cons_zero, List.set_cons_succ]
        refine wpAnyH_take (i := 3) (oi := ⟨some 46, _, _, _, _, _⟩) (v := ?v75) rfl (by kernel_rfl) (by kernel_rfl) (by kernel_rfl) (fun _ _ _ h => h) (Or.inl ⟨by rfl, ?hy75⟩) (by assumption) ?rest75
        case hy75 => (intro w hSw; (try dsimp only at hSw); (go_simp <;> (with_reducible rfl)))
        try simp only [Act.put, List.setIfInBounds_toArray, List.set_cons_zero, List.set_cons_succ]
        refine wpAnyH_ready (rs := [4]) (by kernel_rfl) (by simp) ?_
        refine AllReadyH.cons (o := ⟨some 47, _, _, _, _, _⟩) rfl (fun K hK => ?_) AllReadyH.nil
        go_simp
        (first | (go_at_call 33; (first | ((with_reducible refine (SA2.out _ S0.1).mono ?_); rintro _ w5 ⟨v5, rfl, O5, B5⟩; obtain ⟨a5, k5, e5⟩ := O5.out.sl; rw [List.length_map, NA.out] at e5; subst e5; have S0 := CE.out _ (S0.1.trans (B5.out.mono S0.1.size))) | ((with_reducible refine (SB2.out _ S0.1).mono ?_); rintro _ w5 ⟨v5, rfl, O5, B5⟩; obtain ⟨a5, k5, e5⟩ := O5.out.sl; rw [List.length_map, NB.out] at e5; subst e5; have S0 := CE.out _ (S0.1.trans (B5.out.mono S0.1.size))))))
        refine hK.out _ _ ?_ (fun hHeld => ?_)
        · exact S0
        clear hK K
        try simp only [Act.put, List.setIfInBounds_toArray, List.set_cons_zero, List.set_cons_succ]
        refine wpAnyH_take (i := 5) (oi := ⟨some 48, _, _, _, _, _⟩) (v := ?v76) rfl (by kernel_rfl) (by kernel_rfl) (by kernel_rfl) (fun _ _ _ h => h) (Or.inl ⟨by rfl, ?hy76⟩) (by assumption) ?rest76
        case hy76 => (intro w hSw; (try dsimp only at hSw); (go_simp <;> (with_reducible rfl)))
        try simp only [Act.put, List.setIfInBounds_toArray, List.set_cons_zero, List.set_cons_succ]
        refine wpAnyH_take (i := 6) (oi := ⟨some 49, _, _, _, _, _⟩) (v := ?v77) rfl (by kernel_rfl) (by kernel_rfl) (by kernel_rfl) (fun _ _ _ h => h) (Or.inl ⟨by rfl, ?hy77⟩) (by assumption) ?rest77
        case hy77 => (intro w hSw; (try dsimp only at hSw); (go_simp <;> (with_reducible rfl)))
        try simp only [Act.put, List.setIfInBounds_toArray, List.set_cons_zero, List.set_cons_succ]
        refine wpAnyH_take (i := 7) (oi := ⟨some 50, _, _, _, _, _⟩) (v := ?v78) rfl (by kernel_rfl) (by kernel_rfl) (by kernel_rfl) (fun _ _ _ h => h) (Or.inl ⟨by rfl, ?hy78⟩) (by assumption) ?rest78
        case hy78 => (intro w hSw; (try dsimp only at hSw); (go_simp <;> (with_reducible rfl)))
        try simp only [Act.put, List.setIfInBounds_toArray, List.set_cons_zero, List.set_cons_succ]
        refine wpAnyH_take (i := 8) (oi := ⟨some 51, _, _, _, _, _⟩) (v := ?v79) rfl (by kernel_rfl) (by kernel_rfl) (by kernel_rfl) (fun _ _ _ h => h) (Or.inl ⟨by rfl, ?hy79⟩) (by assumption) ?rest79
        case hy79 => (intro w hSw; (try dsimp only at hSw); (go_simp <;> (with_reducible rfl)))
        try simp only [Act.put, List.setIfInBounds_toArray, List.set_cons_zero, List.set_cons_succ]
        refine wpAnyH_take (i := 9) (oi := ⟨some 52, _, _, _, _, _⟩) (v := ?v80) rfl (by kernel_rfl) (by kernel_rfl) (by kernel_rfl) (fun _ _ _ h => h) (Or.inl ⟨by rfl, ?hy80⟩) (by assumption) ?rest80
        case hy80 => (intro w hSw; (try dsimp only at hSw); (go_simp <;> (with_reducible rfl)))
        try simp only [Act.put, List.setIfInBounds_toArray, List.set_cons_zero, List.set_cons_succ]
        refine wpAnyH_take (i := 10) (oi := ⟨some 53, _, _, _, _, _⟩) (v := ?v81) rfl (by kernel_rfl) (by kernel_rfl) (by kernel_rfl) (fun _ _ _ h => h) (Or.inl ⟨by rfl, ?hy81⟩) (by assumption) ?rest81
        case hy81 => (intro w hSw; (try dsimp only at hSw); (go_simp <;> (with_reducible rfl)))
        try simp only [Act.put, List.setIfInBounds_toArray, List.set_cons_zero, List.set_cons_succ]
        refine wpAnyH_take (i := 11) (oi := ⟨some 54, _, _, _, _, _⟩) (v := ?v82) rfl (by kernel_rfl) (by kernel_rfl) (by kernel_rfl) (fun _ _ _ h => h) (Or.inl ⟨by rfl, ?hy82⟩) (by assumption) ?rest82
        case hy82 => (intro w hSw; (try dsimp only at hSw); (go_simp <;> (with_reducible rfl)))
        try simp only [Act.put, List.setIfInBounds_toArray, List.set_cons_zero, List.set_cons_succ]
        refine wpAnyH_ready (rs := [12]) (by kernel_rfl) (by simp) ?_
        refine AllReadyH.cons (o := ⟨some 55, _, _, _, _, _⟩) rfl (fun K hK => ?_) AllReadyH.nil
        go_simp
        (first | (go_at_call 33; (first | ((with_reducible refine (SA2.out _ S0.1).mono ?_); rintro _ w5 ⟨v5, rfl, O5, B5⟩; obtain ⟨a5, k5, e5⟩ := O5.out.sl; rw [List.length_map, NA.out] at e5; subst e5; have S0 := CE.out _ (S0.1.trans (B5.out.mono S0.1.size))) | ((with_reducible refine (SB2.out _ S0.1).mono ?_); rintro _ w5 ⟨v5, rfl, O5, B5⟩; obtain ⟨a5, k5, e5⟩ := O5.out.sl; rw [List.length_map, NB.out] at e5; subst e5; have S0 := CE.out _ (S0.1.trans (B5.out.mono S0.1.size))))))
        refine hK.out _ _ ?_ (fun hHeld => ?_)
        · exact S0
        clear hK K
        try simp only [Act.put, List.setIfInBounds_toArray, List.set_cons_zero, List.set_cons_succ]
        refine wpAnyH_take (i := 13) (oi := ⟨some 56, _, _, _, _, _⟩) (v := ?v83) rfl (by kernel_rfl) (by kernel_rfl) (by kernel_rfl) (fun _ _ _ h => h) (Or.inl ⟨by rfl, ?hy83⟩) (by assumption) ?rest83
        case hy83 => (intro w hSw; (try dsimp only at hSw); (go_simp <;> (with_reducible rfl)))
        try simp only [Act.put, List.setIfInBounds_toArray, List.set_cons_zero, List.set_cons_succ]
        refine wpAnyH_take (i := 14) (oi := ⟨some 57, _, _, _, _, _⟩) (v := ?v84) rfl (by kernel_rfl) (by kernel_rfl) (by kernel_rfl) (fun _ _ _ h => h) (Or.inl ⟨by rfl, ?hy84⟩) (by assumption) ?rest84
        case hy84 => (intro w hSw; (try dsimp only at hSw); (go_simp <;> (with_reducible rfl)))
        try simp only [Act.put, List.setIfInBounds_toArray, List.set_cons_zero, List.set_cons_succ]
        refine wpAnyH_take (i := 15) (oi := ⟨some 58, _, _, _, _, _⟩) (v := ?v85) rfl (by kernel_rfl) (by kernel_rfl) (by kernel_rfl) (fun _ _ _ h => h) (Or.inl ⟨by rfl, ?hy85⟩) (by assumption) ?rest85
        case hy85 => (intro w hSw; (try dsimp only at hSw); (go_simp <;> (with_reducible rfl)))
        try simp only [Act.put, List.setIfInBounds_toArray, List.set_cons_zero, List.set_cons_succ]
        refine wpAnyH_take (i := 16) (oi := ⟨some 59, _, _, _, _, _⟩) (v := ?v86) rfl (by kernel_rfl) (by kernel_rfl) (by kernel_rfl) (fun _ _ _ h => h) (Or.inl ⟨by rfl, ?hy86⟩) (by assumption) ?rest86
        case hy86 => (intro w hSw; (try dsimp only at hSw); (go_simp <;> (with_reducible rfl)))
        try simp only [Act.put, List.setIfInBounds_toArray, List.set_cons_zero, List.set_cons_succ]
        refine wpAnyH_take (i := 17) (oi := ⟨some 60, _, _, _, _, _⟩) (v := ?v87) rfl (by kernel_rfl) (by kernel_rfl) (by kernel_rfl) (fun _ _ _ h => h) (Or.inl ⟨by rfl, ?hy87⟩) (by assumption) ?rest87
        case hy87 => (intro w hSw; (try dsimp only at hSw); (go_simp <;> (with_reducible rfl)))
        try simp only [Act.put, List.setIfInBounds_toArray, List.set_cons_zero, List.set_cons_succ]
        refine wpAnyH_take (i := 18) (oi := ⟨some 61, _, _, _, _, _⟩) (v := ?v88) rfl (by kernel_rfl) (by kernel_rfl) (by kernel_rfl) (fun _ _ _ h => h) (Or.inl ⟨by rfl, ?hy88⟩) (by assumption) ?rest88
        case hy88 => (intro w hSw; (try dsimp only at hSw); (go_simp <;> (with_reducible rfl)))
        try simp only [Act.put, List.setIfInBounds_toArray, List.set_cons_zero, List.set_cons_succ]
        refine wpAnyH_take (i := 19) (oi := ⟨some 62, _, _, _, _, _⟩) (v := ?v89) rfl (by kernel_rfl) (by kernel_rfl) (by kernel_rfl) (fun _ _ _ h => h) (Or.inl ⟨by rfl, ?hy89⟩) (by assumption) ?rest89
        case hy89 => (intro w hSw; (try dsimp only at hSw); (go_simp <;> (with_reducible rfl)))
        try simp only [Act.put, List.setIfInBounds_toArray, List.set_cons_zero, List.set_cons_succ]
        refine wpAnyH_take (i := 20) (oi := ⟨some 63, _, _, _, _, _⟩) (v := ?v90) rfl (by kernel_rfl) (by kernel_rfl) (by kernel_rfl) (fun _ _ _ h => h) (Or.inl ⟨by rfl, ?hy90⟩) (by assumption) ?rest90
        case hy90 => (intro w hSw; (try dsimp only at hSw); (go_simp <;> (with_reducible rfl)))
        try simp only [Act.put, List.setIfInBounds_toArray, List.set_cons_zero, List.set_cons_succ]
        refine wpAnyH_take (i := 21) (oi := ⟨some 64, _, _, _, _, _⟩) (v := ?v91) rfl (by kernel_rfl) (by kernel_rfl) (by kernel_rfl) (fun _ _ _ h => h) (Or.inl ⟨by rfl, ?hy91⟩) (by assumption) ?rest91
        case hy91 => (intro w hSw; (try dsimp only at hSw); (go_simp <;> (with_reducible rfl)))
        try simp only [Act.put, List.setIfInBounds_toArray, List.set_cons_zero, List.set_cons_succ]
        refine wpAnyH_take (i := 22) (oi := ⟨some 65, _, _, _, _, _⟩) (v := ?v92) rfl (by kernel_rfl) (by kernel_rfl) (by kernel_rfl) (fun _ _ _ h => h) (Or.inl ⟨by rfl, ?hy92⟩) (by assumption) ?rest92
        case hy92 => (intro w hSw; (try dsimp only at hSw); (go_simp <;> (with_reducible rfl)))
        try simp only [Act.put, List.setIfInBounds_toArray, List.set_cons_zero, List.set_cons_succ]
        refine wpAnyH_take (i := 23) (oi := ⟨some 66, _, _, _, _, _⟩) (v := ?v93) rfl (by kernel_rfl) (by kernel_rfl) (by kernel_rfl) (fun _ _ _ h => h) (Or.inl ⟨by rfl, ?hy93⟩) (by assumption) ?rest93
        case hy93 => (intro w hSw; (try dsimp only at hSw); (go_simp <;> (with_reducible rfl)))
        try simp only [Act.put, List.setIfInBounds_toArray, List.set_cons_zero, List.set_cons_succ]
        refine wpAnyH_take (i := 24) (oi := ⟨some 67, _, _, _, _, _⟩) (v := ?v94) rfl (by kernel_rfl) (by kernel_rfl) (by kernel_rfl) (fun _ _ _ h => h) (Or.inl ⟨by rfl, ?hy94⟩) (by assumption) ?rest94
        case hy94 => (intro w hSw; (try dsimp only at hSw); (go_simp <;> (with_reducible rfl)))
        try simp only [Act.put, List.setIfInBounds_toArray, List.set_cons_zero, List.set_cons_succ]
        refine wpAnyH_take (i := 25) (oi := ⟨some 68, _, _, _, _, _⟩) (v := ?v95) rfl (by kernel_rfl) (by kernel_rfl) (by kernel_rfl) (fun _ _ _ h => h) (Or.inl ⟨by rfl, ?hy95⟩) (by assumption) ?rest95
        case hy95 => (intro w hSw; (try dsimp only at hSw); (go_simp <;> (with_reducible rfl)))
        try simp only [Act.put, List.setIfInBounds_toArray, List.set_cons_zero, List.set_cons_succ]
        refine wpAnyH_take (i := 26) (oi := ⟨some 69, _, _, _, _, _⟩) (v := ?v96) rfl (by kernel_rfl) (by kernel_rfl) (by kernel_rfl) (fun _ _ _ h => h) (Or.inl ⟨by rfl, ?hy96⟩) (by assumption) ?rest96
        case hy96 => (intro w hSw; (try dsimp only at hSw); (go_simp <;> (with_reducible rfl)))
        try simp only [Act.put, List.setIfInBounds_toArray, List.set_cons_zero, List.set_cons_succ]
        refine wpAnyH_take (i := 27) (oi := ⟨some 70, _, _, _, _, _⟩) (v := undef) rfl (by kernel_rfl) (by kernel_rfl) (by kernel_rfl) (fun _ _ _ h => h) (Or.inr ⟨by rfl, rfl⟩) (by assumption) ?_
        try simp only [Act.put, List.setIfInBounds_toArray, List.set_cons_zero, List.set_cons_succ]
        refine wpAnyH_take (i := 28) (oi := ⟨some 71, _, _, _, _, _⟩) (v := undef) rfl (by kernel_rfl) (by kernel_rfl) (by kernel_rfl) (fun _ _ _ h => h) (Or.inr ⟨by rfl, rfl⟩) (by assumption) ?_
        try simp only [Act.put, List.setIfInBounds_toArray, List.set_cons_zero, List.set_cons_succ]
        refine wpAnyH_take (i := 29) (oi := ⟨some 72, _, _, _, _, _⟩) (v := undef) rfl (by kernel_rfl) (by kernel_rfl) (by kernel_rfl) (fun _ _ _ h => h) (Or.inr ⟨by rfl, rfl⟩) (by assumption) ?_
        try simp only [Act.put, List.setIfInBounds_toArray, List.set_cons_zero, List.set_cons_succ]
        refine wpAnyH_take (i := 30) (oi := ⟨some 73, _, _, _, _, _⟩) (v := ?v97) rfl (by kernel_rfl) (by kernel_rfl) (by kernel_rfl) (fun _ _ _ h => h) (Or.inl ⟨by rfl, ?hy97⟩) (by assumption) ?rest97
        case hy97 => (intro w hSw; (try dsimp only at hSw); (go_simp <;> (with_reducible rfl)))
        try simp only [Act.put, List.setIfInBounds_toArray, List.set_cons_zero, List.set_cons_succ]
        refine wpAnyH_take (i := 31) (oi := ⟨some 74, _, _, _, _, _⟩) (v := ?v98) rfl (by kernel_rfl) (by kernel_rfl) (by kernel_rfl) (fun _ _ _ h => h) (Or.inl ⟨by rfl, ?hy98⟩) (by assumption) ?rest98
        case hy98 => (intro w hSw; (try dsimp only at hSw); (go_simp <;> (with_reducible rfl)))
        try simp only [Act.put, List.setIfInBounds_toArray, List.set_cons_zero, List.set_cons_succ]
        refine wpAnyH_take (i := 32) (oi := ⟨some 75, _, _, _, _, _⟩) (v := undef) rfl (by kernel_rfl) (by kernel_rfl) (by kernel_rfl) (fun _ _ _ h => h) (Or.inr ⟨by rfl, rfl⟩) (by assumption) ?_
        try simp only [Act.put, List.setIfInBounds_toArray, List.set_cons_zero, List.set_cons_succ]
        refine wpAnyH_take (i := 33) (oi := ⟨some 76, _, _, _, _, _⟩) (v := undef) rfl (by kernel_rfl) (by kernel_rfl) (by kernel_rfl) (fun _ _ _ h => h) (Or.inr ⟨by rfl, rfl⟩) (by assumption) ?_
        try simp only [Act.put, List.setIfInBounds_toArray, List.set_cons_zero, List.set_cons_succ]
        refine wpAnyH_take (i := 34) (oi := ⟨some 77, _, _, _, _, _⟩) (v := undef) rfl (by kernel_rfl) (by kernel_rfl) (by kernel_rfl) (fun _ _ _ h => h) (Or.inr ⟨by rfl, rfl⟩) (by assumption) ?_
        try simp only [Act.put, List.setIfInBounds_toArray, List.set_cons_zero, List.set_cons_succ]
        refine wpAnyH_take (i := 35) (oi := ⟨some 78, _, _, _, _, _⟩) (v := ?v99) rfl (by kernel_rfl) (by kernel_rfl) (by kernel_rfl) (fun _ _ _ h => h) (Or.inl ⟨by rfl, ?hy99⟩) (by assumption) ?rest99
        case hy99 => (intro w hSw; (try dsimp only at hSw); (go_simp <;> (with_reducible rfl)))
        try simp only [Act.put, List.setIfInBounds_toArray, List.set_cons_zero, List.set_cons_succ]
        refine wpAnyH_done (by kernel_rfl) ?_ _
        obtain ⟨S1, y0, y1, y2, y3, y4⟩ := S0
        have BS := Lib.hid S1
        clear S1
        go_wp2_with fail
        go_ret
        exact ⟨rfl, Lib.hid (BW.out.trans (BS.out.mono BW.out.size))⟩
      have t3 : decide (fb < 0) = false := decide_eq_false h1
      have g3 := h1
      clear h1
      by_cases h1 : 2147483648 ≤ fa
      · have t4 : decide (2147483648 ≤ fa) = true := decide_eq_true h1
        obtain rfl : r = 2 := by rw [← hr, if_pos (by omega)]
        clear hr h1
        go_wp2_with fail
        clear y4
        refine wp_region_held_drew (S := (fun w' => Below wr.heap.size wr w' ∧ w'.cell? ⟨w.heap.size, 0, none⟩ = some (.int .i64 fa) ∧ w'.cell? ⟨w.heap.size, 1, none⟩ = some (.int .i64 la) ∧ w'.cell? ⟨w.heap.size, 2, none⟩ = some (.int .i64 fb) ∧ w'.cell? ⟨w.heap.size, 3, none⟩ = some (.int .i64 lb) ∧ w'.cell? ⟨w.heap.size, 4, none⟩ = some (.slice a j cap))) (by kernel_rfl) ?_ (fun hHeld => ?_)
        · exact S0
        refine wpAnyH_take (i := 0) (oi := ⟨some 43, _, _, _, _, _⟩) (v := ?v100) rfl (by kernel_rfl) (by kernel_rfl) (by kernel_rfl) (fun _ _ _ h => h) (Or.inl ⟨by rfl, ?hy100⟩) (by assumption) ?rest100
        case hy100 => (intro w hSw; (try dsimp only at hSw); (go_simp <;> (with_reducible rfl)))
        try simp only [Act.put, List.setIfInBounds_toArray, List.set_cons_zero, List.set_cons_succ]
        refine wpAnyH_take (i := 1) (oi := ⟨some 44, _, _, _, _, _⟩) (v := ?v101) rfl (by kernel_rfl) (by kernel_rfl) (by kernel_rfl) (fun _ _ _ h => h) (Or.inl ⟨by rfl, ?hy101⟩) (by assumption) ?rest101
        case hy101 => (intro w hSw; (try dsimp only at hSw); (go_simp <;> (with_reducible rfl)))
        try simp only [Act.put, List.setIfInBounds_toArray, List.set_cons_zero, List.set_cons_succ]
        refine wpAnyH_take (i := 2) (oi := ⟨some 45, _, _, _, _, _⟩) (v := ?v102) rfl (by kernel_rfl) (by kernel_rfl) (by kernel_rfl) (fun _ _ _ h => h) (Or.inl ⟨by rfl, ?hy102⟩) (by assumption) ?rest102
        case hy102 => (intro w hSw; (try dsimp only at hSw); (go_simp <;> (with_reducible rfl)))
        try simp only [Act.put, List.setIfInBounds_toArray, List.set_cons_zero, List.set_cons_succ]
        refine wpAnyH_take (i := 3) (oi := ⟨some 46, _, _, _, _, _⟩) (v := ?v103) rfl (by kernel_rfl) (by kernel_rfl) (by kernel_rfl) (fun _ _ _ h => h) (Or.inl ⟨by rfl, ?hy103⟩) (by assumption) ?rest103
        case hy103 => (intro w hSw; (try dsimp only at hSw); (go_simp <;> (with_reducible rfl)))
        try simp only [Act.put, List.setIfInBounds_toArray, List.set_cons_zero, List.set_cons_succ]
        refine wpAnyH_ready (rs := [4]) (by kernel_rfl) (by simp) ?_
        refine AllReadyH.cons (o := ⟨some 47, _, _, _, _, _⟩) rfl (fun K hK => ?_) AllReadyH.nil
        go_simp
        (first | (go_at_call 33; (first | ((with_reducible refine (SA2.out _ S0.1).mono ?_); rintro _ w5 ⟨v5, rfl, O5, B5⟩; obtain ⟨a5, k5, e5⟩ := O5.out.sl; rw [List.length_map, NA.out] at e5; subst e5; have S0 := CE.out _ (S0.1.trans (B5.out.mono S0.1.size))) | ((with_reducible refine (SB2.out _ S0.1).mono ?_); rintro _ w5 ⟨v5, rfl, O5, B5⟩; obtain ⟨a5, k5, e5⟩ := O5.out.sl; rw [List.length_map, NB.out] at e5; subst e5; have S0 := CE.out _ (S0.1.trans (B5.out.mono S0.1.size))))))
        refine hK.out _ _ ?_ (fun hHeld => ?_)
        · exact S0
        clear hK K
        try simp only [Act.put, List.setIfInBounds_toArray, List.set_cons_zero, List.set_cons_succ]
        refine wpAnyH_take (i := 5) (oi := ⟨some 48, _, _, _, _, _⟩) (v := ?v104) rfl (by kernel_rfl) (by kernel_rfl) (by kernel_rfl) (fun _ _ _ h => h) (Or.inl ⟨by rfl, ?hy104⟩) (by assumption) ?rest104
        case hy104 => (intro w hSw; (try dsimp only at hSw); (go_simp <;> (with_reducible rfl)))
        try simp only [Act.put, List.setIfInBounds_toArray, List.set_cons_zero, List.set_cons_succ]
        refine wpAnyH_take (i := 6) (oi := ⟨some 49, _, _, _, _, _⟩) (v := ?v105) rfl (by kernel_rfl) (by kernel_rfl) (by kernel_rfl) (fun _ _ _ h => h) (Or.inl ⟨by rfl, ?hy105⟩) (by assumption) ?rest105
        case hy105 => (intro w hSw; (try dsimp only at hSw); (go_simp <;> (with_reducible rfl)))
        try simp only [Act.put, List.setIfInBounds_toArray, List.set_cons_zero, List.set_cons_succ]
        refine wpAnyH_take (i := 7) (oi := ⟨some 50, _, _, _, _, _⟩) (v := ?v106) rfl (by kernel_rfl) (by kernel_rfl) (by kernel_rfl) (fun _ _ _ h => h) (Or.inl ⟨by rfl, ?hy106⟩) (by assumption) ?rest106
        case hy106 => (intro w hSw; (try dsimp only at hSw); (go_simp <;> (with_reducible rfl)))
        try simp only [Act.put, List.setIfInBounds_toArray, List.set_cons_zero, List.set_cons_succ]
        refine wpAnyH_take (i := 8) (oi := ⟨some 51, _, _, _, _, _⟩) (v := ?v107) rfl (by kernel_rfl) (by kernel_rfl) (by kernel_rfl) (fun _ _ _ h => h) (Or.inl ⟨by rfl, ?hy107⟩) (by assumption) ?rest107
        case hy107 => (intro w hSw; (try dsimp only at hSw); (go_simp <;> (with_reducible rfl)))
        try simp only [Act.put, List.setIfInBounds_toArray, List.set_cons_zero, List.set_cons_succ]
        refine wpAnyH_take (i := 9) (oi := ⟨some 52, _, _, _, _, _⟩) (v := ?v108) rfl (by kernel_rfl) (by kernel_rfl) (by kernel_rfl) (fun _ _ _ h => h) (Or.inl ⟨by rfl, ?hy108⟩) (by assumption) ?rest108
        case hy108 => (intro w hSw; (try dsimp only at hSw); (go_simp <;> (with_reducible rfl)))
        try simp only [Act.put, List.setIfInBounds_toArray, List.set_cons_zero, List.set_cons_succ]
        refine wpAnyH_take (i := 10) (oi := ⟨some 53, _, _, _, _, _⟩) (v := ?v109) rfl (by kernel_rfl) (by kernel_rfl) (by kernel_rfl) (fun _ _ _ h => h) (Or.inl ⟨by rfl, ?hy109⟩) (by assumption) ?rest109
        case hy109 => (intro w hSw; (try dsimp only at hSw); (go_simp <;> (with_reducible rfl)))
        try simp only [Act.put, List.setIfInBounds_toArray, List.set_cons_zero, List.set_cons_succ]
        refine wpAnyH_take (i := 11) (oi := ⟨some 54, _, _, _, _, _⟩) (v := ?v110) rfl (by kernel_rfl) (by kernel_rfl) (by kernel_rfl) (fun _ _ _ h => h) (Or.inl ⟨by rfl, ?hy110⟩) (by assumption) ?rest110
        case hy110 => (intro w hSw; (try dsimp only at hSw); (go_simp <;> (with_reducible rfl)))
        try simp only [Act.put, List.setIfInBounds_toArray, List.set_cons_zero, List.set_cons_succ]
        refine wpAnyH_ready (rs := [12]) (by kernel_rfl) (by simp) ?_
        refine AllReadyH.cons (o := ⟨some 55, _, _, _, _, _⟩) rfl (fun K hK => ?_) AllReadyH.nil
        go_simp
        (first | (go_at_call 33; (first | ((with_reducible refine (SA2.out _ S0.1).mono ?_); rintro _ w5 ⟨v5, rfl, O5, B5⟩; obtain ⟨a5, k5, e5⟩ := O5.out.sl; rw [List.length_map, NA.out] at e5; subst e5; have S0 := CE.out _ (S0.1.trans (B5.out.mono S0.1.size))) | ((with_reducible refine (SB2.out _ S0.1).mono ?_); rintro _ w5 ⟨v5, rfl, O5, B5⟩; obtain ⟨a5, k5, e5⟩ := O5.out.sl; rw [List.length_map, NB.out] at e5; subst e5; have S0 := CE.out _ (S0.1.trans (B5.out.mono S0.1.size))))))
        refine hK.out _ _ ?_ (fun hHeld => ?_)
        · exact S0
        clear hK K
        try simp only [Act.put, List.setIfInBounds_toArray, List.set_cons_zero, List.set_cons_succ]
        refine wpAnyH_take (i := 13) (oi := ⟨some 56, _, _, _, _, _⟩) (v := ?v111) rfl (by kernel_rfl) (by kernel_rfl) (by kernel_rfl) (fun _ _ _ h => h) (Or.inl ⟨by rfl, ?hy111⟩) (by assumption) ?rest111
        case hy111 => (intro w hSw; (try dsimp only at hSw); (go_simp <;> (with_reducible rfl)))
        try simp only [Act.put, List.setIfInBounds_toArray, List.set_cons_zero, List.set_cons_succ]
        refine wpAnyH_take (i := 14) (oi := ⟨some 57, _, _, _, _, _⟩) (v := ?v112) rfl (by kernel_rfl) (by kernel_rfl) (by kernel_rfl) (fun _ _ _ h => h) (Or.inl ⟨by rfl, ?hy112⟩) (by assumption) ?rest112
        case hy112 => (intro w hSw; (try dsimp only at hSw); (go_simp <;> (with_reducible rfl)))
        try simp only [Act.put, List.setIfInBounds_toArray, List.set_cons_zero, List.set_cons_succ]
        refine wpAnyH_take (i := 15) (oi := ⟨some 58, _, _, _, _, _⟩) (v := ?v113) rfl (by kernel_rfl) (by kernel_rfl) (by kernel_rfl) (fun _ _ _ h => h) (Or.inl ⟨by rfl, ?hy113⟩) (by assumption) ?rest113
        case hy113 => (intro w hSw; (try dsimp only at hSw); (go_simp <;> (with_reducible rfl)))
        try simp only [Act.put, List.setIfInBounds_toArray, List.set_cons_zero, List.set_cons_succ]
        refine wpAnyH_take (i := 16) (oi := ⟨some 59, _, _, _, _, _⟩) (v := ?v114) rfl (by kernel_rfl) (by kernel_rfl) (by kernel_rfl) (fun _ _ _ h => h) (Or.inl ⟨by rfl, ?hy114⟩) (by assumption) ?rest114
        case hy114 => (intro w hSw; (try dsimp only at hSw); (go_simp <;> (with_reducible rfl)))
        try simp only [Act.put, List.setIfInBounds_toArray, List.set_cons_zero, List.set_cons_succ]
        refine wpAnyH_take (i := 17) (oi := ⟨some 60, _, _, _, _, _⟩) (v := ?v115) rfl (by kernel_rfl) (by kernel_rfl) (by kernel_rfl) (fun _ _ _ h => h) (Or.inl ⟨by rfl, ?hy115⟩) (by assumption) ?rest115
        case hy115 => (intro w hSw; (try dsimp only at hSw); (go_simp <;> (with_reducible rfl)))
        try simp only [Act.put, List.setIfInBounds_toArray, List.set_cons_zero, List.set_cons_succ]
        refine wpAnyH_take (i := 18) (oi := ⟨some 61, _, _, _, _, _⟩) (v := ?v116) rfl (by kernel_rfl) (by kernel_rfl) (by kernel_rfl) (fun _ _ _ h => h) (Or.inl ⟨by rfl, ?hy116⟩) (by assumption) ?rest116
        case hy116 => (intro w hSw; (try dsimp only at hSw); (go_simp <;> (with_reducible rfl)))
        try simp only [Act.put, List.setIfInBounds_toArray, List.set_cons_zero, List.set_cons_succ]
        refine wpAnyH_take (i := 19) (oi := ⟨some 62, _, _, _, _, _⟩) (v := ?v117) rfl (by kernel_rfl) (by kernel_rfl) (by kernel_rfl) (fun _ _ _ h => h) (Or.inl ⟨by rfl, ?hy117⟩) (by assumption) ?rest117
        case hy117 => (intro w hSw; (try dsimp only at hSw); (go_simp <;> (with_reducible rfl)))
        try simp only [Act.put, List.setIfInBounds_toArray, List.set_cons_zero, List.set_cons_succ]
        refine wpAnyH_take (i := 20) (oi := ⟨some 63, _, _, _, _, _⟩) (v := ?v118) rfl (by kernel_rfl) (by kernel_rfl) (by kernel_rfl) (fun _ _ _ h => h) (Or.inl ⟨by rfl, ?hy118⟩) (by assumption) ?rest118
        case hy118 => (intro w hSw; (try dsimp only at hSw); (go_simp <;> (with_reducible rfl)))
        try simp only [Act.put, List.setIfInBounds_toArray, List.set_cons_zero, List.set_cons_succ]
        refine wpAnyH_take (i := 21) (oi := ⟨some 64, _, _, _, _, _⟩) (v := ?v119) rfl (by kernel_rfl) (by kernel_rfl) (by kernel_rfl) (fun _ _ _ h => h) (Or.inl ⟨by rfl, ?hy119⟩) (by assumption) ?rest119
        case hy119 => (intro w hSw; (try dsimp only at hSw); (go_simp <;> (with_reducible rfl)))
        try simp only [Act.put, List.setIfInBounds_toArray, List.set_cons_zero, List.set_cons_succ]
        refine wpAnyH_take (i := 22) (oi := ⟨some 65, _, _, _, _, _⟩) (v := ?v120) rfl (by kernel_rfl) (by kernel_rfl) (by kernel_rfl) (fun _ _ _ h => h) (Or.inl ⟨by rfl, ?hy120⟩) (by assumption) ?rest120
        case hy120 => (intro w hSw; (try dsimp only at hSw); (go_simp <;> (with_reducible rfl)))
        try simp only [Act.put, List.setIfInBounds_toArray, List.set_cons_zero, List.set_cons_succ]
        refine wpAnyH_take (i := 23) (oi := ⟨some 66, _, _, _, _, _⟩) (v := ?v121) rfl (by kernel_rfl) (by kernel_rfl) (by kernel_rfl) (fun _ _ _ h => h) (Or.inl ⟨by rfl, ?hy121⟩) (by assumption) ?rest121
        case hy121 => (intro w hSw; (try dsimp only at hSw); (go_simp <;> (with_reducible rfl)))
        try simp only [Act.put, List.setIfInBounds_toArray, List.set_cons_zero, List.set_cons_succ]
        refine wpAnyH_take (i := 24) (oi := ⟨some 67, _, _, _, _, _⟩) (v := ?v122) rfl (by kernel_rfl) (by kernel_rfl) (by kernel_rfl) (fun _ _ _ h => h) (Or.inl ⟨by rfl, ?hy122⟩) (by assumption) ?rest122
        case hy122 => (intro w hSw; (try dsimp only at hSw); (go_simp <;> (with_reducible rfl)))
        try simp only [Act.put, List.setIfInBounds_toArray, List.set_cons_zero, List.set_cons_succ]
        refine wpAnyH_take (i := 25) (oi := ⟨some 68, _, _, _, _, _⟩) (v := ?v123) rfl (by kernel_rfl) (by kernel_rfl) (by kernel_rfl) (fun _ _ _ h => h) (Or.inl ⟨by rfl, ?hy123⟩) (by assumption) ?rest123
        case hy123 => (intro w hSw; (try dsimp only at hSw); (go_simp <;> (with_reducible rfl)))
        try simp only [Act.put, List.setIfInBounds_toArray, List.set_cons_zero, List.set_cons_succ]
        refine wpAnyH_take (i := 26) (oi := ⟨some 69, _, _, _, _, _⟩) (v := ?v124) rfl (by kernel_rfl) (by kernel_rfl) (by kernel_rfl) (fun _ _ _ h => h) (Or.inl ⟨by rfl, ?hy124⟩) (by assumption) ?rest124
        case hy124 => (intro w hSw; (try dsimp only at hSw); (go_simp <;> (with_reducible rfl)))
        try simp only [Act.put, List.setIfInBounds_toArray, List.set_cons_zero, List.set_cons_succ]
        refine wpAnyH_take (i := 27) (oi := ⟨some 70, _, _, _, _, _⟩) (v := ?v125) rfl (by kernel_rfl) (by kernel_rfl) (by kernel_rfl) (fun _ _ _ h => h) (Or.inl ⟨by rfl, ?hy125⟩) (by assumption) ?rest125
        case hy125 => (intro w hSw; (try dsimp only at hSw); (go_simp <;> (with_reducible rfl)))
        try simp only [Act.put, List.setIfInBounds_toArray, List.set_cons_zero, List.set_cons_succ]
        refine wpAnyH_take (i := 28) (oi := ⟨some 71, _, _, _, _, _⟩) (v := ?v126) rfl (by kernel_rfl) (by kernel_rfl) (by kernel_rfl) (fun _ _ _ h => h) (Or.inl ⟨by rfl, ?hy126⟩) (by assumption) ?rest126
        case hy126 => (intro w hSw; (try dsimp only at hSw); (go_simp <;> (with_reducible rfl)))
        try simp only [Act.put, List.setIfInBounds_toArray, List.set_cons_zero, List.set_cons_succ]
        refine wpAnyH_take (i := 29) (oi := ⟨some 72, _, _, _, _, _⟩) (v := ?v127) rfl (by kernel_rfl) (by kernel_rfl) (by kernel_rfl) (fun _ _ _ h => h) (Or.inl ⟨by rfl, ?hy127⟩) (by assumption) ?rest127
        case hy127 => (intro w hSw; (try dsimp only at hSw); (go_simp <;> (with_reducible rfl)))
        try simp only [Act.put, List.setIfInBounds_toArray, List.set_cons_zero, List.set_cons_succ]
        refine wpAnyH_take (i := 30) (oi := ⟨some 73, _, _, _, _, _⟩) (v := ?v128) rfl (by kernel_rfl) (by kernel_rfl) (by kernel_rfl) (fun _ _ _ h => h) (Or.inl ⟨by rfl, ?hy128⟩) (by assumption) ?rest128
        case hy128 => (intro w hSw; (try dsimp only at hSw); (go_simp <;> (with_reducible rfl)))
        try simp only [Act.put, List.setIfInBounds_toArray, List.set_cons_zero, List.set_cons_succ]
        refine wpAnyH_take (i := 31) (oi := ⟨some 74, _, _, _, _, _⟩) (v := ?v129) rfl (by kernel_rfl) (by kernel_rfl) (by kernel_rfl) (fun _ _ _ h => h) (Or.inl ⟨by rfl, ?hy129⟩) (by assumption) ?rest129
        case hy129 => (intro w hSw; (try dsimp only at hSw); (go_simp <;> (with_reducible rfl)))
        try simp only [Act.put, List.setIfInBounds_toArray, List.set_cons_zero, List.set_cons_succ]
        refine wpAnyH_take (i := 32) (oi := ⟨some 75, _, _, _, _, _⟩) (v := undef) rfl (by kernel_rfl) (by kernel_rfl) (by kernel_rfl) (fun _ _ _ h => h) (Or.inr ⟨by rfl, rfl⟩) (by assumption) ?_
        try simp only [Act.put, List.setIfInBounds_toArray, List.set_cons_zero, List.set_cons_succ]
        refine wpAnyH_take (i := 33) (oi := ⟨some 76, _, _, _, _, _⟩) (v := undef) rfl (by kernel_rfl) (by kernel_rfl) (by kernel_rfl) (fun _ _ _ h => h) (Or.inr ⟨by rfl, rfl⟩) (by assumption) ?_
        try simp only [Act.put, List.setIfInBounds_toArray, List.set_cons_zero, List.set_cons_succ]
        refine wpAnyH_take (i := 34) (oi := ⟨some 77, _, _, _, _, _⟩) (v := undef) rfl (by kernel_rfl) (by kernel_rfl) (by kernel_rfl) (fun _ _ _ h => h) (Or.inr ⟨by rfl, rfl⟩) (by assumption) ?_
        try simp only [Act.put, List.setIfInBounds_toArray, List.set_cons_zero, List.set_cons_succ]
        refine wpAnyH_take (i := 35) (oi := ⟨some 78, _, _, _, _, _⟩) (v := ?v130) rfl (by kernel_rfl) (by kernel_rfl) (by kernel_rfl) (fun _ _ _ h => h) (Or.inl ⟨by rfl, ?hy130⟩) (by assumption) ?rest130
        case hy130 => (intro w hSw; (try dsimp only at hSw); (go_simp <;> (with_reducible rfl)))
        try simp only [Act.put, List.setIfInBounds_toArray, List.set_cons_zero, List.set_cons_succ]
        refine wpAnyH_done (by kernel_rfl) ?_ _
        obtain ⟨S1, y0, y1, y2, y3, y4⟩ := S0
        have BS := Lib.hid S1
        clear S1
        go_wp2_with fail
        go_ret
        exact ⟨rfl, Lib.hid (BW.out.trans (BS.out.mono BW.out.size))⟩
      have t4 : decide (2147483648 ≤ fa) = false := decide_eq_false h1
      have g4 := h1
      clear h1
      by_cases h1 : 2147483648 ≤ fb
      · have t5 : decide (2147483648 ≤ fb) = true := decide_eq_true h1
        obtain rfl : r = 2 := by rw [← hr, if_pos (by omega)]
        clear hr h1
        go_wp2_with fail
        clear y4
        go_region_held3 (fun w' => Below wr.heap.size wr w' ∧ w'.cell? ⟨w.heap.size, 0, none⟩ = some (.int .i64 fa) ∧ w'.cell? ⟨w.heap.size, 1, none⟩ = some (.int .i64 la) ∧ w'.cell? ⟨w.heap.size, 2, none⟩ = some (.int .i64 fb) ∧ w'.cell? ⟨w.heap.size, 3, none⟩ = some (.int .i64 lb) ∧ w'.cell? ⟨w.heap.size, 4, none⟩ = some (.slice a j cap)) (first | exact S0)
          (first | (go_at_call 33; (first | ((with_reducible refine (SA2.out _ S0.1).mono ?_); rintro _ w5 ⟨v5, rfl, O5, B5⟩; obtain ⟨a5, k5, e5⟩ := O5.out.sl; rw [List.length_map, NA.out] at e5; subst e5; have S0 := CE.out _ (S0.1.trans (B5.out.mono S0.1.size))) | ((with_reducible refine (SB2.out _ S0.1).mono ?_); rintro _ w5 ⟨v5, rfl, O5, B5⟩; obtain ⟨a5, k5, e5⟩ := O5.out.sl; rw [List.length_map, NB.out] at e5; subst e5; have S0 := CE.out _ (S0.1.trans (B5.out.mono S0.1.size))))))
        obtain ⟨S1, y0, y1, y2, y3, y4⟩ := S0
        have BS := Lib.hid S1
        clear S1
        go_wp2_with fail
        go_ret
        exact ⟨rfl, Lib.hid (BW.out.trans (BS.out.mono BW.out.size))⟩
      have t5 : decide (2147483648 ≤ fb) = false := decide_eq_false h1
      have g5 := h1
      clear h1
      obtain rfl : r = 0 := by rw [← hr, if_neg (by omega)]
      clear hr
      go_wp2_with fail
      clear y4
      go_region_held3 (fun w' => Below wr.heap.size wr w' ∧ w'.cell? ⟨w.heap.size, 0, none⟩ = some (.int .i64 fa) ∧ w'.cell? ⟨w.heap.size, 1, none⟩ = some (.int .i64 la) ∧ w'.cell? ⟨w.heap.size, 2, none⟩ = some (.int .i64 fb) ∧ w'.cell? ⟨w.heap.size, 3, none⟩ = some (.int .i64 lb) ∧ w'.cell? ⟨w.heap.size, 4, none⟩ = some (.slice a j cap)) (first | exact S0)
        (first | (go_at_call 33; (first | ((with_reducible refine (SA2.out _ S0.1).mono ?_); rintro _ w5 ⟨v5, rfl, O5, B5⟩; obtain ⟨a5, k5, e5⟩ := O5.out.sl; rw [List.length_map, NA.out] at e5; subst e5; have S0 := CE.out _ (S0.1.trans (B5.out.mono S0.1.size))) | ((with_reducible refine (SB2.out _ S0.1).mono ?_); rintro _ w5 ⟨v5, rfl, O5, B5⟩; obtain ⟨a5, k5, e5⟩ := O5.out.sl; rw [List.length_map, NB.out] at e5; subst e5; have S0 := CE.out _ (S0.1.trans (B5.out.mono S0.1.size))))))
      obtain ⟨S1, y0, y1, y2, y3, y4⟩ := S0
      have BS := Lib.hid S1
      clear S1
      go_wp2_with fail
      go_ret
      exact ⟨rfl, Lib.hid (BW.out.trans (BS.out.mono BW.out.size))⟩
end Go.Proofs.YtnkpigibjicmaaaDoor
