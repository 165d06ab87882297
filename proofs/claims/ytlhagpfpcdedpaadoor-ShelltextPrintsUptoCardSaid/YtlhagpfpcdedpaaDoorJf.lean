/- walks: the reference's Check (written by gen_jf.py) -/
import Derived.Test.YtlhagpfpcdedpaaDoorJc
namespace Go.Proofs.YtlhagpfpcdedpaaDoor
open Go.RowKit
open Shp
set_option maxRecDepth 100000 in
set_option maxHeartbeats 8000000 in
theorem rchkP_any (x : Pl) (pa : Option Addr) (nc ca : Nat) (no : Bool) (cn : Int) (f : Bool) (w : World) (HC : Hid (x.conn = cn ∧ x.cmds.length = nc)) (DC : Hid (RowsD CmD 4 w (.slice pa nc ca) x.cmds)) {r : Int} (hr : Hid (chkP f x = r)) :
    Calls Tryd.prog 42 #[.agg #[.slice pa nc ca, .bool no, .int .i64 cn], .bool f] w fun e w' => e = .returned (.int .i64 r) ∧ Hid (Below w.heap.size w w') := by
  have NL : nc ≤ 9223372036854775807 := by
    obtain ⟨a', c', e, h1, h2⟩ := DC.out.slice
    rw [HC.out.2] at h1
    unfold maxLen at h2; omega
  have B0 := Lib.hid ((Below.refl w.heap.size w).alloc (Nat.le_refl _) (.cells #[.slice pa nc ca, .bool no, .int .i64 cn] 34))
  have HBX := Lib.hid (heap_alloc_new w (.cells #[.slice pa nc ca, .bool no, .int .i64 cn] 34))
  have bx0 := blk_cell HBX.out 0
  have bx2 := blk_cell HBX.out 2
  simp only [List.getElem?_toArray, List.getElem?_cons_zero, List.getElem?_cons_succ] at bx0 bx2
  by_cases h1 : cn < 1
  · obtain rfl : r = 7 := by rw [← hr.out]; unfold chkP; rw [HC.out.1, if_pos (.inl h1)]
    go_enter Tryd.func42, Tryd.ntmps42
    go_wp2_with (fail)
    repeat (go_region; go_wp2_with (fail))
    go_ret
    exact ⟨rfl, B0⟩
  by_cases h3 : 3 < cn
  · obtain rfl : r = 7 := by rw [← hr.out]; unfold chkP; rw [HC.out.1, if_pos (.inr (.inl h3))]
    go_enter Tryd.func42, Tryd.ntmps42
    go_wp2_with (fail)
    repeat (go_region; go_wp2_with (fail))
    go_ret
    exact ⟨rfl, B0⟩
  by_cases h0 : f = true ∧ cn ≠ 1
  · obtain ⟨rfl, h0⟩ := h0
    have c1 : (cn == 1) = false := by rw [beq_eq_false_iff_ne]; exact h0
    have c2 : (cn != 1) = true := by rw [bne, c1]; rfl
    obtain rfl : r = 7 := by rw [← hr.out]; unfold chkP; rw [HC.out.1, if_pos (.inr (.inr (.inl ⟨rfl, h0⟩)))]
    clear h0
    go_enter Tryd.func42, Tryd.ntmps42
    go_wp2_with (fail)
    repeat (go_region; go_wp2_with (fail))
    go_ret
    exact ⟨rfl, B0⟩
  by_cases e0 : nc = 0
  · subst e0
    obtain rfl : r = 7 := by rw [← hr.out]; unfold chkP; rw [if_pos (.inr (.inr (.inr (List.length_eq_zero_iff.1 HC.out.2))))]
    cases f with
    | true =>
      obtain rfl : cn = 1 := Decidable.byContradiction fun hn => h0 ⟨rfl, hn⟩
      go_enter Tryd.func42, Tryd.ntmps42
      go_wp2_with (fail)
      repeat (go_region; go_wp2_with (fail))
      go_ret
      exact ⟨rfl, B0⟩
    | false =>
      clear h0
      go_enter Tryd.func42, Tryd.ntmps42
      go_wp2_with (fail)
      repeat (go_region; go_wp2_with (fail))
      go_ret
      exact ⟨rfl, B0⟩
  have FC : Hid ((16 < nc → r = 3) ∧ (¬ 16 < nc → r = if x.cmds.all okC = true then 0 else 7)) := Lib.hid (by
    have e := hr.out
    unfold chkP at e
    rw [HC.out.1, HC.out.2, if_neg (by
      rintro (h | h | h | h)
      · exact h1 h
      · exact h3 h
      · exact h0 h
      · exact e0 (by rw [← HC.out.2, h]; rfl))] at e
    refine ⟨fun h => ?_, fun h => ?_⟩
    · rw [if_pos h] at e; exact e.symm
    · rw [if_neg h] at e; exact e.symm)
  have c0 : (((nc : Nat) : Int) == 0) = false := by rw [beq_eq_false_iff_ne]; omega
  go_enter Tryd.func42, Tryd.ntmps42
  go_upto_region 1 with (fail)
  go_cut [29] from 8 (fun u w' => u = .bool false ∧ w' = (w.alloc (.cells #[.slice pa nc ca, .bool no, .int .i64 cn] 34)))
  · cases f with
    | true =>
      obtain rfl : cn = 1 := Decidable.byContradiction fun hn => h0 ⟨rfl, hn⟩
      go_wp2_with (fail)
      repeat (go_region; go_wp2_with (fail))
      go_meet
      case rel => exact ⟨rfl, rfl⟩
    | false =>
      clear h0
      go_wp2_with (fail)
      repeat (go_region; go_wp2_with (fail))
      go_meet
      case rel => exact ⟨rfl, rfl⟩
  obtain ⟨rfl, rfl⟩ := hcut
  refine ‹∀ (a : Act) (w : World), Code.wp _ _ _ a w → _› _ _ ?_
  clear h0 h1 h3 c0
  by_cases e1 : 16 < nc
  · obtain rfl : r = 3 := FC.out.1 e1
    go_wp2_with (fail)
    repeat (go_region; go_wp2_with (fail))
    go_ret
    exact ⟨rfl, B0⟩
  have RV : Hid (r = if x.cmds.all okC = true then 0 else 7) := Lib.hid (FC.out.2 e1)
  go_wp2_with (fail)
  repeat (go_region; go_wp2_with (fail))
  go_loopw [5] (fun i wr => ∃ j : Nat, j ≤ nc ∧ i = .int .i64 j ∧ Hid ((x.cmds.take j).all okC = true) ∧ wr = (w.alloc (.cells #[.slice pa nc ca, .bool no, .int .i64 cn] 34))) (fun i _ => nc - (intOf i).toNat)
  case atStart => exact ⟨0, Nat.zero_le _, rfl, Lib.hid rfl, rfl⟩
  case round =>
    obtain ⟨j, hj, rfl, TJ, rfl⟩ := hrel
    by_cases hjt : j < nc
    · obtain ⟨c, hc⟩ : ∃ c, x.cmds[j]? = some c := ⟨_, List.getElem?_eq_getElem (by rw [HC.out.2]; exact hjt)⟩
      have HCJ := Lib.hid hc
      obtain ⟨g3, o3, r3, rfl, D3, hc3⟩ := DC.out.at hc
      obtain ⟨u, p1, p2, m1, m2, k1, k2, z, rfl, u1, u2, u3, u4, R1, R2⟩ := D3.parts
      have t2 := kp B0.out (hc3 2 _ rfl)
      have HM2 := Lib.hid u3
      have L2 : m2 ≤ 9223372036854775807 := by have := R2.len; rw [List.length_map, u3] at this; exact this
      have R2 := Lib.hid R2
      clear hc hc3 D3 u1 u2 u3 u4 R1
      go_wp2_with (fail)
      repeat (go_region; go_wp2_with (fail))
      go_loopw [7] (fun i wr => ∃ y : Nat, y ≤ m2 ∧ i = .int .i64 y ∧ Hid ((c.red.take y).all okR = true) ∧ wr = (w.alloc (.cells #[.slice (some ⟨g3, o3, none⟩) nc ca, .bool no, .int .i64 cn] 34))) (fun i _ => m2 - (intOf i).toNat)
      case atStart => exact ⟨0, Nat.zero_le _, rfl, Lib.hid rfl, rfl⟩
      case round =>
        obtain ⟨y, hy, rfl, TY, rfl⟩ := hrel
        clear t2
        by_cases hyt : y < m2
        · obtain ⟨rx, hrx⟩ : ∃ rx, c.red[y]? = some rx := ⟨_, List.getElem?_eq_getElem (by rw [HM2.out]; exact hyt)⟩
          have HRX := Lib.hid hrx
          obtain ⟨g5, o5, rfl, hc5⟩ := R2.out.at (redR_at hrx)
          have v0 := kp B0.out (hc5 0 _ rfl)
          rw [Nat.add_zero] at v0
          obtain ⟨rk, rn⟩ := rx
          simp only at v0
          clear hc5 hrx
          by_cases q1 : rk < 1
          · obtain rfl : r = 7 := by rw [RV.out, all_bad HCJ.out (by rw [okC_all]; exact all_bad HRX.out (by unfold okR; simp only; rw [decide_eq_false (show ¬ 1 ≤ rk by omega)]; rfl))]; rfl
            go_wp2_with (fail)
            repeat (go_region; go_wp2_with (fail))
            go_ret
            exact ⟨rfl, B0⟩
          · by_cases q3 : 3 < rk
            · obtain rfl : r = 7 := by rw [RV.out, all_bad HCJ.out (by rw [okC_all]; exact all_bad HRX.out (by unfold okR; simp only; rw [decide_eq_false (show ¬ rk ≤ 3 by omega), Bool.and_false]))]; rfl
              go_wp2_with (fail)
              repeat (go_region; go_wp2_with (fail))
              go_ret
              exact ⟨rfl, B0⟩
            · have TY2 : Hid ((c.red.take (y + 1)).all okR = true) := Lib.hid (by rw [all_more HRX.out, TY.out, Bool.true_and]; unfold okR; simp only; rw [decide_eq_true (by omega), decide_eq_true (by omega)]; rfl)
              go_wp2_with (fail)
              repeat (go_region; go_wp2_with (fail))
              go_roundw
              case rel => exact ⟨y + 1, by omega, by go_num, TY2, trivial⟩
              case measure => simp [intOf]; omega
        · have TJ2 : Hid ((x.cmds.take (j + 1)).all okC = true) := Lib.hid (by
            have := TY.out
            rw [List.take_of_length_le (by rw [HM2.out]; omega)] at this
            rw [all_more HCJ.out, TJ.out, okC_all, this]; rfl)
          go_wp2_with fail
          go_roundw
          case rel => exact ⟨j + 1, by omega, by go_num, TJ2, trivial⟩
          case measure => simp [intOf]; omega
    · obtain rfl : r = 0 := by
        have := TJ.out
        rw [List.take_of_length_le (by rw [HC.out.2]; omega)] at this
        rw [RV.out, this]; rfl
      go_wp2_with fail
      go_ret
      exact ⟨rfl, B0⟩
set_option maxRecDepth 100000 in
set_option maxHeartbeats 8000000 in
theorem rcheck_any (l : List Pl) (v : Value) (w : World) (h : PlsD w v l) {r : Int} (hr : Hid (chk l = r)) :
    Calls Tryd.prog 18 #[.agg #[v]] w fun e w' => e = .returned (.int .i64 r) ∧ Hid (Below w.heap.size w w') := by
  obtain ⟨a, cap, rfl, l1, l2⟩ := h.slice
  obtain ⟨n, hn⟩ : ∃ n, l.length = n := ⟨_, rfl⟩
  rw [hn] at h l1 ⊢
  have HN := Lib.hid hn
  have NL : n ≤ 9223372036854775807 := by unfold maxLen at l2; omega
  have B0 := Lib.hid ((Below.refl w.heap.size w).alloc (Nat.le_refl _) (.cells #[.slice a n cap] 24))
  have D1 := Lib.hid (h.below B0.out)
  have BX0 : Hid ((w.alloc (.cells #[.slice a n cap] 24)).cell? ⟨w.heap.size, 0, none⟩ = some (.slice a n cap)) := Lib.hid (blk_cell (heap_alloc_new w _) 0)
  clear l1 l2 hn h
  by_cases h64 : 64 < n
  · obtain rfl : r = 3 := by rw [← hr.out]; unfold chk; rw [if_pos (by rw [HN.out]; exact h64)]
    go_enter Tryd.func18, Tryd.ntmps18
    go_wp2_with fail
    go_ret
    exact ⟨rfl, B0⟩
  have HR : Hid (chkL true l = r) := Lib.hid (by rw [← hr.out]; unfold chk; rw [if_neg (by rw [HN.out]; exact h64)])
  clear hr
  go_enter Tryd.func18, Tryd.ntmps18
  go_wp2_with fail
  go_loopw [3] (fun i wr => ∃ k : Nat, k ≤ n ∧ i = .int .i64 k ∧ Hid (chkL true (l.take k) = 0) ∧ Hid (Below (w.alloc (.cells #[.slice a n cap] 24)).heap.size (w.alloc (.cells #[.slice a n cap] 24)) wr)) (fun i _ => n - (intOf i).toNat)
  case atStart => exact ⟨0, Nat.zero_le _, rfl, Lib.hid rfl, Lib.hid (Below.refl _ _)⟩
  case round =>
    obtain ⟨k, hk, rfl, TK, BK⟩ := hrel
    have bx := kp BK.out BX0.out
    by_cases hlt : k < n
    · obtain ⟨x, hx⟩ : ∃ x, l[k]? = some x := ⟨_, List.getElem?_eq_getElem (by rw [HN.out]; exact hlt)⟩
      have HX := Lib.hid hx
      obtain ⟨g, o, rr, rfl, D, hc⟩ := D1.out.at hx
      obtain ⟨pa, nc, ca, rfl, hnc, nl, DC⟩ := D.parts
      have s0 := kp BK.out (hc 0 _ rfl)
      have s1 := kp BK.out (hc 1 _ rfl)
      have s2 := kp BK.out (hc 2 _ rfl)
      rw [Nat.add_zero] at s0
      obtain ⟨no, hno⟩ : ∃ t, x.no = t := ⟨_, rfl⟩
      obtain ⟨cn, hcn⟩ : ∃ t, x.conn = t := ⟨_, rfl⟩
      rw [hno] at s1
      rw [hcn] at s2
      have HC : Hid (x.conn = cn ∧ x.cmds.length = nc) := Lib.hid ⟨hcn, hnc⟩
      have DCx := Lib.hid (RowsD.below (D := CmD) (fun _ _ _ _ h b => h.below b) DC BK.out)
      obtain ⟨rc, hrc⟩ : ∃ rc, chkP (if k = 0 then true else false) x = rc := ⟨_, rfl⟩
      have ER : Hid (rc ≠ 0 → r = rc) := Lib.hid (fun h2 => by rw [← HR.out, chkL_at TK.out HX.out (by rw [hrc]; exact h2), hrc])
      have EM : Hid (rc = 0 → chkL true (l.take (k + 1)) = 0) := Lib.hid (fun h2 => chkL_more TK.out HX.out (by rw [hrc]; exact h2))
      obtain ⟨ff, hff⟩ : ∃ ff, decide (k = 0) = ff := ⟨_, rfl⟩
      have RC : Hid (chkP ff x = rc) := Lib.hid (by
        rw [← hff, ← hrc]
        by_cases h : k = 0
        · rw [decide_eq_true h, if_pos h]
        · rw [decide_eq_false h, if_neg h])
      have KF : (((k : Nat) : Int) == 0) = ff := by
        rw [← hff, Bool.eq_iff_iff, beq_iff_eq, decide_eq_true_eq]; omega
      clear hc hx hno hcn hnc D DC hrc hff
      by_cases hz : rc = 0
      · have z0 : (rc == 0) = true := by rw [beq_iff_eq]; exact hz
        have z1 : (rc != 0) = false := by rw [bne, z0]; rfl
        have TK2 := Lib.hid (EM.out hz)
        clear hz
        go_wp2_with (go_at_call 42; refine (rchkP_any x pa nc ca no cn _ _ HC DCx RC).mono ?_; rintro _ w3 ⟨rfl, B3⟩)
        go_roundw
        case rel => exact ⟨k + 1, by omega, by go_num, TK2, Lib.hid (BK.out.trans (B3.out.mono BK.out.size))⟩
        case measure => simp [intOf]; omega
      · obtain rfl : r = rc := ER.out hz
        have z0 : (r == 0) = false := by rw [beq_eq_false_iff_ne]; exact hz
        have z1 : (r != 0) = true := by rw [bne, z0]; rfl
        clear hz
        go_wp2_with (go_at_call 42; refine (rchkP_any x pa nc ca no cn _ _ HC DCx RC).mono ?_; rintro _ w3 ⟨rfl, B3⟩)
        go_ret
        exact ⟨rfl, Lib.hid (B0.out.trans ((BK.out.trans (B3.out.mono BK.out.size)).mono B0.out.size))⟩
    · obtain rfl : r = 0 := by
        have := TK.out
        rw [List.take_of_length_le (by rw [HN.out]; omega)] at this
        rw [← HR.out, this]
      go_wp2_with fail
      go_ret
      exact ⟨rfl, Lib.hid (B0.out.trans (BK.out.mono B0.out.size))⟩
end Go.Proofs.YtlhagpfpcdedpaaDoor
