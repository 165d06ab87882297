/- walks: Check, the program's and the reference's (written by gen_jc.py) -/
import Derived.Test.YtlhagpfpcdedpaaDoorJb
import Derived.Test.YtlhagpfpcdedpaaDoorHv
namespace Go.Proofs.YtlhagpfpcdedpaaDoor
open Go.RowKit
open Shp
namespace Shp
def okR (r : Int × List UInt8) : Bool := decide (1 ≤ r.1) && decide (r.1 ≤ 3)
theorem okC_all (c : Cm) : okC c = c.red.all okR := rfl
theorem all_bad {α : Type} {f : α → Bool} {l : List α} {k : Nat} {x : α} (hx : l[k]? = some x) (hf : f x = false) : l.all f = false := by
  rw [List.all_eq_false]
  exact ⟨x, List.mem_of_getElem? hx, by rw [hf]; decide⟩
theorem chkL_at {f : Bool} : ∀ {l : List Pl} {k : Nat} {p : Pl}, chkL f (l.take k) = 0 → l[k]? = some p → chkP (if k = 0 then f else false) p ≠ 0 → chkL f l = chkP (if k = 0 then f else false) p
  | [], k, p, _, h, _ => by simp at h
  | q :: l, 0, p, _, h, h2 => by
    obtain rfl : q = p := by simpa using h
    rw [if_pos rfl] at h2 ⊢
    show (if chkP f q = 0 then chkL false l else chkP f q) = _
    rw [if_neg h2]
  | q :: l, k + 1, p, h1, h, h2 => by
    rw [if_neg (by omega)] at h2 ⊢
    have h1' : (if chkP f q = 0 then chkL false (l.take k) else chkP f q) = 0 := h1
    split at h1'
    · rename_i hq
      have ih := chkL_at (f := false) (l := l) (k := k) (p := p) h1' (by simpa using h) (by split <;> exact h2)
      show (if chkP f q = 0 then chkL false l else chkP f q) = _
      rw [if_pos hq, ih]
      split <;> rfl
    · rename_i hq; exact absurd h1' hq
theorem chkL_more {f : Bool} {l : List Pl} {k : Nat} {p : Pl} (h1 : chkL f (l.take k) = 0) (hx : l[k]? = some p) (h2 : chkP (if k = 0 then f else false) p = 0) : chkL f (l.take (k + 1)) = 0 := by
  rw [List.take_add_one, hx, Option.toList_some]
  refine chkL_snoc h1 ?_
  by_cases h : k = 0
  · subst h; rw [if_pos rfl] at h2; rw [List.take_zero, if_pos rfl]; exact h2
  · rw [if_neg h] at h2
    have hl : l ≠ [] := fun e => by rw [e] at hx; simp at hx
    rw [if_neg (by
      intro e
      rw [List.take_eq_nil_iff] at e
      exact e.elim h hl)]
    exact h2
end Shp
theorem redR_at {c : Cm} {k : Nat} {r : Int × List UInt8} (h : c.red[k]? = some r) : (redR c)[k]? = some [.int .i64 r.1, .string ⟨r.2.toArray⟩] := by rw [List.getElem?_map, h]; rfl
/-- a row's cells -/
theorem RowsAt.at {w : World} {a : Option Addr} {n c k : Nat} {l : List (List Value)} (h : RowsAt w (.slice a n c) k l) {j : Nat} {x : List Value} (hj : l[j]? = some x) : ∃ g o, a = some ⟨g, o, none⟩ ∧ ∀ (i : Nat) y, x[i]? = some y → w.cell? ⟨g, o + j * k + i, none⟩ = some y := by
  obtain ⟨g, o, cap, e, -, -, -, hc⟩ := h.cons (by intro h; rw [h] at hj; simp at hj)
  injection e with e1
  exact ⟨g, o, e1, fun i y hy => hc j x hj i y hy⟩
set_option maxRecDepth 100000 in
set_option maxHeartbeats 4000000 in
theorem chkcmd_any (c : Cm) (u : ByteArray) (p1 p2 : Option Addr) (m1 k1 n k2 : Nat) (z : Int) (w : World) (R : Hid (RowsAt w (.slice p2 n k2) 2 (redR c))) (HN : Hid (c.red.length = n)) {r : Int} (hr : Hid ((if okC c = true then 0 else 7) = r)) :
    Calls Tryd.prog 41 #[.agg #[.string u, .slice p1 m1 k1, .slice p2 n k2, .int .i64 z]] w fun e w' => e = .returned (.int .i64 r) ∧ Hid (Below w.heap.size w w') := by
  have NL : n ≤ 9223372036854775807 := by have := R.out.len; rw [List.length_map, HN.out] at this; unfold maxLen at this; omega
  have B0 := Lib.hid ((Below.refl w.heap.size w).alloc (Nat.le_refl _) (.cells #[.string u, .slice p1 m1 k1, .slice p2 n k2, .int .i64 z] 40))
  go_enter Tryd.func41, Tryd.ntmps41
  go_wp2_with fail
  go_loopw [8] (fun i wr => ∃ k : Nat, k ≤ n ∧ i = .int .i64 k ∧ Hid ((c.red.take k).all okR = true) ∧ Hid (Below w.heap.size w wr)) (fun i _ => n - (intOf i).toNat)
  case atStart => exact ⟨0, Nat.zero_le _, rfl, Lib.hid rfl, B0⟩
  case round =>
    obtain ⟨k, hk, rfl, TK, BK⟩ := hrel
    by_cases hlt : k < n
    · obtain ⟨x, hx⟩ : ∃ x, c.red[k]? = some x := ⟨_, List.getElem?_eq_getElem (by rw [HN.out]; exact hlt)⟩
      have HX := Lib.hid hx
      obtain ⟨g, o, rfl, hc⟩ := R.out.at (redR_at hx)
      obtain ⟨x1, x2⟩ := x
      have s0 := kp BK.out (hc 0 _ rfl)
      have s1 := kp BK.out (hc 1 _ rfl)
      rw [Nat.add_zero] at s0
      simp only at s0 s1
      clear hc hx
      by_cases h1 : x1 < 1
      · obtain rfl : r = 7 := by rw [← hr.out, okC_all, all_bad HX.out (by unfold okR; simp only; rw [decide_eq_false (by omega)]; rfl)]; rfl
        go_wp2_with (fail)
        repeat (go_region; go_wp2_with (fail))
        go_ret
        exact ⟨rfl, Lib.hid (BK.out.alloc BK.out.size _)⟩
      · by_cases h3 : 3 < x1
        · obtain rfl : r = 7 := by rw [← hr.out, okC_all, all_bad HX.out (by unfold okR; simp only; rw [decide_eq_false (show ¬ x1 ≤ 3 by omega), Bool.and_false])]; rfl
          go_wp2_with (fail)
          repeat (go_region; go_wp2_with (fail))
          go_ret
          exact ⟨rfl, Lib.hid (BK.out.alloc BK.out.size _)⟩
        · have TK2 : Hid ((c.red.take (k + 1)).all okR = true) := Lib.hid (by rw [all_more HX.out, TK.out, Bool.true_and]; unfold okR; simp only; rw [decide_eq_true (by omega), decide_eq_true (by omega)]; rfl)
          go_wp2_with (fail)
          repeat (go_region; go_wp2_with (fail))
          go_roundw
          case rel => exact ⟨k + 1, by omega, by go_num, TK2, Lib.hid (BK.out.alloc BK.out.size _)⟩
          case measure => simp [intOf]; omega
    · obtain rfl : r = 0 := by
        have := TK.out
        rw [List.take_of_length_le (by rw [HN.out]; omega)] at this
        rw [← hr.out, okC_all, this]; rfl
      go_wp2_with fail
      go_ret
      exact ⟨rfl, BK⟩
/-- a pipeline's row, opened -/
theorem PlD.parts {w : World} {p : Pl} {r : List Value} (h : PlD w p r) : ∃ (a : Option Addr) (n c : Nat), r = [.slice a n c, .bool p.no, .int .i64 p.conn] ∧ p.cmds.length = n ∧ n ≤ 9223372036854775807 ∧ RowsD CmD 4 w (.slice a n c) p.cmds := by
  obtain ⟨vc, rfl, hD⟩ := h
  obtain ⟨a, c, rfl, h1, h2⟩ := hD.slice
  exact ⟨a, _, c, rfl, rfl, by unfold maxLen at h2; omega, hD⟩
/-- an element's cells -/
theorem RowsD.at {α : Type} {D : World → α → List Value → Prop} {k : Nat} {w : World} {a : Option Addr} {n c : Nat} {l : List α} (h : RowsD D k w (.slice a n c) l) {i : Nat} {x : α} (hx : l[i]? = some x) : ∃ g o r, a = some ⟨g, o, none⟩ ∧ D w x r ∧ ∀ (j : Nat) y, r[j]? = some y → w.cell? ⟨g, o + i * k + j, none⟩ = some y := by
  obtain ⟨g, o, cap, e, -, -, -, hc⟩ := h.get (by intro h; rw [h] at hx; simp at hx)
  injection e with e1
  obtain ⟨r, hD, hr⟩ := hc i x hx
  exact ⟨g, o, r, e1, hD, hr⟩
set_option maxRecDepth 100000 in
set_option maxHeartbeats 8000000 in
theorem check_any (l : List Pl) (v : Value) (w : World) (h : PlsD w v l) {r : Int} (hr : Hid (chk l = r)) :
    Calls Tryd.prog 17 #[.agg #[v]] w fun e w' => e = .returned (.int .i64 r) ∧ Hid (Below w.heap.size w w') := by
  obtain ⟨a, cap, rfl, l1, l2⟩ := h.slice
  have H := Lib.hid h
  clear h
  obtain ⟨n, hn⟩ : ∃ n, l.length = n := ⟨_, rfl⟩
  rw [hn] at H l1 ⊢
  have HN := Lib.hid hn
  have NL : n ≤ 9223372036854775807 := by unfold maxLen at l2; omega
  have B0 := Lib.hid ((Below.refl w.heap.size w).alloc (Nat.le_refl _) (.cells #[.slice a n cap] 24))
  clear l1 l2 hn
  by_cases h64 : 64 < n
  · obtain rfl : r = 3 := by rw [← hr.out]; unfold chk; rw [if_pos (by rw [HN.out]; exact h64)]
    go_enter Tryd.func17, Tryd.ntmps17
    go_wp2_with fail
    go_ret
    exact ⟨rfl, B0⟩
  have HR : Hid (chkL true l = r) := Lib.hid (by rw [← hr.out]; unfold chk; rw [if_neg (by rw [HN.out]; exact h64)])
  clear hr
  go_enter Tryd.func17, Tryd.ntmps17
  go_wp2_with fail
  go_loopw [15] (fun i wr => ∃ k : Nat, k ≤ n ∧ i = .int .i64 k ∧ Hid (chkL true (l.take k) = 0) ∧ Hid (Below w.heap.size w wr)) (fun i _ => n - (intOf i).toNat)
  case atStart => exact ⟨0, Nat.zero_le _, rfl, Lib.hid rfl, B0⟩
  case round =>
    obtain ⟨k, hk, rfl, TK, BK⟩ := hrel
    by_cases hlt : k < n
    · obtain ⟨x, hx⟩ : ∃ x, l[k]? = some x := ⟨_, List.getElem?_eq_getElem (by rw [HN.out]; exact hlt)⟩
      have HX := Lib.hid hx
      obtain ⟨g, o, rr, rfl, D, hc⟩ := H.out.at hx
      obtain ⟨pa, nc, ca, rfl, hnc, nl, DC⟩ := D.parts
      have s0 := kp BK.out (hc 0 _ rfl)
      have s1 := kp BK.out (hc 1 _ rfl)
      have s2 := kp BK.out (hc 2 _ rfl)
      rw [Nat.add_zero] at s0
      obtain ⟨no, hno⟩ : ∃ t, x.no = t := ⟨_, rfl⟩
      obtain ⟨cn, hcn⟩ : ∃ t, x.conn = t := ⟨_, rfl⟩
      rw [hno] at s1
      rw [hcn] at s2
      have HC : Hid (x.conn = cn ∧ x.cmds.length = nc) := Lib.hid ⟨hcn, hnc⟩
      have DC := Lib.hid DC
      have ER : Hid (∀ e, chkP (if k = 0 then true else false) x = e → e ≠ 0 → r = e) := Lib.hid (fun e h1 h2 => by rw [← HR.out, chkL_at TK.out HX.out (by rw [h1]; exact h2), h1])
      have BX := Lib.hid (BK.out.alloc BK.out.size (.cells #[.slice pa nc ca, .bool no, .int .i64 cn] 34))
      clear hc hx hno hcn hnc D
      by_cases h1 : cn < 1
      · obtain rfl : r = 7 := ER.out 7 (by unfold chkP; rw [HC.out.1, if_pos (.inl h1)]) (by decide)
        go_wp2_with (fail)
        repeat (go_region; go_wp2_with (fail))
        go_ret
        exact ⟨rfl, BX⟩
      by_cases h3 : 3 < cn
      · obtain rfl : r = 7 := ER.out 7 (by unfold chkP; rw [HC.out.1, if_pos (.inr (.inl h3))]) (by decide)
        go_wp2_with (fail)
        repeat (go_region; go_wp2_with (fail))
        go_ret
        exact ⟨rfl, BX⟩
      by_cases h0 : k = 0 ∧ cn ≠ 1
      · obtain ⟨rfl, h0⟩ := h0
        have c1 : (cn == 1) = false := by rw [beq_eq_false_iff_ne]; exact h0
        have c2 : (cn != 1) = true := by rw [bne, c1]; rfl
        obtain rfl : r = 7 := ER.out 7 (by unfold chkP; rw [HC.out.1, if_pos (.inr (.inr (.inl ⟨rfl, h0⟩)))]) (by decide)
        clear h0
        simp only [Nat.zero_mul, Nat.add_zero] at s0 s1 s2
        go_wp2_with (fail)
        repeat (go_region; go_wp2_with (fail))
        go_ret
        exact ⟨rfl, BX⟩
      have FC : Hid (∀ y : Int, (nc = 0 → y = 7) → (16 < nc → y = 3) → (nc ≠ 0 → nc ≤ 16 → y = if x.cmds.all okC = true then 0 else 7) → chkP (if k = 0 then true else false) x = y) := Lib.hid (fun y q1 q2 q3 => by
        unfold chkP
        rw [HC.out.1, HC.out.2]
        by_cases e0 : nc = 0
        · rw [if_pos (.inr (.inr (.inr (List.length_eq_zero_iff.1 (HC.out.2.trans e0))))), q1 e0]
        · rw [if_neg (by
            rintro (h | h | h | h)
            · exact h1 h
            · exact h3 h
            · refine h0 ⟨?_, h.2⟩
              have := h.1
              split at this
              · assumption
              · cases this
            · exact e0 (by rw [← HC.out.2, h]; rfl))]
          by_cases e1 : 16 < nc
          · rw [if_pos e1, q2 e1]
          · rw [if_neg e1, q3 e0 (by omega)])
      -- the first test fails
      go_upto_region 6 with (fail)
      go_cut [20] from 16 to 61 (fun u w' => u = .bool false ∧ Hid (Below w.heap.size w w') ∧ w'.heap[wr.heap.size]? = some (.cells #[.slice pa nc ca, .bool no, .int .i64 cn] 34 (0, 0)))
      · by_cases hk0 : k = 0
        · subst hk0
          have e1 : cn = 1 := Decidable.byContradiction fun hn => h0 ⟨rfl, hn⟩
          subst e1
          go_wp2_with (fail)
          repeat (go_region; go_wp2_with (fail))
          go_meet
          case rel => exact ⟨rfl, BX, heap_alloc_new wr _⟩
        · have c0 : (((k : Nat) : Int) == 0) = false := by rw [beq_eq_false_iff_ne]; omega
          clear h0 hk0
          go_wp2_with (fail)
          repeat (go_region; go_wp2_with (fail))
          go_meet
          case rel => exact ⟨rfl, BX, heap_alloc_new wr _⟩
      obtain ⟨rfl, BY, hb⟩ := hcut
      refine ‹∀ (a : Act) (w : World), Code.wp _ _ _ a w → _› _ _ ?_
      have d0 := blk_cell hb 0
      simp only [List.getElem?_toArray, List.getElem?_cons_zero] at d0
      clear BX h0 h1 h3 hb
      by_cases e0 : nc = 0
      · subst e0
        obtain rfl : r = 7 := ER.out 7 (FC.out 7 (fun _ => rfl) (fun h => by omega) (fun h => absurd rfl h)) (by decide)
        go_wp2_with (fail)
        repeat (go_region; go_wp2_with (fail))
        go_ret
        exact ⟨rfl, BY⟩
      have c0 : (((nc : Nat) : Int) == 0) = false := by rw [beq_eq_false_iff_ne]; omega
      have c0' : ¬ nc = 0 := e0
      by_cases e1 : 16 < nc
      · obtain rfl : r = 3 := ER.out 3 (FC.out 3 (fun h => absurd h e0) (fun _ => rfl) (fun _ h => by omega)) (by decide)
        go_wp2_with (fail)
        repeat (go_region; go_wp2_with (fail))
        go_ret
        exact ⟨rfl, BY⟩
      go_wp2_with (fail)
      repeat (go_region; go_wp2_with (fail))
      go_loopw [51] (fun i wx => ∃ j : Nat, j ≤ nc ∧ i = .int .i64 j ∧ Hid ((x.cmds.take j).all okC = true) ∧ Hid (Below w.heap.size w wx)) (fun i _ => nc - (intOf i).toNat)
      case atStart => exact ⟨0, Nat.zero_le _, rfl, Lib.hid rfl, (by first | exact BY | exact Lib.hid BY.out.drew)⟩
      case round =>
        obtain ⟨j, hj, rfl, TJ, BJ⟩ := hrel
        clear d0
        by_cases hjt : j < nc
        · obtain ⟨c, hc⟩ : ∃ c, x.cmds[j]? = some c := ⟨_, List.getElem?_eq_getElem (by rw [HC.out.2]; exact hjt)⟩
          have HCJ := Lib.hid hc
          obtain ⟨g3, o3, r3, rfl, D3, hc3⟩ := DC.out.at hc
          obtain ⟨u, p1, p2, m1, m2, k1, k2, z, rfl, u1, u2, u3, u4, R1, R2⟩ := D3.parts
          have t0 := kp BJ.out (hc3 0 _ rfl)
          have t1 := kp BJ.out (hc3 1 _ rfl)
          have t2 := kp BJ.out (hc3 2 _ rfl)
          have t3 := kp BJ.out (hc3 3 _ rfl)
          rw [Nat.add_zero] at t0
          have HM2 := Lib.hid u3
          have BJ2 := Lib.hid (BJ.out.alloc BJ.out.size (.cells #[.string u, .slice p1 m1 k1, .slice p2 m2 k2, .int .i64 z] 40))
          have R2x := Lib.hid (R2.below BJ2.out)
          have R2y := Lib.hid (R2.below BJ2.out.drew)
          obtain ⟨rc, hrc⟩ : ∃ rc, (if okC c = true then (0 : Int) else 7) = rc := ⟨_, rfl⟩
          have RC := Lib.hid hrc
          clear hc hc3 D3 u1 u2 u3 u4 R1 R2 hrc
          by_cases hok : okC c = true
          · obtain rfl : rc = 0 := by rw [← RC.out, if_pos hok]
            have TJ2 : Hid ((x.cmds.take (j + 1)).all okC = true) := Lib.hid (by rw [all_more HCJ.out, TJ.out, hok]; rfl)
            clear hok
            go_wp2_with ((go_at_call 41; refine (chkcmd_any c u p1 p2 m1 k1 m2 k2 z _ (by first | exact R2x | exact R2y) HM2 RC).mono ?_; rintro _ w3 ⟨rfl, B3⟩))
            repeat (go_region; go_wp2_with ((go_at_call 41; refine (chkcmd_any c u p1 p2 m1 k1 m2 k2 z _ (by first | exact R2x | exact R2y) HM2 RC).mono ?_; rintro _ w3 ⟨rfl, B3⟩)))
            go_roundw
            case rel => exact ⟨j + 1, by omega, by go_num, TJ2, Lib.hid (by first | exact BJ2.out.trans (B3.out.mono BJ2.out.size) | exact BJ2.out.drew.trans (B3.out.mono BJ2.out.size))⟩
            case measure => simp [intOf]; omega
          · obtain rfl : rc = 7 := by rw [← RC.out, if_neg hok]
            obtain rfl : r = 7 := ER.out 7 (FC.out 7 (fun _ => rfl) (fun h => absurd h e1) (fun _ _ => by rw [all_bad HCJ.out (by simpa using hok)]; rfl)) (by decide)
            clear hok
            go_wp2_with ((go_at_call 41; refine (chkcmd_any c u p1 p2 m1 k1 m2 k2 z _ (by first | exact R2x | exact R2y) HM2 RC).mono ?_; rintro _ w3 ⟨rfl, B3⟩))
            repeat (go_region; go_wp2_with ((go_at_call 41; refine (chkcmd_any c u p1 p2 m1 k1 m2 k2 z _ (by first | exact R2x | exact R2y) HM2 RC).mono ?_; rintro _ w3 ⟨rfl, B3⟩)))
            go_ret
            exact ⟨rfl, Lib.hid (by first | exact BJ2.out.trans (B3.out.mono BJ2.out.size) | exact BJ2.out.drew.trans (B3.out.mono BJ2.out.size))⟩
        · have TK2 : Hid (chkL true (l.take (k + 1)) = 0) := Lib.hid (chkL_more TK.out HX.out (FC.out 0 (fun h => absurd h e0) (fun h => absurd h e1) (fun _ _ => by
            have := TJ.out
            rw [List.take_of_length_le (by rw [HC.out.2]; omega)] at this
            rw [this]; rfl)))
          go_wp2_with fail
          go_roundw
          case rel => exact ⟨k + 1, by omega, by go_num, TK2, BJ⟩
          case measure => simp [intOf]; omega
    · obtain rfl : r = 0 := by
        have := TK.out
        rw [List.take_of_length_le (by rw [HN.out]; omega)] at this
        rw [← HR.out, this]
      go_wp2_with fail
      go_ret
      exact ⟨rfl, BK⟩
end Go.Proofs.YtlhagpfpcdedpaaDoor
