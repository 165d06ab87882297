/- walks: Check, both (written by gen_ph.py) -/
import Derived.Test.YtbhdhcnbagjmcaaDoorPg
namespace Go.Proofs.YtbhdhcnbagjmcaaDoor
open Go.RowKit
open Jn Lcl
abbrev outR (p : Sp) : List (List Value) := p.out.map fun o => [.int .i64 o.1, .int .i64 o.2]
theorem RowsAt.at {w : World} {a : Option Addr} {n c k : Nat} {l : List (List Value)} (h : RowsAt w (.slice a n c) k l) {j : Nat} {x : List Value} (hj : l[j]? = some x) : ∃ g o, a = some ⟨g, o, none⟩ ∧ ∀ (i : Nat) y, x[i]? = some y → w.cell? ⟨g, o + j * k + i, none⟩ = some y := by
  obtain ⟨g, o, cap, e, -, -, -, hc⟩ := h.cons (by intro h; rw [h] at hj; simp at hj)
  injection e with e1
  exact ⟨g, o, e1, fun i y hy => hc j x hj i y hy⟩
theorem RowsAt.slice {w : World} {v : Value} {k : Nat} {l : List (List Value)} (h : RowsAt w v k l) : ∃ a cap, v = .slice a l.length cap ∧ l.length ≤ cap ∧ cap ≤ maxLen := by
  obtain ⟨a, cap, e, h1, h2, -⟩ := h; exact ⟨a, cap, e, h1, h2⟩
set_option maxRecDepth 100000 in
set_option maxHeartbeats 4000000 in
theorem jcheck_any (p : Sp) (f1 f2 sep : Int) (lf rt pr : Bool) (em : ByteArray) (a : Option Addr) (q cap : Nat) (w : World) (hp : p = ⟨f1, f2, sep, lf, rt, pr, em.data.toList, p.out⟩) (h : RowsAt w (.slice a q cap) 2 (outR p)) (hq : p.out.length = q) (hz : em.size ≤ 9223372036854775806) {c : Int} (hc : Hid (chkJ p = c)) :
    Calls Tryd.prog 15 #[.agg #[.int .i64 f1, .int .i64 f2, .int .i64 sep, .bool lf, .bool rt, .bool pr, .string em, .slice a q cap]] w fun e w' => e = .returned (.int .i64 c) ∧ Hid (Below w.heap.size w w') := by
  have B0 : Hid (Below w.heap.size w (w.alloc (.cells #[.int .i64 f1, .int .i64 f2, .int .i64 sep, .bool lf, .bool rt, .bool pr, .string em, .slice a q cap] 36))) := Lib.hid ((Below.refl w.heap.size w).alloc (Nat.le_refl _) _)
  have N1 := heap_alloc_new w (.cells #[.int .i64 f1, .int .i64 f2, .int .i64 sep, .bool lf, .bool rt, .bool pr, .string em, .slice a q cap] 36)
  have D0 : Hid ((w.alloc (.cells #[.int .i64 f1, .int .i64 f2, .int .i64 sep, .bool lf, .bool rt, .bool pr, .string em, .slice a q cap] 36)).cell? ⟨w.heap.size, 0, none⟩ = some (.int .i64 f1)) := Lib.hid (blk_cellx N1 0 _ rfl)
  have D1 : Hid ((w.alloc (.cells #[.int .i64 f1, .int .i64 f2, .int .i64 sep, .bool lf, .bool rt, .bool pr, .string em, .slice a q cap] 36)).cell? ⟨w.heap.size, 1, none⟩ = some (.int .i64 f2)) := Lib.hid (blk_cellx N1 1 _ rfl)
  have D2 : Hid ((w.alloc (.cells #[.int .i64 f1, .int .i64 f2, .int .i64 sep, .bool lf, .bool rt, .bool pr, .string em, .slice a q cap] 36)).cell? ⟨w.heap.size, 2, none⟩ = some (.int .i64 sep)) := Lib.hid (blk_cellx N1 2 _ rfl)
  have D3 : Hid ((w.alloc (.cells #[.int .i64 f1, .int .i64 f2, .int .i64 sep, .bool lf, .bool rt, .bool pr, .string em, .slice a q cap] 36)).cell? ⟨w.heap.size, 3, none⟩ = some (.bool lf)) := Lib.hid (blk_cellx N1 3 _ rfl)
  have D4 : Hid ((w.alloc (.cells #[.int .i64 f1, .int .i64 f2, .int .i64 sep, .bool lf, .bool rt, .bool pr, .string em, .slice a q cap] 36)).cell? ⟨w.heap.size, 4, none⟩ = some (.bool rt)) := Lib.hid (blk_cellx N1 4 _ rfl)
  have D5 : Hid ((w.alloc (.cells #[.int .i64 f1, .int .i64 f2, .int .i64 sep, .bool lf, .bool rt, .bool pr, .string em, .slice a q cap] 36)).cell? ⟨w.heap.size, 5, none⟩ = some (.bool pr)) := Lib.hid (blk_cellx N1 5 _ rfl)
  have D6 : Hid ((w.alloc (.cells #[.int .i64 f1, .int .i64 f2, .int .i64 sep, .bool lf, .bool rt, .bool pr, .string em, .slice a q cap] 36)).cell? ⟨w.heap.size, 6, none⟩ = some (.string em)) := Lib.hid (blk_cellx N1 6 _ rfl)
  have D7 : Hid ((w.alloc (.cells #[.int .i64 f1, .int .i64 f2, .int .i64 sep, .bool lf, .bool rt, .bool pr, .string em, .slice a q cap] 36)).cell? ⟨w.heap.size, 7, none⟩ = some (.slice a q cap)) := Lib.hid (blk_cellx N1 7 _ rfl)
  have HR := Lib.hid (h.below B0.out)
  have HQ := Lib.hid hq
  have ZE := Lib.hid hz
  have NL : q ≤ 9223372036854775807 := by have := h.len; rw [List.length_map, hq] at this; unfold maxLen at this; omega
  obtain ⟨b1, hb1⟩ : ∃ b, fldB f1 = b := ⟨_, rfl⟩
  obtain ⟨b2, hb2⟩ : ∃ b, fldB f2 = b := ⟨_, rfl⟩
  obtain ⟨be, hbe⟩ : ∃ b, decide ((10 : UInt8) ∈ em.data.toList) = b := ⟨_, rfl⟩
  have CE := Lib.hid hbe
  have FA := Lib.hid (fun W => fld_any f1 b1 W (Lib.hid hb1))
  have FB := Lib.hid (fun W => fld_any f2 b2 W (Lib.hid hb2))
  have FD := FB
  have CH : Hid (c = if (b1 && b2 && decide (-1 ≤ sep) && decide (sep ≤ 255) && !decide (sep = 10)) = false then 2 else if be = true then 1 else if 1024 < q then 3 else if p.out.all outB then 0 else 2) := Lib.hid (by
    have hh : headB p = (b1 && b2 && decide (-1 ≤ sep) && decide (sep ≤ 255) && !decide (sep = 10)) := by rw [hp]; unfold headB; rw [← hb1, ← hb2]
    have he : p.empty = em.data.toList := by rw [hp]
    rw [← hc.out, ← hbe]; unfold chkJ; rw [hh, he, hq]; simp only [decide_eq_true_eq])
  clear N1 h hq hz hp hb1 hb2 hbe hc
  have e0 := D0.out
  have e1 := D1.out
  have e2 := D2.out
  have e6 := D6.out
  have e7 := D7.out
  cases b1 with
  | false =>
    obtain rfl : c = 2 := by rw [CH.out]; rfl
    clear CH CE
    go_enter Tryd.func15, Tryd.ntmps15
    go_wp2_with (first | (go_at_call 32; (first | (with_reducible refine (FA.out _).mono ?_) | (with_reducible refine (FB.out _).mono ?_) | (with_reducible refine (FD.out _).mono ?_)); rintro _ _ ⟨rfl, rfl⟩) | (go_at_call 33; (with_reducible refine (contains_is em _ _ CE).mono ?_); rintro _ _ ⟨rfl, rfl⟩))
    go_ret
    exact ⟨rfl, B0⟩
  | true =>
  cases b2 with
  | false =>
    obtain rfl : c = 2 := by rw [CH.out]; rfl
    clear CH CE
    go_enter Tryd.func15, Tryd.ntmps15
    go_wp2_with (first | (go_at_call 32; (first | (with_reducible refine (FA.out _).mono ?_) | (with_reducible refine (FB.out _).mono ?_) | (with_reducible refine (FD.out _).mono ?_)); rintro _ _ ⟨rfl, rfl⟩) | (go_at_call 33; (with_reducible refine (contains_is em _ _ CE).mono ?_); rintro _ _ ⟨rfl, rfl⟩))
    go_ret
    exact ⟨rfl, B0⟩
  | true =>
  by_cases s1 : -1 ≤ sep
  rotate_left
  · obtain rfl : c = 2 := by rw [CH.out, decide_eq_false s1]; rfl
    clear CH CE
    go_enter Tryd.func15, Tryd.ntmps15
    go_wp2_with (first | (go_at_call 32; (first | (with_reducible refine (FA.out _).mono ?_) | (with_reducible refine (FB.out _).mono ?_) | (with_reducible refine (FD.out _).mono ?_)); rintro _ _ ⟨rfl, rfl⟩) | (go_at_call 33; (with_reducible refine (contains_is em _ _ CE).mono ?_); rintro _ _ ⟨rfl, rfl⟩))
    go_ret
    exact ⟨rfl, B0⟩
  by_cases s2 : sep ≤ 255
  rotate_left
  · obtain rfl : c = 2 := by rw [CH.out, decide_eq_true s1, decide_eq_false s2]; rfl
    clear CH CE
    go_enter Tryd.func15, Tryd.ntmps15
    go_wp2_with (first | (go_at_call 32; (first | (with_reducible refine (FA.out _).mono ?_) | (with_reducible refine (FB.out _).mono ?_) | (with_reducible refine (FD.out _).mono ?_)); rintro _ _ ⟨rfl, rfl⟩) | (go_at_call 33; (with_reducible refine (contains_is em _ _ CE).mono ?_); rintro _ _ ⟨rfl, rfl⟩))
    go_ret
    exact ⟨rfl, B0⟩
  by_cases s3 : sep = 10
  · obtain rfl : c = 2 := by rw [CH.out, decide_eq_true s1, decide_eq_true s2, decide_eq_true s3]; rfl
    subst s3
    clear CH CE s1 s2
    go_enter Tryd.func15, Tryd.ntmps15
    go_wp2_with (first | (go_at_call 32; (first | (with_reducible refine (FA.out _).mono ?_) | (with_reducible refine (FB.out _).mono ?_) | (with_reducible refine (FD.out _).mono ?_)); rintro _ _ ⟨rfl, rfl⟩) | (go_at_call 33; (with_reducible refine (contains_is em _ _ CE).mono ?_); rintro _ _ ⟨rfl, rfl⟩))
    go_ret
    exact ⟨rfl, B0⟩
  have t3 : (sep == 10) = false := by rw [beq_eq_false_iff_ne]; exact s3
  rw [decide_eq_true s1, decide_eq_true s2, decide_eq_false s3] at CH
  cases be with
  | true =>
    obtain rfl : c = 1 := by rw [CH.out]; rfl
    clear CH s3
    go_enter Tryd.func15, Tryd.ntmps15
    go_wp2_with (first | (go_at_call 32; (first | (with_reducible refine (FA.out _).mono ?_) | (with_reducible refine (FB.out _).mono ?_) | (with_reducible refine (FD.out _).mono ?_)); rintro _ _ ⟨rfl, rfl⟩) | (go_at_call 33; (with_reducible refine (contains_is em _ _ CE).mono ?_); rintro _ _ ⟨rfl, rfl⟩))
    go_ret
    exact ⟨rfl, B0⟩
  | false =>
  by_cases s4 : 1024 < q
  · obtain rfl : c = 3 := by rw [CH.out, if_neg (by decide), if_neg (by decide), if_pos s4]
    clear CH s3
    go_enter Tryd.func15, Tryd.ntmps15
    go_wp2_with (first | (go_at_call 32; (first | (with_reducible refine (FA.out _).mono ?_) | (with_reducible refine (FB.out _).mono ?_) | (with_reducible refine (FD.out _).mono ?_)); rintro _ _ ⟨rfl, rfl⟩) | (go_at_call 33; (with_reducible refine (contains_is em _ _ CE).mono ?_); rintro _ _ ⟨rfl, rfl⟩))
    go_ret
    exact ⟨rfl, B0⟩
  have CH2 : Hid ((if (p.out.drop 0).all outB then (0 : Int) else 2) = c) := Lib.hid (by rw [CH.out, List.drop_zero]; simp [s4])
  clear CH s3
  go_enter Tryd.func15, Tryd.ntmps15
  go_wp2_with (first | (go_at_call 32; (first | (with_reducible refine (FA.out _).mono ?_) | (with_reducible refine (FB.out _).mono ?_) | (with_reducible refine (FD.out _).mono ?_)); rintro _ _ ⟨rfl, rfl⟩) | (go_at_call 33; (with_reducible refine (contains_is em _ _ CE).mono ?_); rintro _ _ ⟨rfl, rfl⟩))
  go_loopw [47] (fun i wr => ∃ j : Nat, j ≤ q ∧ i = .int .i64 j ∧ Hid ((if (p.out.drop j).all outB then (0 : Int) else 2) = c) ∧ Hid (Below (w.alloc (.cells #[.int .i64 f1, .int .i64 f2, .int .i64 sep, .bool lf, .bool rt, .bool pr, .string em, .slice a q cap] 36)).heap.size (w.alloc (.cells #[.int .i64 f1, .int .i64 f2, .int .i64 sep, .bool lf, .bool rt, .bool pr, .string em, .slice a q cap] 36)) wr)) (fun i _ => q - (intOf i).toNat)
  case atStart => exact ⟨0, Nat.zero_le _, rfl, CH2, Lib.hid (Below.refl _ _)⟩
  case round =>
    obtain ⟨j, hj, rfl, HJ, BK⟩ := hrel
    have d7 := kp BK.out D7.out
    clear CH2 CE
    by_cases hlt : j < q
    · obtain ⟨x, hx⟩ : ∃ x, p.out[j]? = some x := ⟨_, List.getElem?_eq_getElem (by rw [HQ.out]; exact hlt)⟩
      obtain ⟨g, o, rfl, hcc⟩ := HR.out.at (j := j) (x := [.int .i64 x.1, .int .i64 x.2]) (by rw [List.getElem?_map, hx]; rfl)
      have c0 := kp BK.out (hcc 0 _ rfl)
      have c1 := kp BK.out (hcc 1 _ rfl)
      rw [Nat.add_zero] at c0
      obtain ⟨xf, xd⟩ := x
      simp only at c0 c1
      have DR : Hid (p.out.drop j = (xf, xd) :: p.out.drop (j + 1)) := Lib.hid (drop_get hx)
      obtain ⟨bd, hbd⟩ : ∃ b, fldB xd = b := ⟨_, rfl⟩
      have HBD := Lib.hid hbd
      have FD := Lib.hid (fun W => fld_any xd bd W HBD)
      have HJ2 : Hid (outB (xf, xd) = true → (if (p.out.drop (j + 1)).all outB then (0 : Int) else 2) = c) := Lib.hid (fun ho => by rw [← HJ.out, DR.out, List.all_cons, ho, Bool.true_and])
      have HJ3 : Hid (outB (xf, xd) = false → c = 2) := Lib.hid (fun ho => by rw [← HJ.out, DR.out, List.all_cons, ho, Bool.false_and]; rfl)
      have BX := Lib.hid (BK.out.alloc BK.out.size (.cells #[.int .i64 xf, .int .i64 xd] 48))
      clear hx hcc DR HJ hbd
      by_cases f0 : xf = 0
      · subst f0
        by_cases d0 : xd = 0
        · subst d0
          have HN := Lib.hid (HJ2.out (rfl))
          clear HJ2 HJ3 HBD
          go_wp2_with (first | (go_at_call 32; (first | (with_reducible refine (FA.out _).mono ?_) | (with_reducible refine (FB.out _).mono ?_) | (with_reducible refine (FD.out _).mono ?_)); rintro _ _ ⟨rfl, rfl⟩) | (go_at_call 33; (with_reducible refine (contains_is em _ _ CE).mono ?_); rintro _ _ ⟨rfl, rfl⟩))
          go_roundw
          case rel => exact ⟨j + 1, by omega, by go_num, HN, BX⟩
          case measure => simp [intOf] <;> omega
        · have u1 : (xd == 0) = false := by rw [beq_eq_false_iff_ne]; exact d0
          have OB := Lib.hid (show outB (0, xd) = false by unfold outB; simp [d0])
          clear d0
          obtain rfl : c = 2 := HJ3.out (OB.out)
          clear HJ2 HJ3 HBD
          go_wp2_with (first | (go_at_call 32; (first | (with_reducible refine (FA.out _).mono ?_) | (with_reducible refine (FB.out _).mono ?_) | (with_reducible refine (FD.out _).mono ?_)); rintro _ _ ⟨rfl, rfl⟩) | (go_at_call 33; (with_reducible refine (contains_is em _ _ CE).mono ?_); rintro _ _ ⟨rfl, rfl⟩))
          go_ret
          exact ⟨rfl, Lib.hid (B0.out.trans (BX.out.mono B0.out.size))⟩
      · have u0 : (xf == 0) = false := by rw [beq_eq_false_iff_ne]; exact f0
        by_cases f1' : xf = 1
        · subst f1'
          cases bd with
          | true =>
            have HN := Lib.hid (HJ2.out (by unfold outB; rw [HBD.out]; simp))
            clear HJ2 HJ3 HBD
            go_wp2_with (first | (go_at_call 32; (first | (with_reducible refine (FA.out _).mono ?_) | (with_reducible refine (FB.out _).mono ?_) | (with_reducible refine (FD.out _).mono ?_)); rintro _ _ ⟨rfl, rfl⟩) | (go_at_call 33; (with_reducible refine (contains_is em _ _ CE).mono ?_); rintro _ _ ⟨rfl, rfl⟩))
            go_roundw
            case rel => exact ⟨j + 1, by omega, by go_num, HN, BX⟩
            case measure => simp [intOf] <;> omega
          | false =>
            obtain rfl : c = 2 := HJ3.out (by unfold outB; rw [HBD.out]; simp)
            clear HJ2 HJ3 HBD
            go_wp2_with (first | (go_at_call 32; (first | (with_reducible refine (FA.out _).mono ?_) | (with_reducible refine (FB.out _).mono ?_) | (with_reducible refine (FD.out _).mono ?_)); rintro _ _ ⟨rfl, rfl⟩) | (go_at_call 33; (with_reducible refine (contains_is em _ _ CE).mono ?_); rintro _ _ ⟨rfl, rfl⟩))
            go_ret
            exact ⟨rfl, Lib.hid (B0.out.trans (BX.out.mono B0.out.size))⟩
        · by_cases f2' : xf = 2
          · subst f2'
            cases bd with
            | true =>
              have HN := Lib.hid (HJ2.out (by unfold outB; rw [HBD.out]; simp))
              clear HJ2 HJ3 HBD
              go_wp2_with (first | (go_at_call 32; (first | (with_reducible refine (FA.out _).mono ?_) | (with_reducible refine (FB.out _).mono ?_) | (with_reducible refine (FD.out _).mono ?_)); rintro _ _ ⟨rfl, rfl⟩) | (go_at_call 33; (with_reducible refine (contains_is em _ _ CE).mono ?_); rintro _ _ ⟨rfl, rfl⟩))
              go_roundw
              case rel => exact ⟨j + 1, by omega, by go_num, HN, BX⟩
              case measure => simp [intOf] <;> omega
            | false =>
              obtain rfl : c = 2 := HJ3.out (by unfold outB; rw [HBD.out]; simp)
              clear HJ2 HJ3 HBD
              go_wp2_with (first | (go_at_call 32; (first | (with_reducible refine (FA.out _).mono ?_) | (with_reducible refine (FB.out _).mono ?_) | (with_reducible refine (FD.out _).mono ?_)); rintro _ _ ⟨rfl, rfl⟩) | (go_at_call 33; (with_reducible refine (contains_is em _ _ CE).mono ?_); rintro _ _ ⟨rfl, rfl⟩))
              go_ret
              exact ⟨rfl, Lib.hid (B0.out.trans (BX.out.mono B0.out.size))⟩
          · have u1 : (xf == 1) = false := by rw [beq_eq_false_iff_ne]; exact f1'
            have u2 : (xf == 2) = false := by rw [beq_eq_false_iff_ne]; exact f2'
            have u3 : (xf != 1) = true := by rw [bne_iff_ne]; exact f1'
            have u4 : (xf != 2) = true := by rw [bne_iff_ne]; exact f2'
            have OB := Lib.hid (show outB (xf, xd) = false by unfold outB; simp [f0, f1', f2'])
            clear f0 f1' f2'
            obtain rfl : c = 2 := HJ3.out (OB.out)
            clear HJ2 HJ3 HBD
            go_wp2_with (first | (go_at_call 32; (first | (with_reducible refine (FA.out _).mono ?_) | (with_reducible refine (FB.out _).mono ?_) | (with_reducible refine (FD.out _).mono ?_)); rintro _ _ ⟨rfl, rfl⟩) | (go_at_call 33; (with_reducible refine (contains_is em _ _ CE).mono ?_); rintro _ _ ⟨rfl, rfl⟩))
            go_ret
            exact ⟨rfl, Lib.hid (B0.out.trans (BX.out.mono B0.out.size))⟩
    · obtain rfl : c = 0 := by rw [← HJ.out, List.drop_eq_nil_of_le (by rw [HQ.out]; omega)]; rfl
      clear HJ
      go_wp2_with fail
      go_ret
      exact ⟨rfl, Lib.hid (B0.out.trans (BK.out.mono B0.out.size))⟩
set_option maxRecDepth 100000 in
set_option maxHeartbeats 4000000 in
theorem rjcheck_any (p : Sp) (f1 f2 sep : Int) (lf rt pr : Bool) (em : ByteArray) (a : Option Addr) (q cap : Nat) (w : World) (hp : p = ⟨f1, f2, sep, lf, rt, pr, em.data.toList, p.out⟩) (h : RowsAt w (.slice a q cap) 2 (outR p)) (hq : p.out.length = q) (hz : em.size ≤ 9223372036854775806) {c : Int} (hc : Hid (chkJ p = c)) :
    Calls Tryd.prog 16 #[.agg #[.int .i64 f1, .int .i64 f2, .int .i64 sep, .bool lf, .bool rt, .bool pr, .string em, .slice a q cap]] w fun e w' => e = .returned (.int .i64 c) ∧ Hid (Below w.heap.size w w') := by
  have B0 : Hid (Below w.heap.size w (w.alloc (.cells #[.int .i64 f1, .int .i64 f2, .int .i64 sep, .bool lf, .bool rt, .bool pr, .string em, .slice a q cap] 36))) := Lib.hid ((Below.refl w.heap.size w).alloc (Nat.le_refl _) _)
  have N1 := heap_alloc_new w (.cells #[.int .i64 f1, .int .i64 f2, .int .i64 sep, .bool lf, .bool rt, .bool pr, .string em, .slice a q cap] 36)
  have D0 : Hid ((w.alloc (.cells #[.int .i64 f1, .int .i64 f2, .int .i64 sep, .bool lf, .bool rt, .bool pr, .string em, .slice a q cap] 36)).cell? ⟨w.heap.size, 0, none⟩ = some (.int .i64 f1)) := Lib.hid (blk_cellx N1 0 _ rfl)
  have D1 : Hid ((w.alloc (.cells #[.int .i64 f1, .int .i64 f2, .int .i64 sep, .bool lf, .bool rt, .bool pr, .string em, .slice a q cap] 36)).cell? ⟨w.heap.size, 1, none⟩ = some (.int .i64 f2)) := Lib.hid (blk_cellx N1 1 _ rfl)
  have D2 : Hid ((w.alloc (.cells #[.int .i64 f1, .int .i64 f2, .int .i64 sep, .bool lf, .bool rt, .bool pr, .string em, .slice a q cap] 36)).cell? ⟨w.heap.size, 2, none⟩ = some (.int .i64 sep)) := Lib.hid (blk_cellx N1 2 _ rfl)
  have D3 : Hid ((w.alloc (.cells #[.int .i64 f1, .int .i64 f2, .int .i64 sep, .bool lf, .bool rt, .bool pr, .string em, .slice a q cap] 36)).cell? ⟨w.heap.size, 3, none⟩ = some (.bool lf)) := Lib.hid (blk_cellx N1 3 _ rfl)
  have D4 : Hid ((w.alloc (.cells #[.int .i64 f1, .int .i64 f2, .int .i64 sep, .bool lf, .bool rt, .bool pr, .string em, .slice a q cap] 36)).cell? ⟨w.heap.size, 4, none⟩ = some (.bool rt)) := Lib.hid (blk_cellx N1 4 _ rfl)
  have D5 : Hid ((w.alloc (.cells #[.int .i64 f1, .int .i64 f2, .int .i64 sep, .bool lf, .bool rt, .bool pr, .string em, .slice a q cap] 36)).cell? ⟨w.heap.size, 5, none⟩ = some (.bool pr)) := Lib.hid (blk_cellx N1 5 _ rfl)
  have D6 : Hid ((w.alloc (.cells #[.int .i64 f1, .int .i64 f2, .int .i64 sep, .bool lf, .bool rt, .bool pr, .string em, .slice a q cap] 36)).cell? ⟨w.heap.size, 6, none⟩ = some (.string em)) := Lib.hid (blk_cellx N1 6 _ rfl)
  have D7 : Hid ((w.alloc (.cells #[.int .i64 f1, .int .i64 f2, .int .i64 sep, .bool lf, .bool rt, .bool pr, .string em, .slice a q cap] 36)).cell? ⟨w.heap.size, 7, none⟩ = some (.slice a q cap)) := Lib.hid (blk_cellx N1 7 _ rfl)
  have HR := Lib.hid (h.below B0.out)
  have HQ := Lib.hid hq
  have ZE := Lib.hid hz
  have NL : q ≤ 9223372036854775807 := by have := h.len; rw [List.length_map, hq] at this; unfold maxLen at this; omega
  obtain ⟨b1, hb1⟩ : ∃ b, fldB f1 = b := ⟨_, rfl⟩
  obtain ⟨b2, hb2⟩ : ∃ b, fldB f2 = b := ⟨_, rfl⟩
  obtain ⟨be, hbe⟩ : ∃ b, decide ((10 : UInt8) ∈ em.data.toList) = b := ⟨_, rfl⟩
  have CE := Lib.hid hbe
  have FA := Lib.hid (fun W => rfld_any f1 b1 W (Lib.hid hb1))
  have FB := Lib.hid (fun W => rfld_any f2 b2 W (Lib.hid hb2))
  have FD := FB
  have CH : Hid (c = if (b1 && b2 && decide (-1 ≤ sep) && decide (sep ≤ 255) && !decide (sep = 10)) = false then 2 else if be = true then 1 else if 1024 < q then 3 else if p.out.all outB then 0 else 2) := Lib.hid (by
    have hh : headB p = (b1 && b2 && decide (-1 ≤ sep) && decide (sep ≤ 255) && !decide (sep = 10)) := by rw [hp]; unfold headB; rw [← hb1, ← hb2]
    have he : p.empty = em.data.toList := by rw [hp]
    rw [← hc.out, ← hbe]; unfold chkJ; rw [hh, he, hq]; simp only [decide_eq_true_eq])
  clear N1 h hq hz hp hb1 hb2 hbe hc
  have e0 := D0.out
  have e1 := D1.out
  have e2 := D2.out
  have e6 := D6.out
  have e7 := D7.out
  cases b1 with
  | false =>
    obtain rfl : c = 2 := by rw [CH.out]; rfl
    clear CH CE
    go_enter Tryd.func16, Tryd.ntmps16
    go_wp2_with (first | (go_at_call 34; (first | (with_reducible refine (FA.out _).mono ?_) | (with_reducible refine (FB.out _).mono ?_) | (with_reducible refine (FD.out _).mono ?_)); rintro _ _ ⟨rfl, rfl⟩) | (go_at_call 35; (with_reducible refine (has_any em _ _ ZE.out CE).mono ?_); rintro _ _ ⟨rfl, rfl⟩))
    go_ret
    exact ⟨rfl, B0⟩
  | true =>
  cases b2 with
  | false =>
    obtain rfl : c = 2 := by rw [CH.out]; rfl
    clear CH CE
    go_enter Tryd.func16, Tryd.ntmps16
    go_wp2_with (first | (go_at_call 34; (first | (with_reducible refine (FA.out _).mono ?_) | (with_reducible refine (FB.out _).mono ?_) | (with_reducible refine (FD.out _).mono ?_)); rintro _ _ ⟨rfl, rfl⟩) | (go_at_call 35; (with_reducible refine (has_any em _ _ ZE.out CE).mono ?_); rintro _ _ ⟨rfl, rfl⟩))
    go_ret
    exact ⟨rfl, B0⟩
  | true =>
  by_cases s1 : -1 ≤ sep
  rotate_left
  · obtain rfl : c = 2 := by rw [CH.out, decide_eq_false s1]; rfl
    clear CH CE
    go_enter Tryd.func16, Tryd.ntmps16
    go_wp2_with (first | (go_at_call 34; (first | (with_reducible refine (FA.out _).mono ?_) | (with_reducible refine (FB.out _).mono ?_) | (with_reducible refine (FD.out _).mono ?_)); rintro _ _ ⟨rfl, rfl⟩) | (go_at_call 35; (with_reducible refine (has_any em _ _ ZE.out CE).mono ?_); rintro _ _ ⟨rfl, rfl⟩))
    go_ret
    exact ⟨rfl, B0⟩
  by_cases s2 : sep ≤ 255
  rotate_left
  · obtain rfl : c = 2 := by rw [CH.out, decide_eq_true s1, decide_eq_false s2]; rfl
    clear CH CE
    go_enter Tryd.func16, Tryd.ntmps16
    go_wp2_with (first | (go_at_call 34; (first | (with_reducible refine (FA.out _).mono ?_) | (with_reducible refine (FB.out _).mono ?_) | (with_reducible refine (FD.out _).mono ?_)); rintro _ _ ⟨rfl, rfl⟩) | (go_at_call 35; (with_reducible refine (has_any em _ _ ZE.out CE).mono ?_); rintro _ _ ⟨rfl, rfl⟩))
    go_ret
    exact ⟨rfl, B0⟩
  by_cases s3 : sep = 10
  · obtain rfl : c = 2 := by rw [CH.out, decide_eq_true s1, decide_eq_true s2, decide_eq_true s3]; rfl
    subst s3
    clear CH CE s1 s2
    go_enter Tryd.func16, Tryd.ntmps16
    go_wp2_with (first | (go_at_call 34; (first | (with_reducible refine (FA.out _).mono ?_) | (with_reducible refine (FB.out _).mono ?_) | (with_reducible refine (FD.out _).mono ?_)); rintro _ _ ⟨rfl, rfl⟩) | (go_at_call 35; (with_reducible refine (has_any em _ _ ZE.out CE).mono ?_); rintro _ _ ⟨rfl, rfl⟩))
    go_ret
    exact ⟨rfl, B0⟩
  have t3 : (sep == 10) = false := by rw [beq_eq_false_iff_ne]; exact s3
  rw [decide_eq_true s1, decide_eq_true s2, decide_eq_false s3] at CH
  cases be with
  | true =>
    obtain rfl : c = 1 := by rw [CH.out]; rfl
    clear CH s3
    go_enter Tryd.func16, Tryd.ntmps16
    go_wp2_with (first | (go_at_call 34; (first | (with_reducible refine (FA.out _).mono ?_) | (with_reducible refine (FB.out _).mono ?_) | (with_reducible refine (FD.out _).mono ?_)); rintro _ _ ⟨rfl, rfl⟩) | (go_at_call 35; (with_reducible refine (has_any em _ _ ZE.out CE).mono ?_); rintro _ _ ⟨rfl, rfl⟩))
    go_ret
    exact ⟨rfl, B0⟩
  | false =>
  by_cases s4 : 1024 < q
  · obtain rfl : c = 3 := by rw [CH.out, if_neg (by decide), if_neg (by decide), if_pos s4]
    clear CH s3
    go_enter Tryd.func16, Tryd.ntmps16
    go_wp2_with (first | (go_at_call 34; (first | (with_reducible refine (FA.out _).mono ?_) | (with_reducible refine (FB.out _).mono ?_) | (with_reducible refine (FD.out _).mono ?_)); rintro _ _ ⟨rfl, rfl⟩) | (go_at_call 35; (with_reducible refine (has_any em _ _ ZE.out CE).mono ?_); rintro _ _ ⟨rfl, rfl⟩))
    go_ret
    exact ⟨rfl, B0⟩
  have CH2 : Hid ((if (p.out.drop 0).all outB then (0 : Int) else 2) = c) := Lib.hid (by rw [CH.out, List.drop_zero]; simp [s4])
  clear CH s3
  go_enter Tryd.func16, Tryd.ntmps16
  go_wp2_with (first | (go_at_call 34; (first | (with_reducible refine (FA.out _).mono ?_) | (with_reducible refine (FB.out _).mono ?_) | (with_reducible refine (FD.out _).mono ?_)); rintro _ _ ⟨rfl, rfl⟩) | (go_at_call 35; (with_reducible refine (has_any em _ _ ZE.out CE).mono ?_); rintro _ _ ⟨rfl, rfl⟩))
  go_loopw [3] (fun i wr => ∃ j : Nat, j ≤ q ∧ i = .int .i64 j ∧ Hid ((if (p.out.drop j).all outB then (0 : Int) else 2) = c) ∧ Hid (Below (w.alloc (.cells #[.int .i64 f1, .int .i64 f2, .int .i64 sep, .bool lf, .bool rt, .bool pr, .string em, .slice a q cap] 36)).heap.size (w.alloc (.cells #[.int .i64 f1, .int .i64 f2, .int .i64 sep, .bool lf, .bool rt, .bool pr, .string em, .slice a q cap] 36)) wr)) (fun i _ => q - (intOf i).toNat)
  case atStart => exact ⟨0, Nat.zero_le _, rfl, CH2, Lib.hid (Below.refl _ _)⟩
  case round =>
    obtain ⟨j, hj, rfl, HJ, BK⟩ := hrel
    have d7 := kp BK.out D7.out
    clear CH2 CE
    by_cases hlt : j < q
    · obtain ⟨x, hx⟩ : ∃ x, p.out[j]? = some x := ⟨_, List.getElem?_eq_getElem (by rw [HQ.out]; exact hlt)⟩
      obtain ⟨g, o, rfl, hcc⟩ := HR.out.at (j := j) (x := [.int .i64 x.1, .int .i64 x.2]) (by rw [List.getElem?_map, hx]; rfl)
      have c0 := kp BK.out (hcc 0 _ rfl)
      have c1 := kp BK.out (hcc 1 _ rfl)
      rw [Nat.add_zero] at c0
      obtain ⟨xf, xd⟩ := x
      simp only at c0 c1
      have DR : Hid (p.out.drop j = (xf, xd) :: p.out.drop (j + 1)) := Lib.hid (drop_get hx)
      obtain ⟨bd, hbd⟩ : ∃ b, fldB xd = b := ⟨_, rfl⟩
      have HBD := Lib.hid hbd
      have FD := Lib.hid (fun W => rfld_any xd bd W HBD)
      have HJ2 : Hid (outB (xf, xd) = true → (if (p.out.drop (j + 1)).all outB then (0 : Int) else 2) = c) := Lib.hid (fun ho => by rw [← HJ.out, DR.out, List.all_cons, ho, Bool.true_and])
      have HJ3 : Hid (outB (xf, xd) = false → c = 2) := Lib.hid (fun ho => by rw [← HJ.out, DR.out, List.all_cons, ho, Bool.false_and]; rfl)
      have BX := Lib.hid (BK.out.alloc BK.out.size (.cells #[.int .i64 xf, .int .i64 xd] 48))
      clear hx hcc DR HJ hbd
      by_cases f0 : xf = 0
      · subst f0
        by_cases d0 : xd = 0
        · subst d0
          have HN := Lib.hid (HJ2.out (rfl))
          clear HJ2 HJ3 HBD
          go_wp2_with (first | (go_at_call 34; (first | (with_reducible refine (FA.out _).mono ?_) | (with_reducible refine (FB.out _).mono ?_) | (with_reducible refine (FD.out _).mono ?_)); rintro _ _ ⟨rfl, rfl⟩) | (go_at_call 35; (with_reducible refine (has_any em _ _ ZE.out CE).mono ?_); rintro _ _ ⟨rfl, rfl⟩))
          go_roundw
          case rel => exact ⟨j + 1, by omega, by go_num, HN, BX⟩
          case measure => simp [intOf] <;> omega
        · have u1 : (xd == 0) = false := by rw [beq_eq_false_iff_ne]; exact d0
          have OB := Lib.hid (show outB (0, xd) = false by unfold outB; simp [d0])
          clear d0
          obtain rfl : c = 2 := HJ3.out (OB.out)
          clear HJ2 HJ3 HBD
          go_wp2_with (first | (go_at_call 34; (first | (with_reducible refine (FA.out _).mono ?_) | (with_reducible refine (FB.out _).mono ?_) | (with_reducible refine (FD.out _).mono ?_)); rintro _ _ ⟨rfl, rfl⟩) | (go_at_call 35; (with_reducible refine (has_any em _ _ ZE.out CE).mono ?_); rintro _ _ ⟨rfl, rfl⟩))
          go_ret
          exact ⟨rfl, Lib.hid (B0.out.trans (BX.out.mono B0.out.size))⟩
      · have u0 : (xf == 0) = false := by rw [beq_eq_false_iff_ne]; exact f0
        by_cases f1' : xf = 1
        · subst f1'
          cases bd with
          | true =>
            have HN := Lib.hid (HJ2.out (by unfold outB; rw [HBD.out]; simp))
            clear HJ2 HJ3 HBD
            go_wp2_with (first | (go_at_call 34; (first | (with_reducible refine (FA.out _).mono ?_) | (with_reducible refine (FB.out _).mono ?_) | (with_reducible refine (FD.out _).mono ?_)); rintro _ _ ⟨rfl, rfl⟩) | (go_at_call 35; (with_reducible refine (has_any em _ _ ZE.out CE).mono ?_); rintro _ _ ⟨rfl, rfl⟩))
            go_roundw
            case rel => exact ⟨j + 1, by omega, by go_num, HN, BX⟩
            case measure => simp [intOf] <;> omega
          | false =>
            obtain rfl : c = 2 := HJ3.out (by unfold outB; rw [HBD.out]; simp)
            clear HJ2 HJ3 HBD
            go_wp2_with (first | (go_at_call 34; (first | (with_reducible refine (FA.out _).mono ?_) | (with_reducible refine (FB.out _).mono ?_) | (with_reducible refine (FD.out _).mono ?_)); rintro _ _ ⟨rfl, rfl⟩) | (go_at_call 35; (with_reducible refine (has_any em _ _ ZE.out CE).mono ?_); rintro _ _ ⟨rfl, rfl⟩))
            go_ret
            exact ⟨rfl, Lib.hid (B0.out.trans (BX.out.mono B0.out.size))⟩
        · by_cases f2' : xf = 2
          · subst f2'
            cases bd with
            | true =>
              have HN := Lib.hid (HJ2.out (by unfold outB; rw [HBD.out]; simp))
              clear HJ2 HJ3 HBD
              go_wp2_with (first | (go_at_call 34; (first | (with_reducible refine (FA.out _).mono ?_) | (with_reducible refine (FB.out _).mono ?_) | (with_reducible refine (FD.out _).mono ?_)); rintro _ _ ⟨rfl, rfl⟩) | (go_at_call 35; (with_reducible refine (has_any em _ _ ZE.out CE).mono ?_); rintro _ _ ⟨rfl, rfl⟩))
              go_roundw
              case rel => exact ⟨j + 1, by omega, by go_num, HN, BX⟩
              case measure => simp [intOf] <;> omega
            | false =>
              obtain rfl : c = 2 := HJ3.out (by unfold outB; rw [HBD.out]; simp)
              clear HJ2 HJ3 HBD
              go_wp2_with (first | (go_at_call 34; (first | (with_reducible refine (FA.out _).mono ?_) | (with_reducible refine (FB.out _).mono ?_) | (with_reducible refine (FD.out _).mono ?_)); rintro _ _ ⟨rfl, rfl⟩) | (go_at_call 35; (with_reducible refine (has_any em _ _ ZE.out CE).mono ?_); rintro _ _ ⟨rfl, rfl⟩))
              go_ret
              exact ⟨rfl, Lib.hid (B0.out.trans (BX.out.mono B0.out.size))⟩
          · have u1 : (xf == 1) = false := by rw [beq_eq_false_iff_ne]; exact f1'
            have u2 : (xf == 2) = false := by rw [beq_eq_false_iff_ne]; exact f2'
            have u3 : (xf != 1) = true := by rw [bne_iff_ne]; exact f1'
            have u4 : (xf != 2) = true := by rw [bne_iff_ne]; exact f2'
            have OB := Lib.hid (show outB (xf, xd) = false by unfold outB; simp [f0, f1', f2'])
            clear f0 f1' f2'
            obtain rfl : c = 2 := HJ3.out (OB.out)
            clear HJ2 HJ3 HBD
            go_wp2_with (first | (go_at_call 34; (first | (with_reducible refine (FA.out _).mono ?_) | (with_reducible refine (FB.out _).mono ?_) | (with_reducible refine (FD.out _).mono ?_)); rintro _ _ ⟨rfl, rfl⟩) | (go_at_call 35; (with_reducible refine (has_any em _ _ ZE.out CE).mono ?_); rintro _ _ ⟨rfl, rfl⟩))
            go_ret
            exact ⟨rfl, Lib.hid (B0.out.trans (BX.out.mono B0.out.size))⟩
    · obtain rfl : c = 0 := by rw [← HJ.out, List.drop_eq_nil_of_le (by rw [HQ.out]; omega)]; rfl
      clear HJ
      go_wp2_with fail
      go_ret
      exact ⟨rfl, Lib.hid (B0.out.trans (BK.out.mono B0.out.size))⟩
end Go.Proofs.YtbhdhcnbagjmcaaDoor
