/- two lists of strings compared; the law UniqLines -/
import Derived.Test.YtoohbgjfhchnmaaDoorRb
namespace Go.Proofs.YtoohbgjfhchnmaaDoor
open Go.RowKit Go.Maps
open Lcl
theorem rc_drewN {B : Nat} {w w' : World} (h : Below B w w') (n : Nat) : Below B w (w'.drewN n) := ⟨h.os, h.tape, h.output, h.size, h.block⟩
theorem rc_ne {a b : ByteArray} (h : ¬ a = b) : (a.toList == b.toList) = false := by
  rw [beq_eq_false_iff_ne, Lib.toList_data, Lib.toList_data]
  exact fun e => h (str_ext e)
theorem RowsAt.consS {w : World} {v : Value} {L : List ByteArray} (h : RowsAt w v 1 (strs L)) (hl : L ≠ []) : ∃ g o cap, v = .slice (some ⟨g, o, none⟩) L.length cap ∧ L.length ≤ cap ∧ cap ≤ maxLen ∧ g < w.heap.size ∧ ∀ (j : Nat) x, L[j]? = some x → w.cell? ⟨g, o + j, none⟩ = some (.string x) := by
  obtain ⟨g, o, cap, rfl, h1, h2, h3, hc⟩ := h.cons (by simpa using hl)
  rw [List.length_map] at h1 ⊢
  refine ⟨g, o, cap, rfl, h1, h2, h3, fun j x hj => ?_⟩
  have := hc j [.string x] (by rw [List.getElem?_map, hj]; rfl) 0 (.string x) rfl
  rw [Nat.mul_one] at this
  exact this
theorem RowsAt.nilS {w : World} {v : Value} (h : RowsAt w v 1 (strs [])) : ∃ a cap, v = .slice a 0 cap := h.nil
theorem RowsAt.lenS {w : World} {v : Value} {L : List ByteArray} (h : RowsAt w v 1 (strs L)) : L.length ≤ maxLen := by
  have := h.len; rwa [List.length_map] at this
theorem RowsAt.slS {w : World} {v : Value} {L : List ByteArray} (h : RowsAt w v 1 (strs L)) : ∃ a cap, v = .slice a L.length cap := by
  obtain ⟨a, cap, rfl, _⟩ := h; exact ⟨a, cap, by rw [List.length_map]⟩
set_option maxHeartbeats 4000000 in
theorem sametexts_any (v1 v2 : Value) (L1 L2 : List ByteArray) (w : World) (h1 : RowsAt w v1 1 (strs L1)) (h2 : RowsAt w v2 1 (strs L2)) :
    Calls Tryd.prog 9 #[v1, v2] w fun e w' => e = .returned (.bool (decide (L1 = L2))) ∧ Below w.heap.size w w' := by
  have m1 := h1.lenS
  have m2 := h2.lenS
  unfold maxLen at m1 m2
  by_cases hl : L1.length = L2.length
  · by_cases h0 : L1 = []
    · subst h0
      obtain rfl : L2 = [] := List.eq_nil_of_length_eq_zero hl.symm
      obtain ⟨a, ca, rfl⟩ := h1.nilS
      obtain ⟨b, cb, rfl⟩ := h2.nilS
      clear h1 h2 m1 m2 hl
      go_enter Tryd.func9, Tryd.ntmps9
      go_wp2_with fail
      go_loop [5] (fun i => i = .int .i64 0) (fun _ => 0)
      case atStart => rfl
      case round =>
        subst hrel
        go_wp2_with fail
        go_ret
        exact ⟨rfl, Below.refl _ _⟩
    · obtain ⟨g1, o1, ca, rfl, _, _, hg1, hc1⟩ := h1.consS h0
      obtain ⟨g2, o2, cb, rfl, _, _, hg2, hc2⟩ := h2.consS (fun e => h0 (List.eq_nil_of_length_eq_zero (by rw [hl, e]; rfl)))
      rw [← hl]
      have HL := Lib.hid hl
      have C1 := Lib.hid hc1
      have C2 := Lib.hid hc2
      obtain ⟨n, hn⟩ : ∃ n, L1.length = n := ⟨_, rfl⟩
      have HN := Lib.hid hn
      rw [hn] at m1 ⊢
      rw [← hl, hn] at m2
      clear h1 h2 hc1 hc2 hl hn
      go_enter Tryd.func9, Tryd.ntmps9
      go_wp2_with fail
      go_loopw [5] (fun i wr => ∃ j : Nat, i = .int .i64 j ∧ j ≤ n ∧ Hid (L1.take j = L2.take j) ∧ Hid (Below w.heap.size w wr)) (fun i _ => n - (intOf i).toNat)
      case atStart => exact ⟨0, rfl, by omega, Lib.hid rfl, Lib.hid (Below.refl _ _)⟩
      case round =>
        obtain ⟨j, rfl, js, E, Br⟩ := hrel
        by_cases hlt : j < n
        · have x1 : j < L1.length := by have := HN.out; omega
          have x2 : j < L2.length := by have := HL.out; omega
          have k1 := (Br.out.cell (p := ⟨g1, o1 + j, none⟩) hg1).trans (C1.out j _ (List.getElem?_eq_getElem x1))
          have k2 := (Br.out.cell (p := ⟨g2, o2 + j, none⟩) hg2).trans (C2.out j _ (List.getElem?_eq_getElem x2))
          have T1 := Lib.hid (List.take_succ_eq_append_getElem x1)
          have T2 := Lib.hid (List.take_succ_eq_append_getElem x2)
          generalize L1[j] = a at k1 T1
          generalize L2[j] = b at k2 T2
          clear x1 x2
          by_cases hab : a = b
          · subst hab
            go_wp2_with fail
            go_quiet (fail)
            go_wp2_with fail
            go_roundw
            case rel => exact ⟨j + 1, by go_num, by omega, Lib.hid (by rw [T1.out, T2.out, E.out]), Lib.hid (rc_drewN Br.out _)⟩
            case measure => simp [intOf]; omega
          · have ne := rc_ne hab
            have NE : L1 ≠ L2 := fun e => hab (by
              have h := T1.out; rw [e, T2.out, List.append_cancel_left_eq] at h
              exact (List.cons.inj h).1.symm)
            have D := Lib.hid (decide_eq_false NE); clear hab NE
            go_wp2_with fail
            go_quiet (fail)
            go_wp2_with fail
            go_ret
            exact ⟨by rw [D.out]; rfl, rc_drewN Br.out _⟩
        · have EE : L1 = L2 := by
            have h := E.out
            have h1 := HN.out
            have h2 := HL.out
            rw [List.take_of_length_le (by omega), List.take_of_length_le (by omega)] at h
            exact h
          have D := Lib.hid (decide_eq_true EE); clear EE
          go_wp2_with fail
          go_ret
          exact ⟨by rw [D.out]; rfl, Br.out⟩
  · have NE : L1 ≠ L2 := fun e => hl (by rw [e])
    obtain ⟨a, ca, rfl⟩ := h1.slS
    obtain ⟨b, cb, rfl⟩ := h2.slS
    have t : (((L1.length : Nat) : Int) != ((L2.length : Nat) : Int)) = true := by rw [bne_iff_ne]; omega
    go_enter Tryd.func9, Tryd.ntmps9
    go_wp2_with fail
    go_ret
    exact ⟨by rw [decide_eq_false NE]; rfl, Below.refl _ _⟩
theorem sametexts_eq (v1 v2 : Value) (L : List ByteArray) (w : World) (h1 : RowsAt w v1 1 (strs L)) (h2 : RowsAt w v2 1 (strs L)) :
    Calls Tryd.prog 9 #[v1, v2] w fun e w' => e = .returned (.bool true) ∧ Below w.heap.size w w' := by
  have h := sametexts_any v1 v2 L L w h1 h2
  rw [decide_eq_true rfl] at h
  exact h
set_option maxRecDepth 100000 in
set_option maxHeartbeats 16000000 in
theorem law_lines (c : Cfg) (hc : c.Ok) (v1 v4 v5 vl : Value) (L : List ByteArray) (w : World) (hL : LocAt w v1 v4 v5 c.W c.C c.E) (n1 : NZ v1) (n4 : NZ v4) (n5 : NZ v5) (ht : Tab w) (hr : RowsAt w vl 1 (strs L)) (hz : ∀ x ∈ L, x.size ≤ 140737488351232) (hl : L.length * 16 ≤ 140737488351232) :
    Calls Tryd.prog 3 #[c.sp, c.lv v1 v4 v5, vl] w fun e w' => e = .returned (.bool true) ∧ Below w.heap.size w w' := by
  have LO := Lib.hid hL
  have HT := Lib.hid ht
  have RL := Lib.hid hr
  have S0 := keepS (c := c) (w := w) (v1 := v1) (v4 := v4) (v5 := v5) ((Below.refl _ _).drew)
  obtain ⟨M, hM⟩ : ∃ M, linesM c L = M := ⟨_, rfl⟩
  have CP : Hid (∀ w', LocAt w' v1 v4 v5 c.W c.C c.E → Tab w' → RowsAt w' vl 1 (strs L) → Calls Tryd.prog 10 #[c.sp, c.lv v1 v4 v5, vl] w' fun e w'' => ∃ v, e = .returned v ∧ Hid (RowsAt w'' v 1 (strs M)) ∧ Hid (Below w'.heap.size w' w'')) := Lib.hid fun w' h1 h2 h3 => by
    rw [← hM]; exact (lines_any c hc v1 v4 v5 vl L w' h1 n1 n4 n5 h2 h3 hz hl).mono fun e w'' h => linesr_is h
  have CR : Hid (∀ w', LocAt w' v1 v4 v5 c.W c.C c.E → Tab w' → RowsAt w' vl 1 (strs L) → Calls Tryd.prog 11 #[c.sp, c.lv v1 v4 v5, vl] w' fun e w'' => ∃ v, e = .returned v ∧ Hid (RowsAt w'' v 1 (strs M)) ∧ Hid (Below w'.heap.size w' w'')) := Lib.hid fun w' h1 h2 h3 => by
    rw [← hM]; exact (rlines_any c hc v1 v4 v5 vl L w' h1 h3 hz hl).mono fun e w'' h => linesr_is h
  clear hL ht hr hM hc n1 n4 n5 hz hl
  go_enter Tryd.func3, Tryd.ntmps3
  go_wp2_with fail
  go_region_held3 (fun w' => Below ((w.alloc (.cells c.cells 23)).alloc (.cells (c.lcells v1 v4 v5) 28)).heap.size ((w.alloc (.cells c.cells 23)).alloc (.cells (c.lcells v1 v4 v5) 28)) w' ∧ w'.cell? ⟨w.heap.size, 0, none⟩ = some (.int .i64 c.F) ∧ w'.cell? ⟨w.heap.size, 1, none⟩ = some (.int .i64 c.B) ∧ w'.cell? ⟨w.heap.size, 2, none⟩ = some (.int .i64 c.D) ∧ w'.cell? ⟨w.heap.size, 3, none⟩ = some (.bool c.cnt) ∧ w'.cell? ⟨w.heap.size, 4, none⟩ = some (.bool c.fold) ∧ w'.cell? ⟨w.heap.size, 5, none⟩ = some (.bool c.rep) ∧ w'.cell? ⟨w.heap.size, 6, none⟩ = some (.bool c.sg) ∧ w'.cell? ⟨w.heap.size + 1, 0, none⟩ = some (.string c.n) ∧ w'.cell? ⟨w.heap.size + 1, 1, none⟩ = some (v1) ∧ w'.cell? ⟨w.heap.size + 1, 2, none⟩ = some (.string c.lo) ∧ w'.cell? ⟨w.heap.size + 1, 3, none⟩ = some (.string c.up) ∧ w'.cell? ⟨w.heap.size + 1, 4, none⟩ = some (v4) ∧ w'.cell? ⟨w.heap.size + 1, 5, none⟩ = some (v5)) (first | exact S0)
    (first
      | (go_at_call 10; with_reducible refine (CP.out _ (LO.out.below (below_step (below_step S0.1))) (tab_below HT.out (below_step (below_step S0.1))) (RL.out.below (below_step (below_step S0.1)))).mono ?_; rintro e w' ⟨x1, rfl, R1, hb⟩; have S0 := keepS (S0.1.trans (hb.out.mono S0.1.size)))
      | (go_at_call 11; with_reducible refine (CR.out _ (LO.out.below (below_step (below_step S0.1))) (tab_below HT.out (below_step (below_step S0.1))) (RL.out.below (below_step (below_step S0.1)))).mono ?_; rintro e w' ⟨x2, rfl, R2, hb⟩; have S0 := keepS (S0.1.trans (hb.out.mono S0.1.size)); have R1 := Lib.hid (R1.out.below hb.out))
      | (go_at_call 12; with_reducible refine (awake_any _ (tab_below HT.out (below_step (below_step S0.1)))).mono ?_; rintro e w' ⟨rfl, hb⟩; have S0 := keepS (S0.1.trans (hb.mono S0.1.size)))
      | (go_at_call 9; refine (sametexts_eq _ _ _ _ R1.out R2.out).mono ?_; rintro e w' ⟨rfl, hb⟩; have S0 := keepS (S0.1.trans (hb.mono S0.1.size))))
  go_wp2_with fail
  go_ret
  exact ⟨rfl, below_step (below_step S0.1)⟩
end Go.Proofs.YtoohbgjfhchnmaaDoor
