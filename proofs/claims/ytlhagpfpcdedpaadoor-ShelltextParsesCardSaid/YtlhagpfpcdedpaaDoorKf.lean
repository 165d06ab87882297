/- walks: the reader on states (written by gen_kf.py) -/
import Derived.Test.YtlhagpfpcdedpaaDoorKe
namespace Go.Proofs.YtlhagpfpcdedpaaDoor
open Go.RowKit
open Shp
/-- the measure of what is in memory -/
def muR (s : ByteArray) (p : Nat) (w : World) : Nat :=
  match w.cell? ⟨p, 6, none⟩, w.cell? ⟨p, 5, none⟩, w.cell? ⟨p, 1, none⟩ with
  | some (.int _ e), some (.int _ a), some (.int _ k) => if e = 0 then s.size - a.toNat + (if k = 0 then 0 else 1) else 0
  | _, _, _ => 0
theorem RM.mu {p : Nat} {s : ByteArray} {w : World} {x : St} (h : RM p s w x) : muR s p w = Shp.mu s x := by
  obtain ⟨h, wf⟩ := h
  unfold muR
  cases x with
  | run t a =>
    obtain ⟨-, c1, -, -, -, c5, c6, -⟩ := RY.cells h
    rw [c6, c5, c1]
    simp only [if_pos, Int.toNat_natCast, Shp.mu]
    congr 1
    by_cases h0 : t.k = 0
    · rw [if_pos h0, if_pos (by omega)]
    · rw [if_neg h0, if_neg (by omega)]
  | bad e q =>
    obtain ⟨k, tx, b, ta, af, h⟩ := h
    obtain ⟨-, c1, -, -, -, c5, c6, -⟩ := RY.cells h
    rw [c6, c5, c1]
    simp only
    rw [if_neg (by have := wf.1; omega)]; rfl
theorem rread_st (p : Nat) (s : ByteArray) (x : St) (w0 w : World) (h : RM p s w0 x) (hw : SameW w0 w) (hs : s.size ≤ 8192) :
    Calls Tryd.prog 24 #[.pointer (some ⟨p, 0, none⟩)] w fun e w' => e = .returned (.tuple #[]) ∧ Hid (RM p s w' (rd s x)) ∧ Hid (Gr p w0 w') := by
  cases x with
  | run t a => exact (rread_run p s _ _ _ _ a 0 w (RY.keep h.1 (by rw [hw.1])) hs h.2.1).mono fun e w' ⟨h1, h2, h3⟩ => ⟨h1, Lib.hid ⟨h2.out, rd_wf h.2⟩, Lib.hid (gr_same h3.out hw)⟩
  | bad er q =>
    obtain ⟨⟨k, tx, b, ta, af, h1⟩, h2⟩ := h
    exact (rread_bad p s k tx b ta af er q w (h1.keep (by rw [hw.1])) (by have := h2.1; omega)).mono fun e w' ⟨e1, e2⟩ => ⟨e1, by subst e2; exact Lib.hid ⟨⟨k, tx, b, ta, af, h1.keep (by rw [hw.1])⟩, h2⟩, by subst e2; exact Lib.hid (gr_same (gr_refl p w) hw)⟩
theorem rfail_st (p : Nat) (s : ByteArray) (x : St) (e1 : Int) (w0 w : World) (h : RM p s w0 x) (hw : SameW w0 w) (he : e1 = 1 ∨ e1 = 3) :
    Calls Tryd.prog 27 #[.pointer (some ⟨p, 0, none⟩), .int .i64 e1] w fun e w' => e = .returned (.tuple #[]) ∧ Hid (RM p s w' (failS e1 x)) ∧ Hid (Gr p w0 w') := by
  cases x with
  | run t a => exact (rfail_run p s _ _ _ _ _ 0 e1 w (RY.keep h.1 (by rw [hw.1]))).mono fun e w' ⟨h1, h2, h3⟩ => ⟨h1, Lib.hid ⟨⟨_, _, _, _, _, h2.out⟩, fail_wf h.2 he⟩, Lib.hid (gr_same h3.out hw)⟩
  | bad er q =>
    obtain ⟨⟨k, tx, b, ta, af, h1⟩, h2⟩ := h
    exact (rfail_bad p s k tx b ta af er q e1 w (h1.keep (by rw [hw.1])) (by have := h2.1; omega)).mono fun e w' ⟨e1, e2⟩ => ⟨e1, by subst e2; exact Lib.hid ⟨⟨k, tx, b, ta, af, h1.keep (by rw [hw.1])⟩, h2⟩, by subst e2; exact Lib.hid (gr_same (gr_refl p w) hw)⟩
theorem ris_st (p : Nat) (s : ByteArray) (x : St) (o : ByteArray) (w0 w : World) (h : RM p s w0 x) (hw : SameW w0 w) {r : Bool} (hr : Hid (isO o.data.toList x = r)) :
    Calls Tryd.prog 50 #[.pointer (some ⟨p, 0, none⟩), .string o] w fun e w' => e = .returned (.bool r) ∧ SameW w0 w' := by
  have hr := hr.out
  have tr : ∀ w', SameW w w' → SameW w0 w' := fun w' e => same_trans hw e
  cases x with
  | run t a =>
    refine (ris_any p s _ _ _ _ _ 0 0 o w (RY.keep h.1 (by rw [hw.1]))).mono fun e w' ⟨h1, h2⟩ => ⟨?_, tr w' h2⟩
    rw [h1, ← hr, Lib.toList_data, Lib.toList_data]
    congr 2
    unfold isO
    simp only [decide_true, Bool.true_and]
    congr 1
    · rw [Bool.eq_iff_iff, decide_eq_true_iff, decide_eq_true_iff]; omega
    · rw [Bool.eq_iff_iff, beq_iff_eq, decide_eq_true_iff]
  | bad er q =>
    obtain ⟨⟨k, tx, b, ta, af, h1⟩, h2⟩ := h
    refine (ris_any p s k tx b ta af er q o w (h1.keep (by rw [hw.1]))).mono fun e w' ⟨h3, h4⟩ => ⟨?_, tr w' h4⟩
    rw [h3, ← hr, decide_eq_false (by have := h2.1; omega)]
    rfl
set_option maxHeartbeats 2000000 in
theorem feeds_st (p : Nat) (s : ByteArray) (x : St) (w0 w : World) (h : RM p s w0 x) (hw : SameW w0 w) (hs : s.size ≤ 8192) :
    Calls Tryd.prog 25 #[.pointer (some ⟨p, 0, none⟩)] w fun e w' => e = .returned (.tuple #[]) ∧ Hid (RM p s w' (lfS s x)) ∧ Hid (Gr p w0 w') := by
  have H := Lib.hid (h.sameW hw)
  have G0 := Lib.hid (gr_same (gr_refl p w) hw)
  clear h hw
  go_enter Tryd.func25, Tryd.ntmps25
  go_wp2_with fail
  go_loopw [3] (fun _ wr => ∃ y, Hid (lfS s y = lfS s x) ∧ Hid (RM p s wr y) ∧ Hid (Gr p w0 wr)) (fun _ wr => muR s p wr)
  case atStart => exact ⟨x, Lib.hid rfl, H, G0⟩
  case round =>
    obtain ⟨y, E, L, G⟩ := hrel
    cases hy : isO [10] y with
    | false =>
      have IB : Hid (isO (ByteArray.mk #[10]).data.toList y = false) := Lib.hid hy
      go_wp2_with (go_at_call 50; refine (ris_st p s y _ wr _ L.out (by exact ⟨rfl, rfl, rfl, rfl⟩) IB).mono ?_; rintro e w1 ⟨rfl, S1⟩)
      go_end0
      exact ⟨rfl, Lib.hid (by rw [← E.out, lf_none hy]; exact L.out.sameW S1), Lib.hid (gr_same' G.out S1)⟩
    | true =>
      have IB : Hid (isO (ByteArray.mk #[10]).data.toList y = true) := Lib.hid hy
      have MU := Lib.hid L.out.mu
      go_wp2_with (first | (go_at_call 50; refine (ris_st p s y _ wr _ L.out (by exact ⟨rfl, rfl, rfl, rfl⟩) IB).mono ?_; rintro e w1 ⟨rfl, S1⟩) | (go_at_call 24; refine (rread_st p s y wr _ L.out S1 hs).mono ?_; rintro e w2 ⟨rfl, L2, G2⟩))
      go_roundw
      case rel => exact ⟨rd s y, Lib.hid (by rw [← E.out]; exact (lf_step L.out.2 hy).symm), L2, Lib.hid (gr_trans G.out G2.out)⟩
      case measure =>
        rw [MU.out, L2.out.mu]
        obtain ⟨t, a, rfl, hk, -⟩ := isO_run hy
        exact rd_mu L.out.2 (by omega)
set_option maxHeartbeats 2000000 in
theorem redir_st (p : Nat) (s : ByteArray) (x : St) (w0 w : World) (h : RM p s w0 x) (hw : SameW w0 w) {k : Int} (hk : Hid (knd x = k)) :
    Calls Tryd.prog 51 #[.pointer (some ⟨p, 0, none⟩)] w fun e w' => e = .returned (.int .i64 k) ∧ SameW w0 w' := by
  have H := Lib.hid (h.sameW hw)
  have W0 := Lib.hid hw
  obtain ⟨b1, h1⟩ : ∃ b, isO [60] x = b := ⟨_, rfl⟩
  obtain ⟨b2, h2⟩ : ∃ b, isO [62] x = b := ⟨_, rfl⟩
  obtain ⟨b3, h3⟩ : ∃ b, isO [62, 62] x = b := ⟨_, rfl⟩
  have I1 : Hid (isO (ByteArray.mk #[60]).data.toList x = b1) := Lib.hid h1
  have I2 : Hid (isO (ByteArray.mk #[62]).data.toList x = b2) := Lib.hid h2
  have I3 : Hid (isO (ByteArray.mk #[62, 62]).data.toList x = b3) := Lib.hid h3
  have K : Hid (k = if b1 then 1 else if b2 then 2 else if b3 then 3 else 0) := Lib.hid (by rw [← hk.out]; unfold knd; rw [h1, h2, h3])
  clear h hw h1 h2 h3 hk
  cases b1 <;> cases b2 <;> cases b3
  all_goals
    have K := K.out
    simp only [Bool.false_eq_true, if_false, if_true] at K
    subst K
    go_enter Tryd.func51, Tryd.ntmps51
    go_wp2_with (go_at_call 50; (first | (with_reducible refine (ris_st p s x _ w _ H.out (by first | exact S1 | exact ⟨rfl, rfl, rfl, rfl⟩) I1).mono ?_) | (with_reducible refine (ris_st p s x _ w _ H.out (by first | exact S1 | exact ⟨rfl, rfl, rfl, rfl⟩) I2).mono ?_) | (with_reducible refine (ris_st p s x _ w _ H.out (by first | exact S1 | exact ⟨rfl, rfl, rfl, rfl⟩) I3).mono ?_)); rintro e w1 ⟨rfl, S1⟩)
    go_ret
    exact ⟨rfl, same_trans W0.out S1⟩
theorem knd_ge0 (x : St) : 0 ≤ knd x := by
  unfold knd
  split
  · omega
  split
  · omega
  split <;> omega
set_option maxHeartbeats 2000000 in
theorem rbegins_st (p : Nat) (s : ByteArray) (x : St) (w0 w : World) (h : RM p s w0 x) (hw : SameW w0 w) {r : Bool} (hr : Hid (beg x = r)) :
    Calls Tryd.prog 26 #[.pointer (some ⟨p, 0, none⟩)] w fun e w' => e = .returned (.bool r) ∧ SameW w0 w' := by
  have H := Lib.hid (h.sameW hw)
  have W0 := Lib.hid hw
  clear h hw
  cases x with
  | bad er q =>
    obtain ⟨⟨k, tx, b, ta, af, h1⟩, h2⟩ := H.out
    obtain ⟨-, c1, -, -, -, -, c6, -⟩ := h1.cells
    have t : (er == 0) = false := by rw [beq_eq_false_iff_ne]; have := h2.1; omega
    obtain rfl := hr.out
    clear h1 h2
    go_enter Tryd.func26, Tryd.ntmps26
    go_wp2_with fail
    go_ret
    exact ⟨rfl, same_trans W0.out ⟨rfl, rfl, rfl, rfl⟩⟩
  | run t a =>
    obtain ⟨-, c1, -, -, -, -, c6, -⟩ := RY.cells H.out.1
    by_cases h1 : t.k = 1
    · obtain rfl : r = true := by rw [← hr.out]; exact (by show (decide (t.k = 1) || _) = true; rw [decide_eq_true h1]; rfl)
      rw [h1] at c1
      go_enter Tryd.func26, Tryd.ntmps26
      go_wp2_with fail
      go_ret
      exact ⟨rfl, same_trans W0.out ⟨rfl, rfl, rfl, rfl⟩⟩
    · have t1 : (((t.k : Nat) : Int) == 1) = false := by rw [beq_eq_false_iff_ne]; omega
      obtain ⟨k, hk⟩ : ∃ k, knd (.run t a) = k := ⟨_, rfl⟩
      have KK := Lib.hid hk
      have k0 : 0 ≤ k := by rw [← hk]; exact knd_ge0 _
      by_cases kz : k = 0
      · subst kz
        obtain rfl : r = false := by rw [← hr.out]; show (decide (t.k = 1) || decide (0 < knd (.run t a))) = false; rw [hk, decide_eq_false h1]; rfl
        clear hk h1
        go_enter Tryd.func26, Tryd.ntmps26
        go_wp2_with (go_at_call 51; refine (redir_st p s (.run t a) w _ H.out (by exact ⟨rfl, rfl, rfl, rfl⟩) KK).mono ?_; rintro e w1 ⟨rfl, S1⟩)
        go_ret
        exact ⟨rfl, same_trans W0.out S1⟩
      · obtain rfl : r = true := by rw [← hr.out]; show (decide (t.k = 1) || decide (0 < knd (.run t a))) = true; rw [hk, decide_eq_false h1, decide_eq_true (by omega)]; rfl
        have kn : (k == 0) = false := by rw [beq_eq_false_iff_ne]; exact kz
        have kn2 : (k != 0) = true := by rw [bne, kn]; rfl
        clear hk h1 kz k0
        go_enter Tryd.func26, Tryd.ntmps26
        go_wp2_with (go_at_call 51; refine (redir_st p s (.run t a) w _ H.out (by exact ⟨rfl, rfl, rfl, rfl⟩) KK).mono ?_; rintro e w1 ⟨rfl, S1⟩)
        go_ret
        exact ⟨rfl, same_trans W0.out S1⟩
end Go.Proofs.YtlhagpfpcdedpaaDoor
