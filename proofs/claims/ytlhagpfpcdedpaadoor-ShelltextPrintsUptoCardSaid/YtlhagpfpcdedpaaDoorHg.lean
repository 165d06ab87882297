/- walks: the parser on states (written by gen_hg.py) -/
import Derived.Test.YtlhagpfpcdedpaaDoorHf
namespace Go.Proofs.YtlhagpfpcdedpaaDoor
open Go.RowKit
open Shp
namespace Shp
/-- a state that can be -/
def WfS (s : ByteArray) : St → Prop
  | .run t a => a ≤ s.size ∧ t.a ≤ s.size ∧ t.k ≤ 2 ∧ (t.k = 0 → t.t = [] ∧ t.a = s.size ∧ a = s.size) ∧ (t.k = 2 → t.t ≠ []) ∧ (t.k ≠ 0 → t.a < a)
  | .bad e q => (e = 1 ∨ e = 3) ∧ 0 ≤ q ∧ q ≤ s.size
/-- an error at the present token -/
def failS (e : Int) : St → St
  | .run t _ => .bad e t.a
  | .bad e q => .bad e q
theorem tokS_wf {s : ByteArray} {j : Nat} (hj : j ≤ s.size) (hk : sk1 s j = none) : WfS s (tokS s j) := by
  unfold tokS
  cases hc : at? s j with
  | none => exact ⟨Nat.le_refl _, Nat.le_refl _, Nat.zero_le _, fun _ => ⟨rfl, rfl, rfl⟩, fun h => absurd h (by show ¬ (0 = 2); decide), fun h => absurd rfl h⟩
  | some c =>
    obtain ⟨hl, _⟩ := at_some hc
    simp only
    cases ho : opT s j with
    | some o =>
      have := opT_len ho
      exact ⟨this.2, Nat.le_of_lt hl, Nat.le_refl _, fun h => absurd h (by show ¬ (2 = 0); decide), fun _ e => by rw [show o = [] from e] at this; simp at this, fun _ => by show j < j + o.length; omega⟩
    | none =>
      simp only
      by_cases h38 : c = 38
      · rw [if_pos h38]; exact ⟨.inl rfl, by omega, by omega⟩
      rw [if_neg h38]
      unfold wordS
      have hw := wdS_le s (j, []) hj
      cases hx : at? s (wdS s (j, [])).1 with
      | none =>
        have hge : s.size ≤ (wdS s (j, [])).1 := by
          refine Decidable.byContradiction fun h => ?_
          rw [at_lt (by omega)] at hx; cases hx
        simp only at hw
        exact ⟨hw.2, Nat.le_of_lt hl, (by show 1 ≤ 2; decide), fun h => absurd h (by show ¬ (1 = 0); decide), fun h => absurd h (by show ¬ (1 = 2); decide), fun _ => by show j < (wdS s (j, [])).1; omega⟩
      | some d =>
        simp only
        split
        · rename_i hsp
          simp only at hw
          refine ⟨hw.2, Nat.le_of_lt hl, (by show 1 ≤ 2; decide), fun h => absurd h (by show ¬ (1 = 0); decide), fun h => absurd h (by show ¬ (1 = 2); decide), fun _ => ?_⟩
          show j < (wdS s (j, [])).1
          refine Decidable.byContradiction fun h => ?_
          have e : (wdS s (j, [])).1 = j := by omega
          rw [e, hc] at hx
          cases hx
          have := spB_op hc ho h38 hsp
          unfold sk1 at hk
          rw [hc] at hk
          simp only at hk
          rw [if_pos this] at hk
          cases hk
        · exact ⟨.inl rfl, by omega, by have := hw.2; omega⟩
theorem nx_wf {s : ByteArray} {a : Nat} (ha : a ≤ s.size) : WfS s (nx s a) := tokS_wf (skS_le s a ha).2 (skS_stop s a)
theorem rd_wf {s : ByteArray} {x : St} (h : WfS s x) : WfS s (rd s x) := by
  cases x with
  | run t a => exact nx_wf h.1
  | bad e q => exact h
theorem fail_wf {s : ByteArray} {x : St} (h : WfS s x) {e : Int} (he : e = 1 ∨ e = 3) : WfS s (failS e x) := by
  cases x with
  | run t a => exact ⟨he, by omega, by have := h.2.1; omega⟩
  | bad e q => exact h
/-- the offset behind a token lies behind where it was sought, unless it is the end -/
theorem tokS_from (s : ByteArray) (j : Nat) : ∀ t a, tokS s j = .run t a → t.a = j ∨ t.k = 0 := by
  intro t a h
  unfold tokS at h
  split at h
  · cases h; exact .inr rfl
  · split at h
    · cases h; exact .inl rfl
    · split at h
      · cases h
      · unfold wordS at h
        split at h
        · cases h; exact .inl rfl
        · split at h
          · cases h; exact .inl rfl
          · cases h
theorem rd_mu {s : ByteArray} {t : Tk} {a : Nat} (h : WfS s (.run t a)) (hk : t.k ≠ 0) : mu s (rd s (.run t a)) < mu s (.run t a) := by
  show mu s (nx s a) < _
  have w := nx_wf h.1
  have l := (skS_le s a h.1).1
  unfold nx at w ⊢
  cases hx : tokS s (skS s a) with
  | bad e q => simp only [mu]; rw [if_neg hk]; omega
  | run t' a' =>
    rw [hx] at w
    have f := tokS_from s _ t' a' hx
    obtain ⟨w1, w2, w3, w4, w5, w6⟩ := w
    have a1 := h.1
    simp only [mu]
    rw [if_neg hk]
    by_cases h0 : t'.k = 0
    · rw [if_pos h0]; have := (w4 h0).2.2; omega
    · rw [if_neg h0]
      have := w6 h0
      rcases f with f | f
      · omega
      · exact absurd f h0
/-- line feeds -/
def lf1 (s : ByteArray) (x : St) : Option St := if isO [10] x = true then some (rd s x) else none
def lfS (s : ByteArray) (x : St) : St := iter (mu s) (lf1 s) x
theorem isO_run {o : List UInt8} {x : St} (h : isO o x = true) : ∃ t a, x = .run t a ∧ t.k = 2 ∧ t.t = o := by
  cases x with
  | run t a => simp only [isO, Bool.and_eq_true, decide_eq_true_eq] at h; exact ⟨t, a, rfl, h⟩
  | bad e q => cases h
theorem lf_none {s : ByteArray} {x : St} (h : isO [10] x = false) : lfS s x = x := iter_none (by unfold lf1; rw [h]; rfl)
theorem lf_step {s : ByteArray} {x : St} (w : WfS s x) (h : isO [10] x = true) : lfS s x = lfS s (rd s x) := by
  obtain ⟨t, a, rfl, hk, _⟩ := isO_run h
  exact iter_some (by unfold lf1; rw [h]; rfl) (rd_mu w (by omega))
theorem lf_wf {s : ByteArray} {x : St} (h : WfS s x) : WfS s (lfS s x) :=
  iter_keeps (WfS s) (fun a b ha hb => by unfold lf1 at hb; split at hb <;> cases hb; exact rd_wf ha) x h
end Shp
/-- a parser in a state -/
def SM (p : Nat) (s : ByteArray) (w : World) (x : St) : Prop := StM p s 0 w x ∧ WfS s x
/-- the measure of what is in memory -/
def muW (s : ByteArray) (p : Nat) (w : World) : Nat :=
  match w.cell? ⟨p, 6, none⟩, w.cell? ⟨p, 1, none⟩, w.cell? ⟨p, 2, none⟩, w.cell? ⟨p, 3, none⟩ with
  | some (.int _ e), some (.int _ a), some (.string t), some (.bool b) => if e = 0 then s.size - a.toNat + (if b = false ∧ t.size = 0 then 0 else 1) else 0
  | _, _, _, _ => 0
theorem SM.mu {p : Nat} {s : ByteArray} {w : World} {x : St} (h : SM p s w x) : muW s p w = Shp.mu s x := by
  obtain ⟨h, wf⟩ := h
  unfold muW
  cases x with
  | run t a =>
    obtain ⟨-, c1, c2, c3, -, -, c6, -⟩ := RX.cells h
    obtain ⟨w1, w2, w3, w4, w5, w6⟩ := wf
    rw [c6, c1, c2, c3]
    simp only [if_pos, Int.toNat_natCast, Shp.mu]
    congr 1
    by_cases h0 : t.k = 0
    · rw [if_pos h0, if_pos ⟨by rw [h0]; rfl, by rw [(w4 h0).1]; rfl⟩]
    · rw [if_neg h0, if_neg]
      rintro ⟨h1, h2⟩
      have h3 : t.k = 2 := by simp only [decide_eq_false_iff_not] at h1; omega
      exact w5 h3 (List.length_eq_zero_iff.1 h2)
  | bad e q =>
    obtain ⟨a, tx, wd, bg, ta, h⟩ := h
    obtain ⟨-, c1, c2, c3, -, -, c6, -⟩ := RX.cells h
    rw [c6, c1, c2, c3]
    simp only
    rw [if_neg (by have := wf.1; omega)]; rfl
theorem SM.same {p : Nat} {s : ByteArray} {w w' : World} {x : St} (h : SM p s w x) (e : w'.heap[p]? = w.heap[p]?) : SM p s w' x := by
  refine ⟨?_, h.2⟩
  have h1 := h.1
  cases x with
  | run t a => exact RX.keep h1 e
  | bad er q => obtain ⟨a, tx, wd, bg, ta, h⟩ := h1; exact ⟨a, tx, wd, bg, ta, h.keep e⟩
theorem next_st (p : Nat) (s : ByteArray) (x : St) (w0 w : World) (h : SM p s w0 x) (hw : SameW w0 w) (hs : s.size ≤ 8192) :
    Calls Tryd.prog 19 #[.pointer (some ⟨p, 0, none⟩)] w fun e w' => e = .returned (.tuple #[]) ∧ Hid (SM p s w' (rd s x)) ∧ Hid (Gr p w0 w') := by
  cases x with
  | run t a => exact (next_run p s a _ _ _ _ 0 w (RX.keep h.1 (by rw [hw.1])) hs h.2.1).mono fun e w' ⟨h1, h2, h3⟩ => ⟨h1, Lib.hid ⟨h2.out, rd_wf h.2⟩, Lib.hid (gr_same h3.out hw)⟩
  | bad er q =>
    obtain ⟨⟨a, tx, wd, bg, ta, h1⟩, h2⟩ := h
    exact (next_bad p s a tx wd bg ta er q w (h1.keep (by rw [hw.1])) (by have := h2.1; omega)).mono fun e w' ⟨e1, e2⟩ => ⟨e1, by subst e2; exact Lib.hid ⟨⟨a, tx, wd, bg, ta, h1.keep (by rw [hw.1])⟩, h2⟩, by subst e2; exact Lib.hid (gr_same (gr_refl p w) hw)⟩
theorem fail_st (p : Nat) (s : ByteArray) (x : St) (e1 q1 : Int) (w0 w : World) (h : SM p s w0 x) (hw : SameW w0 w) (he : e1 = 1 ∨ e1 = 3) (hq : ∀ t a, x = .run t a → q1 = (t.a : Int)) :
    Calls Tryd.prog 45 #[.pointer (some ⟨p, 0, none⟩), .int .i64 e1, .int .i64 q1] w fun e w' => e = .returned (.tuple #[]) ∧ Hid (SM p s w' (failS e1 x)) ∧ Hid (Gr p w0 w') := by
  cases x with
  | run t a =>
    obtain rfl := hq t a rfl
    exact (fail_run p s a _ _ _ _ 0 e1 _ w (RX.keep h.1 (by rw [hw.1]))).mono fun e w' ⟨h1, h2, h3⟩ => ⟨h1, Lib.hid ⟨⟨_, _, _, _, _, h2.out⟩, fail_wf h.2 he⟩, Lib.hid (gr_same h3.out hw)⟩
  | bad er q =>
    obtain ⟨⟨a, tx, wd, bg, ta, h1⟩, h2⟩ := h
    exact (fail_bad p s a tx wd bg ta er q e1 q1 w (h1.keep (by rw [hw.1])) (by have := h2.1; omega)).mono fun e w' ⟨e1, e2⟩ => ⟨e1, by subst e2; exact Lib.hid ⟨⟨a, tx, wd, bg, ta, h1.keep (by rw [hw.1])⟩, h2⟩, by subst e2; exact Lib.hid (gr_same (gr_refl p w) hw)⟩
/-- what is answers -/
def isB (o : List UInt8) : St → Bool
  | .run t _ => !decide (t.k = 1) && decide (t.t = o)
  | .bad _ _ => false
theorem isB_isO {s : ByteArray} {o : List UInt8} {x : St} (h : WfS s x) (ho : o ≠ []) : isB o x = isO o x := by
  cases x with
  | bad e q => rfl
  | run t a =>
    obtain ⟨w1, w2, w3, w4, w5, w6⟩ := h
    simp only [isB, isO]
    by_cases e : t.t = o
    · rw [decide_eq_true e, Bool.and_true, Bool.and_true]
      by_cases k0 : t.k = 0
      · exact absurd ((w4 k0).1 ▸ e).symm ho
      · by_cases k1 : t.k = 1
        · rw [decide_eq_true k1, decide_eq_false (by omega)]; rfl
        · rw [decide_eq_false k1, decide_eq_true (show t.k = 2 by omega)]; rfl
    · rw [decide_eq_false e, Bool.and_false, Bool.and_false]
theorem isB_end {s : ByteArray} {x : St} (h : WfS s x) : isB [] x = endB x := by
  cases x with
  | bad e q => rfl
  | run t a =>
    obtain ⟨w1, w2, w3, w4, w5, w6⟩ := h
    simp only [isB, endB]
    by_cases k0 : t.k = 0
    · rw [k0, (w4 k0).1]; rfl
    · rw [decide_eq_false k0]
      by_cases k1 : t.k = 1
      · rw [k1]; rfl
      · rw [decide_eq_false (w5 (by omega)), Bool.and_false]
set_option maxHeartbeats 2000000 in
theorem is_any (p : Nat) (s : ByteArray) (a : Int) (tx : ByteArray) (wd bg : Bool) (ta er po : Int) (o : ByteArray) (w : World) (h : RX p s a tx wd bg ta er po w) :
    Calls Tryd.prog 21 #[.pointer (some ⟨p, 0, none⟩), .string o] w fun e w' => e = .returned (.bool (decide (er = 0) && !wd && (tx.toList == o.toList))) ∧ SameW w w' := by
  obtain ⟨-, -, c2, c3, -, -, c6, -⟩ := h.cells
  clear h
  by_cases he : er = 0
  · subst he
    cases wd with
    | false =>
      go_enter Tryd.func21, Tryd.ntmps21
      go_wp2_with (fail)
      repeat (go_region; go_wp2_with (fail))
      go_ret
      exact ⟨rfl, rfl, rfl, rfl, rfl⟩
    | true =>
      go_enter Tryd.func21, Tryd.ntmps21
      go_wp2_with (fail)
      repeat (go_region; go_wp2_with (fail))
      go_ret
      exact ⟨rfl, rfl, rfl, rfl, rfl⟩
  · have t : (er == 0) = false := by rw [beq_eq_false_iff_ne]; exact he
    have t2 : decide (er = 0) = false := decide_eq_false he
    clear he
    go_enter Tryd.func21, Tryd.ntmps21
    go_wp2_with (fail)
    repeat (go_region; go_wp2_with (fail))
    go_ret
    exact ⟨by rw [t2]; rfl, rfl, rfl, rfl, rfl⟩
theorem is_st (p : Nat) (s : ByteArray) (x : St) (o : ByteArray) (w0 w : World) (h : SM p s w0 x) (hw : SameW w0 w) {r : Bool} (hr : Hid (isB o.data.toList x = r)) :
    Calls Tryd.prog 21 #[.pointer (some ⟨p, 0, none⟩), .string o] w fun e w' => e = .returned (.bool r) ∧ SameW w0 w' := by
  have hr := hr.out
  have tr : ∀ w', SameW w w' → SameW w0 w' := fun w' e => ⟨e.1.trans hw.1, e.2.1.trans hw.2.1, e.2.2.1.trans hw.2.2.1, e.2.2.2.trans hw.2.2.2⟩
  cases x with
  | run t a =>
    refine (is_any p s a _ _ _ _ 0 0 o w (RX.keep h.1 (by rw [hw.1]))).mono fun e w' ⟨h1, h2⟩ => ⟨?_, tr w' h2⟩
    rw [h1, ← hr, Lib.toList_data, Lib.toList_data]
    congr 2
    unfold isB
    simp only [decide_true, Bool.true_and]
    congr 1
    rw [Bool.eq_iff_iff, beq_iff_eq, decide_eq_true_iff]
  | bad er q =>
    obtain ⟨⟨a, tx, wd, bg, ta, h1⟩, h2⟩ := h
    refine (is_any p s a tx wd bg ta er q o w (h1.keep (by rw [hw.1]))).mono fun e w' ⟨h3, h4⟩ => ⟨?_, tr w' h4⟩
    rw [h3, ← hr, decide_eq_false (by have := h2.1; omega)]
    rfl
theorem same_trans {w0 w1 w2 : World} (h1 : SameW w0 w1) (h2 : SameW w1 w2) : SameW w0 w2 := ⟨h2.1.trans h1.1, h2.2.1.trans h1.2.1, h2.2.2.1.trans h1.2.2.1, h2.2.2.2.trans h1.2.2.2⟩
theorem SM.sameW {p : Nat} {s : ByteArray} {w w' : World} {x : St} (h : SM p s w x) (e : SameW w w') : SM p s w' x := h.same (by rw [e.1])
set_option maxHeartbeats 2000000 in
theorem lines_st (p : Nat) (s : ByteArray) (x : St) (w0 w : World) (h : SM p s w0 x) (hw : SameW w0 w) (hs : s.size ≤ 8192) :
    Calls Tryd.prog 20 #[.pointer (some ⟨p, 0, none⟩)] w fun e w' => e = .returned (.tuple #[]) ∧ Hid (SM p s w' (lfS s x)) ∧ Hid (Gr p w0 w') := by
  have H := Lib.hid (h.sameW hw)
  have G0 := Lib.hid (gr_same (gr_refl p w) hw)
  clear h hw
  go_enter Tryd.func20, Tryd.ntmps20
  go_wp2_with fail
  go_loopw [3] (fun _ wr => ∃ y, Hid (lfS s y = lfS s x) ∧ Hid (SM p s wr y) ∧ Hid (Gr p w0 wr)) (fun _ wr => muW s p wr)
  case atStart => exact ⟨x, Lib.hid rfl, H, G0⟩
  case round =>
    obtain ⟨y, E, L, G⟩ := hrel
    cases hy : isO [10] y with
    | false =>
      have IB : Hid (isB (ByteArray.mk #[10]).data.toList y = false) := Lib.hid ((isB_isO L.out.2 (by decide)).trans hy)
      go_wp2_with (go_at_call 21; refine (is_st p s y _ wr _ L.out (by exact ⟨rfl, rfl, rfl, rfl⟩) IB).mono ?_; rintro e w1 ⟨rfl, S1⟩)
      go_end0
      exact ⟨rfl, Lib.hid (by rw [← E.out, lf_none hy]; exact L.out.sameW S1), Lib.hid (gr_same' G.out S1)⟩
    | true =>
      have IB : Hid (isB (ByteArray.mk #[10]).data.toList y = true) := Lib.hid ((isB_isO L.out.2 (by decide)).trans hy)
      have MU := Lib.hid L.out.mu
      go_wp2_with (first | (go_at_call 21; refine (is_st p s y _ wr _ L.out (by exact ⟨rfl, rfl, rfl, rfl⟩) IB).mono ?_; rintro e w1 ⟨rfl, S1⟩) | (go_at_call 19; refine (next_st p s y wr _ L.out S1 hs).mono ?_; rintro e w2 ⟨rfl, L2, G2⟩))
      go_roundw
      case rel => exact ⟨rd s y, Lib.hid (by rw [← E.out]; exact (lf_step L.out.2 hy).symm), L2, Lib.hid (gr_trans G.out G2.out)⟩
      case measure =>
        rw [MU.out, L2.out.mu]
        obtain ⟨t, a, rfl, hk, -⟩ := isO_run hy
        exact rd_mu L.out.2 (by omega)
set_option maxHeartbeats 2000000 in
theorem kind_st (p : Nat) (s : ByteArray) (x : St) (w0 w : World) (h : SM p s w0 x) (hw : SameW w0 w) {k : Int} (hk : Hid (knd x = k)) :
    Calls Tryd.prog 60 #[.pointer (some ⟨p, 0, none⟩)] w fun e w' => e = .returned (.int .i64 k) ∧ SameW w0 w' := by
  have H := Lib.hid (h.sameW hw)
  have W0 := Lib.hid hw
  obtain ⟨b1, h1⟩ : ∃ b, isO [60] x = b := ⟨_, rfl⟩
  obtain ⟨b2, h2⟩ : ∃ b, isO [62] x = b := ⟨_, rfl⟩
  obtain ⟨b3, h3⟩ : ∃ b, isO [62, 62] x = b := ⟨_, rfl⟩
  have I1 : Hid (isB (ByteArray.mk #[60]).data.toList x = b1) := Lib.hid ((isB_isO h.2 (by decide)).trans h1)
  have I2 : Hid (isB (ByteArray.mk #[62]).data.toList x = b2) := Lib.hid ((isB_isO h.2 (by decide)).trans h2)
  have I3 : Hid (isB (ByteArray.mk #[62, 62]).data.toList x = b3) := Lib.hid ((isB_isO h.2 (by decide)).trans h3)
  have K : Hid (k = if b1 then 1 else if b2 then 2 else if b3 then 3 else 0) := Lib.hid (by rw [← hk.out]; unfold knd; rw [h1, h2, h3])
  clear h hw h1 h2 h3 hk
  cases b1 <;> cases b2 <;> cases b3
  all_goals
    have K := K.out
    simp only [Bool.false_eq_true, if_false, if_true] at K
    subst K
    go_enter Tryd.func60, Tryd.ntmps60
    go_wp2_with (go_at_call 21; (first | (with_reducible refine (is_st p s x _ w _ H.out (by first | exact S1 | exact ⟨rfl, rfl, rfl, rfl⟩) I1).mono ?_) | (with_reducible refine (is_st p s x _ w _ H.out (by first | exact S1 | exact ⟨rfl, rfl, rfl, rfl⟩) I2).mono ?_) | (with_reducible refine (is_st p s x _ w _ H.out (by first | exact S1 | exact ⟨rfl, rfl, rfl, rfl⟩) I3).mono ?_)); rintro e w1 ⟨rfl, S1⟩)
    go_ret
    exact ⟨rfl, same_trans W0.out S1⟩
theorem failS_q {p : Nat} {s : ByteArray} {w : World} {x : St} (h : SM p s w x) : ∃ q : Int, w.cell? ⟨p, 5, none⟩ = some (.int .i64 q) ∧ ∀ t a, x = .run t a → q = (t.a : Int) := by
  obtain ⟨h, -⟩ := h
  cases x with
  | run t a => exact ⟨_, (RX.cells h).2.2.2.2.2.1, fun t' a' e => by cases e; rfl⟩
  | bad e q => obtain ⟨a, tx, wd, bg, ta, h⟩ := h; exact ⟨_, h.cells.2.2.2.2.2.1, fun t' a' e => by cases e⟩
set_option maxHeartbeats 2000000 in
theorem unexp_st (p : Nat) (s : ByteArray) (x : St) (w0 w : World) (h : SM p s w0 x) (hw : SameW w0 w) :
    Calls Tryd.prog 23 #[.pointer (some ⟨p, 0, none⟩)] w fun e w' => e = .returned (.tuple #[]) ∧ Hid (SM p s w' (failS 1 x)) ∧ Hid (Gr p w0 w') := by
  have H := Lib.hid (h.sameW hw)
  have G0 := Lib.hid (gr_same (gr_refl p w) hw)
  clear h hw
  obtain ⟨q, c5, Q⟩ := failS_q H.out
  have Q := Lib.hid Q
  go_enter Tryd.func23, Tryd.ntmps23
  go_wp2_with ((go_at_call 45; refine (fail_st p s x 1 q w _ H.out (by exact ⟨rfl, rfl, rfl, rfl⟩) (.inl rfl) Q.out).mono ?_; rintro e w1 ⟨rfl, L1, G1⟩))
  repeat (go_region; go_wp2_with ((go_at_call 45; refine (fail_st p s x 1 q w _ H.out (by exact ⟨rfl, rfl, rfl, rfl⟩) (.inl rfl) Q.out).mono ?_; rintro e w1 ⟨rfl, L1, G1⟩)))
  go_end0
  exact ⟨rfl, L1, Lib.hid (gr_trans G0.out G1.out)⟩
set_option maxHeartbeats 2000000 in
theorem begins_st (p : Nat) (s : ByteArray) (x : St) (w0 w : World) (h : SM p s w0 x) (hw : SameW w0 w) {r : Bool} (hr : Hid (beg x = r)) :
    Calls Tryd.prog 47 #[.pointer (some ⟨p, 0, none⟩)] w fun e w' => e = .returned (.bool r) ∧ SameW w0 w' := by
  have H := Lib.hid (h.sameW hw)
  have W0 := Lib.hid hw
  clear h hw
  cases x with
  | bad er q =>
    obtain ⟨⟨a, tx, wd, bg, ta, h1⟩, h2⟩ := H.out
    obtain ⟨-, -, -, c3, -, -, c6, -⟩ := h1.cells
    have t : (er == 0) = false := by rw [beq_eq_false_iff_ne]; have := h2.1; omega
    obtain rfl := hr.out
    clear h1 h2
    go_enter Tryd.func47, Tryd.ntmps47
    go_wp2_with fail
    go_ret
    exact ⟨rfl, W0.out⟩
  | run t a =>
    obtain ⟨-, -, -, c3, -, -, c6, -⟩ := RX.cells H.out.1
    by_cases h1 : t.k = 1
    · obtain rfl : r = true := by rw [← hr.out]; simp [beg, h1]
      rw [decide_eq_true h1] at c3
      go_enter Tryd.func47, Tryd.ntmps47
      go_wp2_with (fail)
      repeat (go_region; go_wp2_with (fail))
      go_ret
      exact ⟨rfl, W0.out⟩
    · rw [decide_eq_false h1] at c3
      obtain ⟨k, hk⟩ : ∃ k, knd (.run t a) = k := ⟨_, rfl⟩
      have KK := Lib.hid hk
      have R : r = decide (0 < k) := by rw [← hr.out, ← hk]; simp [beg, h1]
      clear hk
      cases r with
      | true =>
        have k0 : decide (0 < k) = true := R.symm
        clear R
        go_enter Tryd.func47, Tryd.ntmps47
        go_wp2_with ((go_at_call 60; refine (kind_st p s (.run t a) w _ H.out (by exact ⟨rfl, rfl, rfl, rfl⟩) KK).mono ?_; rintro e w1 ⟨rfl, S1⟩))
        repeat (go_region; go_wp2_with ((go_at_call 60; refine (kind_st p s (.run t a) w _ H.out (by exact ⟨rfl, rfl, rfl, rfl⟩) KK).mono ?_; rintro e w1 ⟨rfl, S1⟩)))
        go_ret
        exact ⟨rfl, same_trans W0.out S1⟩
      | false =>
        have k0 : decide (0 < k) = false := R.symm
        clear R
        go_enter Tryd.func47, Tryd.ntmps47
        go_wp2_with ((go_at_call 60; refine (kind_st p s (.run t a) w _ H.out (by exact ⟨rfl, rfl, rfl, rfl⟩) KK).mono ?_; rintro e w1 ⟨rfl, S1⟩))
        repeat (go_region; go_wp2_with ((go_at_call 60; refine (kind_st p s (.run t a) w _ H.out (by exact ⟨rfl, rfl, rfl, rfl⟩) KK).mono ?_; rintro e w1 ⟨rfl, S1⟩)))
        go_ret
        exact ⟨rfl, same_trans W0.out S1⟩
end Go.Proofs.YtlhagpfpcdedpaaDoor
