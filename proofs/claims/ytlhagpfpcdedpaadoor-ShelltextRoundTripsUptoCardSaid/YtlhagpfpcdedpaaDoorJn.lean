/- walks: the law of round trips (written by gen_jm.py) -/
import Derived.Test.YtlhagpfpcdedpaaDoorJj
import Derived.Test.YtlhagpfpcdedpaaDoorJl
namespace Go.Proofs.YtlhagpfpcdedpaaDoor
open Go.RowKit
open Shp
set_option maxRecDepth 100000 in
set_option maxHeartbeats 4000000 in
theorem law_trips0 (l : List Pl) (v : Value) (m : Int) (w : World) (hm : w.cell? ⟨0, 0, none⟩ = some (.int .i64 m)) (h : PlsD w v l) (hz : SzL l) :
    Calls Tryd.prog 7 #[.agg #[v]] w fun e w' => e = .returned (.bool true) ∧ Hid (Below w.heap.size w w') := by
  have B0 := Lib.hid ((Below.refl w.heap.size w).alloc (Nat.le_refl _) (.cells #[v] 24))
  have HM := Lib.hid (kp B0.out hm)
  have D1 := Lib.hid (h.below B0.out)
  have BX := Lib.hid (new_c1 w v 24)
  have SZ := Lib.hid hz
  obtain ⟨ch, hch⟩ : ∃ c, chk l = c := ⟨_, rfl⟩
  have CH := Lib.hid hch
  obtain ⟨t, ht⟩ : ∃ t, scT l = t := ⟨_, rfl⟩
  have HT := Lib.hid ht
  clear hm h hz hch ht
  by_cases hc0 : ch = 0
  · subst hc0
    by_cases h8 : 8192 < t.length
    · have PRH : Hid (ByteArray.mk (prR l).1.toArray = ⟨#[]⟩ ∧ (prR l).2 = 3) := Lib.hid (by unfold prR; rw [CH.out, HT.out, if_pos rfl, if_pos h8]; exact ⟨rfl, rfl⟩)
      clear h8
      go_enter Tryd.func7, Tryd.ntmps7
      go_wp2_with (first | (go_at_call 15; refine (print_any l _ m _ HM.out D1.out SZ.out PRH).mono ?_; rintro _ w1 ⟨rfl, B1⟩; have x1 := kp B1.out BX.out; have D2 := Lib.hid (D1.out.below B1.out)) | (go_at_call 17; refine (check_any l _ _ D2.out CH).mono ?_; rintro _ w2 ⟨rfl, B2⟩; have B12 := Lib.hid (B1.out.trans (B2.out.mono B1.out.size))) | (go_at_call 12; refine (awake_any m _ (kp B12.out HM.out)).mono ?_; rintro _ w9 ⟨rfl, B9⟩))
      go_ret
      exact ⟨rfl, Lib.hid (B0.out.trans ((B12.out.trans (B9.out.mono B12.out.size)).mono B0.out.size))⟩
    · obtain ⟨tx, htx⟩ : ∃ tx, ByteArray.mk t.toArray = tx := ⟨_, rfl⟩
      have PRH : Hid (ByteArray.mk (prR l).1.toArray = tx ∧ (prR l).2 = 0) := Lib.hid (by unfold prR; rw [CH.out, HT.out, if_pos rfl, if_neg h8]; exact ⟨htx, rfl⟩)
      have ts : tx.size ≤ 8192 := by rw [← htx]; show t.length ≤ 8192; omega
      obtain ⟨q, hq1, hq2⟩ := pa_print (s := tx) (l := l) (by rw [← htx, HT.out]) CH.out ts
      have PR2 := Lib.hid hq1
      have HR := Lib.hid (same_plain hq2)
      obtain ⟨nq, hnq⟩ : ∃ n, q.length = n := ⟨_, rfl⟩
      have HL2 := Lib.hid hnq
      clear h8 htx hq1 hq2 hnq
      obtain ⟨va, vn, vc, rfl⟩ : ∃ a n c, v = .slice a n c := by obtain ⟨a, c, e, -⟩ := D1.out.slice; exact ⟨_, _, _, e⟩
      go_enter Tryd.func7, Tryd.ntmps7
      go_wp2_with (first | (go_at_call 15; refine (print_any l _ m _ HM.out D1.out SZ.out PRH).mono ?_; rintro _ w1 ⟨rfl, B1⟩; have x1 := kp B1.out BX.out; have D2 := Lib.hid (D1.out.below B1.out)) | (go_at_call 9; with_reducible refine (parse_is _ _ PR2).mono ?_; rintro _ w3 ⟨v2, rfl, D3, B3⟩; obtain ⟨a2, c2, rfl, -, -⟩ := D3.out.slice; rw [HL2.out] at D3 ⊢; have B3a := Lib.hid ((Below.refl w3.heap.size w3).alloc (Nat.le_refl _) (.cells #[.slice a2 nq c2] 24)); have B23 := Lib.hid (B3.out.trans (B3a.out.mono B3.out.size)); have W3 := Lib.hid (B1.out.trans (B23.out.mono B1.out.size)); have x3 := kp B23.out x1; have y3 := new_c1 w3 (.slice a2 nq c2) 24; have DA := Lib.hid (D2.out.below B23.out); have DB := Lib.hid (D3.out.below B3a.out)) | (go_at_call 11; refine (same_pipelines l q _ _ 0 false _ DA.out DB.out HR).mono ?_; rintro _ w5 ⟨rfl, B5⟩; have W5 := Lib.hid (W3.out.trans (B5.out.mono W3.out.size))) | (go_at_call 12; refine (awake_any m _ (kp W5.out HM.out)).mono ?_; rintro _ w9 ⟨rfl, B9⟩))
      go_ret
      exact ⟨rfl, Lib.hid (B0.out.trans ((W5.out.trans (B9.out.mono W5.out.size)).mono B0.out.size))⟩
  · have PRH : Hid (ByteArray.mk (prR l).1.toArray = ⟨#[]⟩ ∧ (prR l).2 = ch) := Lib.hid (by unfold prR; rw [CH.out, if_neg hc0]; exact ⟨rfl, rfl⟩)
    have t0 : (ch == 0) = false := by rw [beq_eq_false_iff_ne]; exact hc0
    have t1 : (ch != 0) = true := by rw [bne, t0]; rfl
    clear hc0
    go_enter Tryd.func7, Tryd.ntmps7
    go_wp2_with (first | (go_at_call 15; refine (print_any l _ m _ HM.out D1.out SZ.out PRH).mono ?_; rintro _ w1 ⟨rfl, B1⟩; have x1 := kp B1.out BX.out; have D2 := Lib.hid (D1.out.below B1.out)) | (go_at_call 17; refine (check_any l _ _ D2.out CH).mono ?_; rintro _ w2 ⟨rfl, B2⟩; have B12 := Lib.hid (B1.out.trans (B2.out.mono B1.out.size))) | (go_at_call 12; refine (awake_any m _ (kp B12.out HM.out)).mono ?_; rintro _ w9 ⟨rfl, B9⟩))
    go_ret
    exact ⟨rfl, Lib.hid (B0.out.trans ((B12.out.trans (B9.out.mono B12.out.size)).mono B0.out.size))⟩
theorem law_trips (l : List Pl) (v : Value) (m : Int) (w : World) (hm : w.cell? ⟨0, 0, none⟩ = some (.int .i64 m)) (h : PlsD w v l) (hs : (l.map szP).sum ≤ 1048576) :
    Calls Tryd.prog 7 #[.agg #[v]] w fun e w' => e = .returned (.bool true) ∧ Below w.heap.size w w' := (law_trips0 l v m w hm h (szL_of hs).1).mono fun _ _ h => ⟨h.1, h.2.out⟩
end Go.Proofs.YtlhagpfpcdedpaaDoor
