/- walks: the law of reads (written by gen_jj.py) -/
import Derived.Test.YtlhagpfpcdedpaaDoorJi
import Derived.Test.YtlhagpfpcdedpaaDoorHs
import Derived.Test.YtlhagpfpcdedpaaDoorJb
namespace Go.Proofs.YtlhagpfpcdedpaaDoor
open Go.RowKit
open Shp
theorem new_c1 (w : World) (v : Value) (T : TypeId) : (w.alloc (.cells #[v] T)).cell? ⟨w.heap.size, 0, none⟩ = some v := blk_cell (heap_alloc_new w _) 0
theorem bytesL (l : List UInt8) : (ByteArray.mk l.toArray).data.toList = l := rfl
set_option maxRecDepth 100000 in
set_option maxHeartbeats 4000000 in
theorem law_reads0 (s : ByteArray) (m : Int) (w : World) (hm : w.cell? ⟨0, 0, none⟩ = some (.int .i64 m)) :
    Calls Tryd.prog 8 #[.string s] w fun e w' => e = .returned (.bool true) ∧ Hid (Below w.heap.size w w') := by
  have HM := Lib.hid hm
  clear hm
  obtain ⟨p, e, po, hp⟩ : ∃ p e po, paR s = (p, e, po) := ⟨_, _, _, rfl⟩
  have PR := Lib.hid hp
  obtain ⟨np, hnp⟩ : ∃ n, p.length = n := ⟨_, rfl⟩
  have HL := Lib.hid hnp
  by_cases he : e = 0
  · subst he
    have SZ := Lib.hid (paR_sz hp)
    have ck := paR_valid hp
    have CH := Lib.hid ck
    obtain ⟨t, ht⟩ : ∃ t, scT p = t := ⟨_, rfl⟩
    have HT := Lib.hid ht
    clear hp hnp ht
    by_cases h8 : 8192 < t.length
    · have PRH : Hid (ByteArray.mk (prR p).1.toArray = ⟨#[]⟩ ∧ (prR p).2 = 3) := Lib.hid (by unfold prR; rw [ck, HT.out, if_pos rfl, if_pos h8]; exact ⟨rfl, rfl⟩)
      clear ck h8
      go_enter Tryd.func8, Tryd.ntmps8
      go_wp2_with (first | (go_at_call 9; with_reducible refine (parse_is _ _ PR).mono ?_; rintro _ w1 ⟨v1, rfl, D1, B1⟩; obtain ⟨a1, c1, rfl, -, -⟩ := D1.out.slice; rw [HL.out] at D1 ⊢; have B1a := Lib.hid ((Below.refl w1.heap.size w1).alloc (Nat.le_refl _) (.cells #[.slice a1 np c1] 24)); have W1 := Lib.hid (B1.out.trans (B1a.out.mono B1.out.size)); have D1a := Lib.hid (D1.out.below B1a.out); have BX := Lib.hid (new_c1 w1 (.slice a1 np c1) 24); have x1 := BX.out) | (go_at_call 15; refine (print_any p _ m _ (kp W1.out HM.out) D1a.out SZ.out PRH).mono ?_; rintro _ w2 ⟨rfl, B2⟩; have W2 := Lib.hid (W1.out.trans (B2.out.mono W1.out.size)); have x2 := kp B2.out BX.out; have D2 := Lib.hid (D1a.out.below B2.out)) | (go_at_call 17; refine (check_any p _ _ D2.out CH).mono ?_; rintro _ w3 ⟨rfl, B3⟩; have W3 := Lib.hid (W2.out.trans (B3.out.mono W2.out.size))) | (go_at_call 12; refine (awake_any m _ (kp W3.out HM.out)).mono ?_; rintro _ w9 ⟨rfl, B9⟩))
      go_ret
      exact ⟨rfl, Lib.hid (W3.out.trans (B9.out.mono W3.out.size))⟩
    · obtain ⟨tx, htx⟩ : ∃ tx, ByteArray.mk t.toArray = tx := ⟨_, rfl⟩
      have PRH : Hid (ByteArray.mk (prR p).1.toArray = tx ∧ (prR p).2 = 0) := Lib.hid (by unfold prR; rw [ck, HT.out, if_pos rfl, if_neg h8]; exact ⟨htx, rfl⟩)
      obtain ⟨q, hq1, hq2⟩ := pa_print (s := tx) (l := p) (by rw [← htx, HT.out]) ck (by rw [← htx]; show t.length ≤ 8192; omega)
      have PR2 := Lib.hid hq1
      have HR := Lib.hid (same_plain hq2)
      obtain ⟨nq, hnq⟩ : ∃ n, q.length = n := ⟨_, rfl⟩
      have HL2 := Lib.hid hnq
      clear ck h8 htx hq1 hq2 hnq
      go_enter Tryd.func8, Tryd.ntmps8
      go_wp2_with (first | (go_at_call 9; with_reducible refine (parse_is _ _ PR).mono ?_; rintro _ w1 ⟨v1, rfl, D1, B1⟩; obtain ⟨a1, c1, rfl, -, -⟩ := D1.out.slice; rw [HL.out] at D1 ⊢; have B1a := Lib.hid ((Below.refl w1.heap.size w1).alloc (Nat.le_refl _) (.cells #[.slice a1 np c1] 24)); have W1 := Lib.hid (B1.out.trans (B1a.out.mono B1.out.size)); have D1a := Lib.hid (D1.out.below B1a.out); have BX := Lib.hid (new_c1 w1 (.slice a1 np c1) 24); have x1 := BX.out) | (go_at_call 15; refine (print_any p _ m _ (kp W1.out HM.out) D1a.out SZ.out PRH).mono ?_; rintro _ w2 ⟨rfl, B2⟩; have W2 := Lib.hid (W1.out.trans (B2.out.mono W1.out.size)); have x2 := kp B2.out BX.out; have D2 := Lib.hid (D1a.out.below B2.out)) | (go_at_call 9; with_reducible refine (parse_is _ _ PR2).mono ?_; rintro _ w3 ⟨v2, rfl, D3, B3⟩; obtain ⟨a2, c2, rfl, -, -⟩ := D3.out.slice; rw [HL2.out] at D3 ⊢; have B3a := Lib.hid ((Below.refl w3.heap.size w3).alloc (Nat.le_refl _) (.cells #[.slice a2 nq c2] 24)); have W3 := Lib.hid ((W2.out.trans (B3.out.mono W2.out.size)).trans (B3a.out.mono (W2.out.trans (B3.out.mono W2.out.size)).size)); have D3a := Lib.hid (D3.out.below B3a.out); have B23 := Lib.hid (B3.out.trans (B3a.out.mono B3.out.size)); have x3 := kp B23.out x2; have D2a := Lib.hid (D2.out.below B23.out); have BY := Lib.hid (new_c1 w3 (.slice a2 nq c2) 24)) | (go_at_call 17; refine (check_any p _ _ D2a.out CH).mono ?_; rintro _ w4 ⟨rfl, B4⟩; have W4 := Lib.hid (W3.out.trans (B4.out.mono W3.out.size)); have x4 := kp B4.out x3; have y4 := kp B4.out BY.out; have D4a := Lib.hid (D2a.out.below B4.out); have D4b := Lib.hid (D3a.out.below B4.out)) | (go_at_call 11; refine (same_pipelines p q _ _ 0 false _ D4a.out D4b.out HR).mono ?_; rintro _ w5 ⟨rfl, B5⟩; have W5 := Lib.hid (W4.out.trans (B5.out.mono W4.out.size))) | (go_at_call 12; refine (awake_any m _ (kp W5.out HM.out)).mono ?_; rintro _ w9 ⟨rfl, B9⟩))
      go_ret
      exact ⟨rfl, Lib.hid (W5.out.trans (B9.out.mono W5.out.size))⟩
  · obtain ⟨h0, hq⟩ := paR_err hp he
    subst h0
    obtain rfl : np = 0 := hnp.symm
    have h1 : (e == 0) = false := by rw [beq_eq_false_iff_ne]; exact he
    have h2 : (e != 0) = true := by rw [bne, h1]; rfl
    clear hp hnp he
    rcases hq with ⟨q1, q2, q3⟩ | ⟨rfl, rfl, q3⟩
    · go_enter Tryd.func8, Tryd.ntmps8
      go_wp2_with (first | (go_at_call 9; with_reducible refine (parse_is _ _ PR).mono ?_; rintro _ w1 ⟨v1, rfl, D1, B1⟩; obtain ⟨a1, c1, rfl, -, -⟩ := D1.out.slice; simp only [List.length_nil] at D1 ⊢; have B1a := Lib.hid ((Below.refl w1.heap.size w1).alloc (Nat.le_refl _) (.cells #[.slice a1 0 c1] 24)); have W1 := Lib.hid (B1.out.trans (B1a.out.mono B1.out.size)); have D1a := Lib.hid (D1.out.below B1a.out); have BX := Lib.hid (new_c1 w1 (.slice a1 0 c1) 24); have x1 := BX.out) | (go_at_call 12; refine (awake_any m _ (kp W1.out HM.out)).mono ?_; rintro _ w9 ⟨rfl, B9⟩))
      go_ret
      exact ⟨rfl, Lib.hid (W1.out.trans (B9.out.mono W1.out.size))⟩
    · have q4 : ¬ ((8192 : Int) ≤ (s.size : Int) ∧ s.size ≤ 8192) := by omega
      have q5 : ¬ (s.size ≤ 8192) := by omega
      go_enter Tryd.func8, Tryd.ntmps8
      go_wp2_with (first | (go_at_call 9; with_reducible refine (parse_is _ _ PR).mono ?_; rintro _ w1 ⟨v1, rfl, D1, B1⟩; obtain ⟨a1, c1, rfl, -, -⟩ := D1.out.slice; simp only [List.length_nil] at D1 ⊢; have B1a := Lib.hid ((Below.refl w1.heap.size w1).alloc (Nat.le_refl _) (.cells #[.slice a1 0 c1] 24)); have W1 := Lib.hid (B1.out.trans (B1a.out.mono B1.out.size)); have D1a := Lib.hid (D1.out.below B1a.out); have BX := Lib.hid (new_c1 w1 (.slice a1 0 c1) 24); have x1 := BX.out) | (go_at_call 12; refine (awake_any m _ (kp W1.out HM.out)).mono ?_; rintro _ w9 ⟨rfl, B9⟩))
      go_ret
      exact ⟨rfl, Lib.hid (W1.out.trans (B9.out.mono W1.out.size))⟩
theorem law_reads (s : ByteArray) (m : Int) (w : World) (hm : w.cell? ⟨0, 0, none⟩ = some (.int .i64 m)) :
    Calls Tryd.prog 8 #[.string s] w fun e w' => e = .returned (.bool true) ∧ Below w.heap.size w w' := (law_reads0 s m w hm).mono fun _ _ h => ⟨h.1, h.2.out⟩
end Go.Proofs.YtlhagpfpcdedpaaDoor
