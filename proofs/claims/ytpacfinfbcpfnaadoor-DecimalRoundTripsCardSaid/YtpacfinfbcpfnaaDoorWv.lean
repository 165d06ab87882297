/- walks: the law of round trips -/
import Derived.Test.YtpacfinfbcpfnaaDoorWq
import Derived.Test.YtpacfinfbcpfnaaDoorByt8
namespace Go.Proofs.YtpacfinfbcpfnaaDoor
open Go.RowKit
open Dcm Byt
theorem ba_eta (s : ByteArray) : (⟨s.data.toList.toArray⟩ : ByteArray) = s := by
  obtain ⟨⟨l⟩⟩ := s; rfl
theorem format_str (a : Int) (s : ByteArray) (w : World) (ht : Tab w) (hv : fmtL a = s.data.toList) :
    Calls Tryd.prog 18 #[.int .i64 a] w fun x w' => x = .returned (.string s) ∧ Below w.heap.size w w' := by
  have h := format_at a _ w ht hv
  rw [ba_eta] at h; exact h
theorem fmt_size (d : Int) (t : ByteArray) (h : fmtL d = t.data.toList) : t.size ≤ 9223372036854775807 := by
  have h1 := near_lo d
  have h2 := near_hi d
  have hA : (near d).natAbs ≤ 10000000000000 := by omega
  have e1 := dec_size ((near d).natAbs / 10000) (by omega)
  rw [size_len, ← h]
  unfold fmtL
  have e2 := (trim_keep _ (low 4 ((near d).natAbs % 10000)) rfl).2.2.1
  rw [low_length] at e2
  simp only [List.length_append]
  have e3 : (if near d < 0 then [(45 : UInt8)] else []).length ≤ 1 := by split <;> simp
  have e4 : (if (near d).natAbs % 10000 = 0 then [] else 46 :: trimZ (low 4 ((near d).natAbs % 10000))).length ≤ 5 := by
    split
    · simp
    · simp; omega
  omega
theorem valid_is (d : Int) (w : World) (h : vldB d = true) : Calls Tryd.prog 20 #[.int .i64 d] w fun e w' => e = .returned (.bool true) ∧ w = w' := by rw [← h]; exact valid_any d w
set_option maxHeartbeats 4000000 in
theorem law_round (d : Int) (s : ByteArray) (w : World) (h : Env w) (hs : s.size ≤ 9223372036854775807) :
    Calls Tryd.prog 5 #[.int .i64 d, .string s] w fun e w' => e = .returned (.bool true) ∧ Below w.heap.size w w' := by
  have H := Lib.hid h; clear h
  have S := Lib.hid hs; clear hs
  obtain ⟨a, ha⟩ : ∃ a, parseV s.data.toList = a := ⟨_, rfl⟩
  obtain ⟨x, hx⟩ : ∃ x, parseE s.data.toList = x := ⟨_, rfl⟩
  by_cases h0 : x = 0
  · subst h0
    obtain ⟨f1, f2⟩ := parse_back _ hx
    rw [ha] at f1 f2
    have P := Lib.hid (And.intro ha hx); clear ha hx
    have F := Lib.hid f1; clear f1
    have V := Lib.hid f2; clear f2
    by_cases hd : -10000000000000 ≤ d ∧ d ≤ 10000000000000
    · obtain ⟨d1, d2⟩ := hd
      obtain ⟨l, B⟩ := fmt_back d d1 d2
      obtain ⟨t, ht⟩ : ∃ t : ByteArray, t.data.toList = l := ⟨⟨l.toArray⟩, rfl⟩
      have HB : Hid (Back d t.data.toList) := Lib.hid (by rw [ht]; exact B)
      clear B ht
      have TS := Lib.hid (fmt_size d t HB.out.fm)
      have TN : Hid (((preN t.data.toList : Nat) : Int) = (t.size : Int)) := Lib.hid (by rw [HB.out.qn, ← size_len])
      go_enter Tryd.func5, Tryd.ntmps5
      go_wp2_with (first
        | (go_at_call 14; (first | (with_reducible refine (parse_at s a 0 _ S.out P.out).mono ?_) | (with_reducible refine (parse_at t d 0 _ TS.out ⟨HB.out.pv, HB.out.pe⟩).mono ?_)); rintro e w' ⟨rfl, rfl⟩)
        | (go_at_call 16; with_reducible refine (prefix_at t d (t.size : Int) _ TS.out ⟨HB.out.qv, TN.out⟩).mono ?_; rintro e w' ⟨rfl, rfl⟩)
        | (go_at_call 20; refine (valid_is _ _ V.out).mono ?_; rintro e w' ⟨rfl, rfl⟩)
        | (go_at_call 18; (first | (with_reducible refine (format_str a s _ H.out.t F.out).mono ?_; rintro e w1 ⟨rfl, hb1⟩) | (with_reducible refine (format_str d t _ (H.out.below hb1).t HB.out.fm).mono ?_; rintro e w2 ⟨rfl, hb2⟩)))
        | (go_at_call 13; refine (awake_any _ ((H.out.below hb1).below hb2)).mono ?_; rintro e w3 ⟨rfl, hb3⟩))
      go_ret
      exact ⟨rfl, hb1.trans ((hb2.mono hb1.size).trans (hb3.mono (Nat.le_trans hb1.size hb2.size)))⟩
    · go_enter Tryd.func5, Tryd.ntmps5
      go_wp2_with (first
        | (go_at_call 14; with_reducible refine (parse_at s a 0 _ S.out P.out).mono ?_; rintro e w' ⟨rfl, rfl⟩)
        | (go_at_call 20; refine (valid_is _ _ V.out).mono ?_; rintro e w' ⟨rfl, rfl⟩)
        | (go_at_call 18; with_reducible refine (format_str a s _ H.out.t F.out).mono ?_; rintro e w1 ⟨rfl, hb1⟩)
        | (go_at_call 13; refine (awake_any _ (H.out.below hb1)).mono ?_; rintro e w3 ⟨rfl, hb3⟩))
      all_goals go_ret
      all_goals exact ⟨rfl, hb1.trans (hb3.mono hb1.size)⟩
  · have h0' : (x == 0) = false := by rw [beq_eq_false_iff_ne]; exact h0
    have P := Lib.hid (And.intro ha hx); clear ha hx h0
    by_cases hd : -10000000000000 ≤ d ∧ d ≤ 10000000000000
    · obtain ⟨d1, d2⟩ := hd
      obtain ⟨l, B⟩ := fmt_back d d1 d2
      obtain ⟨t, ht⟩ : ∃ t : ByteArray, t.data.toList = l := ⟨⟨l.toArray⟩, rfl⟩
      have HB : Hid (Back d t.data.toList) := Lib.hid (by rw [ht]; exact B)
      clear B ht
      have TS := Lib.hid (fmt_size d t HB.out.fm)
      have TN : Hid (((preN t.data.toList : Nat) : Int) = (t.size : Int)) := Lib.hid (by rw [HB.out.qn, ← size_len])
      go_enter Tryd.func5, Tryd.ntmps5
      go_wp2_with (first
        | (go_at_call 14; (first | (with_reducible refine (parse_at s a x _ S.out P.out).mono ?_) | (with_reducible refine (parse_at t d 0 _ TS.out ⟨HB.out.pv, HB.out.pe⟩).mono ?_)); rintro e w' ⟨rfl, rfl⟩)
        | (go_at_call 16; with_reducible refine (prefix_at t d (t.size : Int) _ TS.out ⟨HB.out.qv, TN.out⟩).mono ?_; rintro e w' ⟨rfl, rfl⟩)
        | (go_at_call 18; with_reducible refine (format_str d t _ H.out.t HB.out.fm).mono ?_; rintro e w2 ⟨rfl, hb2⟩)
        | (go_at_call 13; refine (awake_any _ (H.out.below hb2)).mono ?_; rintro e w3 ⟨rfl, hb3⟩))
      go_ret
      exact ⟨rfl, hb2.trans (hb3.mono hb2.size)⟩
    · go_enter Tryd.func5, Tryd.ntmps5
      go_wp2_with (first
        | (go_at_call 14; with_reducible refine (parse_at s a x _ S.out P.out).mono ?_; rintro e w' ⟨rfl, rfl⟩)
        | (go_at_call 13; refine (awake_any _ H.out).mono ?_; rintro e w3 ⟨rfl, hb3⟩))
      all_goals go_ret
      all_goals exact ⟨rfl, hb3⟩
end Go.Proofs.YtpacfinfbcpfnaaDoor
