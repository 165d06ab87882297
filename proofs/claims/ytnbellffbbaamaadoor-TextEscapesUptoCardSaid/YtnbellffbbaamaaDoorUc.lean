/- walks: the law on Escape -/
import Derived.Test.YtnbellffbbaamaaDoorTd
import Derived.Test.YtnbellffbbaamaaDoorUb
import Derived.Test.YtnbellffbbaamaaDoorUplain
namespace Go.Proofs.YtnbellffbbaamaaDoor
open Go.RowKit
open Tx
/-- what is known of the escaped text t of s -/
structure EscF (s t : ByteArray) : Prop where
  is : t = ⟨(esc s.data.toList).toArray⟩
  print : ∀ (j : Nat) (h : j < t.size), 32 ≤ t[j].toNat ∧ t[j].toNat ≤ 126
  size : t.size ≤ 4 * s.size
  same : (t.size = s.size) ↔ (t = s)
theorem EscF.mk' (s : ByteArray) : EscF s ⟨(esc s.data.toList).toArray⟩ where
  is := rfl
  print := fun j h => by
    apply esc_print s.data.toList
    rw [← List.mem_toArray]
    exact Array.getElem_mem h
  size := by
    have := esc_len s.data.toList
    rw [← size_len] at this
    exact this
  same := by
    have h := (esc_ge s.data.toList).2
    rw [← size_len] at h
    constructor
    · intro e
      have e' := h e
      rw [e']
    · intro e
      exact congrArg ByteArray.size e
theorem escape_is (s t : ByteArray) (w : World) (hs : s.size ≤ 1048576) (F : EscF s t) :
    Calls Tryd.prog 25 #[.string s] w fun e w' => e = .returned (.string t) ∧ Below w.heap.size w w' := by
  rw [F.is]; exact escape_any s w hs
theorem rescape_is (s t : ByteArray) (w : World) (hs : s.size ≤ 1048576) (F : EscF s t) :
    Calls Tryd.prog 26 #[.string s] w fun e w' => e = .returned (.string t) ∧ Below w.heap.size w w' := by
  rw [F.is]; exact rescape_any s w hs
theorem unescape_back (s t : ByteArray) (w : World) (hs : s.size ≤ 1048576) (F : EscF s t) :
    Calls Tryd.prog 20 #[.string t] w fun e w' => e = .returned (.tuple #[.string s, .int .i64 0, .int .i64 0]) ∧ Below w.heap.size w w' := by
  have h := unescape_any t w (by have := F.size; omega)
  have e : unesc t.data.toList = .ok s.data.toList := by rw [F.is]; exact unesc_esc _
  rw [e] at h; exact h
set_option maxHeartbeats 2000000 in
theorem law_escapes (s : ByteArray) (m : Int) (w : World) (hm : w.cell? ⟨0, 0, none⟩ = some (.int .i64 m)) (hs : s.size ≤ 1048576) :
    Calls Tryd.prog 10 #[.string s] w fun e w' => e = .returned (.bool true) ∧ Below w.heap.size w w' := by
  have H := Lib.hid hm; clear hm
  have S := Lib.hid hs; clear hs
  obtain ⟨t, F⟩ : ∃ t, Hid (EscF s t) := ⟨_, Lib.hid (EscF.mk' s)⟩
  have T : Hid (t.size ≤ 4194304) := Lib.hid (by have := F.out.size; have := S.out; omega)
  by_cases E : t = s
  · subst E
    go_enter Tryd.func10, Tryd.ntmps10
    go_wp2_with (go_at_call 25; refine (escape_is t t _ S.out F.out).mono ?_; rintro e w1 ⟨rfl, hb1⟩)
    go_loopw [4] (fun i wr => ∃ (j : Nat), i = .int .i64 j ∧ j ≤ t.size ∧ wr = w1) (fun i _ => t.size - (intOf i).toNat)
    case atStart => exact ⟨0, rfl, by omega, rfl⟩
    case round =>
      obtain ⟨j, rfl, js, rfl⟩ := hrel
      by_cases hlt : j < t.size
      · obtain ⟨p1, p2⟩ := F.out.print j hlt
        have T8 := T.out
        go_wp2_with fail
        go_roundw
        case rel => exact ⟨j + 1, by go_num, by omega, trivial⟩
        case measure => simp [intOf]; omega
      · go_wp2_with (first
          | (go_at_call 20; refine (unescape_back t t _ S.out F.out).mono ?_; rintro e w2 ⟨rfl, hb2⟩)
          | (go_at_call 26; refine (rescape_is t t _ S.out F.out).mono ?_; rintro e w3 ⟨rfl, hb3⟩)
          | (go_at_call 13; refine (awake_any m _ (max_below (max_below (max_below H.out hb1) hb2) hb3)).mono ?_; rintro e w4 ⟨rfl, hb4⟩))
        go_ret
        exact ⟨rfl, hb1.trans ((hb2.trans ((hb3.trans (hb4.mono hb3.size)).mono hb2.size)).mono hb1.size)⟩
  · have n1 : ((t.size : Int) == (s.size : Int)) = false := by
      rw [beq_eq_false_iff_ne]; intro e; exact E (F.out.same.1 (by omega))
    have n2 : (t.toList == s.toList) = false := by
      rw [Lib.toList_data, Lib.toList_data, beq_eq_false_iff_ne]; intro e; apply E
      obtain ⟨⟨l⟩⟩ := t; obtain ⟨⟨r⟩⟩ := s; simp only at e; rw [e]
    go_enter Tryd.func10, Tryd.ntmps10
    go_wp2_with (go_at_call 25; refine (escape_is s t _ S.out F.out).mono ?_; rintro e w1 ⟨rfl, hb1⟩)
    go_loopw [4] (fun i wr => ∃ (j : Nat), i = .int .i64 j ∧ j ≤ t.size ∧ wr = w1) (fun i _ => t.size - (intOf i).toNat)
    case atStart => exact ⟨0, rfl, by omega, rfl⟩
    case round =>
      obtain ⟨j, rfl, js, rfl⟩ := hrel
      by_cases hlt : j < t.size
      · obtain ⟨p1, p2⟩ := F.out.print j hlt
        have T8 := T.out
        go_wp2_with fail
        go_roundw
        case rel => exact ⟨j + 1, by go_num, by omega, trivial⟩
        case measure => simp [intOf]; omega
      · go_wp2_with (first
          | (go_at_call 20; refine (unescape_back s t _ S.out F.out).mono ?_; rintro e w2 ⟨rfl, hb2⟩)
          | (go_at_call 26; refine (rescape_is s t _ S.out F.out).mono ?_; rintro e w3 ⟨rfl, hb3⟩)
          | (go_at_call 13; refine (awake_any m _ (max_below (max_below (max_below H.out hb1) hb2) hb3)).mono ?_; rintro e w4 ⟨rfl, hb4⟩))
        go_ret
        exact ⟨rfl, hb1.trans ((hb2.trans ((hb3.trans (hb4.mono hb3.size)).mono hb2.size)).mono hb1.size)⟩
end Go.Proofs.YtnbellffbbaamaaDoor
