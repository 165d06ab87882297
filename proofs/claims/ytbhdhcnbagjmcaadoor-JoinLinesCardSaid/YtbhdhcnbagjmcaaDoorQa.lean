/- walks: names -/
import Derived.Test.YtbhdhcnbagjmcaaDoorRows
import Derived.Test.YtbhdhcnbagjmcaaDoorShelf
import Derived.Test.YtbhdhcnbagjmcaaDoorQplain
import Derived.WalkKit
import Derived.WalkSpells
import Derived.WalkLawsBesides
import Derived.Lib.Hide
namespace Go.Proofs.YtbhdhcnbagjmcaaDoor
open Go.RowKit
open Lcl
theorem take_b (s : ByteArray) (k : Nat) (h : k < s.size) : s.data.toList.take (k + 1) = s.data.toList.take k ++ [s[k]] := by
  rw [List.take_succ_eq_append_getElem (by simpa using h)]; rfl
theorem pre_next (s : ByteArray) (k : Nat) (h : k < s.size) (hp : pre (s.data.toList.take k) = true) : pre (s.data.toList.take (k + 1)) = (lt s[k] || (decide (0 < k) && dgt s[k])) := by
  rw [take_b s k h, pre_snoc, hp, Bool.true_and]
  congr 2
  rw [Bool.eq_iff_iff]
  have hl : (s.data.toList.take k).length = k := by
    have h2 : s.data.toList.length = s.size := rfl
    rw [List.length_take]; omega
  cases e : s.data.toList.take k with
  | nil => rw [e] at hl; simp only [List.length_nil] at hl; subst hl; exact Iff.rfl
  | cons a r => rw [e] at hl; simp only [List.length_cons] at hl; simp only [List.isEmpty_cons, Bool.not_false, decide_eq_true_eq, true_iff]; omega
theorem name_no (s : ByteArray) (k : Nat) (h : pre (s.data.toList.take k) = false) : nameB s.data.toList = false := by
  cases e : nameB s.data.toList with
  | false => rfl
  | true =>
    unfold nameB at e
    simp only [Bool.and_eq_true] at e
    have := pre_take _ k e.1.2
    rw [h] at this; cases this
theorem ret_bool {a b : Bool} (h : a = b) : Ending.returned (.bool a) = .returned (.bool b) := by rw [h]
theorem len_of (s : ByteArray) : s.data.toList.length = s.size := rfl
theorem size_ne (s : ByteArray) : (s.toList == []) = decide (s.size = 0) := by
  rw [Bool.eq_iff_iff, beq_iff_eq, decide_eq_true_eq, Lib.toList_data, ← len_of]; exact List.length_eq_zero_iff.symm
theorem toList_nil {s : ByteArray} (h : s.size = 0) : s.toList = [] := by rw [Lib.toList_data]; exact List.length_eq_zero_iff.1 (by rw [len_of]; exact h)
theorem toList_nil' {s : ByteArray} (h : s.toList = []) : s.size = 0 := by rw [← len_of, ← Lib.toList_data, h]; rfl
theorem name_empty (s : ByteArray) (h : s.size = 0) : nameB s.data.toList = false := by
  have : s.data.toList = [] := List.length_eq_zero_iff.1 (by rw [len_of]; exact h)
  rw [this]; rfl
theorem name_full (s : ByteArray) (h : ¬ s.size = 0) (hp : pre s.data.toList = true) : nameB s.data.toList = decide (s.size ≤ 32) := by
  unfold nameB
  rw [hp, len_of, Bool.and_true]
  cases e : s.data.toList with
  | nil => exact absurd (by rw [← len_of, e]; rfl) h
  | cons a r => rfl
set_option maxHeartbeats 2000000 in
theorem name_any (s : ByteArray) (w : World) (hs : s.size ≤ 9223372036854775807) :
    Calls Tryd.prog 72 #[.string s] w fun e w' => e = .returned (.bool (nameB s.data.toList)) ∧ w = w' := by
  go_enter Tryd.func72, Tryd.ntmps72
  go_wp2
  go_loop [8] (fun i => ∃ k : Nat, k ≤ s.size ∧ i = .int .i64 k ∧ Hid (pre (s.data.toList.take k) = true)) (fun i => s.size - (intOf i).toNat)
  case atStart => exact ⟨0, Nat.zero_le _, rfl, Lib.hid rfl⟩
  case round =>
    obtain ⟨k, hk, rfl, HP⟩ := hrel
    by_cases hlt : k < s.size
    · have HN := Lib.hid (pre_next s k hlt HP.out)
      have h256 := s[k].toNat_lt
      rcases kinds s[k] with h | h | h | h | h | h | h | h
      · have A := Lib.hid ((lt_iff s[k]).2 (.inl h))
        have e1 : ((s[k].toNat : Int) == 95) = true := by rw [h]; rfl
        clear h
        go_wp2
        go_round
        case rel => exact ⟨k + 1, by omega, by go_num, Lib.hid (by rw [HN.out]; rw [A.out]; rfl)⟩
        case measure => simp [intOf]; omega
      · have A := Lib.hid ((lt_iff s[k]).2 (.inr (.inl h)))
        have e1 : ((s[k].toNat : Int) == 95) = false := by rw [beq_eq_false_iff_ne]; omega
        obtain ⟨h1, h2⟩ := h
        go_wp2
        go_round
        case rel => exact ⟨k + 1, by omega, by go_num, Lib.hid (by rw [HN.out]; rw [A.out]; rfl)⟩
        case measure => simp [intOf]; omega
      · have A := Lib.hid ((lt_iff s[k]).2 (.inr (.inr h)))
        have e1 : ((s[k].toNat : Int) == 95) = false := by rw [beq_eq_false_iff_ne]; omega
        obtain ⟨h1, h2⟩ := h
        go_wp2
        go_round
        case rel => exact ⟨k + 1, by omega, by go_num, Lib.hid (by rw [HN.out]; rw [A.out]; rfl)⟩
        case measure => simp [intOf]; omega
      · have A := Lib.hid ((dgt_iff s[k]).2 h)
        have A2 := Lib.hid (lt_no (c := s[k]) (by omega))
        have e1 : ((s[k].toNat : Int) == 95) = false := by rw [beq_eq_false_iff_ne]; omega
        obtain ⟨h1, h2⟩ := h
        by_cases k0 : k = 0
        · subst k0
          go_wp2
          go_ret
          exact ⟨ret_bool (name_no s (0 + 1) (by rw [HN.out, A2.out]; rfl)).symm, rfl⟩
        · have e2 : ((k : Int) == 0) = false := by rw [beq_eq_false_iff_ne]; omega
          go_wp2
          go_round
          case rel => exact ⟨k + 1, by omega, by go_num, Lib.hid (by rw [HN.out]; rw [A.out, decide_eq_true (by omega : 0 < k), Bool.and_true, Bool.or_true])⟩
          case measure => simp [intOf]; omega
      · have A2 := Lib.hid (lt_no (c := s[k]) (by omega))
        have A := Lib.hid (dgt_no (c := s[k]) (by omega))
        have e1 : ((s[k].toNat : Int) == 95) = false := by rw [beq_eq_false_iff_ne]; omega
        have h1 := h
        by_cases k0 : k = 0
        · subst k0
          go_wp2
          go_ret
          exact ⟨ret_bool (name_no s (0 + 1) (by rw [HN.out, A2.out]; rfl)).symm, rfl⟩
        · have e2 : ((k : Int) == 0) = false := by rw [beq_eq_false_iff_ne]; omega
          go_wp2
          go_ret
          exact ⟨ret_bool (name_no s (k + 1) (by rw [HN.out, A2.out, A.out, Bool.and_false, Bool.or_false])).symm, rfl⟩
      · have A2 := Lib.hid (lt_no (c := s[k]) (by omega))
        have A := Lib.hid (dgt_no (c := s[k]) (by omega))
        have e1 : ((s[k].toNat : Int) == 95) = false := by rw [beq_eq_false_iff_ne]; omega
        obtain ⟨h1, h2⟩ := h
        by_cases k0 : k = 0
        · subst k0
          go_wp2
          go_ret
          exact ⟨ret_bool (name_no s (0 + 1) (by rw [HN.out, A2.out]; rfl)).symm, rfl⟩
        · have e2 : ((k : Int) == 0) = false := by rw [beq_eq_false_iff_ne]; omega
          go_wp2
          go_ret
          exact ⟨ret_bool (name_no s (k + 1) (by rw [HN.out, A2.out, A.out, Bool.and_false, Bool.or_false])).symm, rfl⟩
      · have A2 := Lib.hid (lt_no (c := s[k]) (by omega))
        have A := Lib.hid (dgt_no (c := s[k]) (by omega))
        have e1 : ((s[k].toNat : Int) == 95) = false := by rw [beq_eq_false_iff_ne]; omega
        obtain ⟨h1, h2, h3⟩ := h; clear h3
        have d1 : decide ((s[k].toNat : Int) ≤ 90) = false := by rw [decide_eq_false_iff_not]; omega
        by_cases k0 : k = 0
        · subst k0
          go_wp2
          go_ret
          exact ⟨ret_bool (name_no s (0 + 1) (by rw [HN.out, A2.out]; rfl)).symm, rfl⟩
        · have e2 : ((k : Int) == 0) = false := by rw [beq_eq_false_iff_ne]; omega
          go_wp2
          go_ret
          exact ⟨ret_bool (name_no s (k + 1) (by rw [HN.out, A2.out, A.out, Bool.and_false, Bool.or_false])).symm, rfl⟩
      · have A2 := Lib.hid (lt_no (c := s[k]) (by omega))
        have A := Lib.hid (dgt_no (c := s[k]) (by omega))
        have e1 : ((s[k].toNat : Int) == 95) = false := by rw [beq_eq_false_iff_ne]; omega
        have h1 := h
        have d1 : decide ((s[k].toNat : Int) ≤ 90) = false := by rw [decide_eq_false_iff_not]; omega
        have d2 : decide ((s[k].toNat : Int) ≤ 122) = false := by rw [decide_eq_false_iff_not]; omega
        by_cases k0 : k = 0
        · subst k0
          go_wp2
          go_ret
          exact ⟨ret_bool (name_no s (0 + 1) (by rw [HN.out, A2.out]; rfl)).symm, rfl⟩
        · have e2 : ((k : Int) == 0) = false := by rw [beq_eq_false_iff_ne]; omega
          go_wp2
          go_ret
          exact ⟨ret_bool (name_no s (k + 1) (by rw [HN.out, A2.out, A.out, Bool.and_false, Bool.or_false])).symm, rfl⟩
    · have hk' : k = s.size := by omega
      have HF : Hid (pre s.data.toList = true) := Lib.hid (by
        have := HP.out
        rw [hk', ← len_of, List.take_length] at this; exact this)
      clear hk' HP
      by_cases h0 : s.size = 0
      · have t : s.toList = [] := toList_nil h0
        have E := Lib.hid (name_empty s h0)
        clear h0
        go_wp2
        go_ret
        exact ⟨ret_bool E.out.symm, rfl⟩
      · have t : ¬ s.toList = [] := fun e => h0 (toList_nil' e)
        have t2 : s.toList.isEmpty = false := by cases e : s.toList with
          | nil => exact absurd e t
          | cons a r => rfl
        have E := Lib.hid (name_full s h0 HF.out)
        clear h0
        go_wp2
        go_ret
        exact ⟨ret_bool (by rw [E.out]; exact decide_eq_decide.2 (by omega)), rfl⟩
end Go.Proofs.YtbhdhcnbagjmcaaDoor
