/- walks: names, the reference -/
import Derived.Test.YtbhdhcnbagjmcaaDoorQa
namespace Go.Proofs.YtbhdhcnbagjmcaaDoor
open Go.RowKit
open Lcl
theorem name_big (s : ByteArray) (h : 32 < s.size) : nameB s.data.toList = false := by
  unfold nameB
  rw [len_of, decide_eq_false (by omega), Bool.and_false]
theorem name_dig (s : ByteArray) (h : 0 < s.size) (hd : 48 ≤ s[0].toNat ∧ s[0].toNat ≤ 57) : nameB s.data.toList = false := by
  refine name_no s 1 ?_
  rw [show (1 : Nat) = 0 + 1 from rfl, pre_next s 0 h rfl, lt_no (c := s[0]) (by omega)]
  rfl
theorem name_ok (s : ByteArray) (h0 : 0 < s.size) (h : s.size ≤ 32) (hp : pre s.data.toList = true) : nameB s.data.toList = true := by
  rw [name_full s (by omega) hp, decide_eq_true h]
set_option maxHeartbeats 2000000 in
theorem rname_any (s : ByteArray) (w : World) :
    Calls Tryd.prog 77 #[.string s] w fun e w' => e = .returned (.bool (nameB s.data.toList)) ∧ w = w' := by
  by_cases h0 : s.size = 0
  · have E := Lib.hid (name_empty s h0)
    obtain ⟨⟨l⟩⟩ := s
    have hl : l = [] := List.length_eq_zero_iff.1 h0
    subst hl
    clear h0
    go_enter Tryd.func77, Tryd.ntmps77
    go_wp2
    go_ret
    exact ⟨ret_bool E.out.symm, rfl⟩
  · have z0 : ((s.size : Int) == 0) = false := by rw [beq_eq_false_iff_ne]; omega
    have z1 : 0 < s.size := by omega
    clear h0
    by_cases h32 : 32 < s.size
    · have E := Lib.hid (name_big s h32)
      go_enter Tryd.func77, Tryd.ntmps77
      go_wp2
      go_ret
      exact ⟨ret_bool E.out.symm, rfl⟩
    · have h33 : s.size ≤ 32 := by omega
      have z2 : decide (32 < (s.size : Int)) = false := by rw [decide_eq_false_iff_not]; omega
      clear h32
      by_cases hd : 48 ≤ s[0].toNat ∧ s[0].toNat ≤ 57
      · have E := Lib.hid (name_dig s z1 hd)
        obtain ⟨d1, d2⟩ := hd
        go_enter Tryd.func77, Tryd.ntmps77
        go_wp2
        go_ret
        exact ⟨ret_bool E.out.symm, rfl⟩
      · have hd' : s[0].toNat < 48 ∨ 57 < s[0].toNat := by omega
        have HD := Lib.hid hd
        clear hd
        rcases hd' with g | g
        all_goals
          go_enter Tryd.func77, Tryd.ntmps77
          go_wp2
          go_loop [3] (fun i => ∃ k : Nat, k ≤ s.size ∧ i = .int .i64 k ∧ Hid (pre (s.data.toList.take k) = true)) (fun i => s.size - (intOf i).toNat)
          case atStart => exact ⟨0, Nat.zero_le _, rfl, Lib.hid rfl⟩
          case round =>
            clear g
            obtain ⟨k, hk, rfl, HP⟩ := hrel
            by_cases hlt : k < s.size
            · have HN := Lib.hid (pre_next s k hlt HP.out)
              have h256 := s[k].toNat_lt
              rcases kinds s[k] with h | h | h | h | h | h | h | h
              · have A := Lib.hid ((lt_iff s[k]).2 (.inl h))
                have e1 : ((s[k].toNat : Int) == 95) = true := by rw [h]; rfl
                have h1 : 95 ≤ s[k].toNat := by omega
                have h2 : s[k].toNat ≤ 95 := by omega
                clear h
                have d1 : decide ((s[k].toNat : Int) ≤ 90) = false := by rw [decide_eq_false_iff_not]; omega
                have d3 : decide ((s[k].toNat : Int) ≤ 57) = false := by rw [decide_eq_false_iff_not]; omega
                go_wp2
                go_round
                case rel => exact ⟨k + 1, by omega, by go_num, Lib.hid (by rw [HN.out]; rw [A.out]; rfl)⟩
                case measure => simp [intOf]; omega
              · have A := Lib.hid ((lt_iff s[k]).2 (.inr (.inl h)))
                have e1 : ((s[k].toNat : Int) == 95) = false := by rw [beq_eq_false_iff_ne]; omega
                obtain ⟨h1, h2⟩ := h
                go_wp2
                go_round
                case rel => exact ⟨k + 1, by omega, by go_num, Lib.hid (by rw [HN.out]; rw [A.out]; rfl)⟩
                case measure => simp [intOf]; omega
              · have A := Lib.hid ((lt_iff s[k]).2 (.inr (.inr h)))
                have e1 : ((s[k].toNat : Int) == 95) = false := by rw [beq_eq_false_iff_ne]; omega
                obtain ⟨h1, h2⟩ := h
                go_wp2
                go_round
                case rel => exact ⟨k + 1, by omega, by go_num, Lib.hid (by rw [HN.out]; rw [A.out]; rfl)⟩
                case measure => simp [intOf]; omega
              · have k0 : 0 < k := by
                  apply Decidable.byContradiction; intro e
                  have e' : k = 0 := by omega
                  subst e'
                  exact HD.out h
                have A := Lib.hid ((dgt_iff s[k]).2 h)
                have e1 : ((s[k].toNat : Int) == 95) = false := by rw [beq_eq_false_iff_ne]; omega
                obtain ⟨h1, h2⟩ := h
                go_wp2
                go_round
                case rel => exact ⟨k + 1, by omega, by go_num, Lib.hid (by rw [HN.out]; rw [A.out, decide_eq_true k0, Bool.and_true, Bool.or_true])⟩
                case measure => simp [intOf]; omega
              · have A2 := Lib.hid (lt_no (c := s[k]) (by omega))
                have A := Lib.hid (dgt_no (c := s[k]) (by omega))
                have e1 : ((s[k].toNat : Int) == 95) = false := by rw [beq_eq_false_iff_ne]; omega
                have h1 := h
                go_wp2
                go_ret
                exact ⟨ret_bool (name_no s (k + 1) (by rw [HN.out, A2.out, A.out, Bool.and_false, Bool.or_false])).symm, rfl⟩
              · have A2 := Lib.hid (lt_no (c := s[k]) (by omega))
                have A := Lib.hid (dgt_no (c := s[k]) (by omega))
                have e1 : ((s[k].toNat : Int) == 95) = false := by rw [beq_eq_false_iff_ne]; omega
                obtain ⟨h1, h2⟩ := h
                have d3 : decide ((s[k].toNat : Int) ≤ 57) = false := by rw [decide_eq_false_iff_not]; omega
                go_wp2
                go_ret
                exact ⟨ret_bool (name_no s (k + 1) (by rw [HN.out, A2.out, A.out, Bool.and_false, Bool.or_false])).symm, rfl⟩
              · have A2 := Lib.hid (lt_no (c := s[k]) (by omega))
                have A := Lib.hid (dgt_no (c := s[k]) (by omega))
                have e1 : ((s[k].toNat : Int) == 95) = false := by rw [beq_eq_false_iff_ne]; omega
                obtain ⟨h1, h2, h3⟩ := h; clear h3
                have d3 : decide ((s[k].toNat : Int) ≤ 57) = false := by rw [decide_eq_false_iff_not]; omega
                have d1 : decide ((s[k].toNat : Int) ≤ 90) = false := by rw [decide_eq_false_iff_not]; omega
                go_wp2
                go_ret
                exact ⟨ret_bool (name_no s (k + 1) (by rw [HN.out, A2.out, A.out, Bool.and_false, Bool.or_false])).symm, rfl⟩
              · have A2 := Lib.hid (lt_no (c := s[k]) (by omega))
                have A := Lib.hid (dgt_no (c := s[k]) (by omega))
                have e1 : ((s[k].toNat : Int) == 95) = false := by rw [beq_eq_false_iff_ne]; omega
                have h1 := h
                have d3 : decide ((s[k].toNat : Int) ≤ 57) = false := by rw [decide_eq_false_iff_not]; omega
                have d1 : decide ((s[k].toNat : Int) ≤ 90) = false := by rw [decide_eq_false_iff_not]; omega
                have d2 : decide ((s[k].toNat : Int) ≤ 122) = false := by rw [decide_eq_false_iff_not]; omega
                go_wp2
                go_ret
                exact ⟨ret_bool (name_no s (k + 1) (by rw [HN.out, A2.out, A.out, Bool.and_false, Bool.or_false])).symm, rfl⟩
            · have hk' : k = s.size := by omega
              have HF := Lib.hid (name_ok s z1 h33 (by
                have := HP.out
                rw [hk', ← len_of, List.take_length] at this; exact this))
              clear hk' HP
              go_wp2
              go_ret
              exact ⟨ret_bool HF.out.symm, rfl⟩
end Go.Proofs.YtbhdhcnbagjmcaaDoor
