/- walks: the reference's single -/
import Derived.Test.YtbioflajonafdaaTe
namespace Go.Proofs.Ytbioflajonafdaa
open Go.RowKit
open Tx
def sglV (c : UInt8) : Nat := if isSelf c then c.toNat else (letB c).toNat
def sglO (c : UInt8) : Bool := isSelf c || !(decide (letB c = 0))
theorem u8_of {c : UInt8} {n : Nat} (hn : n < 256) (h : (n : Int) = (c.toNat : Int)) : c = UInt8.ofNat n := by
  apply UInt8.toNat_inj.1
  rw [UInt8.toNat_ofNat']; omega
theorem sgl_hit (k : Nat) (c : UInt8) (h : letC k = (c.toNat : Int)) (h0 : (c.toNat : Int) ≠ 0) : sglV c = k ∧ sglO c = true := by
  unfold letC at h
  by_cases h7 : (k : Int) = 7
  · rw [if_pos h7] at h; obtain rfl := u8_of (n := 97) (by omega) h; obtain rfl : k = 7 := by omega
    exact ⟨rfl, rfl⟩
  rw [if_neg h7] at h
  by_cases h8 : (k : Int) = 8
  · rw [if_pos h8] at h; obtain rfl := u8_of (n := 98) (by omega) h; obtain rfl : k = 8 := by omega
    exact ⟨rfl, rfl⟩
  rw [if_neg h8] at h
  by_cases h9 : (k : Int) = 9
  · rw [if_pos h9] at h; obtain rfl := u8_of (n := 116) (by omega) h; obtain rfl : k = 9 := by omega
    exact ⟨rfl, rfl⟩
  rw [if_neg h9] at h
  by_cases h10 : (k : Int) = 10
  · rw [if_pos h10] at h; obtain rfl := u8_of (n := 110) (by omega) h; obtain rfl : k = 10 := by omega
    exact ⟨rfl, rfl⟩
  rw [if_neg h10] at h
  by_cases h11 : (k : Int) = 11
  · rw [if_pos h11] at h; obtain rfl := u8_of (n := 118) (by omega) h; obtain rfl : k = 11 := by omega
    exact ⟨rfl, rfl⟩
  rw [if_neg h11] at h
  by_cases h12 : (k : Int) = 12
  · rw [if_pos h12] at h; obtain rfl := u8_of (n := 102) (by omega) h; obtain rfl : k = 12 := by omega
    exact ⟨rfl, rfl⟩
  rw [if_neg h12] at h
  by_cases h13 : (k : Int) = 13
  · rw [if_pos h13] at h; obtain rfl := u8_of (n := 114) (by omega) h; obtain rfl : k = 13 := by omega
    exact ⟨rfl, rfl⟩
  rw [if_neg h13] at h
  by_cases h92 : (k : Int) = 92
  · rw [if_pos h92] at h; obtain rfl := u8_of (n := 92) (by omega) h; obtain rfl : k = 92 := by omega
    exact ⟨rfl, rfl⟩
  rw [if_neg h92] at h
  exact absurd h.symm h0
theorem sgl_none (c : UInt8) (n1 : c ≠ 34) (n2 : c ≠ 47) (h : ∀ j : Nat, 7 ≤ j → j < 93 → ¬ (letC j = (c.toNat : Int) ∧ (c.toNat : Int) ≠ 0)) : sglV c = 0 ∧ sglO c = false := by
  have hl : letB c = 0 := by
    apply Decidable.byContradiction
    intro hn
    rcases let_cases c hn with ⟨rfl, _⟩ | ⟨rfl, _⟩ | ⟨rfl, _⟩ | ⟨rfl, _⟩ | ⟨rfl, _⟩ | ⟨rfl, _⟩ | ⟨rfl, _⟩
    · exact h 10 (by omega) (by omega) ⟨rfl, by decide⟩
    · exact h 9 (by omega) (by omega) ⟨rfl, by decide⟩
    · exact h 13 (by omega) (by omega) ⟨rfl, by decide⟩
    · exact h 7 (by omega) (by omega) ⟨rfl, by decide⟩
    · exact h 8 (by omega) (by omega) ⟨rfl, by decide⟩
    · exact h 12 (by omega) (by omega) ⟨rfl, by decide⟩
    · exact h 11 (by omega) (by omega) ⟨rfl, by decide⟩
  have hs : isSelf c = false := by
    have h3 : c ≠ 92 := by
      rintro rfl
      exact h 92 (by omega) (by omega) ⟨rfl, by decide⟩
    unfold isSelf
    rw [decide_eq_false h3, decide_eq_false n1, decide_eq_false n2]; rfl
  unfold sglV sglO
  rw [hs, hl]; exact ⟨rfl, rfl⟩
theorem letter_is2 (c v : Int) (w : World) (h : Hid (letC c = v)) : Calls Try.prog 53 #[.int .u8 c] w fun e w' => e = .returned (.int .u8 v) ∧ w = w' := by
  rw [← h.out]; exact letter_any c w
set_option maxHeartbeats 2000000 in
theorem single_any (c : UInt8) (w : World) : Calls Try.prog 73 #[.int .u8 (c.toNat : Int)] w fun e w' => e = .returned (.tuple #[.int .u8 ((sglV c : Nat) : Int), .bool (sglO c)]) ∧ w = w' := by
  by_cases h1 : c = 34
  · subst h1
    go_enter Try.func73, Try.ntmps73
    go_wp2
    go_ret2
    exact ⟨rfl, rfl⟩
  · by_cases h2 : c = 47
    · subst h2
      go_enter Try.func73, Try.ntmps73
      go_wp2
      go_ret2
      exact ⟨rfl, rfl⟩
    · have NN := Lib.hid (sgl_none c h1 h2)
      have HH := Lib.hid (fun k => sgl_hit k c)
      have t1 : ((c.toNat : Int) == 34) = false := by
        rw [beq_eq_false_iff_ne]; intro e; exact h1 (u8_of (n := 34) (by omega) e.symm)
      have t2 : ((c.toNat : Int) == 47) = false := by
        rw [beq_eq_false_iff_ne]; intro e; exact h2 (u8_of (n := 47) (by omega) e.symm)
      clear h1 h2
      obtain ⟨x, hx⟩ : ∃ x : Int, (c.toNat : Int) = x := ⟨_, rfl⟩
      rw [hx] at t1 t2 NN ⊢
      have HH2 : Hid (∀ k : Nat, letC k = x → x ≠ 0 → sglV c = k ∧ sglO c = true) := Lib.hid (by rw [← hx]; exact HH.out)
      clear HH hx
      go_enter Try.func73, Try.ntmps73
      go_wp2_with fail
      go_loop [4] (fun v => ∃ k : Nat, 7 ≤ k ∧ k ≤ 93 ∧ v = .int .i64 k ∧ Hid (∀ j : Nat, 7 ≤ j → j < k → ¬ (letC j = x ∧ x ≠ 0))) (fun v => 93 - (intOf v).toNat)
      case atStart => exact ⟨7, by omega, by omega, rfl, Lib.hid (fun j a b => by omega)⟩
      case round =>
        obtain ⟨k, k1, k2, rfl, HN⟩ := hrel
        by_cases hk : k ≤ 92
        · obtain ⟨l, hl⟩ : ∃ l, letC k = l := ⟨_, rfl⟩
          have LL := Lib.hid hl
          by_cases hh : l = x ∧ x ≠ 0
          · obtain ⟨rfl, hx0⟩ := hh
            have F := Lib.hid (HH2.out k hl hx0)
            have t3 : (l != 0) = true := by rw [bne_iff_ne]; exact hx0
            clear hl hx0
            go_wp2_with (go_at_call 53; refine (letter_is2 k l _ LL).mono ?_; rintro e w' ⟨rfl, rfl⟩)
            go_ret2
            exact ⟨by rw [F.out.1, F.out.2]; rfl, rfl⟩
          · have N2 : Hid (∀ j : Nat, 7 ≤ j → j < k + 1 → ¬ (letC j = x ∧ x ≠ 0)) := Lib.hid (fun j a b => by
              rcases Nat.lt_or_ge j k with h | h
              · exact HN.out j a h
              · obtain rfl : j = k := by omega
                rw [hl]; exact hh)
            by_cases he : l = x
            · subst he
              have hx0 : l = 0 := by
                apply Decidable.byContradiction; intro hn; exact hh ⟨rfl, hn⟩
              subst hx0
              clear hh hl
              go_wp2_with (go_at_call 53; refine (letter_is2 k 0 _ LL).mono ?_; rintro e w' ⟨rfl, rfl⟩)
              go_round
              case rel => exact ⟨k + 1, by omega, by omega, by go_num, N2⟩
              case measure => simp [intOf]; omega
            · have t3 : (l == x) = false := by rw [beq_eq_false_iff_ne]; exact he
              clear hh hl he
              go_wp2_with (go_at_call 53; refine (letter_is2 k l _ LL).mono ?_; rintro e w' ⟨rfl, rfl⟩)
              go_round
              case rel => exact ⟨k + 1, by omega, by omega, by go_num, N2⟩
              case measure => simp [intOf]; omega
        · have F := Lib.hid (NN.out (fun j a b => HN.out j a (by omega)))
          go_wp2_with fail
          go_ret2
          exact ⟨by rw [F.out.1, F.out.2]; rfl, rfl⟩
end Go.Proofs.Ytbioflajonafdaa
