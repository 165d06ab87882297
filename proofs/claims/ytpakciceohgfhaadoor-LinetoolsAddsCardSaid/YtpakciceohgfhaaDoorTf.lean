/- walks: the reference's single -/
import Derived.Test.YtpakciceohgfhaaDoorTe
namespace Go.Proofs.YtpakciceohgfhaaDoor
open Go.RowKit
open Tx
def sglV (c : UInt8) : Nat := if isSelf c then c.toNat else (letB c).toNat
def sglO (c : UInt8) : Bool := isSelf c || !(decide (letB c = 0))
theorem u8_of {c : UInt8} {n : Nat} (hn : n < 256) (h : (n : Int) = (c.toNat : Int)) : c = UInt8.ofNat n := by
  apply UInt8.toNat_inj.1
  rw [UInt8.toNat_ofNat']; omega
theorem sgl_hit (k : Nat) (c : UInt8) (h : letC k = (c.toNat : Int)) (h0 : (c.toNat : Int) ≠ 0) : sglV c = k ∧ sglO c = true := by
  unfold letC at h
  by_cases h7 : (k : Int) = 7
  · rw [if_pos h7] at h; obtain rfl := u8_of (n := 97) (by omega) h; obtain rfl : k = 7 := by omega
    exact ⟨rfl, rfl⟩
  rw [if_neg h7] at h
  by_cases h8 : (k : Int) = 8
  · rw [if_pos h8] at h; obtain rfl := u8_of (n := 98) (by omega) h; obtain rfl : k = 8 := by omega
    exact ⟨rfl, rfl⟩
  rw [if_neg h8] at h
  by_cases h9 : (k : Int) = 9
  · rw [if_pos h9] at h; obtain rfl := u8_of (n := 116) (by omega) h; obtain rfl : k = 9 := by omega
    exact ⟨rfl, rfl⟩
  rw [if_neg h9] at h
  by_cases h10 : (k : Int) = 10
  · rw [if_pos h10] at h; obtain rfl := u8_of (n := 110) (by omega) h; obtain rfl : k = 10 := by omega
    exact ⟨rfl, rfl⟩
  rw [if_neg h10] at h
  by_cases h11 : (k : Int) = 11
  · rw [if_pos h11] at h; obtain rfl := u8_of (n := 118) (by omega) h; obtain rfl : k = 11 := by omega
    exact ⟨rfl, rfl⟩
  rw [if_neg h11] at h
  by_cases h12 : (k : Int) = 12
  · rw [if_pos h12] at h; obtain rfl := u8_of (n := 102) (by omega) h; obtain rfl : k = 12 := by omega
    exact ⟨rfl, rfl⟩
  rw [if_neg h12] at h
  by_cases h13 : (k : Int) = 13
  · rw [if_pos h13] at h; obtain rfl := u8_of (n := 114) (by omega) h; obtain rfl : k = 13 := by omega
    exact ⟨rfl, rfl⟩
  rw [if_neg h13] at h
  by_cases h92 : (k : Int) = 92
  · rw [if_pos h92] at h; obtain rfl := u8_of (n := 92) (by omega) h; obtain rfl : k = 92 := by omega
    exact ⟨rfl, rfl⟩
  rw [if_neg h92] at h
  exact absurd h.symm h0
theorem sgl_none (c : UInt8) (n1 : c ≠ 34) (n2 : c ≠ 47) (h : ∀ j : Nat, 7 ≤ j → j < 93 → ¬ (letC j = (c.toNat : Int) ∧ (c.toNat : Int) ≠ 0)) : sglV c = 0 ∧ sglO c = false := by
  have hl : letB c = 0 := by
    apply Decidable.byContradiction
    intro hn
    rcases let_cases c hn with ⟨rfl, _⟩ | ⟨rfl, _⟩ | ⟨rfl, _⟩ | ⟨rfl, _⟩ | ⟨rfl, _⟩ | ⟨rfl, _⟩ | ⟨rfl, _⟩
    · exact h 10 (by omega) (by omega) ⟨rfl, by decide⟩
    · exact h 9 (by omega) (by omega) ⟨rfl, by decide⟩
    · exact h 13 (by omega) (by omega) ⟨rfl, by decide⟩
    · exact h 7 (by omega) (by omega) ⟨rfl, by decide⟩
    · exact h 8 (by omega) (by omega) ⟨rfl, by decide⟩
    · exact h 12 (by omega) (by omega) ⟨rfl, by decide⟩
    · exact h 11 (by omega) (by omega) ⟨rfl, by decide⟩
  have hs : isSelf c = false := by
    have h3 : c ≠ 92 := by
      rintro rfl
      exact h 92 (by omega) (by omega) ⟨rfl, by decide⟩
    unfold isSelf
    rw [decide_eq_false h3, decide_eq_false n1, decide_eq_false n2]; rfl
  unfold sglV sglO
  rw [hs, hl]; exact ⟨rfl, rfl⟩
end Go.Proofs.YtpakciceohgfhaaDoor
