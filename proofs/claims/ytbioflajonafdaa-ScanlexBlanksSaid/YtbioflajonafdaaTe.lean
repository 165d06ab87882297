/- walks: the reference's octal, letter, single -/
import Derived.Test.YtbioflajonafdaaTb
namespace Go.Proofs.Ytbioflajonafdaa
open Go.RowKit
open Tx
/-- the letter of the escape sequence of a byte, 0 if there is none -/
def letC (c : Int) : Int := if c = 7 then 97 else if c = 8 then 98 else if c = 9 then 116 else if c = 10 then 110 else if c = 11 then 118 else if c = 12 then 102 else if c = 13 then 114 else if c = 92 then 92 else 0
set_option maxHeartbeats 2000000 in
theorem letter_any (c : Int) (w : World) : Calls Try.prog 53 #[.int .u8 c] w fun e w' => e = .returned (.int .u8 (letC c)) ∧ w = w' := by
  by_cases h0 : c = 7
  · subst h0
    go_enter Try.func53, Try.ntmps53
    go_wp2
    go_ret
    exact ⟨rfl, rfl⟩
  by_cases h1 : c = 8
  · subst h1
    go_enter Try.func53, Try.ntmps53
    go_wp2
    go_ret
    exact ⟨rfl, rfl⟩
  by_cases h2 : c = 9
  · subst h2
    go_enter Try.func53, Try.ntmps53
    go_wp2
    go_ret
    exact ⟨rfl, rfl⟩
  by_cases h3 : c = 10
  · subst h3
    go_enter Try.func53, Try.ntmps53
    go_wp2
    go_ret
    exact ⟨rfl, rfl⟩
  by_cases h4 : c = 11
  · subst h4
    go_enter Try.func53, Try.ntmps53
    go_wp2
    go_ret
    exact ⟨rfl, rfl⟩
  by_cases h5 : c = 12
  · subst h5
    go_enter Try.func53, Try.ntmps53
    go_wp2
    go_ret
    exact ⟨rfl, rfl⟩
  by_cases h6 : c = 13
  · subst h6
    go_enter Try.func53, Try.ntmps53
    go_wp2
    go_ret
    exact ⟨rfl, rfl⟩
  by_cases h7 : c = 92
  · subst h7
    go_enter Try.func53, Try.ntmps53
    go_wp2
    go_ret
    exact ⟨rfl, rfl⟩
  have E : Hid (letC c = 0) := Lib.hid (by unfold letC; rw [if_neg h0, if_neg h1, if_neg h2, if_neg h3, if_neg h4, if_neg h5, if_neg h6, if_neg h7])
  have t0 : (c == 7) = false := by rw [beq_eq_false_iff_ne]; exact h0
  have t1 : (c == 8) = false := by rw [beq_eq_false_iff_ne]; exact h1
  have t2 : (c == 9) = false := by rw [beq_eq_false_iff_ne]; exact h2
  have t3 : (c == 10) = false := by rw [beq_eq_false_iff_ne]; exact h3
  have t4 : (c == 11) = false := by rw [beq_eq_false_iff_ne]; exact h4
  have t5 : (c == 12) = false := by rw [beq_eq_false_iff_ne]; exact h5
  have t6 : (c == 13) = false := by rw [beq_eq_false_iff_ne]; exact h6
  have t7 : (c == 92) = false := by rw [beq_eq_false_iff_ne]; exact h7
  clear h0 h1 h2 h3 h4 h5 h6 h7
  go_enter Try.func53, Try.ntmps53
  go_wp2
  go_ret
  exact ⟨by rw [E.out]; rfl, rfl⟩
set_option maxHeartbeats 2000000 in
theorem octal_any (s : ByteArray) (i : Nat) (w : World) (hs : s.size ≤ 140737488351232) (hi : i ≤ s.size) :
    Calls Try.prog 72 #[.string s, .int .i64 (i : Int)] w fun e w' => e = .returned (.tuple #[.int .i64 (((octGo 3 (s.data.toList.drop i) 0 0).1 : Nat) : Int), .int .i64 (((octGo 3 (s.data.toList.drop i) 0 0).2 : Nat) : Int)]) ∧ w = w' := by
  obtain ⟨u, hu⟩ : ∃ u, s.extract i s.size = u := ⟨_, rfl⟩
  have hul : u.data.toList = s.data.toList.drop i := by rw [← hu]; exact Lib.extract_to_end s i
  have hus : u.size = s.size - i := by rw [size_len, hul, List.length_drop, ← size_len]
  have hget : ∀ k (h : k < u.size) (h2 : i + k < s.size), u[k] = s[i + k] := by
    intro k h h2
    have e1 : u.data.toList[k]? = some u[k] := by rw [List.getElem?_eq_getElem (by rw [← size_len]; exact h)]; rfl
    rw [hul, List.getElem?_drop] at e1
    have e2 : s.data.toList[i + k]? = some s[i + k] := by rw [List.getElem?_eq_getElem (by rw [← size_len]; exact h2)]; rfl
    rw [e2] at e1
    injection e1 with e1; exact e1.symm
  rw [← hul]
  have HG := Lib.hid hget; clear hget
  have HU := Lib.hid hus; clear hus
  clear hul hu
  go_enter Try.func72, Try.ntmps72
  go_wp2_with fail
  go_loop [6, 7] (fun v n => ∃ k x : Nat, v = .int .i64 x ∧ n = .int .i64 k ∧ Hid (OcI u k x)) (fun _ n => 3 - (intOf n).toNat)
  case atStart => exact ⟨0, 0, rfl, rfl, Lib.hid (OcI.start u)⟩
  case round =>
    obtain ⟨k, y, rfl, rfl, I⟩ := hrel
    have k3 := I.out.k3
    have ks : i + k ≤ s.size := by have := I.out.ks; have := HU.out; omega
    have vb : y < 512 := by
      have h1 := I.out.vb
      have h2 : 8 ^ k ≤ 8 ^ 3 := Nat.pow_le_pow_right (by decide) k3
      have h3 : 8 ^ 3 = 512 := rfl
      omega
    by_cases g3 : k < 3
    · by_cases gs : i + k < s.size
      · have gu : k < u.size := by rw [HU.out]; omega
        have hg := HG.out k gu gs
        by_cases ho : oct u[k] = true
        · have J := Lib.hid (I.out.hit g3 gu ho)
          rw [hg] at J ho
          have d1 : 48 ≤ s[i + k].toNat := by simp [oct] at ho; omega
          have d2 : s[i + k].toNat ≤ 55 := by simp [oct] at ho; omega
          clear ho hg
          go_wp2_with fail
          go_round
          case rel => exact ⟨k + 1, 8 * y + (s[i + k].toNat - 48), by go_num, by go_num, J⟩
          case measure => simp [intOf]; omega
        · have S := Lib.hid (I.out.stop (.inr (.inr ⟨gu, by simpa using ho⟩)))
          have hno : (decide (48 ≤ s[i + k].toNat) && decide (s[i + k].toNat ≤ 55)) = false := by rw [hg] at ho; simpa [oct] using ho
          clear ho hg
          by_cases d1 : 48 ≤ s[i + k].toNat
          · have d2 : ¬ s[i + k].toNat ≤ 55 := by intro e; rw [decide_eq_true d1, decide_eq_true e] at hno; cases hno
            clear hno
            go_wp2_with fail
            go_ret2
            exact ⟨by rw [S.out]; rfl, rfl⟩
          · clear hno
            go_wp2_with fail
            go_ret2
            exact ⟨by rw [S.out]; rfl, rfl⟩
      · have S := Lib.hid (I.out.stop (.inr (.inl (by rw [HU.out]; omega))))
        go_wp2_with fail
        go_ret2
        exact ⟨by rw [S.out]; rfl, rfl⟩
    · have S := Lib.hid (I.out.stop (.inl (by omega)))
      have hk3 : k = 3 := by omega
      subst hk3
      clear k3 g3
      go_wp2_with fail
      go_ret2
      exact ⟨by rw [S.out]; rfl, rfl⟩
end Go.Proofs.Ytbioflajonafdaa
