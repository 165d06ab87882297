/- walks: blanks, and what follows a field -/
import Derived.Test.YtoohbgjfhchnmaaDoorQl
import Derived.Lib.IndexBytes
namespace Go.Proofs.YtoohbgjfhchnmaaDoor
open Go.RowKit Go.Maps
open Lcl
def bl (c : UInt8) : Bool := c == 32 || c == 9
/-- a list without its longest beginning of bytes that are blank, or are not -/
def skL (b : Bool) (l : List UInt8) : List UInt8 := l.dropWhile fun c => bl c == b
def skS (b : Bool) (s : ByteArray) : ByteArray := ⟨(skL b s.data.toList).toArray⟩
theorem ba_eq {a b : ByteArray} (h : a.data.toList = b.data.toList) : a = b := by
  rcases a with ⟨⟨l⟩⟩; rcases b with ⟨⟨m⟩⟩
  simp only at h
  rw [h]
theorem bl_iff (c : UInt8) : bl c = true ↔ c.toNat = 32 ∨ c.toNat = 9 := by
  unfold bl
  simp only [Bool.or_eq_true, beq_iff_eq, ← UInt8.toNat_inj]
  exact Iff.rfl
theorem ext_to (s : ByteArray) (a : Nat) : (s.extract a s.size).data.toList = s.data.toList.drop a := Lib.extract_to_end s a
theorem drop_cons (s : ByteArray) (k : Nat) (h : k < s.size) : s.data.toList.drop k = s[k] :: s.data.toList.drop (k + 1) := by
  rw [List.drop_eq_getElem_cons (show k < s.data.toList.length from h)]; rfl
theorem sk_stop (b : Bool) (s : ByteArray) (k : Nat) (h : k < s.size) (hb : (bl s[k] == b) = false) (hr : skL b (s.data.toList.drop k) = skL b s.data.toList) : s.extract k s.size = skS b s := by
  apply ba_eq
  rw [ext_to]
  show _ = skL b s.data.toList
  rw [← hr, drop_cons s k h]
  unfold skL
  rw [List.dropWhile_cons, hb]
  rfl
theorem sk_next (b : Bool) (s : ByteArray) (k : Nat) (h : k < s.size) (hb : (bl s[k] == b) = true) (hr : skL b (s.data.toList.drop k) = skL b s.data.toList) : skL b (s.data.toList.drop (k + 1)) = skL b s.data.toList := by
  rw [← hr, drop_cons s k h]
  unfold skL
  rw [List.dropWhile_cons, hb]
  rfl
theorem sk_end (b : Bool) (s : ByteArray) (k : Nat) (h : k = s.size) (hr : skL b (s.data.toList.drop k) = skL b s.data.toList) : s.extract k s.size = skS b s := by
  apply ba_eq
  rw [ext_to]
  show _ = skL b s.data.toList
  rw [← hr, h, show s.size = s.data.toList.length from rfl, List.drop_length]
  rfl
theorem blank_is (c : UInt8) (b : Bool) (w : World) (hb : Hid (bl c = b)) : Calls Tryd.prog 40 #[.int .u8 (c.toNat : Int)] w fun e w' => e = .returned (.bool b) ∧ w = w' := by
  have hc := c.toNat_lt
  rw [← hb.out]; clear hb
  by_cases h1 : c.toNat = 32
  · have E := Lib.hid ((bl_iff c).2 (.inl h1))
    have e1 : ((c.toNat : Int) == 32) = true := by rw [h1]; rfl
    clear h1
    go_enter Tryd.func40, Tryd.ntmps40
    go_wp2
    go_ret
    exact ⟨ret_bool E.out.symm, rfl⟩
  · have e1 : ((c.toNat : Int) == 32) = false := by rw [beq_eq_false_iff_ne]; omega
    by_cases h2 : c.toNat = 9
    · have E := Lib.hid ((bl_iff c).2 (.inr h2))
      have e2 : ((c.toNat : Int) == 9) = true := by rw [h2]; rfl
      clear h1 h2
      go_enter Tryd.func40, Tryd.ntmps40
      go_wp2
      go_ret
      exact ⟨ret_bool E.out.symm, rfl⟩
    · have E : Hid (bl c = false) := Lib.hid (by rw [Bool.eq_false_iff]; intro e; rcases (bl_iff c).1 e with h | h <;> omega)
      have e2 : ((c.toNat : Int) == 9) = false := by rw [beq_eq_false_iff_ne]; omega
      clear h1 h2
      go_enter Tryd.func40, Tryd.ntmps40
      go_wp2
      go_ret
      exact ⟨ret_bool E.out.symm, rfl⟩
set_option maxHeartbeats 2000000 in
theorem skipped_any (s : ByteArray) (b : Bool) (w : World) (hs : s.size ≤ 9223372036854775807) :
    Calls Tryd.prog 32 #[.string s, .bool b] w fun e w' => e = .returned (.string (skS b s)) ∧ w = w' := by
  go_enter Tryd.func32, Tryd.ntmps32
  go_wp2_with fail
  go_loop [5] (fun i => ∃ k : Nat, k ≤ s.size ∧ i = .int .i64 k ∧ Hid (skL b (s.data.toList.drop k) = skL b s.data.toList)) (fun i => s.size - (intOf i).toNat)
  case atStart => exact ⟨0, Nat.zero_le _, rfl, Lib.hid (by rw [List.drop_zero])⟩
  case round =>
    obtain ⟨k, hk, rfl, RK⟩ := hrel
    by_cases hlt : k < s.size
    · obtain ⟨c, hc⟩ : ∃ c, bl s[k] = c := ⟨_, rfl⟩
      have CB := Lib.hid hc; clear hc
      cases hcb : (c == b) with
      | true =>
        have RN := Lib.hid (sk_next b s k hlt (by rw [CB.out]; exact hcb) RK.out)
        go_wp2_with (go_at_call 40; refine (blank_is s[k] c _ CB).mono ?_; rintro e w' ⟨rfl, rfl⟩)
        go_round
        case rel => exact ⟨k + 1, by omega, by go_num, RN⟩
        case measure => simp [intOf]; omega
      | false =>
        have RS := Lib.hid (sk_stop b s k hlt (by rw [CB.out]; exact hcb) RK.out)
        go_wp2_with (go_at_call 40; refine (blank_is s[k] c _ CB).mono ?_; rintro e w' ⟨rfl, rfl⟩)
        go_ret
        exact ⟨ret_str RS.out, rfl⟩
    · have RS := Lib.hid (sk_end b s k (by omega) RK.out)
      go_wp2
      go_ret
      exact ⟨ret_str RS.out, rfl⟩
end Go.Proofs.YtoohbgjfhchnmaaDoor
