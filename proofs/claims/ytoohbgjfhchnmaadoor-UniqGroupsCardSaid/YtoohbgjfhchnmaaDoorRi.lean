/- walks: the reference's Digits and Parse, at the digits of a positive number -/
import Derived.Test.YtoohbgjfhchnmaaDoorRh
namespace Go.Proofs.YtoohbgjfhchnmaaDoor
open Go.RowKit Go.Maps
open Lcl
/-- the digits of a positive number -/
structure Dg (s : ByteArray) : Prop where
  pos : 0 < s.size
  le : s.size ≤ 100
  d : ∀ (i : Nat) (h : i < s.size), 48 ≤ s[i].toNat ∧ s[i].toNat ≤ 57
  f : ∀ (h : 0 < s.size), 49 ≤ s[0].toNat
theorem Dg.ne {s : ByteArray} (h : Dg s) : ¬ s.toList = [] := fun e => by have := toList_nil' e; have := h.pos; omega
set_option maxHeartbeats 2000000 in
theorem digits_any (s : ByteArray) (w : World) (h : Dg s) :
    Calls Tryd.prog 37 #[.string s] w fun e w' => e = .returned (.bool true) ∧ w = w' := by
  have H := Lib.hid h
  have h0 := h.pos
  have hs := h.le
  have n1 := h.ne
  have n2 : s.toList.isEmpty = false := by
    cases e : s.toList with
    | nil => exact absurd e n1
    | cons a r => rfl
  have hf := h.f h0
  have b0 : ((s[0].toNat : Int) == 48) = false := by rw [beq_eq_false_iff_ne]; omega
  have h256 := s[0].toNat_lt
  clear h hf
  by_cases h2 : 1 < s.size
  · go_enter Tryd.func37, Tryd.ntmps37
    go_wp2
    go_loop [3] (fun i => ∃ k : Nat, k ≤ s.size ∧ i = .int .i64 k) (fun i => s.size - (intOf i).toNat)
    case atStart => exact ⟨0, Nat.zero_le _, rfl⟩
    case round =>
      obtain ⟨k, hk, rfl⟩ := hrel
      by_cases hlt : k < s.size
      · obtain ⟨d1, d2⟩ := H.out.d k hlt
        have h257 := s[k].toNat_lt
        go_wp2
        go_round
        case rel => exact ⟨k + 1, by omega, by go_num⟩
        case measure => simp [intOf]; omega
      · go_wp2
        go_ret
        exact ⟨rfl, rfl⟩
  · go_enter Tryd.func37, Tryd.ntmps37
    go_wp2
    go_loop [3] (fun i => ∃ k : Nat, k ≤ s.size ∧ i = .int .i64 k) (fun i => s.size - (intOf i).toNat)
    case atStart => exact ⟨0, Nat.zero_le _, rfl⟩
    case round =>
      obtain ⟨k, hk, rfl⟩ := hrel
      by_cases hlt : k < s.size
      · obtain ⟨d1, d2⟩ := H.out.d k hlt
        have h257 := s[k].toNat_lt
        go_wp2
        go_round
        case rel => exact ⟨k + 1, by omega, by go_num⟩
        case measure => simp [intOf]; omega
      · go_wp2
        go_ret
        exact ⟨rfl, rfl⟩
theorem tdiv_low (c : Int) (h1 : 48 ≤ c) (h2 : c ≤ 57) : (-9223372036854775808 + (c - 48)).tdiv 10 ≤ -922337203685477000 := by
  have e : -9223372036854775808 + (c - 48) = -(9223372036854775808 - (c - 48)) := by omega
  rw [e, Int.neg_tdiv, Int.tdiv_eq_ediv_of_nonneg (by omega)]
  omega
/-- the number that digits are -/
def valD (l : List UInt8) : Nat := l.foldl (fun a b => 10 * a + (b.toNat - 48)) 0
theorem valD_snoc (l : List UInt8) (b : UInt8) : valD (l ++ [b]) = 10 * valD l + (b.toNat - 48) := by unfold valD; rw [List.foldl_append]; rfl
theorem valD_take (l : List UInt8) (k : Nat) : valD (l.take k) ≤ valD l := by
  have h : ∀ (r : List UInt8) (a b : Nat), a ≤ b → a ≤ r.foldl (fun a b => 10 * a + (b.toNat - 48)) b := by
    intro r
    induction r with
    | nil => intro a b h; exact h
    | cons x r ih => intro a b h; rw [List.foldl_cons]; exact ih a _ (by omega)
  have e := List.take_append_drop k l
  conv => rhs; rw [← e]
  unfold valD
  rw [List.foldl_append]
  exact h _ _ _ (Nat.le_refl _)
set_option maxHeartbeats 4000000 in
theorem parse_any (s : ByteArray) (w : World) (h : Dg s) (hv : valD s.data.toList ≤ 100000000000000) :
    Calls Tryd.prog 30 #[.string s] w fun e w' => e = .returned (.tuple #[.int .i64 (valD s.data.toList : Nat), .int .i64 0]) ∧ w = w' := by
  have H := Lib.hid h
  have HV := Lib.hid hv
  have h0 := h.pos
  have hs := h.le
  have n1 := h.ne
  have n2 : s.toList.isEmpty = false := by
    cases e : s.toList with
    | nil => exact absurd e n1
    | cons a r => rfl
  have hf := h.f h0
  have b0 : ((s[0].toNat : Int) == 45) = false := by rw [beq_eq_false_iff_ne]; omega
  have h256 := s[0].toNat_lt
  have m0 : (s.toList == [45, 48]) = false := by
    rw [beq_eq_false_iff_ne]
    intro e
    rw [Lib.toList_data] at e
    have : s[0] = 45 := by
      have h3 : s.data.toList[0]? = some 45 := by rw [e]; rfl
      have h4 : s.data.toList[0]? = some s[0] := by
        rw [List.getElem?_eq_getElem (by rw [len_of]; exact h0)]; rfl
      rw [h4] at h3; exact Option.some.inj h3
    rw [this] at hf; exact absurd hf (by decide)
  clear h hf hv
  go_enter Tryd.func30, Tryd.ntmps30
  go_wp2_with (go_at_call 37; with_reducible refine (digits_any s _ H.out).mono ?_; rintro e w' ⟨rfl, rfl⟩)
  go_loop [5, 6, 7] (fun n i d => ∃ k : Nat, k ≤ s.size ∧ i = .int .i64 k ∧ n = .int .i64 (-((valD (s.data.toList.take k) : Nat) : Int)) ∧ ∃ d', d = d') (fun _ i _ => s.size - (intOf i).toNat)
  case atStart => exact ⟨0, Nat.zero_le _, rfl, rfl, _, rfl⟩
  case round =>
    obtain ⟨k, hk, rfl, rfl, -⟩ := hrel
    by_cases hlt : k < s.size
    · obtain ⟨d1, d2⟩ := H.out.d k hlt
      have h257 := s[k].toNat_lt
      have q1 : valD (s.data.toList.take (k + 1)) = 10 * valD (s.data.toList.take k) + (s[k].toNat - 48) := by rw [take_b s k hlt, valD_snoc]
      have q2 := Nat.le_trans (valD_take s.data.toList (k + 1)) HV.out
      obtain ⟨v2, hv2⟩ : ∃ v2, valD (s.data.toList.take (k + 1)) = v2 := ⟨_, rfl⟩
      rw [hv2] at q1 q2
      have HV2 := Lib.hid hv2
      clear hv2
      generalize valD (s.data.toList.take k) = v1 at q1
      have q3 : decide (-((v1 : Nat) : Int) < (-9223372036854775808 + ((s[k].toNat : Int) - 48)).tdiv 10) = false := by
        have := tdiv_low (s[k].toNat : Int) (by omega) (by omega)
        rw [decide_eq_false_iff_not]; omega
      go_wp2
      go_round
      case rel => exact ⟨k + 1, by omega, by go_num, by rw [HV2.out]; go_num, _, rfl⟩
      case measure => simp [intOf]; omega
    · have ek : k = s.size := by omega
      subst ek
      have el : s.data.toList.take s.size = s.data.toList := by rw [← len_of]; exact List.take_length
      have hv := HV.out
      obtain ⟨v, hv2⟩ : ∃ v, valD s.data.toList = v := ⟨_, rfl⟩
      rw [el, hv2]
      rw [hv2] at hv
      have HV2 := Lib.hid hv2
      clear hv2 el
      have q4 : ((-((v : Nat) : Int)) == -9223372036854775808) = false := by rw [beq_eq_false_iff_ne]; omega
      go_wp2
      go_ret2
      exact ⟨by rw [HV2.out]; simp, rfl⟩
end Go.Proofs.YtoohbgjfhchnmaaDoor
