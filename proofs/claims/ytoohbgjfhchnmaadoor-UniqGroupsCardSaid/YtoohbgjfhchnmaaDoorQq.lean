/- walks: num.Format and the reference's Format; what is printed for a group -/
import Derived.Test.YtoohbgjfhchnmaaDoorQp
import Derived.Lib.AppendIntMem
import Derived.Lib.ItoaNum
import Derived.Lib.SmallJoins
namespace Go.Proofs.YtoohbgjfhchnmaaDoor
open Go.RowKit Go.Maps
open Lcl
abbrev Tab (w : World) : Prop := Lib.TabIs Tryd.prog w "internal/strconv.uint64pow10" .u64 Lib.pow10Tab
theorem gPow : Tryd.prog.globalNamed "internal/strconv.uint64pow10" = some 0 := by kernel_rfl
theorem tab_below {w w' : World} (h : Tab w) (hb : Below w.heap.size w w') : Tab w' := Joins.tab_stays gPow h hb (Nat.le_refl _)
theorem dd_len : ∀ (k u : Nat), 1 ≤ k → u < 10 ^ k → (Lib.decDigits u).length ≤ k := by
  intro k
  induction k with
  | zero => intro u h; omega
  | succ k ih =>
    intro u _ hu
    rw [Lib.decDigits]
    split
    · simp
    · rename_i h10
      have hk : 1 ≤ k := by
        apply Decidable.byContradiction; intro hk
        have : k = 0 := by omega
        subst this; simp at hu; omega
      have := ih (u / 10) hk (by rw [Nat.pow_succ] at hu; omega)
      simp only [List.length_append, List.length_cons, List.length_nil]; omega
theorem itoa_len (n : Int) (h0 : -9223372036854775808 ≤ n) (h1 : n ≤ 9223372036854775807) : (Lib.itoa n).length ≤ 21 := by
  unfold Lib.itoa
  split
  · have := dd_len 20 n.natAbs (by omega) (by omega)
    simp only [List.length_cons]; omega
  · have := dd_len 20 n.toNat (by omega) (by omega)
    omega
theorem nfmt_any (n : Int) (w : World) (h0 : -9223372036854775808 ≤ n) (h1 : n ≤ 9223372036854775807) (htab : Tab w) :
    Calls Tryd.prog 35 #[.int .i64 n] w fun e w' => e = .returned (.string ⟨(Lib.itoa n).toArray⟩) ∧ Below w.heap.size w w' := by
  have C := Lib.hid ((Tryd.strconv_Itoa n h0 h1 w htab).mono (R' := fun e w' => e = .returned (.string ⟨(Lib.itoa n).toArray⟩) ∧ Below w.heap.size w w') fun e w' ⟨h, k, os, hw⟩ => ⟨h, by rw [hw]; exact Lib.below_grow _ w (Nat.le_refl _) k os⟩)
  clear h0 h1 htab
  go_enter Tryd.func35, Tryd.ntmps35
  go_wp2_with (go_at_call 43; refine C.out.mono ?_; rintro e w' ⟨rfl, hb⟩)
  go_ret
  exact ⟨rfl, hb⟩
theorem nfmt_is (n : Int) (l : List UInt8) (w : World) (hr : Hid (-9223372036854775808 ≤ n ∧ n ≤ 9223372036854775807)) (htab : Hid (Tab w)) (hl : Hid (Lib.itoa n = l)) :
    Calls Tryd.prog 35 #[.int .i64 n] w fun e w' => e = .returned (.string ⟨l.toArray⟩) ∧ Below w.heap.size w w' := by
  rw [← hl.out]; exact nfmt_any n w hr.out.1 hr.out.2 htab.out
theorem size_len (s : ByteArray) : s.size = s.data.toList.length := rfl
theorem str_ext {a b : ByteArray} (h : a.data.toList = b.data.toList) : a = b := ba_eq h
theorem tx_conv_one (x : Int) (w : World) : (convert 61 9 (.slice (some ⟨w.heap.size, 0, none⟩) 1 1)).run Tryd.prog (w.alloc (.cells #[.int .u8 x] 5)) = .ok (.string (strOfNums [x])) (w.alloc (.cells #[.int .u8 x] 5)) :=
  run_convert_bytes_arg _ 61 5 Tryd.underlying61 Tryd.underlying5 w.heap.size 0 1 1 [x] rfl (fun i hi => by
    have h0 : i = 0 := by omega
    subst h0
    have h := heap_alloc_new w (.cells #[.int .u8 x] 5)
    generalize w.alloc (.cells #[.int .u8 x] 5) = w', w.heap.size = n at h
    simp [World.cell?, h]) 9 Tryd.underlying9
def dgs (k : Nat) : List UInt8 := if k = 0 then [] else Lib.decDigits k
theorem dgs_step (k : Nat) (hk : k ≠ 0) : dgs (k / 10) ++ (strOfNums [48 + (k : Int) % 10]).data.toList = dgs k := by
  have e : (strOfNums [48 + (k : Int) % 10]).data.toList = [UInt8.ofNat (48 + k % 10)] := by
    rw [strOfNums_data]
    have : (48 + (k : Int) % 10).toNat = 48 + k % 10 := by omega
    simp [this]
  rw [e]
  unfold dgs
  rw [if_neg hk]
  conv => rhs; rw [Lib.decDigits]
  by_cases h : k < 10
  · rw [dif_pos h, if_pos (by omega)]
    have : k % 10 = k := by omega
    rw [this]; rfl
  · rw [dif_neg h, if_neg (by omega)]
set_option maxHeartbeats 1000000 in
set_option maxRecDepth 100000 in
theorem rfmt_pos (n : Nat) (w : World) (h0 : 0 < n) (h1 : n ≤ 9223372036854775807) :
    Calls Tryd.prog 36 #[.int .i64 (n : Int)] w fun e w' => e = .returned (.string ⟨(Lib.decDigits n).toArray⟩) ∧ Below w.heap.size w w' := by
  have t0 : ((n : Int) == 0) = false := by rw [beq_eq_false_iff_ne]; omega
  go_enter Tryd.func36, Tryd.ntmps36
  go_wp2_with fail
  go_loopw [3, 4] (fun x m wr => ∃ (k : Nat) (s : ByteArray), m = .int .i64 k ∧ x = .string s ∧ k ≤ n ∧ Hid (dgs k ++ s.data.toList = Lib.decDigits n) ∧ Hid (Below w.heap.size w wr)) (fun _ m _ => (intOf m).toNat)
  case atStart => exact ⟨n, ⟨#[]⟩, rfl, rfl, Nat.le_refl _, Lib.hid (by unfold dgs; rw [if_neg (by omega)]; simp), Lib.hid (Below.refl _ _)⟩
  case round =>
    obtain ⟨k, s, rfl, rfl, KN, E, Br⟩ := hrel
    have SZ : s.size ≤ 20 := by
      have h := congrArg List.length E.out
      have := dd_len 20 n (by omega) (by omega)
      rw [List.length_append, ← size_len] at h; omega
    by_cases hk : k = 0
    · subst hk
      have F : Hid (s = ⟨(Lib.decDigits n).toArray⟩) := Lib.hid (str_ext (by have h := E.out; unfold dgs at h; rw [if_pos rfl, List.nil_append] at h; exact h))
      go_wp2_with fail
      go_ret
      exact ⟨by rw [← F.out]; rfl, Br.out⟩
    · have t1 : ((k : Int) != 0) = true := by rw [bne_iff_ne]; omega
      have CV := tx_conv_one (48 + (k : Int) % 10) wr
      obtain ⟨u, hu⟩ : ∃ u, strOfNums [48 + (k : Int) % 10] = u := ⟨_, rfl⟩
      have E2 : Hid (dgs (k / 10) ++ (u ++ s).data.toList = Lib.decDigits n) := Lib.hid (by rw [← E.out, ← dgs_step k hk, ← hu]; simp)
      have U1 : u.size = 1 := by rw [← hu]; rfl
      rw [hu] at CV
      have Br2 : Hid (Below w.heap.size w (wr.alloc (.cells #[.int .u8 (48 + (k : Int) % 10)] 5))) := Lib.hid (Br.out.alloc Br.out.size _)
      clear hu
      go_wp2_with fail
      go_roundw
      case rel => exact ⟨k / 10, u ++ s, by go_num, rfl, by omega, E2, Br2⟩
      case measure => simp [intOf]; omega
set_option maxHeartbeats 1000000 in
set_option maxRecDepth 100000 in
theorem rfmt_neg (n : Nat) (w : World) (h0 : 0 < n) (h1 : n ≤ 9223372036854775808) :
    Calls Tryd.prog 36 #[.int .i64 (-(n : Int))] w fun e w' => e = .returned (.string ⟨(45 :: Lib.decDigits n).toArray⟩) ∧ Below w.heap.size w w' := by
  have t0 : (-(n : Int) == 0) = false := by rw [beq_eq_false_iff_ne]; omega
  have t9 : decide (-(n : Int) < 0) = true := decide_eq_true (by omega)
  go_enter Tryd.func36, Tryd.ntmps36
  go_wp2_with fail
  go_loopw [3, 4] (fun x m wr => ∃ (k : Nat) (s : ByteArray), m = .int .i64 (-(k : Int)) ∧ x = .string s ∧ k ≤ n ∧ Hid (dgs k ++ s.data.toList = Lib.decDigits n) ∧ Hid (Below w.heap.size w wr)) (fun _ m _ => (-(intOf m)).toNat)
  case atStart => exact ⟨n, ⟨#[]⟩, rfl, rfl, Nat.le_refl _, Lib.hid (by unfold dgs; rw [if_neg (by omega)]; simp), Lib.hid (Below.refl _ _)⟩
  case round =>
    obtain ⟨k, s, rfl, rfl, KN, E, Br⟩ := hrel
    have SZ : s.size ≤ 20 := by
      have h := congrArg List.length E.out
      have := dd_len 20 n (by omega) (by omega)
      rw [List.length_append, ← size_len] at h; omega
    by_cases hk : k = 0
    · subst hk
      have F : Hid (s = ⟨(Lib.decDigits n).toArray⟩) := Lib.hid (str_ext (by have h := E.out; unfold dgs at h; rw [if_pos rfl, List.nil_append] at h; exact h))
      go_wp2_with fail
      go_ret
      exact ⟨by rw [F.out]; rfl, Br.out⟩
    · have t1 : ((-(k : Int)) != 0) = true := by rw [bne_iff_ne]; omega
      by_cases hd : 0 < (k : Int) % 10
      · have t2 : decide (0 < (k : Int) % 10) = true := decide_eq_true hd
        have CV := tx_conv_one (48 + (k : Int) % 10) wr
        obtain ⟨u, hu⟩ : ∃ u, strOfNums [48 + (k : Int) % 10] = u := ⟨_, rfl⟩
        have E2 : Hid (dgs (k / 10) ++ (u ++ s).data.toList = Lib.decDigits n) := Lib.hid (by rw [← E.out, ← dgs_step k hk, ← hu]; simp)
        have U1 : u.size = 1 := by rw [← hu]; rfl
        rw [hu] at CV
        have Br2 : Hid (Below w.heap.size w (wr.alloc (.cells #[.int .u8 (48 + (k : Int) % 10)] 5))) := Lib.hid (Br.out.alloc Br.out.size _)
        clear hu
        go_wp2_with fail
        go_roundw
        case rel => exact ⟨k / 10, u ++ s, by go_num, rfl, by omega, E2, Br2⟩
        case measure => simp [intOf]; omega
      · have t2 : decide (0 < (k : Int) % 10) = false := decide_eq_false hd
        have e0 : 48 + -((k : Int) % 10) = 48 + (k : Int) % 10 := by omega
        have CV := tx_conv_one (48 + -((k : Int) % 10)) wr
        obtain ⟨u, hu⟩ : ∃ u, strOfNums [48 + -((k : Int) % 10)] = u := ⟨_, rfl⟩
        have E2 : Hid (dgs (k / 10) ++ (u ++ s).data.toList = Lib.decDigits n) := Lib.hid (by rw [← E.out, ← dgs_step k hk, ← hu, e0]; simp)
        have U1 : u.size = 1 := by rw [← hu]; rfl
        rw [hu] at CV
        have Br2 : Hid (Below w.heap.size w (wr.alloc (.cells #[.int .u8 (48 + -((k : Int) % 10))] 5))) := Lib.hid (Br.out.alloc Br.out.size _)
        clear hu e0
        go_wp2_with fail
        go_roundw
        case rel => exact ⟨k / 10, u ++ s, by go_num, rfl, by omega, E2, Br2⟩
        case measure => simp [intOf]; omega
theorem rfmt_any (n : Int) (w : World) (h0 : -9223372036854775808 ≤ n) (h1 : n ≤ 9223372036854775807) :
    Calls Tryd.prog 36 #[.int .i64 n] w fun e w' => e = .returned (.string ⟨(Lib.itoa n).toArray⟩) ∧ Below w.heap.size w w' := by
  by_cases hz : n = 0
  · subst hz
    go_enter Tryd.func36, Tryd.ntmps36
    go_wp2_with fail
    go_ret
    exact ⟨by rw [show Lib.itoa 0 = [48] by unfold Lib.itoa; rw [if_neg (by omega), show (0 : Int).toNat = 0 from rfl, Lib.decDigits, dif_pos (by omega)]; rfl]; rfl, Below.refl _ _⟩
  · by_cases hn : n < 0
    · obtain ⟨k, hk⟩ : ∃ k : Nat, n = -(k : Int) := ⟨n.natAbs, by omega⟩
      have e : Lib.itoa n = 45 :: Lib.decDigits k := by
        unfold Lib.itoa; rw [if_pos hn]; congr 2; omega
      rw [e, hk]
      exact rfmt_neg k w (by omega) (by omega)
    · obtain ⟨k, hk⟩ : ∃ k : Nat, n = (k : Int) := ⟨n.toNat, by omega⟩
      have e : Lib.itoa n = Lib.decDigits k := by
        unfold Lib.itoa; rw [if_neg hn]; congr 1; omega
      rw [e, hk]
      exact rfmt_pos k w (by omega) (by omega)
theorem rfmt_is (n : Int) (l : List UInt8) (w : World) (hr : Hid (-9223372036854775808 ≤ n ∧ n ≤ 9223372036854775807)) (hl : Hid (Lib.itoa n = l)) :
    Calls Tryd.prog 36 #[.int .i64 n] w fun e w' => e = .returned (.string ⟨l.toArray⟩) ∧ Below w.heap.size w w' := by
  rw [← hl.out]; exact rfmt_any n w hr.out.1 hr.out.2
end Go.Proofs.YtoohbgjfhchnmaaDoor
