/- walks: the reference's Format, Add, Number -/
import Derived.Test.YtpakciceohgfhaaDoorNf
import Derived.Test.YtpakciceohgfhaaDoorTd
import Derived.Deep.RegionHeld3
namespace Go.Proofs.YtpakciceohgfhaaDoor
open Go.RowKit
open Tx
/-- the digits of a number, none for 0 -/
def dgs (k : Nat) : List UInt8 := if k = 0 then [] else Lib.decDigits k
theorem dgs_step (k : Nat) (hk : k ≠ 0) : dgs (k / 10) ++ (strOfNums [48 + (k : Int) % 10]).data.toList = dgs k := by
  have e : (strOfNums [48 + (k : Int) % 10]).data.toList = [UInt8.ofNat (48 + k % 10)] := by
    rw [strOfNums_data]
    have : (48 + (k : Int) % 10).toNat = 48 + k % 10 := by omega
    simp [this]
  rw [e]
  unfold dgs
  rw [if_neg hk]
  conv => rhs; rw [Lib.decDigits]
  by_cases h : k < 10
  · rw [dif_pos h, if_pos (by omega)]
    have : k % 10 = k := by omega
    rw [this]; rfl
  · rw [dif_neg h, if_neg (by omega)]
set_option maxHeartbeats 1000000 in
theorem rfmt_pos (n : Nat) (w : World) (h0 : 0 < n) (h1 : n ≤ 9223372036854775807) :
    Calls Tryd.prog 32 #[.int .i64 (n : Int)] w fun e w' => e = .returned (.string ⟨(Lib.decDigits n).toArray⟩) ∧ Below w.heap.size w w' := by
  have t0 : ((n : Int) == 0) = false := by rw [beq_eq_false_iff_ne]; omega
  go_enter Tryd.func32, Tryd.ntmps32
  go_wp2_with fail
  go_loopw [3, 4] (fun x m wr => ∃ (k : Nat) (s : ByteArray), m = .int .i64 k ∧ x = .string s ∧ k ≤ n ∧ Hid (dgs k ++ s.data.toList = Lib.decDigits n) ∧ Hid (Below w.heap.size w wr)) (fun _ m _ => (intOf m).toNat)
  case atStart => exact ⟨n, ⟨#[]⟩, rfl, rfl, Nat.le_refl _, Lib.hid (by unfold dgs; rw [if_neg (by omega)]; simp), Lib.hid (Below.refl _ _)⟩
  case round =>
    obtain ⟨k, s, rfl, rfl, KN, E, Br⟩ := hrel
    have SZ : s.size ≤ 20 := by
      have h := congrArg List.length E.out
      have := dd_len 20 n (by omega) (by omega)
      rw [List.length_append, ← size_len] at h; omega
    by_cases hk : k = 0
    · subst hk
      have F : Hid (s = ⟨(Lib.decDigits n).toArray⟩) := Lib.hid (str_ext (by have h := E.out; unfold dgs at h; rw [if_pos rfl, List.nil_append] at h; exact h))
      go_wp2_with fail
      go_ret
      exact ⟨by rw [← F.out]; rfl, Br.out⟩
    · have t1 : ((k : Int) != 0) = true := by rw [bne_iff_ne]; omega
      have CV := conv_one (48 + (k : Int) % 10) wr
      obtain ⟨u, hu⟩ : ∃ u, strOfNums [48 + (k : Int) % 10] = u := ⟨_, rfl⟩
      have E2 : Hid (dgs (k / 10) ++ (u ++ s).data.toList = Lib.decDigits n) := Lib.hid (by rw [← E.out, ← dgs_step k hk, ← hu]; simp)
      have U1 : u.size = 1 := by rw [← hu]; rfl
      rw [hu] at CV
      have Br2 : Hid (Below w.heap.size w (wr.alloc (.cells #[.int .u8 (48 + (k : Int) % 10)] 5))) := Lib.hid (Br.out.alloc Br.out.size _)
      clear hu
      go_wp2_with fail
      go_roundw
      case rel => exact ⟨k / 10, u ++ s, by go_num, rfl, by omega, E2, Br2⟩
      case measure => simp [intOf]; omega
set_option maxHeartbeats 1000000 in
theorem rfmt_neg (n : Nat) (w : World) (h0 : 0 < n) (h1 : n ≤ 9223372036854775808) :
    Calls Tryd.prog 32 #[.int .i64 (-(n : Int))] w fun e w' => e = .returned (.string ⟨(45 :: Lib.decDigits n).toArray⟩) ∧ Below w.heap.size w w' := by
  have t0 : (-(n : Int) == 0) = false := by rw [beq_eq_false_iff_ne]; omega
  have t9 : decide (-(n : Int) < 0) = true := decide_eq_true (by omega)
  go_enter Tryd.func32, Tryd.ntmps32
  go_wp2_with fail
  go_loopw [3, 4] (fun x m wr => ∃ (k : Nat) (s : ByteArray), m = .int .i64 (-(k : Int)) ∧ x = .string s ∧ k ≤ n ∧ Hid (dgs k ++ s.data.toList = Lib.decDigits n) ∧ Hid (Below w.heap.size w wr)) (fun _ m _ => (-(intOf m)).toNat)
  case atStart => exact ⟨n, ⟨#[]⟩, rfl, rfl, Nat.le_refl _, Lib.hid (by unfold dgs; rw [if_neg (by omega)]; simp), Lib.hid (Below.refl _ _)⟩
  case round =>
    obtain ⟨k, s, rfl, rfl, KN, E, Br⟩ := hrel
    have SZ : s.size ≤ 20 := by
      have h := congrArg List.length E.out
      have := dd_len 20 n (by omega) (by omega)
      rw [List.length_append, ← size_len] at h; omega
    by_cases hk : k = 0
    · subst hk
      have F : Hid (s = ⟨(Lib.decDigits n).toArray⟩) := Lib.hid (str_ext (by have h := E.out; unfold dgs at h; rw [if_pos rfl, List.nil_append] at h; exact h))
      go_wp2_with fail
      go_ret
      exact ⟨by rw [F.out]; rfl, Br.out⟩
    · have t1 : ((-(k : Int)) != 0) = true := by rw [bne_iff_ne]; omega
      by_cases hd : 0 < (k : Int) % 10
      · have t2 : decide (0 < (k : Int) % 10) = true := decide_eq_true hd
        have CV := conv_one (48 + (k : Int) % 10) wr
        obtain ⟨u, hu⟩ : ∃ u, strOfNums [48 + (k : Int) % 10] = u := ⟨_, rfl⟩
        have E2 : Hid (dgs (k / 10) ++ (u ++ s).data.toList = Lib.decDigits n) := Lib.hid (by rw [← E.out, ← dgs_step k hk, ← hu]; simp)
        have U1 : u.size = 1 := by rw [← hu]; rfl
        rw [hu] at CV
        have Br2 : Hid (Below w.heap.size w (wr.alloc (.cells #[.int .u8 (48 + (k : Int) % 10)] 5))) := Lib.hid (Br.out.alloc Br.out.size _)
        clear hu
        go_wp2_with fail
        go_roundw
        case rel => exact ⟨k / 10, u ++ s, by go_num, rfl, by omega, E2, Br2⟩
        case measure => simp [intOf]; omega
      · have t2 : decide (0 < (k : Int) % 10) = false := decide_eq_false hd
        have e0 : 48 + -((k : Int) % 10) = 48 + (k : Int) % 10 := by omega
        have CV := conv_one (48 + -((k : Int) % 10)) wr
        obtain ⟨u, hu⟩ : ∃ u, strOfNums [48 + -((k : Int) % 10)] = u := ⟨_, rfl⟩
        have E2 : Hid (dgs (k / 10) ++ (u ++ s).data.toList = Lib.decDigits n) := Lib.hid (by rw [← E.out, ← dgs_step k hk, ← hu, e0]; simp)
        have U1 : u.size = 1 := by rw [← hu]; rfl
        rw [hu] at CV
        have Br2 : Hid (Below w.heap.size w (wr.alloc (.cells #[.int .u8 (48 + -((k : Int) % 10))] 5))) := Lib.hid (Br.out.alloc Br.out.size _)
        clear hu e0
        go_wp2_with fail
        go_roundw
        case rel => exact ⟨k / 10, u ++ s, by go_num, rfl, by omega, E2, Br2⟩
        case measure => simp [intOf]; omega
theorem rfmt_any (n : Int) (w : World) (h0 : -9223372036854775808 ≤ n) (h1 : n ≤ 9223372036854775807) :
    Calls Tryd.prog 32 #[.int .i64 n] w fun e w' => e = .returned (.string ⟨(Lib.itoa n).toArray⟩) ∧ Below w.heap.size w w' := by
  by_cases hz : n = 0
  · subst hz
    go_enter Tryd.func32, Tryd.ntmps32
    go_wp2_with fail
    go_ret
    exact ⟨by rw [show Lib.itoa 0 = [48] by unfold Lib.itoa; rw [if_neg (by omega), show (0 : Int).toNat = 0 from rfl, Lib.decDigits, dif_pos (by omega)]; rfl]; rfl, Below.refl _ _⟩
  · by_cases hn : n < 0
    · obtain ⟨k, hk⟩ : ∃ k : Nat, n = -(k : Int) := ⟨n.natAbs, by omega⟩
      have e : Lib.itoa n = 45 :: Lib.decDigits k := by
        unfold Lib.itoa; rw [if_pos hn]; congr 2; omega
      rw [e, hk]
      exact rfmt_neg k w (by omega) (by omega)
    · obtain ⟨k, hk⟩ : ∃ k : Nat, n = (k : Int) := ⟨n.toNat, by omega⟩
      have e : Lib.itoa n = Lib.decDigits k := by
        unfold Lib.itoa; rw [if_neg hn]; congr 1; omega
      rw [e, hk]
      exact rfmt_pos k w (by omega) (by omega)
/-- the sum of an int and a small number, or an error -/
theorem radd_ok (a : Int) (i : Nat) (w : World) (h0 : -9223372036854775808 ≤ a) (h1 : a + i ≤ 9223372036854775807) (hi : i ≤ 300) :
    Calls Tryd.prog 31 #[.int .i64 a, .int .i64 (i : Int)] w fun e w' => e = .returned (.tuple #[.int .i64 (a + i), .int .i64 0]) ∧ w = w' := by
  go_enter Tryd.func31, Tryd.ntmps31
  go_wp2_with fail
  all_goals go_ret2
  all_goals exact ⟨rfl, rfl⟩
theorem radd_over (a : Int) (i : Nat) (w : World) (h0 : a ≤ 9223372036854775807) (h1 : 9223372036854775807 < a + i) (hi : i ≤ 300) :
    Calls Tryd.prog 31 #[.int .i64 a, .int .i64 (i : Int)] w fun e w' => e = .returned (.tuple #[.int .i64 0, .int .i64 9]) ∧ w = w' := by
  go_enter Tryd.func31, Tryd.ntmps31
  go_wp2_with fail
  all_goals go_ret2
  all_goals exact ⟨rfl, rfl⟩
/-- the number of the i-th line -/
def lno (a : Int) (i : Nat) : Int := if a + i ≤ 9223372036854775807 then a + i else 9223372036854775807
theorem lno_next (a : Int) (i : Nat) : lno a (i + 1) = (if lno a i < 9223372036854775807 then lno a i + 1 else lno a i) := by
  unfold lno
  by_cases h1 : a + i ≤ 9223372036854775807
  · rw [if_pos h1]
    by_cases h2 : a + i < 9223372036854775807
    · rw [if_pos h2, if_pos (by omega)]; omega
    · rw [if_neg h2, if_neg (by omega)]; omega
  · rw [if_neg h1, if_neg (by omega), if_neg (by omega)]
theorem lno_bd (a : Int) (i : Nat) (h0 : -9223372036854775808 ≤ a) : -9223372036854775808 ≤ lno a i ∧ lno a i ≤ 9223372036854775807 := by
  unfold lno; split <;> omega
theorem rfmt_is (n : Int) (l : List UInt8) (w : World) (hr : Hid (-9223372036854775808 ≤ n ∧ n ≤ 9223372036854775807)) (hl : Hid (Lib.itoa n = l)) :
    Calls Tryd.prog 32 #[.int .i64 n] w fun e w' => e = .returned (.string ⟨l.toArray⟩) ∧ Below w.heap.size w w' := by
  rw [← hl.out]; exact rfmt_any n w hr.out.1 hr.out.2
set_option maxHeartbeats 2000000 in
theorem rnumber_any (s : ByteArray) (n : Int) (w : World) (hs : s.size ≤ 300) (h0 : -9223372036854775808 ≤ n) (h1 : n ≤ 9223372036854775807) :
    Calls Tryd.prog 18 #[.string s, .int .i64 n] w fun e w' => e = .returned (.string ⟨(numb (lnk s.data.toList) n).toArray⟩) ∧ Below w.heap.size w w' := by
  have RL := Lib.hid (rlnk_any s w hs)
  have HS : Hid (s.data.toList.length ≤ 300) := Lib.hid (by rw [← size_len]; exact hs)
  have RNG := Lib.hid (And.intro h0 h1)
  clear hs h0 h1
  go_enter Tryd.func18, Tryd.ntmps18
  go_wp2_with (go_at_call 22; refine RL.out.mono ?_; rintro e w1 ⟨v, L, rfl, hL, hO, hb1⟩)
  obtain ⟨a, cap, rfl, _⟩ := hO.strs
  have HL := Lib.hid hL
  have O1 := Lib.hid hO.strs
  have B1 := Lib.hid hb1
  have LF := lnk_full hL HS.out
  have NL := Lib.hid (numb_len L n RNG.out.1 RNG.out.2)
  have BD : Hid ((numb (L.map (·.data.toList)) n).length ≤ 7201) := Lib.hid (by have := NL.out; omega)
  obtain ⟨N, hN⟩ : ∃ N, L.length = N := ⟨_, rfl⟩
  have LN2 := LF.2
  have HN := Lib.hid hN
  rw [hN] at LN2 O1 ⊢
  clear hL hO hb1 LF NL hN
  go_loopw [6, 7] (fun x i wr => ∃ (j : Nat) (o : ByteArray), i = .int .i64 j ∧ x = .string o ∧ j ≤ N ∧ Hid (o.data.toList ++ numb ((L.drop j).map (·.data.toList)) (lno n j) = numb (L.map (·.data.toList)) n) ∧ Hid (Below w1.heap.size w1 wr)) (fun _ i _ => N - (intOf i).toNat)
  case atStart => exact ⟨0, ⟨#[]⟩, rfl, rfl, by omega, Lib.hid (by unfold lno; rw [if_pos (by have := RNG.out; omega)]; simp), Lib.hid (Below.refl _ _)⟩
  case round =>
    obtain ⟨j, o, rfl, rfl, jn, OE, Br⟩ := hrel
    by_cases hlt : j < N
    · have x1 : j < L.length := by have := HN.out; omega
      obtain ⟨g, off, cap', e, _, _, hg, hc⟩ := (O1.out.below Br.out).cons (by intro e; rw [e] at x1; simp at x1)
      rw [HN.out] at e
      simp only [Value.slice.injEq] at e
      obtain ⟨rfl, _, rfl⟩ := e
      have k1 := hc j _ (List.getElem?_eq_getElem x1)
      have ND := numb_drop x1 (lno n j)
      rw [← lno_next n j] at ND
      obtain ⟨y, hy⟩ : ∃ y, L[j] = y := ⟨_, rfl⟩
      rw [hy] at k1 ND
      obtain ⟨t, ht⟩ : ∃ t, Lib.itoa (lno n j) = t := ⟨_, rfl⟩
      have RF := Lib.hid (lno_bd n j RNG.out.1)
      have HT2 := Lib.hid ht
      rw [ht] at ND
      have OE2 : Hid ((((o ++ ⟨t.toArray⟩) ++ ⟨#[9]⟩) ++ y).data.toList ++ numb ((L.drop (j + 1)).map (·.data.toList)) (lno n (j + 1)) = numb (L.map (·.data.toList)) n) := Lib.hid (by rw [← OE.out, ND]; simp)
      have LB : o.size + t.length + 1 + y.size ≤ 7201 := by
        have h := congrArg List.length OE2.out
        have e2 : (((o ++ ⟨t.toArray⟩) ++ ⟨#[9]⟩) ++ y).data.toList = ((o.data.toList ++ t) ++ [9]) ++ y.data.toList := by simp
        rw [e2] at h
        simp only [List.length_append, List.length_cons, List.length_nil, ← size_len] at h
        have := BD.out; omega
      have HG := Lib.hid hg
      have TS : (ByteArray.mk t.toArray).size = t.length := rfl
      have n1 : ¬ 9223372036854775807 < o.size + t.length := by omega
      have n2 : ¬ 9223372036854775807 < o.size + t.length + 1 := by omega
      have n3 : ¬ 9223372036854775807 < o.size + t.length + 1 + y.size := by omega
      clear hy x1 ND ht hc hg
      obtain ⟨q, hq⟩ : ∃ q, lno n j = q := ⟨_, rfl⟩
      rw [hq] at RF HT2
      have S0 : Below wr.heap.size wr wr.drew ∧ wr.drew.cell? ⟨g, off + j, none⟩ = some (.string y) := ⟨(Below.refl _ _).drew, k1⟩
      have KP : Hid (∀ w', Below wr.heap.size wr w' → Below wr.heap.size wr w' ∧ w'.cell? ⟨g, off + j, none⟩ = some (.string y)) := Lib.hid (fun w' B => ⟨B, (B.cell (p := ⟨g, off + j, none⟩) HG.out).trans k1⟩)
      by_cases hf : n + j ≤ 9223372036854775807
      · have AD := Lib.hid (radd_ok n j wr RNG.out.1 hf (by omega))
        have hq2 : n + j = q := by rw [← hq]; unfold lno; rw [if_pos hf]
        rw [hq2] at AD
        clear hf hq hq2
        go_wp2_with (go_at_call 31; refine AD.out.mono ?_; rintro e w2 ⟨rfl, rfl⟩)
        go_region_held3 (fun w' => Below wr.heap.size wr w' ∧ w'.cell? ⟨g, off + j, none⟩ = some (.string y)) (first | exact S0 | exact KP.out _ B3)
          (first | (go_at_call 32; refine (rfmt_is q t _ RF HT2).mono ?_; rintro e w3 ⟨rfl, hb3⟩; have B3 := S0.1.trans (hb3.mono S0.1.size)))
        go_wp2_with fail
        go_roundw
        case rel => exact ⟨j + 1, _, by go_num, rfl, by omega, OE2, Lib.hid (Br.out.trans (B3.mono Br.out.size))⟩
        case measure => simp [intOf]; omega
      · have AD := Lib.hid (radd_over n j wr RNG.out.2 (by omega) (by omega))
        have hq2 : q = 9223372036854775807 := by rw [← hq]; unfold lno; rw [if_neg hf]
        subst hq2
        clear hf hq
        go_wp2_with (go_at_call 31; refine AD.out.mono ?_; rintro e w2 ⟨rfl, rfl⟩)
        go_region_held3 (fun w' => Below wr.heap.size wr w' ∧ w'.cell? ⟨g, off + j, none⟩ = some (.string y)) (first | exact S0 | exact KP.out _ B3)
          (first | (go_at_call 32; refine (rfmt_is 9223372036854775807 t _ RF HT2).mono ?_; rintro e w3 ⟨rfl, hb3⟩; have B3 := S0.1.trans (hb3.mono S0.1.size)))
        go_wp2_with fail
        go_roundw
        case rel => exact ⟨j + 1, _, by go_num, rfl, by omega, OE2, Lib.hid (Br.out.trans (B3.mono Br.out.size))⟩
        case measure => simp [intOf]; omega
    · obtain rfl : j = N := by omega
      have FE : Hid (o = ⟨(numb (lnk s.data.toList) n).toArray⟩) := Lib.hid (str_ext (by
        have h := OE.out
        rw [List.drop_of_length_le (by rw [HN.out]; exact Nat.le_refl _)] at h
        rw [← HL.out]
        show o.data.toList = numb (L.map (·.data.toList)) n
        rw [← h]; simp [numb]))
      go_wp2_with fail
      go_ret
      exact ⟨by rw [← FE.out]; rfl, B1.out.trans (Br.out.mono B1.out.size)⟩
end Go.Proofs.YtpakciceohgfhaaDoor
