/- walks: the reference's Format -/
import Derived.Test.YtjngkapfngempaaDoorWo
namespace Go.Proofs.YtjngkapfngempaaDoor
open Go.RowKit
open Dcm Byt
theorem rtext_is (n least K : Nat) (a b : Int) (w : World) (ha : a = (n : Int)) (hb : b = (least : Int)) (hn : n ≤ 1000000000) (hK : Cnt n least K) :
    Calls Tryd.prog 58 #[.int .i64 a, .int .i64 b] w fun e w' => ∃ x : ByteArray, e = .returned (.string x) ∧ Hid (x.data.toList = low K n) ∧ x.size ≤ 20 ∧ Below w.heap.size w w' := by
  subst ha hb
  exact (rtext_any n least K w (by omega) hK).mono fun e w' ⟨h1, h2⟩ => ⟨_, h1, Lib.hid rfl, by rw [size_len]; show (low K n).length ≤ 20; rw [low_length]; exact hK.big, h2⟩
set_option maxHeartbeats 8000000 in
theorem rformat_any (d : Int) (w : World) :
    Calls Tryd.prog 32 #[.int .i64 d] w fun e w' => e = .returned (.string ⟨(fmtL d).toArray⟩) ∧ Below w.heap.size w w' := by
  obtain ⟨N, A, W, f, F⟩ : ∃ N A W f, FmtF d N A W f := ⟨_, _, _, _, rfl, rfl, rfl, rfl⟩
  have n1 := near_lo d
  have n2 := near_hi d
  rw [F.hN] at n1 n2
  have hA := F.hA
  have hAb : A ≤ 10000000000000 := by omega
  have hW := F.hW
  have hf := F.hf
  have hWb : W ≤ 1000000000 := by omega
  have hfb : f < 10000 := by omega
  obtain ⟨K, c1, d1⟩ := cnt_any W hWb
  have C1 := Lib.hid c1
  have D1 := Lib.hid d1
  clear c1 d1
  have q1 : (A : Int) / 10000 = (W : Int) := by omega
  have q2 : (A : Int) % 10000 = (f : Int) := by omega
  have SZ : Hid (sz N = (A : Int)) := Lib.hid (by rw [sz_natAbs, hA])
  clear hA hW hf
  by_cases hn : N < 0
  · skip
    by_cases hf0 : f = 0
    · have Q : Hid (fmtL d = [45] ++ Lib.decDigits W) := Lib.hid (by rw [F.whole hf0, if_pos hn])
      subst hf0
      go_enter Tryd.func32, Tryd.ntmps32
      go_wp2_with (first | (go_at_call 56; refine (rnear_is _ _ _ F.hN).mono ?_; rintro e w' ⟨rfl, rfl⟩) | (go_at_call 57; refine (rsize_is N A _ SZ.out n1 n2).mono ?_; rintro e w' ⟨rfl, rfl⟩) | (go_at_call 58; refine (rtext_is W 1 K _ _ _ (by omega) (by omega) hWb C1.out).mono ?_; rintro e w1 ⟨x, rfl, hx, hxs, hb⟩))
      go_ret
      exact ⟨ret_str (mk_eq _ _ (by rw [Q.out, ← D1.out]; first | (rw [app_list, hx.out]; done) | (rw [app_list, hx.out]; rfl) | (rw [hx.out]; rfl))), hb⟩
    · have Q : Hid (fmtL d = [45] ++ Lib.decDigits W ++ 46 :: trimZ (low 4 f)) := Lib.hid (by rw [F.frac hf0, if_pos hn])
      have z : ((f : Int) != 0) = true := by rw [bne_iff_ne]; omega
      have T0 := Lib.hid (low4_ne f hfb hf0)
      have C4 := Lib.hid (cnt_four f hfb)
      have hfb2 : f ≤ 1000000000 := by omega
      clear hf0
      have HF := Lib.hid hfb
      go_enter Tryd.func32, Tryd.ntmps32
      go_wp2_with (first | (go_at_call 56; refine (rnear_is _ _ _ F.hN).mono ?_; rintro e w' ⟨rfl, rfl⟩) | (go_at_call 57; refine (rsize_is N A _ SZ.out n1 n2).mono ?_; rintro e w' ⟨rfl, rfl⟩) | (go_at_call 58; with_reducible refine (rtext_is W 1 K _ _ _ (by omega) (by omega) hWb C1.out).mono ?_; rintro e w1 ⟨x, rfl, hx, hxs, hb⟩))
      refine (rtext_is f 4 4 _ _ _ (by omega) (by omega) hfb2 C4.out).mono ?_
      rintro e w2 ⟨t, rfl, hts, htz, hb2⟩
      have hb3 := Lib.hid (hb.trans (hb2.mono hb.size))
      have TI : TrI (trimZ (low 4 f)) t := ⟨by rw [hts.out], T0.out⟩
      go_wp2_with fail
      go_loop [5] (fun v => ∃ u : ByteArray, v = .string u ∧ TrI (trimZ (low 4 f)) u ∧ u.size ≤ 20) (fun v => match v with | .string u => u.size | _ => 0)
      case atStart => exact ⟨t, rfl, TI, htz⟩
      case round =>
        obtain ⟨u, rfl, hI, hu⟩ := hrel
        have hp := hI.pos
        have hl : u.size - 1 < u.size := by omega
        by_cases hc : (u[u.size - 1].toNat : Int) = 48
        · have hc' : ((u[u.size - 1].toNat : Int) == 48) = true := by rw [hc]; rfl
          have R := hI.hit hl hc
          clear hc
          go_wp2_with fail
          go_round
          case rel => exact ⟨_, rfl, R, by simp; omega⟩
          case measure => simp; omega
        · have hc' : ((u[u.size - 1].toNat : Int) == 48) = false := by rw [beq_eq_false_iff_ne]; exact hc
          have R := Lib.hid (hI.miss hl hc)
          clear hc
          go_wp2_with fail
          go_ret
          exact ⟨ret_str (mk_eq _ _ (by rw [Q.out, ← D1.out]; simp only [app_list, R.out, hx.out]; simp)), hb3.out⟩
  · skip
    by_cases hf0 : f = 0
    · have Q : Hid (fmtL d = [] ++ Lib.decDigits W) := Lib.hid (by rw [F.whole hf0, if_neg hn])
      subst hf0
      go_enter Tryd.func32, Tryd.ntmps32
      go_wp2_with (first | (go_at_call 56; refine (rnear_is _ _ _ F.hN).mono ?_; rintro e w' ⟨rfl, rfl⟩) | (go_at_call 57; refine (rsize_is N A _ SZ.out n1 n2).mono ?_; rintro e w' ⟨rfl, rfl⟩) | (go_at_call 58; refine (rtext_is W 1 K _ _ _ (by omega) (by omega) hWb C1.out).mono ?_; rintro e w1 ⟨x, rfl, hx, hxs, hb⟩))
      go_ret
      exact ⟨ret_str (mk_eq _ _ (by rw [Q.out, ← D1.out]; first | (rw [app_list, hx.out]; done) | (rw [app_list, hx.out]; rfl) | (rw [hx.out]; rfl))), hb⟩
    · have Q : Hid (fmtL d = [] ++ Lib.decDigits W ++ 46 :: trimZ (low 4 f)) := Lib.hid (by rw [F.frac hf0, if_neg hn])
      have z : ((f : Int) != 0) = true := by rw [bne_iff_ne]; omega
      have T0 := Lib.hid (low4_ne f hfb hf0)
      have C4 := Lib.hid (cnt_four f hfb)
      have hfb2 : f ≤ 1000000000 := by omega
      clear hf0
      have HF := Lib.hid hfb
      go_enter Tryd.func32, Tryd.ntmps32
      go_wp2_with (first | (go_at_call 56; refine (rnear_is _ _ _ F.hN).mono ?_; rintro e w' ⟨rfl, rfl⟩) | (go_at_call 57; refine (rsize_is N A _ SZ.out n1 n2).mono ?_; rintro e w' ⟨rfl, rfl⟩) | (go_at_call 58; with_reducible refine (rtext_is W 1 K _ _ _ (by omega) (by omega) hWb C1.out).mono ?_; rintro e w1 ⟨x, rfl, hx, hxs, hb⟩))
      refine (rtext_is f 4 4 _ _ _ (by omega) (by omega) hfb2 C4.out).mono ?_
      rintro e w2 ⟨t, rfl, hts, htz, hb2⟩
      have hb3 := Lib.hid (hb.trans (hb2.mono hb.size))
      have TI : TrI (trimZ (low 4 f)) t := ⟨by rw [hts.out], T0.out⟩
      go_wp2_with fail
      go_loop [5] (fun v => ∃ u : ByteArray, v = .string u ∧ TrI (trimZ (low 4 f)) u ∧ u.size ≤ 20) (fun v => match v with | .string u => u.size | _ => 0)
      case atStart => exact ⟨t, rfl, TI, htz⟩
      case round =>
        obtain ⟨u, rfl, hI, hu⟩ := hrel
        have hp := hI.pos
        have hl : u.size - 1 < u.size := by omega
        by_cases hc : (u[u.size - 1].toNat : Int) = 48
        · have hc' : ((u[u.size - 1].toNat : Int) == 48) = true := by rw [hc]; rfl
          have R := hI.hit hl hc
          clear hc
          go_wp2_with fail
          go_round
          case rel => exact ⟨_, rfl, R, by simp; omega⟩
          case measure => simp; omega
        · have hc' : ((u[u.size - 1].toNat : Int) == 48) = false := by rw [beq_eq_false_iff_ne]; exact hc
          have R := Lib.hid (hI.miss hl hc)
          clear hc
          go_wp2_with fail
          go_ret
          exact ⟨ret_str (mk_eq _ _ (by rw [Q.out, ← D1.out]; simp only [app_list, R.out, hx.out]; simp)), hb3.out⟩
end Go.Proofs.YtjngkapfngempaaDoor
