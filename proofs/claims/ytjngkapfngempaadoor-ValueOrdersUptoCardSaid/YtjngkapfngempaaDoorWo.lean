/- walks: Format -/
import Derived.Test.YtjngkapfngempaaDoorWn
import Derived.Test.YtjngkapfngempaaDoorWg
import Derived.Test.YtjngkapfngempaaDoorByt6
namespace Go.Proofs.YtjngkapfngempaaDoor
open Go.RowKit
open Dcm Byt
abbrev Tab (w : World) : Prop := Lib.TabIs Tryd.prog w "internal/strconv.uint64pow10" .u64 Lib.pow10Tab
theorem gPow : Tryd.prog.globalNamed "internal/strconv.uint64pow10" = some 5 := by kernel_rfl
theorem dec_size (W : Nat) (h : W ≤ 1000000000) : (Lib.decDigits W).length ≤ 20 := by
  obtain ⟨K, h1, h2⟩ := cnt_any W h
  rw [← h2, low_length]; exact h1.big
theorem nformat_is (n : Nat) (m : Int) (w : World) (hm : m = (n : Int)) (hn : n ≤ 1000000000) (htab : Tab w) :
    Calls Tryd.prog 55 #[.int .i64 m] w fun e w' => ∃ x : ByteArray, e = .returned (.string x) ∧ Hid (x.data.toList = Lib.decDigits n) ∧ x.size ≤ 20 ∧ Below w.heap.size w w' := by
  subst hm
  exact (nformat_any n (by omega) w htab).mono fun e w' ⟨h1, h2⟩ => ⟨_, h1, Lib.hid rfl, by rw [size_len]; exact dec_size n hn, h2⟩
structure FmtF (d N : Int) (A W f : Nat) : Prop where
  hN : near d = N
  hA : N.natAbs = A
  hW : A / 10000 = W
  hf : A % 10000 = f
theorem FmtF.whole {d N : Int} {A W f : Nat} (F : FmtF d N A W f) (h : f = 0) : fmtL d = (if N < 0 then [45] else []) ++ Lib.decDigits W := by
  unfold fmtL; rw [F.hN, F.hA, F.hW, F.hf, if_pos h]; simp
theorem FmtF.frac {d N : Int} {A W f : Nat} (F : FmtF d N A W f) (h : ¬ f = 0) : fmtL d = (if N < 0 then [45] else []) ++ Lib.decDigits W ++ 46 :: trimZ (low 4 f) := by
  unfold fmtL; rw [F.hN, F.hA, F.hW, F.hf, if_neg h]
set_option maxHeartbeats 8000000 in
theorem format_any (d : Int) (w : World) (ht : Tab w) :
    Calls Tryd.prog 31 #[.int .i64 d] w fun e w' => e = .returned (.string ⟨(fmtL d).toArray⟩) ∧ Below w.heap.size w w' := by
  obtain ⟨N, A, W, f, F⟩ : ∃ N A W f, FmtF d N A W f := ⟨_, _, _, _, rfl, rfl, rfl, rfl⟩
  have n1 := near_lo d
  have n2 := near_hi d
  rw [F.hN] at n1 n2
  have hA := F.hA
  have hAb : A ≤ 10000000000000 := by omega
  have hW := F.hW
  have hf := F.hf
  have hWb : W ≤ 1000000000 := by omega
  have hfb : f < 10000 := by omega
  have HT := Lib.hid ht
  have q1 : (A : Int) / 10000 = (W : Int) := by omega
  have q2 : (A : Int) % 10000 = (f : Int) := by omega
  by_cases hn : N < 0
  · have hneg : -N = (A : Int) := by omega
    clear hA hW hf ht
    by_cases hf0 : f = 0
    · have Q : Hid (fmtL d = [45] ++ Lib.decDigits W) := Lib.hid (by rw [F.whole hf0, if_pos hn])
      subst hf0
      go_enter Tryd.func31, Tryd.ntmps31
      go_wp2_with (first | (go_at_call 54; refine (near_is _ _ _ F.hN).mono ?_; rintro e w' ⟨rfl, rfl⟩) | (go_at_call 55; refine (nformat_is W _ _ rfl hWb HT.out).mono ?_; rintro e w1 ⟨x, rfl, hx, hxs, hb⟩))
      go_ret
      exact ⟨ret_str (mk_eq _ _ (by rw [Q.out]; first | (rw [app_list, hx.out]) | (rw [hx.out]; rfl))), hb⟩
    · have Q : Hid (fmtL d = [45] ++ Lib.decDigits W ++ 46 :: trimZ (low 4 f)) := Lib.hid (by rw [F.frac hf0, if_pos hn])
      have z : ((f : Int) == 0) = false := by rw [beq_eq_false_iff_ne]; omega
      have T0 := Lib.hid (low4_ne f hfb hf0)
      have z2 : (10000 : Int) + (f : Int) = ((10000 + f : Nat) : Int) := by omega
      have Z2 := Lib.hid z2; clear z2 hf0
      have HF := Lib.hid hfb
      go_enter Tryd.func31, Tryd.ntmps31
      go_wp2_with (first | (go_at_call 54; refine (near_is _ _ _ F.hN).mono ?_; rintro e w' ⟨rfl, rfl⟩) | (go_at_call 55; with_reducible refine (nformat_is W _ _ rfl hWb HT.out).mono ?_; rintro e w1 ⟨x, rfl, hx, hxs, hb⟩))
      have hT1 : Tab w1 := Joins.tab_stays gPow HT.out hb (Nat.le_refl _)
      have HT1 := Lib.hid hT1; clear hT1
      refine (nformat_is (10000 + f) _ _ Z2.out (by omega) HT1.out).mono ?_
      rintro e w2 ⟨y, rfl, hy, hys, hb2⟩
      have hb3 := Lib.hid (hb.trans (hb2.mono hb.size))
      obtain ⟨t, hts⟩ : ∃ t, y.extract 1 y.size = t := ⟨_, rfl⟩
      have hy5 : y.data.toList.drop 1 = low 4 f := by rw [hy.out]; exact five f HF.out
      have TI : TrI (trimZ (low 4 f)) t := ⟨by rw [← hts, ext_to, hy5], T0.out⟩
      have hy1 : 1 ≤ y.size := by
        have h4 : (y.data.toList.drop 1).length = 4 := by rw [hy5, low_length]
        rw [List.length_drop, ← size_len] at h4; omega
      have htsz : t.size ≤ 20 := by rw [size_len, ← hts, ext_to, List.length_drop, ← size_len]; omega
      clear hy5
      go_wp2_with fail
      go_loop [6] (fun v => ∃ u : ByteArray, v = .string u ∧ TrI (trimZ (low 4 f)) u ∧ u.size ≤ 20) (fun v => match v with | .string u => u.size | _ => 0)
      case atStart => exact ⟨t, rfl, TI, htsz⟩
      case round =>
        obtain ⟨u, rfl, hI, hu⟩ := hrel
        have hp := hI.pos
        have hl : u.size - 1 < u.size := by omega
        by_cases hc : (u[u.size - 1].toNat : Int) = 48
        · have hc' : ((u[u.size - 1].toNat : Int) == 48) = true := by rw [hc]; rfl
          have R := hI.hit hl hc
          clear hc
          go_wp2_with fail
          go_round
          case rel => exact ⟨_, rfl, R, by simp; omega⟩
          case measure => simp; omega
        · have hc' : ((u[u.size - 1].toNat : Int) == 48) = false := by rw [beq_eq_false_iff_ne]; exact hc
          have R := Lib.hid (hI.miss hl hc)
          clear hc
          go_wp2_with fail
          go_ret
          exact ⟨ret_str (mk_eq _ _ (by rw [Q.out, app_list, app_list, R.out]; first | (rw [app_list, hx.out]; simp) | (rw [hx.out]; simp))), hb3.out⟩
  · have hpos : N = (A : Int) := by omega
    clear hA hW hf ht
    have F' := F
    subst hpos
    by_cases hf0 : f = 0
    · have Q : Hid (fmtL d = [] ++ Lib.decDigits W) := Lib.hid (by rw [F.whole hf0, if_neg hn])
      subst hf0
      go_enter Tryd.func31, Tryd.ntmps31
      go_wp2_with (first | (go_at_call 54; refine (near_is _ _ _ F.hN).mono ?_; rintro e w' ⟨rfl, rfl⟩) | (go_at_call 55; refine (nformat_is W _ _ rfl hWb HT.out).mono ?_; rintro e w1 ⟨x, rfl, hx, hxs, hb⟩))
      go_ret
      exact ⟨ret_str (mk_eq _ _ (by rw [Q.out]; first | (rw [app_list, hx.out]) | (rw [hx.out]; rfl))), hb⟩
    · have Q : Hid (fmtL d = [] ++ Lib.decDigits W ++ 46 :: trimZ (low 4 f)) := Lib.hid (by rw [F.frac hf0, if_neg hn])
      have z : ((f : Int) == 0) = false := by rw [beq_eq_false_iff_ne]; omega
      have T0 := Lib.hid (low4_ne f hfb hf0)
      have z2 : (10000 : Int) + (f : Int) = ((10000 + f : Nat) : Int) := by omega
      have Z2 := Lib.hid z2; clear z2 hf0
      have HF := Lib.hid hfb
      go_enter Tryd.func31, Tryd.ntmps31
      go_wp2_with (first | (go_at_call 54; refine (near_is _ _ _ F.hN).mono ?_; rintro e w' ⟨rfl, rfl⟩) | (go_at_call 55; with_reducible refine (nformat_is W _ _ rfl hWb HT.out).mono ?_; rintro e w1 ⟨x, rfl, hx, hxs, hb⟩))
      have hT1 : Tab w1 := Joins.tab_stays gPow HT.out hb (Nat.le_refl _)
      have HT1 := Lib.hid hT1; clear hT1
      refine (nformat_is (10000 + f) _ _ Z2.out (by omega) HT1.out).mono ?_
      rintro e w2 ⟨y, rfl, hy, hys, hb2⟩
      have hb3 := Lib.hid (hb.trans (hb2.mono hb.size))
      obtain ⟨t, hts⟩ : ∃ t, y.extract 1 y.size = t := ⟨_, rfl⟩
      have hy5 : y.data.toList.drop 1 = low 4 f := by rw [hy.out]; exact five f HF.out
      have TI : TrI (trimZ (low 4 f)) t := ⟨by rw [← hts, ext_to, hy5], T0.out⟩
      have hy1 : 1 ≤ y.size := by
        have h4 : (y.data.toList.drop 1).length = 4 := by rw [hy5, low_length]
        rw [List.length_drop, ← size_len] at h4; omega
      have htsz : t.size ≤ 20 := by rw [size_len, ← hts, ext_to, List.length_drop, ← size_len]; omega
      clear hy5
      go_wp2_with fail
      go_loop [6] (fun v => ∃ u : ByteArray, v = .string u ∧ TrI (trimZ (low 4 f)) u ∧ u.size ≤ 20) (fun v => match v with | .string u => u.size | _ => 0)
      case atStart => exact ⟨t, rfl, TI, htsz⟩
      case round =>
        obtain ⟨u, rfl, hI, hu⟩ := hrel
        have hp := hI.pos
        have hl : u.size - 1 < u.size := by omega
        by_cases hc : (u[u.size - 1].toNat : Int) = 48
        · have hc' : ((u[u.size - 1].toNat : Int) == 48) = true := by rw [hc]; rfl
          have R := hI.hit hl hc
          clear hc
          go_wp2_with fail
          go_round
          case rel => exact ⟨_, rfl, R, by simp; omega⟩
          case measure => simp; omega
        · have hc' : ((u[u.size - 1].toNat : Int) == 48) = false := by rw [beq_eq_false_iff_ne]; exact hc
          have R := Lib.hid (hI.miss hl hc)
          clear hc
          go_wp2_with fail
          go_ret
          exact ⟨ret_str (mk_eq _ _ (by rw [Q.out, app_list, app_list, R.out]; first | (rw [app_list, hx.out]; simp) | (rw [hx.out]; simp))), hb3.out⟩
end Go.Proofs.YtjngkapfngempaaDoor
