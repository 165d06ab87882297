/- walks: the reference's Parse -/
import Derived.Test.YtpacfinfbcpfnaaDoorWk0
import Derived.Test.YtpacfinfbcpfnaaDoorByt3
namespace Go.Proofs.YtpacfinfbcpfnaaDoor
open Go.RowKit
open Dcm Byt
set_option linter.unusedVariables false
set_option maxHeartbeats 8000000 in
theorem rparse1b (s t : ByteArray) (n K : Nat) (w : World) (hs : s.size ≤ 9223372036854775807) (hF : 1 ≤ s.size) (ht : Hid (t.data.toList = s.data.toList.drop 1)) (P : PIn s.data.toList true t.data.toList)
    (hc : decide ((0 : Int) < (s.size : Int)) = true) (h00 : 0 < s.size) (hc2 : ((s[0].toNat : Int) == 45) = true) (hzs : (s.toList == [45, 48]) = decide (t.data.toList = [48]))
    (hNt : Hid (run dg t.data.toList = n)) (hN : Hid (run dg (s.data.toList.drop 1) = n)) (hnt : n ≤ t.size) (hKs : K ≤ s.size) (hFK : 1 ≤ K) (hK : Hid (K = 1 + n)) (HTZ : Hid (t.size = s.size - 1)) (h0 : ¬ n = 0)
    (e1 : ((K : Int) == 1) = false) (hFs : 1 < s.size) (htp : 0 < t.size) (hst : Hid (t[0].toNat = s[1].toNat)) (hz : ((s[1].toNat : Int) == 48) = false ∨ ((s[1].toNat : Int) == 48) = true ∧ decide ((2 : Int) < (K : Int)) = false)
    (g0 : Hid (okP t.data.toList = (decide (n = t.data.toList.length) || (isAt t.data.toList n 46 && okF (fracP t.data.toList))))) :
    Calls Tryd.prog 15 #[.string s] w fun e w' => e = .returned (.tuple #[.int .i64 (parseV s.data.toList), .int .i64 (parseE s.data.toList)]) ∧ w = w' := by
  obtain ⟨a, ha⟩ : ∃ a, s.extract 1 K = a := ⟨_, rfl⟩
  have A : Hid (a.data.toList = wholeP t.data.toList) := Lib.hid (by rw [← ha, ext_mid, ← ht.out, hK.out]; unfold wholeP; rw [hNt.out]; congr 1; omega)
  have Da : Hid (∀ c ∈ a.data.toList, dg c = true) := Lib.hid (by rw [A.out]; exact mem_whole _)
  have has : a.size ≤ 9223372036854775807 := by rw [size_len, A.out]; unfold wholeP; rw [List.length_take, ← size_len]; have := HTZ.out; omega
  by_cases h2 : K = s.size
  · have OK : Hid (okP t.data.toList = true) := Lib.hid (by rw [g0.out, ← size_len, decide_eq_true (by have := HTZ.out; have := hK.out; omega)]; rfl)
    have Fq : Hid (([] : List UInt8) = fracP t.data.toList) := Lib.hid (by unfold fracP; rw [hNt.out, drop_ge t (n + 1) (by have := HTZ.out; have := hK.out; omega)])
    have Df : Hid (∀ c ∈ ([] : List UInt8), dg c = true) := Lib.hid (by simp)
    have e4 : s.size ≤ K := by omega
    clear h2 h0
    by_cases hz48 : t.data.toList = [48]
    · have Q := Lib.hid (P.zero hz48)
      have hzs' : (s.toList == [45, 48]) = true := by rw [hzs, decide_eq_true hz48]
      clear hz48 hzs
      rcases hz with hz | ⟨hz, hz2⟩
      all_goals
        go_enter Tryd.func15, Tryd.ntmps15
        go_wp2_with (first | (go_at_call 45; (with_reducible refine (rdigits_is s _ 1 n K _ hs (by omega) hF hN.out hK.out).mono ?_); rintro e w' ⟨rfl, rfl⟩) | (go_at_call 46; refine (number_e _ _ (by assumption) (by assumption)).mono ?_; rintro e w' ⟨rfl, rfl⟩))
        go_ret2
        exact ⟨ret_ii Q.out.1.symm Q.out.2.symm, rfl⟩
    · have hzs' : (s.toList == [45, 48]) = false := by rw [hzs, decide_eq_false hz48]
      have Z48 := Lib.hid hz48; clear hz48 hzs
      cases hB : numberB a.data.toList []
      · have Q := Lib.hid (P.big OK.out (fun _ => Z48.out) (by rw [← A.out, ← Fq.out]; exact hB))
        rcases hz with hz | ⟨hz, hz2⟩
        all_goals
          go_enter Tryd.func15, Tryd.ntmps15
          go_wp2_with (first | (go_at_call 45; (with_reducible refine (rdigits_is s _ 1 n K _ hs (by omega) hF hN.out hK.out).mono ?_); rintro e w' ⟨rfl, rfl⟩) | (go_at_call 46; refine (number_e _ _ (by assumption) (by assumption)).mono ?_; rintro e w' ⟨rfl, rfl⟩))
          go_ret2
          exact ⟨ret_ii Q.out.1.symm Q.out.2.symm, rfl⟩
      · have hV := value_bd _ _ Da.out Df.out
        have hV2 := num_ok _ _ hB
        have Q := Lib.hid (P.neg OK.out Z48.out (by rw [← A.out, ← Fq.out]; exact hB) (by rw [← A.out, ← Fq.out]; exact hV.1))
        have v1 : 0 ≤ numberV a.data.toList [] := by rw [hV2.1]; exact hV.1
        have v2 : numberV a.data.toList [] ≤ 10000000000000 := by rw [hV2.1]; exact hV2.2
        clear hV hV2
        rcases hz with hz | ⟨hz, hz2⟩
        all_goals
          go_enter Tryd.func15, Tryd.ntmps15
          go_wp2_with (first | (go_at_call 45; (with_reducible refine (rdigits_is s _ 1 n K _ hs (by omega) hF hN.out hK.out).mono ?_); rintro e w' ⟨rfl, rfl⟩) | (go_at_call 46; refine (number_e _ _ (by assumption) (by assumption)).mono ?_; rintro e w' ⟨rfl, rfl⟩))
          go_ret2
          exact ⟨ret_ii (by rw [Q.out.1, ← A.out, ← Fq.out]) Q.out.2.symm, rfl⟩
  · have hKl : K < s.size := by omega
    have hnl : n < t.size := by have := HTZ.out; have := hK.out; omega
    obtain ⟨f, hf⟩ : ∃ f, s.extract (K + 1) s.size = f := ⟨_, rfl⟩
    have Fq : Hid (f.data.toList = fracP t.data.toList) := Lib.hid (by rw [← hf, ext_to]; unfold fracP; rw [hNt.out, ht.out, List.drop_drop, hK.out]; congr 1)
    have hfz : f.size = s.size - (K + 1) := by rw [size_len, ← hf, ext_to, List.length_drop, ← size_len]
    have hfs : f.size ≤ 9223372036854775807 := by omega
    obtain ⟨m, hm⟩ : ∃ m, run dg f.data.toList = m := ⟨_, rfl⟩
    have hmf : m ≤ f.size := by rw [← hm]; exact run_le_size _ _
    have hM : Hid (run dg (s.data.toList.drop (K + 1)) = m) := Lib.hid (by rw [← ext_to, hf, hm])
    have HM := Lib.hid hm; clear hm
    obtain ⟨L, hl⟩ : ∃ L, L = K + 1 + m := ⟨_, rfl⟩
    have hL := Lib.hid hl
    have QQ : Hid (okP t.data.toList = (isAt t.data.toList n 46 && okF f.data.toList)) := Lib.hid (by
      rw [g0.out, ← size_len, decide_eq_false (by omega), Fq.out]; rfl)
    have hkn : Hid (t[n].toNat = s[K].toNat) := Lib.hid (get_drop2 s t 1 n K ht.out hnl hKl (by rw [hK.out]))
    clear h2 h0
    by_cases g1 : (s[K].toNat : Int) = 46
    · have I1 := Lib.hid (isAt_t t n hnl 46 (by rw [hkn.out, g1]; rfl))
      have g1' : ((s[K].toNat : Int) != 46) = false := by rw [g1]; rfl
      clear g1
      by_cases g2 : 1 ≤ f.size
      · have g2' : ((f.size : Int) == 0) = false := by rw [beq_eq_false_iff_ne]; omega
        by_cases g3 : f.size ≤ 4
        · have g3' : decide ((4 : Int) < (f.size : Int)) = false := by rw [decide_eq_false_iff_not]; omega
          by_cases g4 : m = f.size
          · have g4' : s.size ≤ L := by omega
            have hsp : s.size - 1 < s.size := by omega
            have hfp : f.size - 1 < f.size := by omega
            have hlast : Hid (f[f.size - 1].toNat = s[s.size - 1].toNat) := Lib.hid (get_drop2 s f (K + 1) (f.size - 1) (s.size - 1) (by rw [← hf, ext_to]) hfp hsp (by omega))
            have HF4 := Lib.hid g4
            clear hfz hl g4
            by_cases g5 : (s[s.size - 1].toNat : Int) = 48
            · have Q := Lib.hid (P.no (by rw [QQ.out]; unfold okF; rw [ends_t f hfp 48 (by rw [hlast.out, g5]; rfl)]; simp))
              have g5' : ((s[s.size - 1].toNat : Int) == 48) = true := by rw [g5]; rfl
              clear g5
              rcases hz with hz | ⟨hz, hz2⟩
              all_goals
                go_enter Tryd.func15, Tryd.ntmps15
                go_wp2_with (first | (go_at_call 45; (with_reducible refine (rdigits_is s _ 1 n K _ hs (by omega) hF hN.out hK.out).mono ?_); rintro e w' ⟨rfl, rfl⟩) | (go_at_call 45; (with_reducible refine (rdigits_is s _ (K + 1) m L _ hs (by omega) (by omega) hM.out hL.out).mono ?_); rintro e w' ⟨rfl, rfl⟩))
                go_ret2
                exact ⟨ret_ii Q.out.1.symm Q.out.2.symm, rfl⟩
            · have OK : Hid (okP t.data.toList = true) := Lib.hid (by
                rw [QQ.out, I1.out]; unfold okF; rw [ends_f f hfp 48 (by rw [hlast.out]; exact g5), ← size_len, HM.out, decide_eq_true g2, decide_eq_true g3, decide_eq_true HF4.out]; rfl)
              have g5' : ((s[s.size - 1].toNat : Int) == 48) = false := by rw [beq_eq_false_iff_ne]; exact g5
              clear g5
              have Df : Hid (∀ c ∈ f.data.toList, dg c = true) := Lib.hid (run_all _ (by rw [HM.out, ← size_len]; exact HF4.out))
              by_cases hz48 : t.data.toList = [48]
              · have Q := Lib.hid (P.zero hz48)
                have hzs' : (s.toList == [45, 48]) = true := by rw [hzs, decide_eq_true hz48]
                clear hz48 hzs
                rcases hz with hz | ⟨hz, hz2⟩
                all_goals
                  go_enter Tryd.func15, Tryd.ntmps15
                  go_wp2_with (first | (go_at_call 45; (with_reducible refine (rdigits_is s _ 1 n K _ hs (by omega) hF hN.out hK.out).mono ?_); rintro e w' ⟨rfl, rfl⟩) | (go_at_call 45; (with_reducible refine (rdigits_is s _ (K + 1) m L _ hs (by omega) (by omega) hM.out hL.out).mono ?_); rintro e w' ⟨rfl, rfl⟩) | (go_at_call 46; refine (number_any _ _ _ (by assumption) (by assumption) (by assumption) (by assumption)).mono ?_; rintro e w' ⟨rfl, rfl⟩))
                  go_ret2
                  exact ⟨ret_ii Q.out.1.symm Q.out.2.symm, rfl⟩
              · have hzs' : (s.toList == [45, 48]) = false := by rw [hzs, decide_eq_false hz48]
                have Z48 := Lib.hid hz48; clear hz48 hzs
                cases hB : numberB a.data.toList f.data.toList
                · have Q := Lib.hid (P.big OK.out (fun _ => Z48.out) (by rw [← A.out, ← Fq.out]; exact hB))
                  rcases hz with hz | ⟨hz, hz2⟩
                  all_goals
                    go_enter Tryd.func15, Tryd.ntmps15
                    go_wp2_with (first | (go_at_call 45; (with_reducible refine (rdigits_is s _ 1 n K _ hs (by omega) hF hN.out hK.out).mono ?_); rintro e w' ⟨rfl, rfl⟩) | (go_at_call 45; (with_reducible refine (rdigits_is s _ (K + 1) m L _ hs (by omega) (by omega) hM.out hL.out).mono ?_); rintro e w' ⟨rfl, rfl⟩) | (go_at_call 46; refine (number_any _ _ _ (by assumption) (by assumption) (by assumption) (by assumption)).mono ?_; rintro e w' ⟨rfl, rfl⟩))
                    go_ret2
                    exact ⟨ret_ii Q.out.1.symm Q.out.2.symm, rfl⟩
                · have hV := value_bd _ _ Da.out Df.out
                  have hV2 := num_ok _ _ hB
                  have Q := Lib.hid (P.neg OK.out Z48.out (by rw [← A.out, ← Fq.out]; exact hB) (by rw [← A.out, ← Fq.out]; exact hV.1))
                  have v1 : 0 ≤ numberV a.data.toList f.data.toList := by rw [hV2.1]; exact hV.1
                  have v2 : numberV a.data.toList f.data.toList ≤ 10000000000000 := by rw [hV2.1]; exact hV2.2
                  clear hV hV2
                  rcases hz with hz | ⟨hz, hz2⟩
                  all_goals
                    go_enter Tryd.func15, Tryd.ntmps15
                    go_wp2_with (first | (go_at_call 45; (with_reducible refine (rdigits_is s _ 1 n K _ hs (by omega) hF hN.out hK.out).mono ?_); rintro e w' ⟨rfl, rfl⟩) | (go_at_call 45; (with_reducible refine (rdigits_is s _ (K + 1) m L _ hs (by omega) (by omega) hM.out hL.out).mono ?_); rintro e w' ⟨rfl, rfl⟩) | (go_at_call 46; refine (number_any _ _ _ (by assumption) (by assumption) (by assumption) (by assumption)).mono ?_; rintro e w' ⟨rfl, rfl⟩))
                    go_ret2
                    exact ⟨ret_ii (by rw [Q.out.1, ← A.out, ← Fq.out]) Q.out.2.symm, rfl⟩
          · have Q := Lib.hid (P.no (by rw [QQ.out]; unfold okF; rw [← size_len, HM.out, decide_eq_false g4]; simp))
            have g4' : L < s.size := by omega
            clear hfz hl g4
            rcases hz with hz | ⟨hz, hz2⟩
            all_goals
              go_enter Tryd.func15, Tryd.ntmps15
              go_wp2_with (first | (go_at_call 45; (with_reducible refine (rdigits_is s _ 1 n K _ hs (by omega) hF hN.out hK.out).mono ?_); rintro e w' ⟨rfl, rfl⟩) | (go_at_call 45; (with_reducible refine (rdigits_is s _ (K + 1) m L _ hs (by omega) (by omega) hM.out hL.out).mono ?_); rintro e w' ⟨rfl, rfl⟩))
              go_ret2
              exact ⟨ret_ii Q.out.1.symm Q.out.2.symm, rfl⟩
        · have Q := Lib.hid (P.no (by rw [QQ.out]; unfold okF; rw [← size_len, decide_eq_false g3]; simp))
          have g3' : decide ((4 : Int) < (f.size : Int)) = true := by rw [decide_eq_true_eq]; omega
          clear hfz hl
          rcases hz with hz | ⟨hz, hz2⟩
          all_goals
            go_enter Tryd.func15, Tryd.ntmps15
            go_wp2_with (first | (go_at_call 45; (with_reducible refine (rdigits_is s _ 1 n K _ hs (by omega) hF hN.out hK.out).mono ?_); rintro e w' ⟨rfl, rfl⟩) | (go_at_call 45; (with_reducible refine (rdigits_is s _ (K + 1) m L _ hs (by omega) (by omega) hM.out hL.out).mono ?_); rintro e w' ⟨rfl, rfl⟩))
            go_ret2
            exact ⟨ret_ii Q.out.1.symm Q.out.2.symm, rfl⟩
      · have Q := Lib.hid (P.no (by rw [QQ.out]; unfold okF; rw [← size_len, decide_eq_false g2]; simp))
        have g2' : ((f.size : Int) == 0) = true := by rw [beq_iff_eq]; omega
        clear hfz hl
        rcases hz with hz | ⟨hz, hz2⟩
        all_goals
          go_enter Tryd.func15, Tryd.ntmps15
          go_wp2_with (first | (go_at_call 45; (with_reducible refine (rdigits_is s _ 1 n K _ hs (by omega) hF hN.out hK.out).mono ?_); rintro e w' ⟨rfl, rfl⟩) | (go_at_call 45; (with_reducible refine (rdigits_is s _ (K + 1) m L _ hs (by omega) (by omega) hM.out hL.out).mono ?_); rintro e w' ⟨rfl, rfl⟩))
          go_ret2
          exact ⟨ret_ii Q.out.1.symm Q.out.2.symm, rfl⟩
    · have Q := Lib.hid (P.no (by rw [QQ.out, isAt_f t n hnl 46 (by rw [hkn.out]; exact g1)]; rfl))
      have g1' : ((s[K].toNat : Int) != 46) = true := by rw [bne_iff_ne]; exact g1
      clear g1 hfz hl
      rcases hz with hz | ⟨hz, hz2⟩
      all_goals
        go_enter Tryd.func15, Tryd.ntmps15
        go_wp2_with (first | (go_at_call 45; (with_reducible refine (rdigits_is s _ 1 n K _ hs (by omega) hF hN.out hK.out).mono ?_); rintro e w' ⟨rfl, rfl⟩) | (go_at_call 45; (with_reducible refine (rdigits_is s _ (K + 1) m L _ hs (by omega) (by omega) hM.out hL.out).mono ?_); rintro e w' ⟨rfl, rfl⟩))
        go_ret2
        exact ⟨ret_ii Q.out.1.symm Q.out.2.symm, rfl⟩
set_option maxHeartbeats 8000000 in
theorem rparse1 (s t : ByteArray) (w : World) (hs : s.size ≤ 9223372036854775807) (hF : 1 ≤ s.size) (ht : Hid (t.data.toList = s.data.toList.drop 1)) (P : PIn s.data.toList true t.data.toList)
    (hc : decide ((0 : Int) < (s.size : Int)) = true) (h00 : 0 < s.size) (hc2 : ((s[0].toNat : Int) == 45) = true) (hzs : (s.toList == [45, 48]) = decide (t.data.toList = [48])) :
    Calls Tryd.prog 15 #[.string s] w fun e w' => e = .returned (.tuple #[.int .i64 (parseV s.data.toList), .int .i64 (parseE s.data.toList)]) ∧ w = w' := by
  obtain ⟨n, hn⟩ : ∃ n, run dg (s.data.toList.drop 1) = n := ⟨_, rfl⟩
  have hNt : Hid (run dg t.data.toList = n) := Lib.hid (by rw [ht.out, hn])
  have hN := Lib.hid hn; clear hn
  have htz : t.size = s.size - 1 := by rw [size_len, ht.out, List.length_drop, ← size_len]
  have hnt : n ≤ t.size := by rw [← hNt.out]; exact run_le_size _ _
  obtain ⟨K, hk⟩ : ∃ K, K = 1 + n := ⟨_, rfl⟩
  have hKs : K ≤ s.size := by omega
  have hFK : 1 ≤ K := by omega
  have hK := Lib.hid hk
  have HTZ := Lib.hid htz; clear htz
  by_cases h0 : n = 0
  · have Q := Lib.hid (P.no (by simp [okP, hNt.out, h0]))
    have e1 : ((K : Int) == 1) = true := by rw [beq_iff_eq]; omega
    clear hk h0
    go_enter Tryd.func15, Tryd.ntmps15
    go_wp2_with (first | (go_at_call 45; (with_reducible refine (rdigits_is s _ 1 n K _ hs (by omega) hF hN.out hK.out).mono ?_); rintro e w' ⟨rfl, rfl⟩))
    go_ret2
    exact ⟨ret_ii Q.out.1.symm Q.out.2.symm, rfl⟩
  · have e1 : ((K : Int) == 1) = false := by rw [beq_eq_false_iff_ne]; omega
    have hFs : 1 < s.size := by omega
    have htp : 0 < t.size := by have := HTZ.out; omega
    have hst : Hid (t[0].toNat = s[1].toNat) := Lib.hid (get_drop s t 1 ht.out htp hFs)
    by_cases h1 : (s[1].toNat : Int) = 48
    · have z1 : ((s[1].toNat : Int) == 48) = true := by rw [h1]; rfl
      by_cases h2 : 1 < n
      · have Q := Lib.hid (P.no (by simp [okP, hNt.out, h2, isAt_t t 0 htp 48 (by rw [hst.out, h1]; rfl)]))
        have e2 : decide ((1 : Int) + 1 < (K : Int)) = true := by rw [decide_eq_true_eq]; omega
        have e3 : decide ((2 : Int) < (K : Int)) = true := by rw [decide_eq_true_eq]; omega
        clear hk h0 h2 h1
        go_enter Tryd.func15, Tryd.ntmps15
        go_wp2_with (first | (go_at_call 45; (with_reducible refine (rdigits_is s _ 1 n K _ hs (by omega) hF hN.out hK.out).mono ?_); rintro e w' ⟨rfl, rfl⟩))
        go_ret2
        exact ⟨ret_ii Q.out.1.symm Q.out.2.symm, rfl⟩
      · have e3 : decide ((2 : Int) < (K : Int)) = false := by rw [decide_eq_false_iff_not]; omega
        have g0 : Hid (okP t.data.toList = (decide (n = t.data.toList.length) || (isAt t.data.toList n 46 && okF (fracP t.data.toList)))) := Lib.hid (by
          unfold okP; rw [hNt.out, decide_eq_false h0, and_one h2]; rfl)
        exact rparse1b s t n K w hs hF ht P hc h00 hc2 hzs hNt hN hnt hKs hFK hK HTZ h0 e1 hFs htp hst (.inr ⟨z1, e3⟩) g0
    · have z1 : ((s[1].toNat : Int) == 48) = false := by rw [beq_eq_false_iff_ne]; exact h1
      have g0 : Hid (okP t.data.toList = (decide (n = t.data.toList.length) || (isAt t.data.toList n 46 && okF (fracP t.data.toList)))) := Lib.hid (by
        unfold okP; rw [hNt.out, decide_eq_false h0, isAt_f t 0 htp 48 (by rw [hst.out]; exact h1), Bool.and_false]; rfl)
      exact rparse1b s t n K w hs hF ht P hc h00 hc2 hzs hNt hN hnt hKs hFK hK HTZ h0 e1 hFs htp hst (.inl z1) g0
end Go.Proofs.YtpacfinfbcpfnaaDoor
namespace Go.Proofs.YtpacfinfbcpfnaaDoor
open Go.RowKit
open Dcm Byt
set_option linter.unusedVariables false
set_option maxHeartbeats 2000000 in
theorem rparse_any (s : ByteArray) (w : World) (hs : s.size ≤ 9223372036854775807) :
    Calls Tryd.prog 15 #[.string s] w fun e w' => e = .returned (.tuple #[.int .i64 (parseV s.data.toList), .int .i64 (parseE s.data.toList)]) ∧ w = w' := by
  by_cases h00 : 0 < s.size
  · have hc : decide ((0 : Int) < (s.size : Int)) = true := by rw [decide_eq_true_eq]; omega
    by_cases hi : (s[0].toNat : Int) = 45
    · have hng : negL s.data.toList = true := isAt_t s 0 h00 45 (by rw [hi]; rfl)
      have h1 : (s.extract 1 s.size).data.toList = s.data.toList.drop 1 := ext_to s 1
      refine rparse1 s (s.extract 1 s.size) w hs h00 (Lib.hid h1) ⟨hng, by unfold restL; rw [hng, h1]; rfl⟩ hc h00 (by rw [hi]; rfl) ?_
      have h2 := drop_lt s 0 h00
      have h3 : s[0] = 45 := by apply UInt8.toNat_inj.1; have : (45 : UInt8).toNat = 45 := rfl; omega
      rw [str_eq, h1]
      rw [List.drop_zero, h3] at h2
      generalize s.data.toList = l at *
      congr 1
      rw [h2]
      simp
    · have hng : negL s.data.toList = false := isAt_f s 0 h00 45 hi
      refine rparse0 s s w hs (by omega) (Lib.hid (by simp)) ⟨hng, by unfold restL; rw [hng]; rfl⟩ hc h00 (by rw [beq_eq_false_iff_ne]; exact hi) ?_
      rw [str_eq, decide_eq_false_iff_not]
      intro h
      have h2 := drop_lt s 0 h00
      rw [List.drop_zero, h] at h2
      injection h2 with h3 h4
      rw [← h3] at hi
      exact hi rfl
  · obtain ⟨⟨l⟩⟩ := s
    have h1 : l = [] := List.eq_nil_of_length_eq_zero (by have : l.length = 0 := Nat.eq_zero_of_not_pos h00; exact this)
    subst h1
    clear h00 hs
    go_enter Tryd.func15, Tryd.ntmps15
    go_wp2_with (go_at_call 45; refine (rdigits_is _ _ 0 0 0 _ (by decide) (by omega) (by decide) (by rfl) (by rfl)).mono ?_; rintro e w' ⟨rfl, rfl⟩)
    go_ret2
    exact ⟨rfl, rfl⟩
end Go.Proofs.YtpacfinfbcpfnaaDoor
