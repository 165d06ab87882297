/- walks: the reference's Parse -/
import Derived.Test.YtpacfinfbcpfnaaDoorWj
import Derived.Test.YtpacfinfbcpfnaaDoorByt3
namespace Go.Proofs.YtpacfinfbcpfnaaDoor
open Go.RowKit
open Dcm Byt
set_option linter.unusedVariables false
theorem rdigits_is (s : ByteArray) (a : Int) (A n K : Nat) (w : World) (hs : s.size ≤ 9223372036854775807) (ha : a = (A : Int)) (hA : A ≤ s.size) (hn : run dg (s.data.toList.drop A) = n) (hK : K = A + n) :
    Calls Tryd.prog 45 #[.string s, .int .i64 a] w fun e w' => e = .returned (.int .i64 (K : Int)) ∧ w = w' := by
  subst ha hn hK; exact rdigits_any s A w hs hA
theorem number_e (s : ByteArray) (w : World) (hs : s.size ≤ 9223372036854775807) (hd : Hid (∀ c ∈ s.data.toList, dg c = true)) :
    Calls Tryd.prog 46 #[.string s, .string { data := #[] }] w fun e w' => e = .returned (.tuple #[.int .i64 (numberV s.data.toList []), .bool (numberB s.data.toList [])]) ∧ w = w' :=
  number_any s { data := #[] } w hs (by decide) hd (Lib.hid (by simp))
theorem get_drop2 (s t : ByteArray) (F n K : Nat) (ht : t.data.toList = s.data.toList.drop F) (hn : n < t.size) (hK : K < s.size) (e : K = F + n) : t[n].toNat = s[K].toNat := by
  have h1 := get_list t n hn
  rw [ht, List.getElem?_drop, ← e, get_list s K hK] at h1
  injection h1 with h1
  rw [h1]
theorem get_drop (s t : ByteArray) (F : Nat) (ht : t.data.toList = s.data.toList.drop F) (hn : 0 < t.size) (hK : F < s.size) : t[0].toNat = s[F].toNat := get_drop2 s t F 0 F ht hn hK rfl
set_option maxHeartbeats 8000000 in
theorem rparse0b (s t : ByteArray) (n K : Nat) (w : World) (hs : s.size ≤ 9223372036854775807) (hF : 0 ≤ s.size) (ht : Hid (t.data.toList = s.data.toList.drop 0)) (P : PIn s.data.toList false t.data.toList)
    (hc : decide ((0 : Int) < (s.size : Int)) = true) (h00 : 0 < s.size) (hc2 : ((s[0].toNat : Int) == 45) = false) (hzs : (s.toList == [45, 48]) = false)
    (hNt : Hid (run dg t.data.toList = n)) (hN : Hid (run dg (s.data.toList.drop 0) = n)) (hnt : n ≤ t.size) (hKs : K ≤ s.size) (hFK : 0 ≤ K) (hK : Hid (K = 0 + n)) (HTZ : Hid (t.size = s.size - 0)) (h0 : ¬ n = 0)
    (e1 : ((K : Int) == 0) = false) (hFs : 0 < s.size) (htp : 0 < t.size) (hst : Hid (t[0].toNat = s[0].toNat)) (hz : ((s[0].toNat : Int) == 48) = false ∨ ((s[0].toNat : Int) == 48) = true ∧ decide ((1 : Int) < (K : Int)) = false)
    (g0 : Hid (okP t.data.toList = (decide (n = t.data.toList.length) || (isAt t.data.toList n 46 && okF (fracP t.data.toList))))) :
    Calls Tryd.prog 15 #[.string s] w fun e w' => e = .returned (.tuple #[.int .i64 (parseV s.data.toList), .int .i64 (parseE s.data.toList)]) ∧ w = w' := by
  obtain ⟨a, ha⟩ : ∃ a, s.extract 0 K = a := ⟨_, rfl⟩
  have A : Hid (a.data.toList = wholeP t.data.toList) := Lib.hid (by rw [← ha, ext_mid, ← ht.out, hK.out]; unfold wholeP; rw [hNt.out]; congr 1; omega)
  have Da : Hid (∀ c ∈ a.data.toList, dg c = true) := Lib.hid (by rw [A.out]; exact mem_whole _)
  have has : a.size ≤ 9223372036854775807 := by rw [size_len, A.out]; unfold wholeP; rw [List.length_take, ← size_len]; have := HTZ.out; omega
  by_cases h2 : K = s.size
  · have OK : Hid (okP t.data.toList = true) := Lib.hid (by rw [g0.out, ← size_len, decide_eq_true (by have := HTZ.out; have := hK.out; omega)]; rfl)
    have Fq : Hid (([] : List UInt8) = fracP t.data.toList) := Lib.hid (by unfold fracP; rw [hNt.out, drop_ge t (n + 1) (by have := HTZ.out; have := hK.out; omega)])
    have Df : Hid (∀ c ∈ ([] : List UInt8), dg c = true) := Lib.hid (by simp)
    have e4 : s.size ≤ K := by omega
    clear h2 h0
    cases hB : numberB a.data.toList []
    · have Q := Lib.hid (P.big OK.out (fun h => by cases h) (by rw [← A.out, ← Fq.out]; exact hB))
      rcases hz with hz | ⟨hz, hz2⟩
      all_goals
        go_enter Tryd.func15, Tryd.ntmps15
        go_wp2_with (first | (go_at_call 45; (with_reducible refine (rdigits_is s _ 0 n K _ hs (by omega) hF hN.out hK.out).mono ?_); rintro e w' ⟨rfl, rfl⟩) | (go_at_call 46; refine (number_e _ _ (by assumption) (by assumption)).mono ?_; rintro e w' ⟨rfl, rfl⟩))
        go_ret2
        exact ⟨ret_ii Q.out.1.symm Q.out.2.symm, rfl⟩
    · have hV := value_bd _ _ Da.out Df.out
      have hV2 := num_ok _ _ hB
      have Q := Lib.hid (P.pos OK.out (by rw [← A.out, ← Fq.out]; exact hB) (by rw [← A.out, ← Fq.out]; exact hV.1))
      have v1 : 0 ≤ numberV a.data.toList [] := by rw [hV2.1]; exact hV.1
      have v2 : numberV a.data.toList [] ≤ 10000000000000 := by rw [hV2.1]; exact hV2.2
      clear hV hV2
      rcases hz with hz | ⟨hz, hz2⟩
      all_goals
        go_enter Tryd.func15, Tryd.ntmps15
        go_wp2_with (first | (go_at_call 45; (with_reducible refine (rdigits_is s _ 0 n K _ hs (by omega) hF hN.out hK.out).mono ?_); rintro e w' ⟨rfl, rfl⟩) | (go_at_call 46; refine (number_e _ _ (by assumption) (by assumption)).mono ?_; rintro e w' ⟨rfl, rfl⟩))
        go_ret2
        exact ⟨ret_ii (by rw [Q.out.1, ← A.out, ← Fq.out]) Q.out.2.symm, rfl⟩
  · have hKl : K < s.size := by omega
    have hnl : n < t.size := by have := HTZ.out; have := hK.out; omega
    obtain ⟨f, hf⟩ : ∃ f, s.extract (K + 1) s.size = f := ⟨_, rfl⟩
    have Fq : Hid (f.data.toList = fracP t.data.toList) := Lib.hid (by rw [← hf, ext_to]; unfold fracP; rw [hNt.out, ht.out, List.drop_drop, hK.out]; congr 1)
    have hfz : f.size = s.size - (K + 1) := by rw [size_len, ← hf, ext_to, List.length_drop, ← size_len]
    have hfs : f.size ≤ 9223372036854775807 := by omega
    obtain ⟨m, hm⟩ : ∃ m, run dg f.data.toList = m := ⟨_, rfl⟩
    have hmf : m ≤ f.size := by rw [← hm]; exact run_le_size _ _
    have hM : Hid (run dg (s.data.toList.drop (K + 1)) = m) := Lib.hid (by rw [← ext_to, hf, hm])
    have HM := Lib.hid hm; clear hm
    obtain ⟨L, hl⟩ : ∃ L, L = K + 1 + m := ⟨_, rfl⟩
    have hL := Lib.hid hl
    have QQ : Hid (okP t.data.toList = (isAt t.data.toList n 46 && okF f.data.toList)) := Lib.hid (by
      rw [g0.out, ← size_len, decide_eq_false (by omega), Fq.out]; rfl)
    have hkn : Hid (t[n].toNat = s[K].toNat) := Lib.hid (get_drop2 s t 0 n K ht.out hnl hKl (by rw [hK.out]))
    clear h2 h0
    by_cases g1 : (s[K].toNat : Int) = 46
    · have I1 := Lib.hid (isAt_t t n hnl 46 (by rw [hkn.out, g1]; rfl))
      have g1' : ((s[K].toNat : Int) != 46) = false := by rw [g1]; rfl
      clear g1
      by_cases g2 : 1 ≤ f.size
      · have g2' : ((f.size : Int) == 0) = false := by rw [beq_eq_false_iff_ne]; omega
        by_cases g3 : f.size ≤ 4
        · have g3' : decide ((4 : Int) < (f.size : Int)) = false := by rw [decide_eq_false_iff_not]; omega
          by_cases g4 : m = f.size
          · have g4' : s.size ≤ L := by omega
            have hsp : s.size - 1 < s.size := by omega
            have hfp : f.size - 1 < f.size := by omega
            have hlast : Hid (f[f.size - 1].toNat = s[s.size - 1].toNat) := Lib.hid (get_drop2 s f (K + 1) (f.size - 1) (s.size - 1) (by rw [← hf, ext_to]) hfp hsp (by omega))
            have HF4 := Lib.hid g4
            clear hfz hl g4
            by_cases g5 : (s[s.size - 1].toNat : Int) = 48
            · have Q := Lib.hid (P.no (by rw [QQ.out]; unfold okF; rw [ends_t f hfp 48 (by rw [hlast.out, g5]; rfl)]; simp))
              have g5' : ((s[s.size - 1].toNat : Int) == 48) = true := by rw [g5]; rfl
              clear g5
              rcases hz with hz | ⟨hz, hz2⟩
              all_goals
                go_enter Tryd.func15, Tryd.ntmps15
                go_wp2_with (first | (go_at_call 45; (with_reducible refine (rdigits_is s _ 0 n K _ hs (by omega) hF hN.out hK.out).mono ?_); rintro e w' ⟨rfl, rfl⟩) | (go_at_call 45; (with_reducible refine (rdigits_is s _ (K + 1) m L _ hs (by omega) (by omega) hM.out hL.out).mono ?_); rintro e w' ⟨rfl, rfl⟩))
                go_ret2
                exact ⟨ret_ii Q.out.1.symm Q.out.2.symm, rfl⟩
            · have OK : Hid (okP t.data.toList = true) := Lib.hid (by
                rw [QQ.out, I1.out]; unfold okF; rw [ends_f f hfp 48 (by rw [hlast.out]; exact g5), ← size_len, HM.out, decide_eq_true g2, decide_eq_true g3, decide_eq_true HF4.out]; rfl)
              have g5' : ((s[s.size - 1].toNat : Int) == 48) = false := by rw [beq_eq_false_iff_ne]; exact g5
              clear g5
              have Df : Hid (∀ c ∈ f.data.toList, dg c = true) := Lib.hid (run_all _ (by rw [HM.out, ← size_len]; exact HF4.out))
              cases hB : numberB a.data.toList f.data.toList
              · have Q := Lib.hid (P.big OK.out (fun h => by cases h) (by rw [← A.out, ← Fq.out]; exact hB))
                rcases hz with hz | ⟨hz, hz2⟩
                all_goals
                  go_enter Tryd.func15, Tryd.ntmps15
                  go_wp2_with (first | (go_at_call 45; (with_reducible refine (rdigits_is s _ 0 n K _ hs (by omega) hF hN.out hK.out).mono ?_); rintro e w' ⟨rfl, rfl⟩) | (go_at_call 45; (with_reducible refine (rdigits_is s _ (K + 1) m L _ hs (by omega) (by omega) hM.out hL.out).mono ?_); rintro e w' ⟨rfl, rfl⟩) | (go_at_call 46; refine (number_any _ _ _ (by assumption) (by assumption) (by assumption) (by assumption)).mono ?_; rintro e w' ⟨rfl, rfl⟩))
                  go_ret2
                  exact ⟨ret_ii Q.out.1.symm Q.out.2.symm, rfl⟩
              · have hV := value_bd _ _ Da.out Df.out
                have hV2 := num_ok _ _ hB
                have Q := Lib.hid (P.pos OK.out (by rw [← A.out, ← Fq.out]; exact hB) (by rw [← A.out, ← Fq.out]; exact hV.1))
                have v1 : 0 ≤ numberV a.data.toList f.data.toList := by rw [hV2.1]; exact hV.1
                have v2 : numberV a.data.toList f.data.toList ≤ 10000000000000 := by rw [hV2.1]; exact hV2.2
                clear hV hV2
                rcases hz with hz | ⟨hz, hz2⟩
                all_goals
                  go_enter Tryd.func15, Tryd.ntmps15
                  go_wp2_with (first | (go_at_call 45; (with_reducible refine (rdigits_is s _ 0 n K _ hs (by omega) hF hN.out hK.out).mono ?_); rintro e w' ⟨rfl, rfl⟩) | (go_at_call 45; (with_reducible refine (rdigits_is s _ (K + 1) m L _ hs (by omega) (by omega) hM.out hL.out).mono ?_); rintro e w' ⟨rfl, rfl⟩) | (go_at_call 46; refine (number_any _ _ _ (by assumption) (by assumption) (by assumption) (by assumption)).mono ?_; rintro e w' ⟨rfl, rfl⟩))
                  go_ret2
                  exact ⟨ret_ii (by rw [Q.out.1, ← A.out, ← Fq.out]) Q.out.2.symm, rfl⟩
          · have Q := Lib.hid (P.no (by rw [QQ.out]; unfold okF; rw [← size_len, HM.out, decide_eq_false g4]; simp))
            have g4' : L < s.size := by omega
            clear hfz hl g4
            rcases hz with hz | ⟨hz, hz2⟩
            all_goals
              go_enter Tryd.func15, Tryd.ntmps15
              go_wp2_with (first | (go_at_call 45; (with_reducible refine (rdigits_is s _ 0 n K _ hs (by omega) hF hN.out hK.out).mono ?_); rintro e w' ⟨rfl, rfl⟩) | (go_at_call 45; (with_reducible refine (rdigits_is s _ (K + 1) m L _ hs (by omega) (by omega) hM.out hL.out).mono ?_); rintro e w' ⟨rfl, rfl⟩))
              go_ret2
              exact ⟨ret_ii Q.out.1.symm Q.out.2.symm, rfl⟩
        · have Q := Lib.hid (P.no (by rw [QQ.out]; unfold okF; rw [← size_len, decide_eq_false g3]; simp))
          have g3' : decide ((4 : Int) < (f.size : Int)) = true := by rw [decide_eq_true_eq]; omega
          clear hfz hl
          rcases hz with hz | ⟨hz, hz2⟩
          all_goals
            go_enter Tryd.func15, Tryd.ntmps15
            go_wp2_with (first | (go_at_call 45; (with_reducible refine (rdigits_is s _ 0 n K _ hs (by omega) hF hN.out hK.out).mono ?_); rintro e w' ⟨rfl, rfl⟩) | (go_at_call 45; (with_reducible refine (rdigits_is s _ (K + 1) m L _ hs (by omega) (by omega) hM.out hL.out).mono ?_); rintro e w' ⟨rfl, rfl⟩))
            go_ret2
            exact ⟨ret_ii Q.out.1.symm Q.out.2.symm, rfl⟩
      · have Q := Lib.hid (P.no (by rw [QQ.out]; unfold okF; rw [← size_len, decide_eq_false g2]; simp))
        have g2' : ((f.size : Int) == 0) = true := by rw [beq_iff_eq]; omega
        clear hfz hl
        rcases hz with hz | ⟨hz, hz2⟩
        all_goals
          go_enter Tryd.func15, Tryd.ntmps15
          go_wp2_with (first | (go_at_call 45; (with_reducible refine (rdigits_is s _ 0 n K _ hs (by omega) hF hN.out hK.out).mono ?_); rintro e w' ⟨rfl, rfl⟩) | (go_at_call 45; (with_reducible refine (rdigits_is s _ (K + 1) m L _ hs (by omega) (by omega) hM.out hL.out).mono ?_); rintro e w' ⟨rfl, rfl⟩))
          go_ret2
          exact ⟨ret_ii Q.out.1.symm Q.out.2.symm, rfl⟩
    · have Q := Lib.hid (P.no (by rw [QQ.out, isAt_f t n hnl 46 (by rw [hkn.out]; exact g1)]; rfl))
      have g1' : ((s[K].toNat : Int) != 46) = true := by rw [bne_iff_ne]; exact g1
      clear g1 hfz hl
      rcases hz with hz | ⟨hz, hz2⟩
      all_goals
        go_enter Tryd.func15, Tryd.ntmps15
        go_wp2_with (first | (go_at_call 45; (with_reducible refine (rdigits_is s _ 0 n K _ hs (by omega) hF hN.out hK.out).mono ?_); rintro e w' ⟨rfl, rfl⟩) | (go_at_call 45; (with_reducible refine (rdigits_is s _ (K + 1) m L _ hs (by omega) (by omega) hM.out hL.out).mono ?_); rintro e w' ⟨rfl, rfl⟩))
        go_ret2
        exact ⟨ret_ii Q.out.1.symm Q.out.2.symm, rfl⟩
set_option maxHeartbeats 8000000 in
theorem rparse0 (s t : ByteArray) (w : World) (hs : s.size ≤ 9223372036854775807) (hF : 0 ≤ s.size) (ht : Hid (t.data.toList = s.data.toList.drop 0)) (P : PIn s.data.toList false t.data.toList)
    (hc : decide ((0 : Int) < (s.size : Int)) = true) (h00 : 0 < s.size) (hc2 : ((s[0].toNat : Int) == 45) = false) (hzs : (s.toList == [45, 48]) = false) :
    Calls Tryd.prog 15 #[.string s] w fun e w' => e = .returned (.tuple #[.int .i64 (parseV s.data.toList), .int .i64 (parseE s.data.toList)]) ∧ w = w' := by
  obtain ⟨n, hn⟩ : ∃ n, run dg (s.data.toList.drop 0) = n := ⟨_, rfl⟩
  have hNt : Hid (run dg t.data.toList = n) := Lib.hid (by rw [ht.out, hn])
  have hN := Lib.hid hn; clear hn
  have htz : t.size = s.size - 0 := by rw [size_len, ht.out, List.length_drop, ← size_len]
  have hnt : n ≤ t.size := by rw [← hNt.out]; exact run_le_size _ _
  obtain ⟨K, hk⟩ : ∃ K, K = 0 + n := ⟨_, rfl⟩
  have hKs : K ≤ s.size := by omega
  have hFK : 0 ≤ K := by omega
  have hK := Lib.hid hk
  have HTZ := Lib.hid htz; clear htz
  by_cases h0 : n = 0
  · have Q := Lib.hid (P.no (by simp [okP, hNt.out, h0]))
    have e1 : ((K : Int) == 0) = true := by rw [beq_iff_eq]; omega
    clear hk h0
    go_enter Tryd.func15, Tryd.ntmps15
    go_wp2_with (first | (go_at_call 45; (with_reducible refine (rdigits_is s _ 0 n K _ hs (by omega) hF hN.out hK.out).mono ?_); rintro e w' ⟨rfl, rfl⟩))
    go_ret2
    exact ⟨ret_ii Q.out.1.symm Q.out.2.symm, rfl⟩
  · have e1 : ((K : Int) == 0) = false := by rw [beq_eq_false_iff_ne]; omega
    have hFs : 0 < s.size := by omega
    have htp : 0 < t.size := by have := HTZ.out; omega
    have hst : Hid (t[0].toNat = s[0].toNat) := Lib.hid (get_drop s t 0 ht.out htp hFs)
    by_cases h1 : (s[0].toNat : Int) = 48
    · have z1 : ((s[0].toNat : Int) == 48) = true := by rw [h1]; rfl
      by_cases h2 : 1 < n
      · have Q := Lib.hid (P.no (by simp [okP, hNt.out, h2, isAt_t t 0 htp 48 (by rw [hst.out, h1]; rfl)]))
        have e2 : decide ((0 : Int) + 1 < (K : Int)) = true := by rw [decide_eq_true_eq]; omega
        have e3 : decide ((1 : Int) < (K : Int)) = true := by rw [decide_eq_true_eq]; omega
        clear hk h0 h2 h1
        go_enter Tryd.func15, Tryd.ntmps15
        go_wp2_with (first | (go_at_call 45; (with_reducible refine (rdigits_is s _ 0 n K _ hs (by omega) hF hN.out hK.out).mono ?_); rintro e w' ⟨rfl, rfl⟩))
        go_ret2
        exact ⟨ret_ii Q.out.1.symm Q.out.2.symm, rfl⟩
      · have e3 : decide ((1 : Int) < (K : Int)) = false := by rw [decide_eq_false_iff_not]; omega
        have g0 : Hid (okP t.data.toList = (decide (n = t.data.toList.length) || (isAt t.data.toList n 46 && okF (fracP t.data.toList)))) := Lib.hid (by
          unfold okP; rw [hNt.out, decide_eq_false h0, and_one h2]; rfl)
        exact rparse0b s t n K w hs hF ht P hc h00 hc2 hzs hNt hN hnt hKs hFK hK HTZ h0 e1 hFs htp hst (.inr ⟨z1, e3⟩) g0
    · have z1 : ((s[0].toNat : Int) == 48) = false := by rw [beq_eq_false_iff_ne]; exact h1
      have g0 : Hid (okP t.data.toList = (decide (n = t.data.toList.length) || (isAt t.data.toList n 46 && okF (fracP t.data.toList)))) := Lib.hid (by
        unfold okP; rw [hNt.out, decide_eq_false h0, isAt_f t 0 htp 48 (by rw [hst.out]; exact h1), Bool.and_false]; rfl)
      exact rparse0b s t n K w hs hF ht P hc h00 hc2 hzs hNt hN hnt hKs hFK hK HTZ h0 e1 hFs htp hst (.inl z1) g0
end Go.Proofs.YtpacfinfbcpfnaaDoor
