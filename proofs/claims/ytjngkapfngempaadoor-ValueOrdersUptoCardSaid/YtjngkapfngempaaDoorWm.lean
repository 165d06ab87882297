/- walks: the reference's Prefix -/
import Derived.Test.YtjngkapfngempaaDoorWl
import Derived.Test.YtjngkapfngempaaDoorWk0
namespace Go.Proofs.YtjngkapfngempaaDoor
open Go.RowKit
open Dcm Byt

set_option maxHeartbeats 20000000 in
theorem rprefix_any (s : ByteArray) (w : World) (hs : s.size ≤ 9223372036854775807) :
    Calls Tryd.prog 30 #[.string s] w fun e w' => e = .returned (.tuple #[.int .i64 (preV s.data.toList), .int .i64 (preN s.data.toList : Nat)]) ∧ w = w' := by
  obtain ⟨a, ha⟩ : ∃ a, run bl s.data.toList = a := ⟨_, rfl⟩
  have has : a ≤ s.size := by rw [← ha]; exact run_le_size _ _
  have HA := Lib.hid ha; clear ha
  go_enter Tryd.func30, Tryd.ntmps30
  go_wp2
  go_loop [4] (fun i => ∃ k : Nat, k ≤ a ∧ i = .int .i64 k) (fun i => a - (intOf i).toNat)
  case atStart => exact ⟨0, by omega, rfl⟩
  case round =>
    obtain ⟨k, hk, rfl⟩ := hrel
    by_cases hlt : k < a
    · obtain ⟨hks, hc⟩ := bl_hit s k (by rw [HA.out]; exact hlt)
      have b1 : ((s[k].toNat : Int) == 32) = true ∨ ((s[k].toNat : Int) == 32) = false ∧ ((s[k].toNat : Int) == 9) = true := by
        rcases hc with hc | hc
        · left; rw [hc]; rfl
        · right; rw [hc]; exact ⟨rfl, rfl⟩
      clear hc
      rcases b1 with b1 | ⟨b1, b2⟩
      all_goals
        go_wp2
        go_round
        case rel => exact ⟨k + 1, by omega, by go_num⟩
        case measure => simp [intOf]; omega
    · obtain rfl : k = a := by omega
      clear hlt hk
      by_cases hks : k < s.size
      · obtain ⟨m1, m2⟩ := bl_miss s (by rw [HA.out]; exact hks)
        simp only [HA.out] at m1 m2
        have b1 : ((s[k].toNat : Int) == 32) = false := by rw [beq_eq_false_iff_ne]; exact m1
        have b2 : ((s[k].toNat : Int) == 9) = false := by rw [beq_eq_false_iff_ne]; exact m2
        clear m1 m2
        by_cases s1 : (s[k].toNat : Int) = 45
        · have i1 := isAt_t s k hks 45 s1
          have hP := Lib.hid (show preP s.data.toList = k + 1 from by unfold preP; rw [HA.out, i1]; rfl)
          have hNg := Lib.hid (show preNeg s.data.toList = true from by unfold preNeg; rw [HA.out, i1])
          have b3 : ((s[k].toNat : Int) == 45) = true := by rw [s1]; rfl
          clear s1 i1
          have hps : (k + 1) ≤ s.size := by omega
          obtain ⟨n, hn0⟩ : ∃ n, run dg (s.data.toList.drop (k + 1)) = n := ⟨_, rfl⟩
          have hn := Lib.hid hn0; clear hn0
          have hns : k + 1 + n ≤ s.size := by
            have := run_le dg (s.data.toList.drop (k + 1))
            rw [hn.out, List.length_drop, ← size_len] at this; omega
          obtain ⟨K, hk0⟩ : ∃ K, K = k + 1 + n := ⟨_, rfl⟩
          have hKs : K ≤ s.size := by omega
          have hPK : k + 1 ≤ K := by omega
          have hK := Lib.hid hk0
          obtain ⟨x, hx⟩ : ∃ x, s.extract (k + 1) K = x := ⟨_, rfl⟩
          have X : Hid (x.data.toList = (s.data.toList.drop (k + 1)).take n) := Lib.hid (by rw [← hx, ext_mid]; congr 1; omega)
          have Dx : Hid (∀ c ∈ x.data.toList, dg c = true) := Lib.hid (by rw [X.out]; have := mem_run dg (s.data.toList.drop (k + 1)); rw [hn.out] at this; exact this)
          have hxs : Hid (x.size ≤ 9223372036854775807) := Lib.hid (by rw [← hx]; exact ext_size s _ hs _)
          obtain ⟨j, hj0⟩ : ∃ j, run dg (s.data.toList.drop (K + 1)) = j := ⟨_, rfl⟩
          have hj := Lib.hid hj0; clear hj0
          have hj' : Hid (run dg (s.data.toList.drop (k + 1 + n + 1)) = j) := Lib.hid (by rw [← hK.out]; exact hj.out)
          by_cases hd : K < s.size ∧ isAt s.data.toList K 46 = true
          · obtain ⟨hds, hd⟩ := hd
            have F := PreI.mk (l := s.data.toList) hP.out hNg.out hn.out hj'.out (show isAt s.data.toList (k + 1 + n) 46 = true from by rw [← hK.out]; exact hd)
            have b5 : ((s[K].toNat : Int) == 46) = true := by
              rw [beq_iff_eq]; apply Decidable.byContradiction; intro h; rw [isAt_f s _ hds 46 h] at hd; cases hd
            have hjs : K + 1 + j ≤ s.size := by
              have := run_le dg (s.data.toList.drop (K + 1))
              rw [hj.out, List.length_drop, ← size_len] at this; omega
            clear hd
            obtain ⟨L, hl0⟩ : ∃ L, L = K + 1 + j := ⟨_, rfl⟩
            have hL := Lib.hid hl0
            have hLs : L ≤ s.size := by omega
            have hKL : K + 1 ≤ L := by omega
            obtain ⟨y, hy⟩ : ∃ y, s.extract (K + 1) L = y := ⟨_, rfl⟩
            have Y : Hid (y.data.toList = (s.data.toList.drop (k + 1 + n + 1)).take j) := Lib.hid (by rw [← hy, ext_mid, ← hK.out]; congr 1; omega)
            have Dy : Hid (∀ c ∈ y.data.toList, dg c = true) := Lib.hid (by rw [Y.out]; have := mem_run dg (s.data.toList.drop (k + 1 + n + 1)); rw [hj'.out] at this; exact this)
            have hys : Hid (y.size ≤ 9223372036854775807) := Lib.hid (by rw [← hy]; exact ext_size s _ hs _)
            by_cases hu : 0 < n ∨ 0 < j
            · have Q0 := F.use hu
              rw [← X.out, ← Y.out] at Q0
              have Q := Lib.hid Q0; clear Q0
              have e1 : ((L : Int) == (k : Int) + 1) = false := by rw [beq_eq_false_iff_ne]; omega
              have c1 : k + 1 < K ∨ (K ≤ k + 1 ∧ K + 1 < L) := by omega
              clear hu hjs hns hk0 hl0
              by_cases h4 : y.size ≤ 4
              · rcases c1 with c1 | ⟨c1, c2⟩
                all_goals
                  cases hB : numberB x.data.toList y.data.toList
                  · have MX := Lib.hid (num_max _ _ hB)
                    go_wp2_with (first | (go_at_call 52; (first | (with_reducible refine (rdigits_is s _ (k + 1) n K _ hs (by omega) (by omega) hn.out hK.out).mono ?_) | (with_reducible refine (rdigits_is s _ (K + 1) j L _ hs (by omega) (by omega) hj.out hL.out).mono ?_)); rintro e w' ⟨rfl, rfl⟩) | (go_at_call 53; (with_reducible refine (number_any x y _ hxs.out hys.out Dx Dy).mono ?_); rintro e w' ⟨rfl, rfl⟩))
                    all_goals go_ret2
                    all_goals exact ⟨ret_ii' (by rw [Q.out.1, MX.out]; first | rfl | (simp only [if_true]) | (simp only [Bool.false_eq_true, if_false]) | simp) (by rw [Q.out.2]; have := hK.out; first | omega | (have := hL.out; omega)), rfl⟩
                  · have MN := num_min _ _ hB
                    have hV := value_bd x.data.toList y.data.toList Dx.out Dy.out
                    have v1 : 0 ≤ numberV x.data.toList y.data.toList := by rw [← MN]; exact (min_bd _ hV.1).1
                    have v2 : numberV x.data.toList y.data.toList ≤ 10000000000000 := by rw [← MN]; exact (min_bd _ hV.1).2
                    have MX := Lib.hid MN
                    clear MN hV
                    go_wp2_with (first | (go_at_call 52; (first | (with_reducible refine (rdigits_is s _ (k + 1) n K _ hs (by omega) (by omega) hn.out hK.out).mono ?_) | (with_reducible refine (rdigits_is s _ (K + 1) j L _ hs (by omega) (by omega) hj.out hL.out).mono ?_)); rintro e w' ⟨rfl, rfl⟩) | (go_at_call 53; (with_reducible refine (number_any x y _ hxs.out hys.out Dx Dy).mono ?_); rintro e w' ⟨rfl, rfl⟩))
                    all_goals go_ret2
                    all_goals exact ⟨ret_ii' (by rw [Q.out.1, MX.out]; first | rfl | (simp only [if_true]) | (simp only [Bool.false_eq_true, if_false]) | simp) (by rw [Q.out.2]; have := hK.out; first | omega | (have := hL.out; omega)), rfl⟩
              · have h4' : 4 < y.size := by omega
                clear h4
                obtain ⟨z, hz⟩ : ∃ z, y.extract 0 4 = z := ⟨_, rfl⟩
                have Z : Hid (z.data.toList = y.data.toList.take 4) := Lib.hid (by rw [← hz, ext_mid]; rfl)
                have NT := number_take x.data.toList y.data.toList
                rw [← Z.out] at NT
                have NT2 := Lib.hid NT; clear NT
                have hzs : Hid (z.size ≤ 9223372036854775807) := Lib.hid (by rw [← hz]; exact ext_size y _ hys.out _)
                have Dz : Hid (∀ c ∈ z.data.toList, dg c = true) := Lib.hid (by rw [Z.out]; exact fun c hc => Dy.out c (List.mem_of_mem_take hc))
                rcases c1 with c1 | ⟨c1, c2⟩
                all_goals
                  cases hB : numberB x.data.toList z.data.toList
                  · have MX := Lib.hid (num_max x.data.toList y.data.toList (by rw [← NT2.out.2]; exact hB))
                    go_wp2_with (first | (go_at_call 52; (first | (with_reducible refine (rdigits_is s _ (k + 1) n K _ hs (by omega) (by omega) hn.out hK.out).mono ?_) | (with_reducible refine (rdigits_is s _ (K + 1) j L _ hs (by omega) (by omega) hj.out hL.out).mono ?_)); rintro e w' ⟨rfl, rfl⟩) | (go_at_call 53; (with_reducible refine (number_any x z _ hxs.out hzs.out Dx Dz).mono ?_); rintro e w' ⟨rfl, rfl⟩))
                    all_goals go_ret2
                    all_goals exact ⟨ret_ii' (by rw [Q.out.1, MX.out]; first | rfl | (simp only [if_true]) | (simp only [Bool.false_eq_true, if_false]) | simp) (by rw [Q.out.2]; have := hL.out; have := hK.out; omega), rfl⟩
                  · have MN := num_min x.data.toList y.data.toList (by rw [← NT2.out.2]; exact hB)
                    have hV := value_bd _ _ Dx.out Dy.out
                    have v1 : 0 ≤ numberV x.data.toList z.data.toList := by rw [NT2.out.1, ← MN]; exact (min_bd _ hV.1).1
                    have v2 : numberV x.data.toList z.data.toList ≤ 10000000000000 := by rw [NT2.out.1, ← MN]; exact (min_bd _ hV.1).2
                    have MX := Lib.hid MN
                    clear MN hV
                    go_wp2_with (first | (go_at_call 52; (first | (with_reducible refine (rdigits_is s _ (k + 1) n K _ hs (by omega) (by omega) hn.out hK.out).mono ?_) | (with_reducible refine (rdigits_is s _ (K + 1) j L _ hs (by omega) (by omega) hj.out hL.out).mono ?_)); rintro e w' ⟨rfl, rfl⟩) | (go_at_call 53; (with_reducible refine (number_any x z _ hxs.out hzs.out Dx Dz).mono ?_); rintro e w' ⟨rfl, rfl⟩))
                    all_goals go_ret2
                    all_goals exact ⟨ret_ii' (by rw [Q.out.1, MX.out, ← NT2.out.1]; first | rfl | (simp only [if_true]) | (simp only [Bool.false_eq_true, if_false]) | simp) (by rw [Q.out.2]; have := hL.out; have := hK.out; omega), rfl⟩
            · have hn0 : n = 0 := by omega
              have hj0 : j = 0 := by omega
              have Q := Lib.hid (F.empty hn0 (.inr hj0))
              have c1 : K ≤ k + 1 := by omega
              have c2 : L ≤ K + 1 := by omega
              have e1 : ((K : Int) == (k : Int) + 1) = true := by rw [beq_iff_eq]; omega
              clear hu hn0 hj0 hjs hns hk0 hl0
              go_wp2_with (first | (go_at_call 52; (first | (with_reducible refine (rdigits_is s _ (k + 1) n K _ hs (by omega) (by omega) hn.out hK.out).mono ?_) | (with_reducible refine (rdigits_is s _ (K + 1) j L _ hs (by omega) (by omega) hj.out hL.out).mono ?_)); rintro e w' ⟨rfl, rfl⟩))
              all_goals go_ret2
              all_goals exact ⟨ret_ii' Q.out.1.symm (by rw [Q.out.2]; rfl), rfl⟩
          · have hdf : isAt s.data.toList K 46 = false := by
              by_cases h : K < s.size
              · simpa [h] using hd
              · exact isAt_e s _ (by omega) 46
            have F := PreI.mk (l := s.data.toList) hP.out hNg.out hn.out hj'.out (show isAt s.data.toList (k + 1 + n) 46 = false from by rw [← hK.out]; exact hdf)
            have c5 : s.size ≤ K ∨ ∃ h : K < s.size, ((s[K].toNat : Int) == 46) = false := by
              by_cases h : K < s.size
              · right
                refine ⟨h, ?_⟩
                rw [beq_eq_false_iff_ne]; intro h2; rw [isAt_t s _ h 46 h2] at hdf; cases hdf
              · left; omega
            clear hd hdf
            by_cases hn0 : n = 0
            · have Q := Lib.hid (F.empty hn0 (.inl rfl))
              have e1 : ((K : Int) == (k : Int) + 1) = true := by rw [beq_iff_eq]; omega
              clear hn0 hns hk0
              rcases c5 with c5 | ⟨h5, c5⟩
              all_goals
                go_wp2_with (first | (go_at_call 52; (with_reducible refine (rdigits_is s _ (k + 1) n K _ hs (by omega) (by omega) hn.out hK.out).mono ?_); rintro e w' ⟨rfl, rfl⟩))
                all_goals go_ret2
                all_goals exact ⟨ret_ii' Q.out.1.symm (by rw [Q.out.2]; rfl), rfl⟩
            · have Q0 := F.nouse (by omega)
              rw [← X.out] at Q0
              have Q := Lib.hid Q0; clear Q0
              have e1 : ((K : Int) == (k : Int) + 1) = false := by rw [beq_eq_false_iff_ne]; omega
              clear hn0 hns hk0
              rcases c5 with c5 | ⟨h5, c5⟩
              all_goals
                cases hB : numberB x.data.toList []
                · have MX := Lib.hid (num_max _ _ hB)
                  go_wp2_with (first | (go_at_call 52; (with_reducible refine (rdigits_is s _ (k + 1) n K _ hs (by omega) (by omega) hn.out hK.out).mono ?_); rintro e w' ⟨rfl, rfl⟩) | (go_at_call 53; (with_reducible refine (number_e x _ hxs.out Dx).mono ?_); rintro e w' ⟨rfl, rfl⟩))
                  all_goals go_ret2
                  all_goals exact ⟨ret_ii' (by rw [Q.out.1, MX.out]; first | rfl | (simp only [if_true]) | (simp only [Bool.false_eq_true, if_false]) | simp) (by rw [Q.out.2]; have := hK.out; first | omega | (have := hL.out; omega)), rfl⟩
                · have MN := num_min _ _ hB
                  have hV := value_bd x.data.toList [] Dx.out (by simp)
                  have v1 : 0 ≤ numberV x.data.toList [] := by rw [← MN]; exact (min_bd _ hV.1).1
                  have v2 : numberV x.data.toList [] ≤ 10000000000000 := by rw [← MN]; exact (min_bd _ hV.1).2
                  have MX := Lib.hid MN
                  clear MN hV
                  go_wp2_with (first | (go_at_call 52; (with_reducible refine (rdigits_is s _ (k + 1) n K _ hs (by omega) (by omega) hn.out hK.out).mono ?_); rintro e w' ⟨rfl, rfl⟩) | (go_at_call 53; (with_reducible refine (number_e x _ hxs.out Dx).mono ?_); rintro e w' ⟨rfl, rfl⟩))
                  all_goals go_ret2
                  all_goals exact ⟨ret_ii' (by rw [Q.out.1, MX.out]; first | rfl | (simp only [if_true]) | (simp only [Bool.false_eq_true, if_false]) | simp) (by rw [Q.out.2]; have := hK.out; first | omega | (have := hL.out; omega)), rfl⟩
        · have i1 := isAt_f s k hks 45 s1
          have b3 : ((s[k].toNat : Int) == 45) = false := by rw [beq_eq_false_iff_ne]; exact s1
          clear s1
          by_cases s2 : (s[k].toNat : Int) = 43
          · have i2 := isAt_t s k hks 43 s2
            have hP := Lib.hid (show preP s.data.toList = k + 1 from by unfold preP; rw [HA.out, i1, i2]; rfl)
            have hNg := Lib.hid (show preNeg s.data.toList = false from by unfold preNeg; rw [HA.out, i1])
            have b4 : ((s[k].toNat : Int) == 43) = true := by rw [s2]; rfl
            clear s2 i1 i2
            have hps : (k + 1) ≤ s.size := by omega
            obtain ⟨n, hn0⟩ : ∃ n, run dg (s.data.toList.drop (k + 1)) = n := ⟨_, rfl⟩
            have hn := Lib.hid hn0; clear hn0
            have hns : k + 1 + n ≤ s.size := by
              have := run_le dg (s.data.toList.drop (k + 1))
              rw [hn.out, List.length_drop, ← size_len] at this; omega
            obtain ⟨K, hk0⟩ : ∃ K, K = k + 1 + n := ⟨_, rfl⟩
            have hKs : K ≤ s.size := by omega
            have hPK : k + 1 ≤ K := by omega
            have hK := Lib.hid hk0
            obtain ⟨x, hx⟩ : ∃ x, s.extract (k + 1) K = x := ⟨_, rfl⟩
            have X : Hid (x.data.toList = (s.data.toList.drop (k + 1)).take n) := Lib.hid (by rw [← hx, ext_mid]; congr 1; omega)
            have Dx : Hid (∀ c ∈ x.data.toList, dg c = true) := Lib.hid (by rw [X.out]; have := mem_run dg (s.data.toList.drop (k + 1)); rw [hn.out] at this; exact this)
            have hxs : Hid (x.size ≤ 9223372036854775807) := Lib.hid (by rw [← hx]; exact ext_size s _ hs _)
            obtain ⟨j, hj0⟩ : ∃ j, run dg (s.data.toList.drop (K + 1)) = j := ⟨_, rfl⟩
            have hj := Lib.hid hj0; clear hj0
            have hj' : Hid (run dg (s.data.toList.drop (k + 1 + n + 1)) = j) := Lib.hid (by rw [← hK.out]; exact hj.out)
            by_cases hd : K < s.size ∧ isAt s.data.toList K 46 = true
            · obtain ⟨hds, hd⟩ := hd
              have F := PreI.mk (l := s.data.toList) hP.out hNg.out hn.out hj'.out (show isAt s.data.toList (k + 1 + n) 46 = true from by rw [← hK.out]; exact hd)
              have b5 : ((s[K].toNat : Int) == 46) = true := by
                rw [beq_iff_eq]; apply Decidable.byContradiction; intro h; rw [isAt_f s _ hds 46 h] at hd; cases hd
              have hjs : K + 1 + j ≤ s.size := by
                have := run_le dg (s.data.toList.drop (K + 1))
                rw [hj.out, List.length_drop, ← size_len] at this; omega
              clear hd
              obtain ⟨L, hl0⟩ : ∃ L, L = K + 1 + j := ⟨_, rfl⟩
              have hL := Lib.hid hl0
              have hLs : L ≤ s.size := by omega
              have hKL : K + 1 ≤ L := by omega
              obtain ⟨y, hy⟩ : ∃ y, s.extract (K + 1) L = y := ⟨_, rfl⟩
              have Y : Hid (y.data.toList = (s.data.toList.drop (k + 1 + n + 1)).take j) := Lib.hid (by rw [← hy, ext_mid, ← hK.out]; congr 1; omega)
              have Dy : Hid (∀ c ∈ y.data.toList, dg c = true) := Lib.hid (by rw [Y.out]; have := mem_run dg (s.data.toList.drop (k + 1 + n + 1)); rw [hj'.out] at this; exact this)
              have hys : Hid (y.size ≤ 9223372036854775807) := Lib.hid (by rw [← hy]; exact ext_size s _ hs _)
              by_cases hu : 0 < n ∨ 0 < j
              · have Q0 := F.use hu
                rw [← X.out, ← Y.out] at Q0
                have Q := Lib.hid Q0; clear Q0
                have e1 : ((L : Int) == (k : Int) + 1) = false := by rw [beq_eq_false_iff_ne]; omega
                have c1 : k + 1 < K ∨ (K ≤ k + 1 ∧ K + 1 < L) := by omega
                clear hu hjs hns hk0 hl0
                by_cases h4 : y.size ≤ 4
                · rcases c1 with c1 | ⟨c1, c2⟩
                  all_goals
                    cases hB : numberB x.data.toList y.data.toList
                    · have MX := Lib.hid (num_max _ _ hB)
                      go_wp2_with (first | (go_at_call 52; (first | (with_reducible refine (rdigits_is s _ (k + 1) n K _ hs (by omega) (by omega) hn.out hK.out).mono ?_) | (with_reducible refine (rdigits_is s _ (K + 1) j L _ hs (by omega) (by omega) hj.out hL.out).mono ?_)); rintro e w' ⟨rfl, rfl⟩) | (go_at_call 53; (with_reducible refine (number_any x y _ hxs.out hys.out Dx Dy).mono ?_); rintro e w' ⟨rfl, rfl⟩))
                      all_goals go_ret2
                      all_goals exact ⟨ret_ii' (by rw [Q.out.1, MX.out]; first | rfl | (simp only [if_true]) | (simp only [Bool.false_eq_true, if_false]) | simp) (by rw [Q.out.2]; have := hK.out; first | omega | (have := hL.out; omega)), rfl⟩
                    · have MN := num_min _ _ hB
                      have hV := value_bd x.data.toList y.data.toList Dx.out Dy.out
                      have v1 : 0 ≤ numberV x.data.toList y.data.toList := by rw [← MN]; exact (min_bd _ hV.1).1
                      have v2 : numberV x.data.toList y.data.toList ≤ 10000000000000 := by rw [← MN]; exact (min_bd _ hV.1).2
                      have MX := Lib.hid MN
                      clear MN hV
                      go_wp2_with (first | (go_at_call 52; (first | (with_reducible refine (rdigits_is s _ (k + 1) n K _ hs (by omega) (by omega) hn.out hK.out).mono ?_) | (with_reducible refine (rdigits_is s _ (K + 1) j L _ hs (by omega) (by omega) hj.out hL.out).mono ?_)); rintro e w' ⟨rfl, rfl⟩) | (go_at_call 53; (with_reducible refine (number_any x y _ hxs.out hys.out Dx Dy).mono ?_); rintro e w' ⟨rfl, rfl⟩))
                      all_goals go_ret2
                      all_goals exact ⟨ret_ii' (by rw [Q.out.1, MX.out]; first | rfl | (simp only [if_true]) | (simp only [Bool.false_eq_true, if_false]) | simp) (by rw [Q.out.2]; have := hK.out; first | omega | (have := hL.out; omega)), rfl⟩
                · have h4' : 4 < y.size := by omega
                  clear h4
                  obtain ⟨z, hz⟩ : ∃ z, y.extract 0 4 = z := ⟨_, rfl⟩
                  have Z : Hid (z.data.toList = y.data.toList.take 4) := Lib.hid (by rw [← hz, ext_mid]; rfl)
                  have NT := number_take x.data.toList y.data.toList
                  rw [← Z.out] at NT
                  have NT2 := Lib.hid NT; clear NT
                  have hzs : Hid (z.size ≤ 9223372036854775807) := Lib.hid (by rw [← hz]; exact ext_size y _ hys.out _)
                  have Dz : Hid (∀ c ∈ z.data.toList, dg c = true) := Lib.hid (by rw [Z.out]; exact fun c hc => Dy.out c (List.mem_of_mem_take hc))
                  rcases c1 with c1 | ⟨c1, c2⟩
                  all_goals
                    cases hB : numberB x.data.toList z.data.toList
                    · have MX := Lib.hid (num_max x.data.toList y.data.toList (by rw [← NT2.out.2]; exact hB))
                      go_wp2_with (first | (go_at_call 52; (first | (with_reducible refine (rdigits_is s _ (k + 1) n K _ hs (by omega) (by omega) hn.out hK.out).mono ?_) | (with_reducible refine (rdigits_is s _ (K + 1) j L _ hs (by omega) (by omega) hj.out hL.out).mono ?_)); rintro e w' ⟨rfl, rfl⟩) | (go_at_call 53; (with_reducible refine (number_any x z _ hxs.out hzs.out Dx Dz).mono ?_); rintro e w' ⟨rfl, rfl⟩))
                      all_goals go_ret2
                      all_goals exact ⟨ret_ii' (by rw [Q.out.1, MX.out]; first | rfl | (simp only [if_true]) | (simp only [Bool.false_eq_true, if_false]) | simp) (by rw [Q.out.2]; have := hL.out; have := hK.out; omega), rfl⟩
                    · have MN := num_min x.data.toList y.data.toList (by rw [← NT2.out.2]; exact hB)
                      have hV := value_bd _ _ Dx.out Dy.out
                      have v1 : 0 ≤ numberV x.data.toList z.data.toList := by rw [NT2.out.1, ← MN]; exact (min_bd _ hV.1).1
                      have v2 : numberV x.data.toList z.data.toList ≤ 10000000000000 := by rw [NT2.out.1, ← MN]; exact (min_bd _ hV.1).2
                      have MX := Lib.hid MN
                      clear MN hV
                      go_wp2_with (first | (go_at_call 52; (first | (with_reducible refine (rdigits_is s _ (k + 1) n K _ hs (by omega) (by omega) hn.out hK.out).mono ?_) | (with_reducible refine (rdigits_is s _ (K + 1) j L _ hs (by omega) (by omega) hj.out hL.out).mono ?_)); rintro e w' ⟨rfl, rfl⟩) | (go_at_call 53; (with_reducible refine (number_any x z _ hxs.out hzs.out Dx Dz).mono ?_); rintro e w' ⟨rfl, rfl⟩))
                      all_goals go_ret2
                      all_goals exact ⟨ret_ii' (by rw [Q.out.1, MX.out, ← NT2.out.1]; first | rfl | (simp only [if_true]) | (simp only [Bool.false_eq_true, if_false]) | simp) (by rw [Q.out.2]; have := hL.out; have := hK.out; omega), rfl⟩
              · have hn0 : n = 0 := by omega
                have hj0 : j = 0 := by omega
                have Q := Lib.hid (F.empty hn0 (.inr hj0))
                have c1 : K ≤ k + 1 := by omega
                have c2 : L ≤ K + 1 := by omega
                have e1 : ((K : Int) == (k : Int) + 1) = true := by rw [beq_iff_eq]; omega
                clear hu hn0 hj0 hjs hns hk0 hl0
                go_wp2_with (first | (go_at_call 52; (first | (with_reducible refine (rdigits_is s _ (k + 1) n K _ hs (by omega) (by omega) hn.out hK.out).mono ?_) | (with_reducible refine (rdigits_is s _ (K + 1) j L _ hs (by omega) (by omega) hj.out hL.out).mono ?_)); rintro e w' ⟨rfl, rfl⟩))
                all_goals go_ret2
                all_goals exact ⟨ret_ii' Q.out.1.symm (by rw [Q.out.2]; rfl), rfl⟩
            · have hdf : isAt s.data.toList K 46 = false := by
                by_cases h : K < s.size
                · simpa [h] using hd
                · exact isAt_e s _ (by omega) 46
              have F := PreI.mk (l := s.data.toList) hP.out hNg.out hn.out hj'.out (show isAt s.data.toList (k + 1 + n) 46 = false from by rw [← hK.out]; exact hdf)
              have c5 : s.size ≤ K ∨ ∃ h : K < s.size, ((s[K].toNat : Int) == 46) = false := by
                by_cases h : K < s.size
                · right
                  refine ⟨h, ?_⟩
                  rw [beq_eq_false_iff_ne]; intro h2; rw [isAt_t s _ h 46 h2] at hdf; cases hdf
                · left; omega
              clear hd hdf
              by_cases hn0 : n = 0
              · have Q := Lib.hid (F.empty hn0 (.inl rfl))
                have e1 : ((K : Int) == (k : Int) + 1) = true := by rw [beq_iff_eq]; omega
                clear hn0 hns hk0
                rcases c5 with c5 | ⟨h5, c5⟩
                all_goals
                  go_wp2_with (first | (go_at_call 52; (with_reducible refine (rdigits_is s _ (k + 1) n K _ hs (by omega) (by omega) hn.out hK.out).mono ?_); rintro e w' ⟨rfl, rfl⟩))
                  all_goals go_ret2
                  all_goals exact ⟨ret_ii' Q.out.1.symm (by rw [Q.out.2]; rfl), rfl⟩
              · have Q0 := F.nouse (by omega)
                rw [← X.out] at Q0
                have Q := Lib.hid Q0; clear Q0
                have e1 : ((K : Int) == (k : Int) + 1) = false := by rw [beq_eq_false_iff_ne]; omega
                clear hn0 hns hk0
                rcases c5 with c5 | ⟨h5, c5⟩
                all_goals
                  cases hB : numberB x.data.toList []
                  · have MX := Lib.hid (num_max _ _ hB)
                    go_wp2_with (first | (go_at_call 52; (with_reducible refine (rdigits_is s _ (k + 1) n K _ hs (by omega) (by omega) hn.out hK.out).mono ?_); rintro e w' ⟨rfl, rfl⟩) | (go_at_call 53; (with_reducible refine (number_e x _ hxs.out Dx).mono ?_); rintro e w' ⟨rfl, rfl⟩))
                    all_goals go_ret2
                    all_goals exact ⟨ret_ii' (by rw [Q.out.1, MX.out]; first | rfl | (simp only [if_true]) | (simp only [Bool.false_eq_true, if_false]) | simp) (by rw [Q.out.2]; have := hK.out; first | omega | (have := hL.out; omega)), rfl⟩
                  · have MN := num_min _ _ hB
                    have hV := value_bd x.data.toList [] Dx.out (by simp)
                    have v1 : 0 ≤ numberV x.data.toList [] := by rw [← MN]; exact (min_bd _ hV.1).1
                    have v2 : numberV x.data.toList [] ≤ 10000000000000 := by rw [← MN]; exact (min_bd _ hV.1).2
                    have MX := Lib.hid MN
                    clear MN hV
                    go_wp2_with (first | (go_at_call 52; (with_reducible refine (rdigits_is s _ (k + 1) n K _ hs (by omega) (by omega) hn.out hK.out).mono ?_); rintro e w' ⟨rfl, rfl⟩) | (go_at_call 53; (with_reducible refine (number_e x _ hxs.out Dx).mono ?_); rintro e w' ⟨rfl, rfl⟩))
                    all_goals go_ret2
                    all_goals exact ⟨ret_ii' (by rw [Q.out.1, MX.out]; first | rfl | (simp only [if_true]) | (simp only [Bool.false_eq_true, if_false]) | simp) (by rw [Q.out.2]; have := hK.out; first | omega | (have := hL.out; omega)), rfl⟩
          · have i2 := isAt_f s k hks 43 s2
            have hP := Lib.hid (show preP s.data.toList = k from by unfold preP; rw [HA.out, i1, i2]; rfl)
            have hNg := Lib.hid (show preNeg s.data.toList = false from by unfold preNeg; rw [HA.out, i1])
            have b4 : ((s[k].toNat : Int) == 43) = false := by rw [beq_eq_false_iff_ne]; exact s2
            clear s2 i1 i2
            have hps : k ≤ s.size := by omega
            obtain ⟨n, hn0⟩ : ∃ n, run dg (s.data.toList.drop k) = n := ⟨_, rfl⟩
            have hn := Lib.hid hn0; clear hn0
            have hns : k + n ≤ s.size := by
              have := run_le dg (s.data.toList.drop k)
              rw [hn.out, List.length_drop, ← size_len] at this; omega
            obtain ⟨K, hk0⟩ : ∃ K, K = k + n := ⟨_, rfl⟩
            have hKs : K ≤ s.size := by omega
            have hPK : k ≤ K := by omega
            have hK := Lib.hid hk0
            obtain ⟨x, hx⟩ : ∃ x, s.extract k K = x := ⟨_, rfl⟩
            have X : Hid (x.data.toList = (s.data.toList.drop k).take n) := Lib.hid (by rw [← hx, ext_mid]; congr 1; omega)
            have Dx : Hid (∀ c ∈ x.data.toList, dg c = true) := Lib.hid (by rw [X.out]; have := mem_run dg (s.data.toList.drop k); rw [hn.out] at this; exact this)
            have hxs : Hid (x.size ≤ 9223372036854775807) := Lib.hid (by rw [← hx]; exact ext_size s _ hs _)
            obtain ⟨j, hj0⟩ : ∃ j, run dg (s.data.toList.drop (K + 1)) = j := ⟨_, rfl⟩
            have hj := Lib.hid hj0; clear hj0
            have hj' : Hid (run dg (s.data.toList.drop (k + n + 1)) = j) := Lib.hid (by rw [← hK.out]; exact hj.out)
            by_cases hd : K < s.size ∧ isAt s.data.toList K 46 = true
            · obtain ⟨hds, hd⟩ := hd
              have F := PreI.mk (l := s.data.toList) hP.out hNg.out hn.out hj'.out (show isAt s.data.toList (k + n) 46 = true from by rw [← hK.out]; exact hd)
              have b5 : ((s[K].toNat : Int) == 46) = true := by
                rw [beq_iff_eq]; apply Decidable.byContradiction; intro h; rw [isAt_f s _ hds 46 h] at hd; cases hd
              have hjs : K + 1 + j ≤ s.size := by
                have := run_le dg (s.data.toList.drop (K + 1))
                rw [hj.out, List.length_drop, ← size_len] at this; omega
              clear hd
              obtain ⟨L, hl0⟩ : ∃ L, L = K + 1 + j := ⟨_, rfl⟩
              have hL := Lib.hid hl0
              have hLs : L ≤ s.size := by omega
              have hKL : K + 1 ≤ L := by omega
              obtain ⟨y, hy⟩ : ∃ y, s.extract (K + 1) L = y := ⟨_, rfl⟩
              have Y : Hid (y.data.toList = (s.data.toList.drop (k + n + 1)).take j) := Lib.hid (by rw [← hy, ext_mid, ← hK.out]; congr 1; omega)
              have Dy : Hid (∀ c ∈ y.data.toList, dg c = true) := Lib.hid (by rw [Y.out]; have := mem_run dg (s.data.toList.drop (k + n + 1)); rw [hj'.out] at this; exact this)
              have hys : Hid (y.size ≤ 9223372036854775807) := Lib.hid (by rw [← hy]; exact ext_size s _ hs _)
              by_cases hu : 0 < n ∨ 0 < j
              · have Q0 := F.use hu
                rw [← X.out, ← Y.out] at Q0
                have Q := Lib.hid Q0; clear Q0
                have e1 : ((L : Int) == (k : Int)) = false := by rw [beq_eq_false_iff_ne]; omega
                have c1 : k < K ∨ (K ≤ k ∧ K + 1 < L) := by omega
                clear hu hjs hns hk0 hl0
                by_cases h4 : y.size ≤ 4
                · rcases c1 with c1 | ⟨c1, c2⟩
                  all_goals
                    cases hB : numberB x.data.toList y.data.toList
                    · have MX := Lib.hid (num_max _ _ hB)
                      go_wp2_with (first | (go_at_call 52; (first | (with_reducible refine (rdigits_is s _ k n K _ hs (by omega) (by omega) hn.out hK.out).mono ?_) | (with_reducible refine (rdigits_is s _ (K + 1) j L _ hs (by omega) (by omega) hj.out hL.out).mono ?_)); rintro e w' ⟨rfl, rfl⟩) | (go_at_call 53; (with_reducible refine (number_any x y _ hxs.out hys.out Dx Dy).mono ?_); rintro e w' ⟨rfl, rfl⟩))
                      all_goals go_ret2
                      all_goals exact ⟨ret_ii' (by rw [Q.out.1, MX.out]; first | rfl | (simp only [if_true]) | (simp only [Bool.false_eq_true, if_false]) | simp) (by rw [Q.out.2]; have := hK.out; first | omega | (have := hL.out; omega)), rfl⟩
                    · have MN := num_min _ _ hB
                      have hV := value_bd x.data.toList y.data.toList Dx.out Dy.out
                      have v1 : 0 ≤ numberV x.data.toList y.data.toList := by rw [← MN]; exact (min_bd _ hV.1).1
                      have v2 : numberV x.data.toList y.data.toList ≤ 10000000000000 := by rw [← MN]; exact (min_bd _ hV.1).2
                      have MX := Lib.hid MN
                      clear MN hV
                      go_wp2_with (first | (go_at_call 52; (first | (with_reducible refine (rdigits_is s _ k n K _ hs (by omega) (by omega) hn.out hK.out).mono ?_) | (with_reducible refine (rdigits_is s _ (K + 1) j L _ hs (by omega) (by omega) hj.out hL.out).mono ?_)); rintro e w' ⟨rfl, rfl⟩) | (go_at_call 53; (with_reducible refine (number_any x y _ hxs.out hys.out Dx Dy).mono ?_); rintro e w' ⟨rfl, rfl⟩))
                      all_goals go_ret2
                      all_goals exact ⟨ret_ii' (by rw [Q.out.1, MX.out]; first | rfl | (simp only [if_true]) | (simp only [Bool.false_eq_true, if_false]) | simp) (by rw [Q.out.2]; have := hK.out; first | omega | (have := hL.out; omega)), rfl⟩
                · have h4' : 4 < y.size := by omega
                  clear h4
                  obtain ⟨z, hz⟩ : ∃ z, y.extract 0 4 = z := ⟨_, rfl⟩
                  have Z : Hid (z.data.toList = y.data.toList.take 4) := Lib.hid (by rw [← hz, ext_mid]; rfl)
                  have NT := number_take x.data.toList y.data.toList
                  rw [← Z.out] at NT
                  have NT2 := Lib.hid NT; clear NT
                  have hzs : Hid (z.size ≤ 9223372036854775807) := Lib.hid (by rw [← hz]; exact ext_size y _ hys.out _)
                  have Dz : Hid (∀ c ∈ z.data.toList, dg c = true) := Lib.hid (by rw [Z.out]; exact fun c hc => Dy.out c (List.mem_of_mem_take hc))
                  rcases c1 with c1 | ⟨c1, c2⟩
                  all_goals
                    cases hB : numberB x.data.toList z.data.toList
                    · have MX := Lib.hid (num_max x.data.toList y.data.toList (by rw [← NT2.out.2]; exact hB))
                      go_wp2_with (first | (go_at_call 52; (first | (with_reducible refine (rdigits_is s _ k n K _ hs (by omega) (by omega) hn.out hK.out).mono ?_) | (with_reducible refine (rdigits_is s _ (K + 1) j L _ hs (by omega) (by omega) hj.out hL.out).mono ?_)); rintro e w' ⟨rfl, rfl⟩) | (go_at_call 53; (with_reducible refine (number_any x z _ hxs.out hzs.out Dx Dz).mono ?_); rintro e w' ⟨rfl, rfl⟩))
                      all_goals go_ret2
                      all_goals exact ⟨ret_ii' (by rw [Q.out.1, MX.out]; first | rfl | (simp only [if_true]) | (simp only [Bool.false_eq_true, if_false]) | simp) (by rw [Q.out.2]; have := hL.out; have := hK.out; omega), rfl⟩
                    · have MN := num_min x.data.toList y.data.toList (by rw [← NT2.out.2]; exact hB)
                      have hV := value_bd _ _ Dx.out Dy.out
                      have v1 : 0 ≤ numberV x.data.toList z.data.toList := by rw [NT2.out.1, ← MN]; exact (min_bd _ hV.1).1
                      have v2 : numberV x.data.toList z.data.toList ≤ 10000000000000 := by rw [NT2.out.1, ← MN]; exact (min_bd _ hV.1).2
                      have MX := Lib.hid MN
                      clear MN hV
                      go_wp2_with (first | (go_at_call 52; (first | (with_reducible refine (rdigits_is s _ k n K _ hs (by omega) (by omega) hn.out hK.out).mono ?_) | (with_reducible refine (rdigits_is s _ (K + 1) j L _ hs (by omega) (by omega) hj.out hL.out).mono ?_)); rintro e w' ⟨rfl, rfl⟩) | (go_at_call 53; (with_reducible refine (number_any x z _ hxs.out hzs.out Dx Dz).mono ?_); rintro e w' ⟨rfl, rfl⟩))
                      all_goals go_ret2
                      all_goals exact ⟨ret_ii' (by rw [Q.out.1, MX.out, ← NT2.out.1]; first | rfl | (simp only [if_true]) | (simp only [Bool.false_eq_true, if_false]) | simp) (by rw [Q.out.2]; have := hL.out; have := hK.out; omega), rfl⟩
              · have hn0 : n = 0 := by omega
                have hj0 : j = 0 := by omega
                have Q := Lib.hid (F.empty hn0 (.inr hj0))
                have c1 : K ≤ k := by omega
                have c2 : L ≤ K + 1 := by omega
                have e1 : ((K : Int) == (k : Int)) = true := by rw [beq_iff_eq]; omega
                clear hu hn0 hj0 hjs hns hk0 hl0
                go_wp2_with (first | (go_at_call 52; (first | (with_reducible refine (rdigits_is s _ k n K _ hs (by omega) (by omega) hn.out hK.out).mono ?_) | (with_reducible refine (rdigits_is s _ (K + 1) j L _ hs (by omega) (by omega) hj.out hL.out).mono ?_)); rintro e w' ⟨rfl, rfl⟩))
                all_goals go_ret2
                all_goals exact ⟨ret_ii' Q.out.1.symm (by rw [Q.out.2]; rfl), rfl⟩
            · have hdf : isAt s.data.toList K 46 = false := by
                by_cases h : K < s.size
                · simpa [h] using hd
                · exact isAt_e s _ (by omega) 46
              have F := PreI.mk (l := s.data.toList) hP.out hNg.out hn.out hj'.out (show isAt s.data.toList (k + n) 46 = false from by rw [← hK.out]; exact hdf)
              have c5 : s.size ≤ K ∨ ∃ h : K < s.size, ((s[K].toNat : Int) == 46) = false := by
                by_cases h : K < s.size
                · right
                  refine ⟨h, ?_⟩
                  rw [beq_eq_false_iff_ne]; intro h2; rw [isAt_t s _ h 46 h2] at hdf; cases hdf
                · left; omega
              clear hd hdf
              by_cases hn0 : n = 0
              · have Q := Lib.hid (F.empty hn0 (.inl rfl))
                have e1 : ((K : Int) == (k : Int)) = true := by rw [beq_iff_eq]; omega
                clear hn0 hns hk0
                rcases c5 with c5 | ⟨h5, c5⟩
                all_goals
                  go_wp2_with (first | (go_at_call 52; (with_reducible refine (rdigits_is s _ k n K _ hs (by omega) (by omega) hn.out hK.out).mono ?_); rintro e w' ⟨rfl, rfl⟩))
                  all_goals go_ret2
                  all_goals exact ⟨ret_ii' Q.out.1.symm (by rw [Q.out.2]; rfl), rfl⟩
              · have Q0 := F.nouse (by omega)
                rw [← X.out] at Q0
                have Q := Lib.hid Q0; clear Q0
                have e1 : ((K : Int) == (k : Int)) = false := by rw [beq_eq_false_iff_ne]; omega
                clear hn0 hns hk0
                rcases c5 with c5 | ⟨h5, c5⟩
                all_goals
                  cases hB : numberB x.data.toList []
                  · have MX := Lib.hid (num_max _ _ hB)
                    go_wp2_with (first | (go_at_call 52; (with_reducible refine (rdigits_is s _ k n K _ hs (by omega) (by omega) hn.out hK.out).mono ?_); rintro e w' ⟨rfl, rfl⟩) | (go_at_call 53; (with_reducible refine (number_e x _ hxs.out Dx).mono ?_); rintro e w' ⟨rfl, rfl⟩))
                    all_goals go_ret2
                    all_goals exact ⟨ret_ii' (by rw [Q.out.1, MX.out]; first | rfl | (simp only [if_true]) | (simp only [Bool.false_eq_true, if_false]) | simp) (by rw [Q.out.2]; have := hK.out; first | omega | (have := hL.out; omega)), rfl⟩
                  · have MN := num_min _ _ hB
                    have hV := value_bd x.data.toList [] Dx.out (by simp)
                    have v1 : 0 ≤ numberV x.data.toList [] := by rw [← MN]; exact (min_bd _ hV.1).1
                    have v2 : numberV x.data.toList [] ≤ 10000000000000 := by rw [← MN]; exact (min_bd _ hV.1).2
                    have MX := Lib.hid MN
                    clear MN hV
                    go_wp2_with (first | (go_at_call 52; (with_reducible refine (rdigits_is s _ k n K _ hs (by omega) (by omega) hn.out hK.out).mono ?_); rintro e w' ⟨rfl, rfl⟩) | (go_at_call 53; (with_reducible refine (number_e x _ hxs.out Dx).mono ?_); rintro e w' ⟨rfl, rfl⟩))
                    all_goals go_ret2
                    all_goals exact ⟨ret_ii' (by rw [Q.out.1, MX.out]; first | rfl | (simp only [if_true]) | (simp only [Bool.false_eq_true, if_false]) | simp) (by rw [Q.out.2]; have := hK.out; first | omega | (have := hL.out; omega)), rfl⟩
      · have i1 := isAt_e s k (by omega) 45
        have i2 := isAt_e s k (by omega) 43
        have hP := Lib.hid (show preP s.data.toList = k from by unfold preP; rw [HA.out, i1, i2]; rfl)
        have hNg := Lib.hid (show preNeg s.data.toList = false from by unfold preNeg; rw [HA.out, i1])
        have hks : s.size ≤ k := by omega
        clear i1 i2
        have hps : k ≤ s.size := by omega
        obtain ⟨n, hn0⟩ : ∃ n, run dg (s.data.toList.drop k) = n := ⟨_, rfl⟩
        have hn := Lib.hid hn0; clear hn0
        have hns : k + n ≤ s.size := by
          have := run_le dg (s.data.toList.drop k)
          rw [hn.out, List.length_drop, ← size_len] at this; omega
        obtain ⟨K, hk0⟩ : ∃ K, K = k + n := ⟨_, rfl⟩
        have hKs : K ≤ s.size := by omega
        have hPK : k ≤ K := by omega
        have hK := Lib.hid hk0
        obtain ⟨x, hx⟩ : ∃ x, s.extract k K = x := ⟨_, rfl⟩
        have X : Hid (x.data.toList = (s.data.toList.drop k).take n) := Lib.hid (by rw [← hx, ext_mid]; congr 1; omega)
        have Dx : Hid (∀ c ∈ x.data.toList, dg c = true) := Lib.hid (by rw [X.out]; have := mem_run dg (s.data.toList.drop k); rw [hn.out] at this; exact this)
        have hxs : Hid (x.size ≤ 9223372036854775807) := Lib.hid (by rw [← hx]; exact ext_size s _ hs _)
        obtain ⟨j, hj0⟩ : ∃ j, run dg (s.data.toList.drop (K + 1)) = j := ⟨_, rfl⟩
        have hj := Lib.hid hj0; clear hj0
        have hj' : Hid (run dg (s.data.toList.drop (k + n + 1)) = j) := Lib.hid (by rw [← hK.out]; exact hj.out)
        by_cases hd : K < s.size ∧ isAt s.data.toList K 46 = true
        · obtain ⟨hds, hd⟩ := hd
          have F := PreI.mk (l := s.data.toList) hP.out hNg.out hn.out hj'.out (show isAt s.data.toList (k + n) 46 = true from by rw [← hK.out]; exact hd)
          have b5 : ((s[K].toNat : Int) == 46) = true := by
            rw [beq_iff_eq]; apply Decidable.byContradiction; intro h; rw [isAt_f s _ hds 46 h] at hd; cases hd
          have hjs : K + 1 + j ≤ s.size := by
            have := run_le dg (s.data.toList.drop (K + 1))
            rw [hj.out, List.length_drop, ← size_len] at this; omega
          clear hd
          obtain ⟨L, hl0⟩ : ∃ L, L = K + 1 + j := ⟨_, rfl⟩
          have hL := Lib.hid hl0
          have hLs : L ≤ s.size := by omega
          have hKL : K + 1 ≤ L := by omega
          obtain ⟨y, hy⟩ : ∃ y, s.extract (K + 1) L = y := ⟨_, rfl⟩
          have Y : Hid (y.data.toList = (s.data.toList.drop (k + n + 1)).take j) := Lib.hid (by rw [← hy, ext_mid, ← hK.out]; congr 1; omega)
          have Dy : Hid (∀ c ∈ y.data.toList, dg c = true) := Lib.hid (by rw [Y.out]; have := mem_run dg (s.data.toList.drop (k + n + 1)); rw [hj'.out] at this; exact this)
          have hys : Hid (y.size ≤ 9223372036854775807) := Lib.hid (by rw [← hy]; exact ext_size s _ hs _)
          by_cases hu : 0 < n ∨ 0 < j
          · have Q0 := F.use hu
            rw [← X.out, ← Y.out] at Q0
            have Q := Lib.hid Q0; clear Q0
            have e1 : ((L : Int) == (k : Int)) = false := by rw [beq_eq_false_iff_ne]; omega
            have c1 : k < K ∨ (K ≤ k ∧ K + 1 < L) := by omega
            clear hu hjs hns hk0 hl0
            by_cases h4 : y.size ≤ 4
            · rcases c1 with c1 | ⟨c1, c2⟩
              all_goals
                cases hB : numberB x.data.toList y.data.toList
                · have MX := Lib.hid (num_max _ _ hB)
                  go_wp2_with (first | (go_at_call 52; (first | (with_reducible refine (rdigits_is s _ k n K _ hs (by omega) (by omega) hn.out hK.out).mono ?_) | (with_reducible refine (rdigits_is s _ (K + 1) j L _ hs (by omega) (by omega) hj.out hL.out).mono ?_)); rintro e w' ⟨rfl, rfl⟩) | (go_at_call 53; (with_reducible refine (number_any x y _ hxs.out hys.out Dx Dy).mono ?_); rintro e w' ⟨rfl, rfl⟩))
                  all_goals go_ret2
                  all_goals exact ⟨ret_ii' (by rw [Q.out.1, MX.out]; first | rfl | (simp only [if_true]) | (simp only [Bool.false_eq_true, if_false]) | simp) (by rw [Q.out.2]; have := hK.out; first | omega | (have := hL.out; omega)), rfl⟩
                · have MN := num_min _ _ hB
                  have hV := value_bd x.data.toList y.data.toList Dx.out Dy.out
                  have v1 : 0 ≤ numberV x.data.toList y.data.toList := by rw [← MN]; exact (min_bd _ hV.1).1
                  have v2 : numberV x.data.toList y.data.toList ≤ 10000000000000 := by rw [← MN]; exact (min_bd _ hV.1).2
                  have MX := Lib.hid MN
                  clear MN hV
                  go_wp2_with (first | (go_at_call 52; (first | (with_reducible refine (rdigits_is s _ k n K _ hs (by omega) (by omega) hn.out hK.out).mono ?_) | (with_reducible refine (rdigits_is s _ (K + 1) j L _ hs (by omega) (by omega) hj.out hL.out).mono ?_)); rintro e w' ⟨rfl, rfl⟩) | (go_at_call 53; (with_reducible refine (number_any x y _ hxs.out hys.out Dx Dy).mono ?_); rintro e w' ⟨rfl, rfl⟩))
                  all_goals go_ret2
                  all_goals exact ⟨ret_ii' (by rw [Q.out.1, MX.out]; first | rfl | (simp only [if_true]) | (simp only [Bool.false_eq_true, if_false]) | simp) (by rw [Q.out.2]; have := hK.out; first | omega | (have := hL.out; omega)), rfl⟩
            · have h4' : 4 < y.size := by omega
              clear h4
              obtain ⟨z, hz⟩ : ∃ z, y.extract 0 4 = z := ⟨_, rfl⟩
              have Z : Hid (z.data.toList = y.data.toList.take 4) := Lib.hid (by rw [← hz, ext_mid]; rfl)
              have NT := number_take x.data.toList y.data.toList
              rw [← Z.out] at NT
              have NT2 := Lib.hid NT; clear NT
              have hzs : Hid (z.size ≤ 9223372036854775807) := Lib.hid (by rw [← hz]; exact ext_size y _ hys.out _)
              have Dz : Hid (∀ c ∈ z.data.toList, dg c = true) := Lib.hid (by rw [Z.out]; exact fun c hc => Dy.out c (List.mem_of_mem_take hc))
              rcases c1 with c1 | ⟨c1, c2⟩
              all_goals
                cases hB : numberB x.data.toList z.data.toList
                · have MX := Lib.hid (num_max x.data.toList y.data.toList (by rw [← NT2.out.2]; exact hB))
                  go_wp2_with (first | (go_at_call 52; (first | (with_reducible refine (rdigits_is s _ k n K _ hs (by omega) (by omega) hn.out hK.out).mono ?_) | (with_reducible refine (rdigits_is s _ (K + 1) j L _ hs (by omega) (by omega) hj.out hL.out).mono ?_)); rintro e w' ⟨rfl, rfl⟩) | (go_at_call 53; (with_reducible refine (number_any x z _ hxs.out hzs.out Dx Dz).mono ?_); rintro e w' ⟨rfl, rfl⟩))
                  all_goals go_ret2
                  all_goals exact ⟨ret_ii' (by rw [Q.out.1, MX.out]; first | rfl | (simp only [if_true]) | (simp only [Bool.false_eq_true, if_false]) | simp) (by rw [Q.out.2]; have := hL.out; have := hK.out; omega), rfl⟩
                · have MN := num_min x.data.toList y.data.toList (by rw [← NT2.out.2]; exact hB)
                  have hV := value_bd _ _ Dx.out Dy.out
                  have v1 : 0 ≤ numberV x.data.toList z.data.toList := by rw [NT2.out.1, ← MN]; exact (min_bd _ hV.1).1
                  have v2 : numberV x.data.toList z.data.toList ≤ 10000000000000 := by rw [NT2.out.1, ← MN]; exact (min_bd _ hV.1).2
                  have MX := Lib.hid MN
                  clear MN hV
                  go_wp2_with (first | (go_at_call 52; (first | (with_reducible refine (rdigits_is s _ k n K _ hs (by omega) (by omega) hn.out hK.out).mono ?_) | (with_reducible refine (rdigits_is s _ (K + 1) j L _ hs (by omega) (by omega) hj.out hL.out).mono ?_)); rintro e w' ⟨rfl, rfl⟩) | (go_at_call 53; (with_reducible refine (number_any x z _ hxs.out hzs.out Dx Dz).mono ?_); rintro e w' ⟨rfl, rfl⟩))
                  all_goals go_ret2
                  all_goals exact ⟨ret_ii' (by rw [Q.out.1, MX.out, ← NT2.out.1]; first | rfl | (simp only [if_true]) | (simp only [Bool.false_eq_true, if_false]) | simp) (by rw [Q.out.2]; have := hL.out; have := hK.out; omega), rfl⟩
          · have hn0 : n = 0 := by omega
            have hj0 : j = 0 := by omega
            have Q := Lib.hid (F.empty hn0 (.inr hj0))
            have c1 : K ≤ k := by omega
            have c2 : L ≤ K + 1 := by omega
            have e1 : ((K : Int) == (k : Int)) = true := by rw [beq_iff_eq]; omega
            clear hu hn0 hj0 hjs hns hk0 hl0
            go_wp2_with (first | (go_at_call 52; (first | (with_reducible refine (rdigits_is s _ k n K _ hs (by omega) (by omega) hn.out hK.out).mono ?_) | (with_reducible refine (rdigits_is s _ (K + 1) j L _ hs (by omega) (by omega) hj.out hL.out).mono ?_)); rintro e w' ⟨rfl, rfl⟩))
            all_goals go_ret2
            all_goals exact ⟨ret_ii' Q.out.1.symm (by rw [Q.out.2]; rfl), rfl⟩
        · have hdf : isAt s.data.toList K 46 = false := by
            by_cases h : K < s.size
            · simpa [h] using hd
            · exact isAt_e s _ (by omega) 46
          have F := PreI.mk (l := s.data.toList) hP.out hNg.out hn.out hj'.out (show isAt s.data.toList (k + n) 46 = false from by rw [← hK.out]; exact hdf)
          have c5 : s.size ≤ K ∨ ∃ h : K < s.size, ((s[K].toNat : Int) == 46) = false := by
            by_cases h : K < s.size
            · right
              refine ⟨h, ?_⟩
              rw [beq_eq_false_iff_ne]; intro h2; rw [isAt_t s _ h 46 h2] at hdf; cases hdf
            · left; omega
          clear hd hdf
          by_cases hn0 : n = 0
          · have Q := Lib.hid (F.empty hn0 (.inl rfl))
            have e1 : ((K : Int) == (k : Int)) = true := by rw [beq_iff_eq]; omega
            clear hn0 hns hk0
            rcases c5 with c5 | ⟨h5, c5⟩
            all_goals
              go_wp2_with (first | (go_at_call 52; (with_reducible refine (rdigits_is s _ k n K _ hs (by omega) (by omega) hn.out hK.out).mono ?_); rintro e w' ⟨rfl, rfl⟩))
              all_goals go_ret2
              all_goals exact ⟨ret_ii' Q.out.1.symm (by rw [Q.out.2]; rfl), rfl⟩
          · have Q0 := F.nouse (by omega)
            rw [← X.out] at Q0
            have Q := Lib.hid Q0; clear Q0
            have e1 : ((K : Int) == (k : Int)) = false := by rw [beq_eq_false_iff_ne]; omega
            clear hn0 hns hk0
            rcases c5 with c5 | ⟨h5, c5⟩
            all_goals
              cases hB : numberB x.data.toList []
              · have MX := Lib.hid (num_max _ _ hB)
                go_wp2_with (first | (go_at_call 52; (with_reducible refine (rdigits_is s _ k n K _ hs (by omega) (by omega) hn.out hK.out).mono ?_); rintro e w' ⟨rfl, rfl⟩) | (go_at_call 53; (with_reducible refine (number_e x _ hxs.out Dx).mono ?_); rintro e w' ⟨rfl, rfl⟩))
                all_goals go_ret2
                all_goals exact ⟨ret_ii' (by rw [Q.out.1, MX.out]; first | rfl | (simp only [if_true]) | (simp only [Bool.false_eq_true, if_false]) | simp) (by rw [Q.out.2]; have := hK.out; first | omega | (have := hL.out; omega)), rfl⟩
              · have MN := num_min _ _ hB
                have hV := value_bd x.data.toList [] Dx.out (by simp)
                have v1 : 0 ≤ numberV x.data.toList [] := by rw [← MN]; exact (min_bd _ hV.1).1
                have v2 : numberV x.data.toList [] ≤ 10000000000000 := by rw [← MN]; exact (min_bd _ hV.1).2
                have MX := Lib.hid MN
                clear MN hV
                go_wp2_with (first | (go_at_call 52; (with_reducible refine (rdigits_is s _ k n K _ hs (by omega) (by omega) hn.out hK.out).mono ?_); rintro e w' ⟨rfl, rfl⟩) | (go_at_call 53; (with_reducible refine (number_e x _ hxs.out Dx).mono ?_); rintro e w' ⟨rfl, rfl⟩))
                all_goals go_ret2
                all_goals exact ⟨ret_ii' (by rw [Q.out.1, MX.out]; first | rfl | (simp only [if_true]) | (simp only [Bool.false_eq_true, if_false]) | simp) (by rw [Q.out.2]; have := hK.out; first | omega | (have := hL.out; omega)), rfl⟩
end Go.Proofs.YtjngkapfngempaaDoor
