/- walks: Prefix -/
import Derived.Test.YtjngkapfngempaaDoorWj
import Derived.Test.YtjngkapfngempaaDoorByt4
namespace Go.Proofs.YtjngkapfngempaaDoor
open Go.RowKit
open Dcm Byt
theorem ret_ii' {k l : IntKind} {a b c d : Int} (h : a = b) (h' : c = d) : Ending.returned (.tuple #[.int k a, .int l c]) = .returned (.tuple #[.int k b, .int l d]) := by rw [h, h']
theorem min_bd (v : Int) (h : 0 ≤ v) : 0 ≤ min 10000000000000 v ∧ min 10000000000000 v ≤ 10000000000000 := by omega

theorem value_e (s : ByteArray) (w : World) (hs : s.size ≤ 9223372036854775807) (hd : Hid (∀ c ∈ s.data.toList, dg c = true)) :
    Calls Tryd.prog 51 #[.string s, .string { data := #[] }] w fun e w' => e = .returned (.int .i64 (valueV s.data.toList [])) ∧ w = w' :=
  value_any s { data := #[] } w hs (by decide) hd (Lib.hid (by simp))
theorem ext_size (s : ByteArray) (b : Nat) (hs : s.size ≤ 9223372036854775807) (a : Nat) : (s.extract a b).size ≤ 9223372036854775807 := by
  rw [size_len, ext_mid, List.length_take, List.length_drop, ← size_len]; omega
set_option maxHeartbeats 10000000 in
theorem prefix_any (s : ByteArray) (w : World) (hs : s.size ≤ 9223372036854775807) :
    Calls Tryd.prog 27 #[.string s] w fun e w' => e = .returned (.tuple #[.int .i64 (preV s.data.toList), .int .i64 (preN s.data.toList : Nat)]) ∧ w = w' := by
  obtain ⟨a, ha⟩ : ∃ a, run bl s.data.toList = a := ⟨_, rfl⟩
  have has : a ≤ s.size := by rw [← ha]; exact run_le_size _ _
  have HA := Lib.hid ha; clear ha
  go_enter Tryd.func27, Tryd.ntmps27
  go_wp2
  go_loop [4] (fun i => ∃ k : Nat, k ≤ a ∧ i = .int .i64 k) (fun i => a - (intOf i).toNat)
  case atStart => exact ⟨0, by omega, rfl⟩
  case round =>
    obtain ⟨k, hk, rfl⟩ := hrel
    by_cases hlt : k < a
    · obtain ⟨hks, hc⟩ := bl_hit s k (by rw [HA.out]; exact hlt)
      have b1 : ((s[k].toNat : Int) == 32) = true ∨ ((s[k].toNat : Int) == 32) = false ∧ ((s[k].toNat : Int) == 9) = true := by
        rcases hc with hc | hc
        · left; rw [hc]; rfl
        · right; rw [hc]; exact ⟨rfl, rfl⟩
      clear hc
      rcases b1 with b1 | ⟨b1, b2⟩
      all_goals
        go_wp2
        go_round
        case rel => exact ⟨k + 1, by omega, by go_num⟩
        case measure => simp [intOf]; omega
    · obtain rfl : k = a := by omega
      clear hlt hk
      by_cases hks : k < s.size
      · obtain ⟨m1, m2⟩ := bl_miss s (by rw [HA.out]; exact hks)
        simp only [HA.out] at m1 m2
        have b1 : ((s[k].toNat : Int) == 32) = false := by rw [beq_eq_false_iff_ne]; exact m1
        have b2 : ((s[k].toNat : Int) == 9) = false := by rw [beq_eq_false_iff_ne]; exact m2
        clear m1 m2
        by_cases s1 : (s[k].toNat : Int) = 45
        · have i1 := isAt_t s k hks 45 s1
          have hP := Lib.hid (show preP s.data.toList = k + 1 from by unfold preP; rw [HA.out, i1]; rfl)
          have hNg := Lib.hid (show preNeg s.data.toList = true from by unfold preNeg; rw [HA.out, i1])
          have b3 : ((s[k].toNat : Int) == 45) = true := by rw [s1]; rfl
          clear s1 i1
          have hps : (k + 1) ≤ s.size := by omega
          obtain ⟨u, hu1⟩ : ∃ u, s.extract (k + 1) s.size = u := ⟨_, rfl⟩
          obtain ⟨n, hn0⟩ : ∃ n, run dg u.data.toList = n := ⟨_, rfl⟩
          have hn := Lib.hid hn0; clear hn0
          have hn' : Hid (run dg (s.data.toList.drop (k + 1)) = n) := Lib.hid (by rw [← ext_to, hu1]; exact hn.out)
          have hns : k + 1 + n ≤ s.size := by
            have := run_le dg (s.data.toList.drop (k + 1))
            rw [hn'.out, List.length_drop, ← size_len] at this; omega
          have hz1 : Hid (u.size ≤ 9223372036854775807) := Lib.hid (by rw [← hu1]; exact ext_size s s.size hs (k + 1))
          by_cases hn0 : n = 0
          · subst hn0
            clear hns
            have X : Hid (([] : List UInt8) = (s.data.toList.drop (k + 1)).take 0) := Lib.hid (by rw [List.take_zero])
            have Dx : Hid (∀ c ∈ ByteArray.empty.data.toList, dg c = true) := Lib.hid (by intro c hc; cases hc)
            have hxs : Hid (ByteArray.empty.size ≤ 9223372036854775807) := Lib.hid (by decide)
            obtain ⟨u2, hu2⟩ : ∃ u, s.extract (k + 1 + 1) s.size = u := ⟨_, rfl⟩
            obtain ⟨j, hj0⟩ : ∃ j, run dg u2.data.toList = j := ⟨_, rfl⟩
            have hj := Lib.hid hj0; clear hj0
            have hj' : Hid (run dg (s.data.toList.drop (k + 1 + 1)) = j) := Lib.hid (by rw [← ext_to, hu2]; exact hj.out)
            have hz2 : Hid (u2.size ≤ 9223372036854775807) := Lib.hid (by rw [← hu2]; exact ext_size s s.size hs (k + 1 + 1))
            by_cases hd : k + 1 < s.size ∧ isAt s.data.toList (k + 1) 46 = true
            · obtain ⟨hds, hd⟩ := hd
              have F := PreI.mk (l := s.data.toList) hP.out hNg.out hn'.out hj'.out hd
              have b5 : ((s[k + 1].toNat : Int) == 46) = true := by
                rw [beq_iff_eq]; apply Decidable.byContradiction; intro h; rw [isAt_f s _ hds 46 h] at hd; cases hd
              have hjs : k + 1 + 1 + j ≤ s.size := by
                have := run_le dg (s.data.toList.drop (k + 1 + 1))
                rw [hj'.out, List.length_drop, ← size_len] at this; omega
              clear hd
              obtain ⟨y, hy⟩ : ∃ y, s.extract (k + 1 + 1) (k + 1 + 1 + j) = y := ⟨_, rfl⟩
              have Y : Hid (y.data.toList = (s.data.toList.drop (k + 1 + 1)).take j) := Lib.hid (by rw [← hy, ext_mid]; congr 1; omega)
              have Dy : Hid (∀ c ∈ y.data.toList, dg c = true) := Lib.hid (by rw [Y.out]; have := mem_run dg (s.data.toList.drop (k + 1 + 1)); rw [hj'.out] at this; exact this)
              have hys : Hid (y.size ≤ 9223372036854775807) := Lib.hid (by rw [← hy]; exact ext_size s _ hs _)
              have hv := Lib.hid (value_bd ([] : List UInt8) y.data.toList (by simp) Dy.out)
              by_cases hu : 0 < j
              · have Q := Lib.hid (F.use (.inr hu))
                have c4 : (y.toList == []) = false := by
                  rw [str_eq, decide_eq_false_iff_not]
                  intro h2
                  have h3 : y.size = 0 := by rw [size_len, h2]; rfl
                  have h4 : y.size = j := by rw [← hy]; simp; omega
                  omega
                go_wp2_with (first | (go_at_call 50; (first | (with_reducible refine (digits_is u 0 _ hz1.out hn.out).mono ?_) | (with_reducible refine (digits_is u2 j _ hz2.out hj.out).mono ?_)); rintro e w' ⟨rfl, rfl⟩) | (go_at_call 51; (with_reducible refine (value_any ByteArray.empty y _ hxs.out hys.out Dx Dy).mono ?_); rintro e w' ⟨rfl, rfl⟩; obtain ⟨v1, v2⟩ := hv.out))
                all_goals go_ret2
                all_goals exact ⟨ret_ii' (by rw [Q.out.1, ← X.out, ← Y.out]; simp only [if_true]; omega) (by rw [Q.out.2]; omega), rfl⟩
              · have Q := Lib.hid (F.empty rfl (.inr (by omega)))
                go_wp2_with (first | (go_at_call 50; (first | (with_reducible refine (digits_is u 0 _ hz1.out hn.out).mono ?_) | (with_reducible refine (digits_is u2 j _ hz2.out hj.out).mono ?_)); rintro e w' ⟨rfl, rfl⟩) | (go_at_call 51; (with_reducible refine (value_any ByteArray.empty y _ hxs.out hys.out Dx Dy).mono ?_); rintro e w' ⟨rfl, rfl⟩; obtain ⟨v1, v2⟩ := hv.out))
                all_goals go_ret2
                all_goals exact ⟨ret_ii' Q.out.1.symm (by rw [Q.out.2]; rfl), rfl⟩
            · have hdf : isAt s.data.toList (k + 1) 46 = false := by
                by_cases h : k + 1 < s.size
                · simpa [h] using hd
                · exact isAt_e s _ (by omega) 46
              have F := PreI.mk (l := s.data.toList) hP.out hNg.out hn'.out hj'.out hdf
              have c5 : s.size ≤ k + 1 ∨ ∃ h : k + 1 < s.size, ((s[k + 1].toNat : Int) == 46) = false := by
                by_cases h : k + 1 < s.size
                · right
                  refine ⟨h, ?_⟩
                  rw [beq_eq_false_iff_ne]; intro h2; rw [isAt_t s _ h 46 h2] at hdf; cases hdf
                · left; omega
              clear hd hdf
              have hv := Lib.hid (value_bd ([] : List UInt8) [] (by simp) (by simp))
              have Q := Lib.hid (F.empty rfl (.inl rfl))
              rcases c5 with c5 | ⟨h5, c5⟩
              all_goals
                go_wp2_with (first | (go_at_call 50; (with_reducible refine (digits_is u 0 _ hz1.out hn.out).mono ?_); rintro e w' ⟨rfl, rfl⟩) | (go_at_call 51; (with_reducible refine (value_e ByteArray.empty _ hxs.out Dx).mono ?_); rintro e w' ⟨rfl, rfl⟩; obtain ⟨v1, v2⟩ := hv.out))
                all_goals go_ret2
                all_goals exact ⟨ret_ii' Q.out.1.symm (by rw [Q.out.2]; rfl), rfl⟩
          · have hn0 : 0 < n := by omega
            have c1 : ((n : Int) == 0) = false := by rw [beq_eq_false_iff_ne]; omega
            obtain ⟨x, hx⟩ : ∃ x, s.extract (k + 1) (k + 1 + n) = x := ⟨_, rfl⟩
            have X : Hid (x.data.toList = (s.data.toList.drop (k + 1)).take n) := Lib.hid (by rw [← hx, ext_mid]; congr 1; omega)
            have Dx : Hid (∀ c ∈ x.data.toList, dg c = true) := Lib.hid (by rw [X.out]; have := mem_run dg (s.data.toList.drop (k + 1)); rw [hn'.out] at this; exact this)
            have hxs : Hid (x.size ≤ 9223372036854775807) := Lib.hid (by rw [← hx]; exact ext_size s _ hs _)
            obtain ⟨u2, hu2⟩ : ∃ u, s.extract (k + 1 + n + 1) s.size = u := ⟨_, rfl⟩
            obtain ⟨j, hj0⟩ : ∃ j, run dg u2.data.toList = j := ⟨_, rfl⟩
            have hj := Lib.hid hj0; clear hj0
            have hj' : Hid (run dg (s.data.toList.drop (k + 1 + n + 1)) = j) := Lib.hid (by rw [← ext_to, hu2]; exact hj.out)
            have hz2 : Hid (u2.size ≤ 9223372036854775807) := Lib.hid (by rw [← hu2]; exact ext_size s s.size hs (k + 1 + n + 1))
            by_cases hd : k + 1 + n < s.size ∧ isAt s.data.toList (k + 1 + n) 46 = true
            · obtain ⟨hds, hd⟩ := hd
              have F := PreI.mk (l := s.data.toList) hP.out hNg.out hn'.out hj'.out hd
              have b5 : ((s[k + 1 + n].toNat : Int) == 46) = true := by
                rw [beq_iff_eq]; apply Decidable.byContradiction; intro h; rw [isAt_f s _ hds 46 h] at hd; cases hd
              have hjs : k + 1 + n + 1 + j ≤ s.size := by
                have := run_le dg (s.data.toList.drop (k + 1 + n + 1))
                rw [hj'.out, List.length_drop, ← size_len] at this; omega
              clear hd
              obtain ⟨y, hy⟩ : ∃ y, s.extract (k + 1 + n + 1) (k + 1 + n + 1 + j) = y := ⟨_, rfl⟩
              have Y : Hid (y.data.toList = (s.data.toList.drop (k + 1 + n + 1)).take j) := Lib.hid (by rw [← hy, ext_mid]; congr 1; omega)
              have Dy : Hid (∀ c ∈ y.data.toList, dg c = true) := Lib.hid (by rw [Y.out]; have := mem_run dg (s.data.toList.drop (k + 1 + n + 1)); rw [hj'.out] at this; exact this)
              have hys : Hid (y.size ≤ 9223372036854775807) := Lib.hid (by rw [← hy]; exact ext_size s _ hs _)
              have hv := Lib.hid (value_bd x.data.toList y.data.toList Dx.out Dy.out)
              have Q := Lib.hid (F.use (.inl hn0))
              go_wp2_with (first | (go_at_call 50; (first | (with_reducible refine (digits_is u n _ hz1.out hn.out).mono ?_) | (with_reducible refine (digits_is u2 j _ hz2.out hj.out).mono ?_)); rintro e w' ⟨rfl, rfl⟩) | (go_at_call 51; (with_reducible refine (value_any x y _ hxs.out hys.out Dx Dy).mono ?_); rintro e w' ⟨rfl, rfl⟩; obtain ⟨v1, v2⟩ := hv.out))
              all_goals go_ret2
              all_goals exact ⟨ret_ii' (by rw [Q.out.1, ← X.out, ← Y.out]; simp only [if_true]; omega) (by rw [Q.out.2]; omega), rfl⟩
            · have hdf : isAt s.data.toList (k + 1 + n) 46 = false := by
                by_cases h : k + 1 + n < s.size
                · simpa [h] using hd
                · exact isAt_e s _ (by omega) 46
              have F := PreI.mk (l := s.data.toList) hP.out hNg.out hn'.out hj'.out hdf
              have c5 : s.size ≤ k + 1 + n ∨ ∃ h : k + 1 + n < s.size, ((s[k + 1 + n].toNat : Int) == 46) = false := by
                by_cases h : k + 1 + n < s.size
                · right
                  refine ⟨h, ?_⟩
                  rw [beq_eq_false_iff_ne]; intro h2; rw [isAt_t s _ h 46 h2] at hdf; cases hdf
                · left; omega
              clear hd hdf
              have hv := Lib.hid (value_bd x.data.toList [] Dx.out (by simp))
              have Q := Lib.hid (F.nouse hn0)
              rcases c5 with c5 | ⟨h5, c5⟩
              all_goals
                go_wp2_with (first | (go_at_call 50; (with_reducible refine (digits_is u n _ hz1.out hn.out).mono ?_); rintro e w' ⟨rfl, rfl⟩) | (go_at_call 51; (with_reducible refine (value_e x _ hxs.out Dx).mono ?_); rintro e w' ⟨rfl, rfl⟩; obtain ⟨v1, v2⟩ := hv.out))
                all_goals go_ret2
                all_goals exact ⟨ret_ii' (by rw [Q.out.1, ← X.out]; simp only [if_true]; omega) (by rw [Q.out.2]; omega), rfl⟩
        · have i1 := isAt_f s k hks 45 s1
          have b3 : ((s[k].toNat : Int) == 45) = false := by rw [beq_eq_false_iff_ne]; exact s1
          clear s1
          by_cases s2 : (s[k].toNat : Int) = 43
          · have i2 := isAt_t s k hks 43 s2
            have hP := Lib.hid (show preP s.data.toList = k + 1 from by unfold preP; rw [HA.out, i1, i2]; rfl)
            have hNg := Lib.hid (show preNeg s.data.toList = false from by unfold preNeg; rw [HA.out, i1])
            have b4 : ((s[k].toNat : Int) == 43) = true := by rw [s2]; rfl
            clear s2 i1 i2
            have hps : (k + 1) ≤ s.size := by omega
            obtain ⟨u, hu1⟩ : ∃ u, s.extract (k + 1) s.size = u := ⟨_, rfl⟩
            obtain ⟨n, hn0⟩ : ∃ n, run dg u.data.toList = n := ⟨_, rfl⟩
            have hn := Lib.hid hn0; clear hn0
            have hn' : Hid (run dg (s.data.toList.drop (k + 1)) = n) := Lib.hid (by rw [← ext_to, hu1]; exact hn.out)
            have hns : k + 1 + n ≤ s.size := by
              have := run_le dg (s.data.toList.drop (k + 1))
              rw [hn'.out, List.length_drop, ← size_len] at this; omega
            have hz1 : Hid (u.size ≤ 9223372036854775807) := Lib.hid (by rw [← hu1]; exact ext_size s s.size hs (k + 1))
            by_cases hn0 : n = 0
            · subst hn0
              clear hns
              have X : Hid (([] : List UInt8) = (s.data.toList.drop (k + 1)).take 0) := Lib.hid (by rw [List.take_zero])
              have Dx : Hid (∀ c ∈ ByteArray.empty.data.toList, dg c = true) := Lib.hid (by intro c hc; cases hc)
              have hxs : Hid (ByteArray.empty.size ≤ 9223372036854775807) := Lib.hid (by decide)
              obtain ⟨u2, hu2⟩ : ∃ u, s.extract (k + 1 + 1) s.size = u := ⟨_, rfl⟩
              obtain ⟨j, hj0⟩ : ∃ j, run dg u2.data.toList = j := ⟨_, rfl⟩
              have hj := Lib.hid hj0; clear hj0
              have hj' : Hid (run dg (s.data.toList.drop (k + 1 + 1)) = j) := Lib.hid (by rw [← ext_to, hu2]; exact hj.out)
              have hz2 : Hid (u2.size ≤ 9223372036854775807) := Lib.hid (by rw [← hu2]; exact ext_size s s.size hs (k + 1 + 1))
              by_cases hd : k + 1 < s.size ∧ isAt s.data.toList (k + 1) 46 = true
              · obtain ⟨hds, hd⟩ := hd
                have F := PreI.mk (l := s.data.toList) hP.out hNg.out hn'.out hj'.out hd
                have b5 : ((s[k + 1].toNat : Int) == 46) = true := by
                  rw [beq_iff_eq]; apply Decidable.byContradiction; intro h; rw [isAt_f s _ hds 46 h] at hd; cases hd
                have hjs : k + 1 + 1 + j ≤ s.size := by
                  have := run_le dg (s.data.toList.drop (k + 1 + 1))
                  rw [hj'.out, List.length_drop, ← size_len] at this; omega
                clear hd
                obtain ⟨y, hy⟩ : ∃ y, s.extract (k + 1 + 1) (k + 1 + 1 + j) = y := ⟨_, rfl⟩
                have Y : Hid (y.data.toList = (s.data.toList.drop (k + 1 + 1)).take j) := Lib.hid (by rw [← hy, ext_mid]; congr 1; omega)
                have Dy : Hid (∀ c ∈ y.data.toList, dg c = true) := Lib.hid (by rw [Y.out]; have := mem_run dg (s.data.toList.drop (k + 1 + 1)); rw [hj'.out] at this; exact this)
                have hys : Hid (y.size ≤ 9223372036854775807) := Lib.hid (by rw [← hy]; exact ext_size s _ hs _)
                have hv := Lib.hid (value_bd ([] : List UInt8) y.data.toList (by simp) Dy.out)
                by_cases hu : 0 < j
                · have Q := Lib.hid (F.use (.inr hu))
                  have c4 : (y.toList == []) = false := by
                    rw [str_eq, decide_eq_false_iff_not]
                    intro h2
                    have h3 : y.size = 0 := by rw [size_len, h2]; rfl
                    have h4 : y.size = j := by rw [← hy]; simp; omega
                    omega
                  go_wp2_with (first | (go_at_call 50; (first | (with_reducible refine (digits_is u 0 _ hz1.out hn.out).mono ?_) | (with_reducible refine (digits_is u2 j _ hz2.out hj.out).mono ?_)); rintro e w' ⟨rfl, rfl⟩) | (go_at_call 51; (with_reducible refine (value_any ByteArray.empty y _ hxs.out hys.out Dx Dy).mono ?_); rintro e w' ⟨rfl, rfl⟩; obtain ⟨v1, v2⟩ := hv.out))
                  all_goals go_ret2
                  all_goals exact ⟨ret_ii' (by rw [Q.out.1, ← X.out, ← Y.out]; simp only [Bool.false_eq_true, if_false]; omega) (by rw [Q.out.2]; omega), rfl⟩
                · have Q := Lib.hid (F.empty rfl (.inr (by omega)))
                  go_wp2_with (first | (go_at_call 50; (first | (with_reducible refine (digits_is u 0 _ hz1.out hn.out).mono ?_) | (with_reducible refine (digits_is u2 j _ hz2.out hj.out).mono ?_)); rintro e w' ⟨rfl, rfl⟩) | (go_at_call 51; (with_reducible refine (value_any ByteArray.empty y _ hxs.out hys.out Dx Dy).mono ?_); rintro e w' ⟨rfl, rfl⟩; obtain ⟨v1, v2⟩ := hv.out))
                  all_goals go_ret2
                  all_goals exact ⟨ret_ii' Q.out.1.symm (by rw [Q.out.2]; rfl), rfl⟩
              · have hdf : isAt s.data.toList (k + 1) 46 = false := by
                  by_cases h : k + 1 < s.size
                  · simpa [h] using hd
                  · exact isAt_e s _ (by omega) 46
                have F := PreI.mk (l := s.data.toList) hP.out hNg.out hn'.out hj'.out hdf
                have c5 : s.size ≤ k + 1 ∨ ∃ h : k + 1 < s.size, ((s[k + 1].toNat : Int) == 46) = false := by
                  by_cases h : k + 1 < s.size
                  · right
                    refine ⟨h, ?_⟩
                    rw [beq_eq_false_iff_ne]; intro h2; rw [isAt_t s _ h 46 h2] at hdf; cases hdf
                  · left; omega
                clear hd hdf
                have hv := Lib.hid (value_bd ([] : List UInt8) [] (by simp) (by simp))
                have Q := Lib.hid (F.empty rfl (.inl rfl))
                rcases c5 with c5 | ⟨h5, c5⟩
                all_goals
                  go_wp2_with (first | (go_at_call 50; (with_reducible refine (digits_is u 0 _ hz1.out hn.out).mono ?_); rintro e w' ⟨rfl, rfl⟩) | (go_at_call 51; (with_reducible refine (value_e ByteArray.empty _ hxs.out Dx).mono ?_); rintro e w' ⟨rfl, rfl⟩; obtain ⟨v1, v2⟩ := hv.out))
                  all_goals go_ret2
                  all_goals exact ⟨ret_ii' Q.out.1.symm (by rw [Q.out.2]; rfl), rfl⟩
            · have hn0 : 0 < n := by omega
              have c1 : ((n : Int) == 0) = false := by rw [beq_eq_false_iff_ne]; omega
              obtain ⟨x, hx⟩ : ∃ x, s.extract (k + 1) (k + 1 + n) = x := ⟨_, rfl⟩
              have X : Hid (x.data.toList = (s.data.toList.drop (k + 1)).take n) := Lib.hid (by rw [← hx, ext_mid]; congr 1; omega)
              have Dx : Hid (∀ c ∈ x.data.toList, dg c = true) := Lib.hid (by rw [X.out]; have := mem_run dg (s.data.toList.drop (k + 1)); rw [hn'.out] at this; exact this)
              have hxs : Hid (x.size ≤ 9223372036854775807) := Lib.hid (by rw [← hx]; exact ext_size s _ hs _)
              obtain ⟨u2, hu2⟩ : ∃ u, s.extract (k + 1 + n + 1) s.size = u := ⟨_, rfl⟩
              obtain ⟨j, hj0⟩ : ∃ j, run dg u2.data.toList = j := ⟨_, rfl⟩
              have hj := Lib.hid hj0; clear hj0
              have hj' : Hid (run dg (s.data.toList.drop (k + 1 + n + 1)) = j) := Lib.hid (by rw [← ext_to, hu2]; exact hj.out)
              have hz2 : Hid (u2.size ≤ 9223372036854775807) := Lib.hid (by rw [← hu2]; exact ext_size s s.size hs (k + 1 + n + 1))
              by_cases hd : k + 1 + n < s.size ∧ isAt s.data.toList (k + 1 + n) 46 = true
              · obtain ⟨hds, hd⟩ := hd
                have F := PreI.mk (l := s.data.toList) hP.out hNg.out hn'.out hj'.out hd
                have b5 : ((s[k + 1 + n].toNat : Int) == 46) = true := by
                  rw [beq_iff_eq]; apply Decidable.byContradiction; intro h; rw [isAt_f s _ hds 46 h] at hd; cases hd
                have hjs : k + 1 + n + 1 + j ≤ s.size := by
                  have := run_le dg (s.data.toList.drop (k + 1 + n + 1))
                  rw [hj'.out, List.length_drop, ← size_len] at this; omega
                clear hd
                obtain ⟨y, hy⟩ : ∃ y, s.extract (k + 1 + n + 1) (k + 1 + n + 1 + j) = y := ⟨_, rfl⟩
                have Y : Hid (y.data.toList = (s.data.toList.drop (k + 1 + n + 1)).take j) := Lib.hid (by rw [← hy, ext_mid]; congr 1; omega)
                have Dy : Hid (∀ c ∈ y.data.toList, dg c = true) := Lib.hid (by rw [Y.out]; have := mem_run dg (s.data.toList.drop (k + 1 + n + 1)); rw [hj'.out] at this; exact this)
                have hys : Hid (y.size ≤ 9223372036854775807) := Lib.hid (by rw [← hy]; exact ext_size s _ hs _)
                have hv := Lib.hid (value_bd x.data.toList y.data.toList Dx.out Dy.out)
                have Q := Lib.hid (F.use (.inl hn0))
                go_wp2_with (first | (go_at_call 50; (first | (with_reducible refine (digits_is u n _ hz1.out hn.out).mono ?_) | (with_reducible refine (digits_is u2 j _ hz2.out hj.out).mono ?_)); rintro e w' ⟨rfl, rfl⟩) | (go_at_call 51; (with_reducible refine (value_any x y _ hxs.out hys.out Dx Dy).mono ?_); rintro e w' ⟨rfl, rfl⟩; obtain ⟨v1, v2⟩ := hv.out))
                all_goals go_ret2
                all_goals exact ⟨ret_ii' (by rw [Q.out.1, ← X.out, ← Y.out]; simp only [Bool.false_eq_true, if_false]; omega) (by rw [Q.out.2]; omega), rfl⟩
              · have hdf : isAt s.data.toList (k + 1 + n) 46 = false := by
                  by_cases h : k + 1 + n < s.size
                  · simpa [h] using hd
                  · exact isAt_e s _ (by omega) 46
                have F := PreI.mk (l := s.data.toList) hP.out hNg.out hn'.out hj'.out hdf
                have c5 : s.size ≤ k + 1 + n ∨ ∃ h : k + 1 + n < s.size, ((s[k + 1 + n].toNat : Int) == 46) = false := by
                  by_cases h : k + 1 + n < s.size
                  · right
                    refine ⟨h, ?_⟩
                    rw [beq_eq_false_iff_ne]; intro h2; rw [isAt_t s _ h 46 h2] at hdf; cases hdf
                  · left; omega
                clear hd hdf
                have hv := Lib.hid (value_bd x.data.toList [] Dx.out (by simp))
                have Q := Lib.hid (F.nouse hn0)
                rcases c5 with c5 | ⟨h5, c5⟩
                all_goals
                  go_wp2_with (first | (go_at_call 50; (with_reducible refine (digits_is u n _ hz1.out hn.out).mono ?_); rintro e w' ⟨rfl, rfl⟩) | (go_at_call 51; (with_reducible refine (value_e x _ hxs.out Dx).mono ?_); rintro e w' ⟨rfl, rfl⟩; obtain ⟨v1, v2⟩ := hv.out))
                  all_goals go_ret2
                  all_goals exact ⟨ret_ii' (by rw [Q.out.1, ← X.out]; simp only [Bool.false_eq_true, if_false]; omega) (by rw [Q.out.2]; omega), rfl⟩
          · have i2 := isAt_f s k hks 43 s2
            have hP := Lib.hid (show preP s.data.toList = k from by unfold preP; rw [HA.out, i1, i2]; rfl)
            have hNg := Lib.hid (show preNeg s.data.toList = false from by unfold preNeg; rw [HA.out, i1])
            have b4 : ((s[k].toNat : Int) == 43) = false := by rw [beq_eq_false_iff_ne]; exact s2
            clear s2 i1 i2
            have hps : k ≤ s.size := by omega
            obtain ⟨u, hu1⟩ : ∃ u, s.extract k s.size = u := ⟨_, rfl⟩
            obtain ⟨n, hn0⟩ : ∃ n, run dg u.data.toList = n := ⟨_, rfl⟩
            have hn := Lib.hid hn0; clear hn0
            have hn' : Hid (run dg (s.data.toList.drop k) = n) := Lib.hid (by rw [← ext_to, hu1]; exact hn.out)
            have hns : k + n ≤ s.size := by
              have := run_le dg (s.data.toList.drop k)
              rw [hn'.out, List.length_drop, ← size_len] at this; omega
            have hz1 : Hid (u.size ≤ 9223372036854775807) := Lib.hid (by rw [← hu1]; exact ext_size s s.size hs k)
            by_cases hn0 : n = 0
            · subst hn0
              clear hns
              have X : Hid (([] : List UInt8) = (s.data.toList.drop k).take 0) := Lib.hid (by rw [List.take_zero])
              have Dx : Hid (∀ c ∈ ByteArray.empty.data.toList, dg c = true) := Lib.hid (by intro c hc; cases hc)
              have hxs : Hid (ByteArray.empty.size ≤ 9223372036854775807) := Lib.hid (by decide)
              obtain ⟨u2, hu2⟩ : ∃ u, s.extract (k + 1) s.size = u := ⟨_, rfl⟩
              obtain ⟨j, hj0⟩ : ∃ j, run dg u2.data.toList = j := ⟨_, rfl⟩
              have hj := Lib.hid hj0; clear hj0
              have hj' : Hid (run dg (s.data.toList.drop (k + 1)) = j) := Lib.hid (by rw [← ext_to, hu2]; exact hj.out)
              have hz2 : Hid (u2.size ≤ 9223372036854775807) := Lib.hid (by rw [← hu2]; exact ext_size s s.size hs (k + 1))
              by_cases hd : k < s.size ∧ isAt s.data.toList k 46 = true
              · obtain ⟨hds, hd⟩ := hd
                have F := PreI.mk (l := s.data.toList) hP.out hNg.out hn'.out hj'.out hd
                have b5 : ((s[k].toNat : Int) == 46) = true := by
                  rw [beq_iff_eq]; apply Decidable.byContradiction; intro h; rw [isAt_f s _ hds 46 h] at hd; cases hd
                have hjs : k + 1 + j ≤ s.size := by
                  have := run_le dg (s.data.toList.drop (k + 1))
                  rw [hj'.out, List.length_drop, ← size_len] at this; omega
                clear hd
                obtain ⟨y, hy⟩ : ∃ y, s.extract (k + 1) (k + 1 + j) = y := ⟨_, rfl⟩
                have Y : Hid (y.data.toList = (s.data.toList.drop (k + 1)).take j) := Lib.hid (by rw [← hy, ext_mid]; congr 1; omega)
                have Dy : Hid (∀ c ∈ y.data.toList, dg c = true) := Lib.hid (by rw [Y.out]; have := mem_run dg (s.data.toList.drop (k + 1)); rw [hj'.out] at this; exact this)
                have hys : Hid (y.size ≤ 9223372036854775807) := Lib.hid (by rw [← hy]; exact ext_size s _ hs _)
                have hv := Lib.hid (value_bd ([] : List UInt8) y.data.toList (by simp) Dy.out)
                by_cases hu : 0 < j
                · have Q := Lib.hid (F.use (.inr hu))
                  have c4 : (y.toList == []) = false := by
                    rw [str_eq, decide_eq_false_iff_not]
                    intro h2
                    have h3 : y.size = 0 := by rw [size_len, h2]; rfl
                    have h4 : y.size = j := by rw [← hy]; simp; omega
                    omega
                  go_wp2_with (first | (go_at_call 50; (first | (with_reducible refine (digits_is u 0 _ hz1.out hn.out).mono ?_) | (with_reducible refine (digits_is u2 j _ hz2.out hj.out).mono ?_)); rintro e w' ⟨rfl, rfl⟩) | (go_at_call 51; (with_reducible refine (value_any ByteArray.empty y _ hxs.out hys.out Dx Dy).mono ?_); rintro e w' ⟨rfl, rfl⟩; obtain ⟨v1, v2⟩ := hv.out))
                  all_goals go_ret2
                  all_goals exact ⟨ret_ii' (by rw [Q.out.1, ← X.out, ← Y.out]; simp only [Bool.false_eq_true, if_false]; omega) (by rw [Q.out.2]; omega), rfl⟩
                · have Q := Lib.hid (F.empty rfl (.inr (by omega)))
                  go_wp2_with (first | (go_at_call 50; (first | (with_reducible refine (digits_is u 0 _ hz1.out hn.out).mono ?_) | (with_reducible refine (digits_is u2 j _ hz2.out hj.out).mono ?_)); rintro e w' ⟨rfl, rfl⟩) | (go_at_call 51; (with_reducible refine (value_any ByteArray.empty y _ hxs.out hys.out Dx Dy).mono ?_); rintro e w' ⟨rfl, rfl⟩; obtain ⟨v1, v2⟩ := hv.out))
                  all_goals go_ret2
                  all_goals exact ⟨ret_ii' Q.out.1.symm (by rw [Q.out.2]; rfl), rfl⟩
              · have hdf : isAt s.data.toList k 46 = false := by
                  by_cases h : k < s.size
                  · simpa [h] using hd
                  · exact isAt_e s _ (by omega) 46
                have F := PreI.mk (l := s.data.toList) hP.out hNg.out hn'.out hj'.out hdf
                have c5 : s.size ≤ k ∨ ∃ h : k < s.size, ((s[k].toNat : Int) == 46) = false := by
                  by_cases h : k < s.size
                  · right
                    refine ⟨h, ?_⟩
                    rw [beq_eq_false_iff_ne]; intro h2; rw [isAt_t s _ h 46 h2] at hdf; cases hdf
                  · left; omega
                clear hd hdf
                have hv := Lib.hid (value_bd ([] : List UInt8) [] (by simp) (by simp))
                have Q := Lib.hid (F.empty rfl (.inl rfl))
                rcases c5 with c5 | ⟨h5, c5⟩
                all_goals
                  go_wp2_with (first | (go_at_call 50; (with_reducible refine (digits_is u 0 _ hz1.out hn.out).mono ?_); rintro e w' ⟨rfl, rfl⟩) | (go_at_call 51; (with_reducible refine (value_e ByteArray.empty _ hxs.out Dx).mono ?_); rintro e w' ⟨rfl, rfl⟩; obtain ⟨v1, v2⟩ := hv.out))
                  all_goals go_ret2
                  all_goals exact ⟨ret_ii' Q.out.1.symm (by rw [Q.out.2]; rfl), rfl⟩
            · have hn0 : 0 < n := by omega
              have c1 : ((n : Int) == 0) = false := by rw [beq_eq_false_iff_ne]; omega
              obtain ⟨x, hx⟩ : ∃ x, s.extract k (k + n) = x := ⟨_, rfl⟩
              have X : Hid (x.data.toList = (s.data.toList.drop k).take n) := Lib.hid (by rw [← hx, ext_mid]; congr 1; omega)
              have Dx : Hid (∀ c ∈ x.data.toList, dg c = true) := Lib.hid (by rw [X.out]; have := mem_run dg (s.data.toList.drop k); rw [hn'.out] at this; exact this)
              have hxs : Hid (x.size ≤ 9223372036854775807) := Lib.hid (by rw [← hx]; exact ext_size s _ hs _)
              obtain ⟨u2, hu2⟩ : ∃ u, s.extract (k + n + 1) s.size = u := ⟨_, rfl⟩
              obtain ⟨j, hj0⟩ : ∃ j, run dg u2.data.toList = j := ⟨_, rfl⟩
              have hj := Lib.hid hj0; clear hj0
              have hj' : Hid (run dg (s.data.toList.drop (k + n + 1)) = j) := Lib.hid (by rw [← ext_to, hu2]; exact hj.out)
              have hz2 : Hid (u2.size ≤ 9223372036854775807) := Lib.hid (by rw [← hu2]; exact ext_size s s.size hs (k + n + 1))
              by_cases hd : k + n < s.size ∧ isAt s.data.toList (k + n) 46 = true
              · obtain ⟨hds, hd⟩ := hd
                have F := PreI.mk (l := s.data.toList) hP.out hNg.out hn'.out hj'.out hd
                have b5 : ((s[k + n].toNat : Int) == 46) = true := by
                  rw [beq_iff_eq]; apply Decidable.byContradiction; intro h; rw [isAt_f s _ hds 46 h] at hd; cases hd
                have hjs : k + n + 1 + j ≤ s.size := by
                  have := run_le dg (s.data.toList.drop (k + n + 1))
                  rw [hj'.out, List.length_drop, ← size_len] at this; omega
                clear hd
                obtain ⟨y, hy⟩ : ∃ y, s.extract (k + n + 1) (k + n + 1 + j) = y := ⟨_, rfl⟩
                have Y : Hid (y.data.toList = (s.data.toList.drop (k + n + 1)).take j) := Lib.hid (by rw [← hy, ext_mid]; congr 1; omega)
                have Dy : Hid (∀ c ∈ y.data.toList, dg c = true) := Lib.hid (by rw [Y.out]; have := mem_run dg (s.data.toList.drop (k + n + 1)); rw [hj'.out] at this; exact this)
                have hys : Hid (y.size ≤ 9223372036854775807) := Lib.hid (by rw [← hy]; exact ext_size s _ hs _)
                have hv := Lib.hid (value_bd x.data.toList y.data.toList Dx.out Dy.out)
                have Q := Lib.hid (F.use (.inl hn0))
                go_wp2_with (first | (go_at_call 50; (first | (with_reducible refine (digits_is u n _ hz1.out hn.out).mono ?_) | (with_reducible refine (digits_is u2 j _ hz2.out hj.out).mono ?_)); rintro e w' ⟨rfl, rfl⟩) | (go_at_call 51; (with_reducible refine (value_any x y _ hxs.out hys.out Dx Dy).mono ?_); rintro e w' ⟨rfl, rfl⟩; obtain ⟨v1, v2⟩ := hv.out))
                all_goals go_ret2
                all_goals exact ⟨ret_ii' (by rw [Q.out.1, ← X.out, ← Y.out]; simp only [Bool.false_eq_true, if_false]; omega) (by rw [Q.out.2]; omega), rfl⟩
              · have hdf : isAt s.data.toList (k + n) 46 = false := by
                  by_cases h : k + n < s.size
                  · simpa [h] using hd
                  · exact isAt_e s _ (by omega) 46
                have F := PreI.mk (l := s.data.toList) hP.out hNg.out hn'.out hj'.out hdf
                have c5 : s.size ≤ k + n ∨ ∃ h : k + n < s.size, ((s[k + n].toNat : Int) == 46) = false := by
                  by_cases h : k + n < s.size
                  · right
                    refine ⟨h, ?_⟩
                    rw [beq_eq_false_iff_ne]; intro h2; rw [isAt_t s _ h 46 h2] at hdf; cases hdf
                  · left; omega
                clear hd hdf
                have hv := Lib.hid (value_bd x.data.toList [] Dx.out (by simp))
                have Q := Lib.hid (F.nouse hn0)
                rcases c5 with c5 | ⟨h5, c5⟩
                all_goals
                  go_wp2_with (first | (go_at_call 50; (with_reducible refine (digits_is u n _ hz1.out hn.out).mono ?_); rintro e w' ⟨rfl, rfl⟩) | (go_at_call 51; (with_reducible refine (value_e x _ hxs.out Dx).mono ?_); rintro e w' ⟨rfl, rfl⟩; obtain ⟨v1, v2⟩ := hv.out))
                  all_goals go_ret2
                  all_goals exact ⟨ret_ii' (by rw [Q.out.1, ← X.out]; simp only [Bool.false_eq_true, if_false]; omega) (by rw [Q.out.2]; omega), rfl⟩
      · have i1 := isAt_e s k (by omega) 45
        have i2 := isAt_e s k (by omega) 43
        have hP := Lib.hid (show preP s.data.toList = k from by unfold preP; rw [HA.out, i1, i2]; rfl)
        have hNg := Lib.hid (show preNeg s.data.toList = false from by unfold preNeg; rw [HA.out, i1])
        have hks : s.size ≤ k := by omega
        clear i1 i2
        have hps : k ≤ s.size := by omega
        obtain ⟨u, hu1⟩ : ∃ u, s.extract k s.size = u := ⟨_, rfl⟩
        obtain ⟨n, hn0⟩ : ∃ n, run dg u.data.toList = n := ⟨_, rfl⟩
        have hn := Lib.hid hn0; clear hn0
        have hn' : Hid (run dg (s.data.toList.drop k) = n) := Lib.hid (by rw [← ext_to, hu1]; exact hn.out)
        have hns : k + n ≤ s.size := by
          have := run_le dg (s.data.toList.drop k)
          rw [hn'.out, List.length_drop, ← size_len] at this; omega
        have hz1 : Hid (u.size ≤ 9223372036854775807) := Lib.hid (by rw [← hu1]; exact ext_size s s.size hs k)
        by_cases hn0 : n = 0
        · subst hn0
          clear hns
          have X : Hid (([] : List UInt8) = (s.data.toList.drop k).take 0) := Lib.hid (by rw [List.take_zero])
          have Dx : Hid (∀ c ∈ ByteArray.empty.data.toList, dg c = true) := Lib.hid (by intro c hc; cases hc)
          have hxs : Hid (ByteArray.empty.size ≤ 9223372036854775807) := Lib.hid (by decide)
          obtain ⟨u2, hu2⟩ : ∃ u, s.extract (k + 1) s.size = u := ⟨_, rfl⟩
          obtain ⟨j, hj0⟩ : ∃ j, run dg u2.data.toList = j := ⟨_, rfl⟩
          have hj := Lib.hid hj0; clear hj0
          have hj' : Hid (run dg (s.data.toList.drop (k + 1)) = j) := Lib.hid (by rw [← ext_to, hu2]; exact hj.out)
          have hz2 : Hid (u2.size ≤ 9223372036854775807) := Lib.hid (by rw [← hu2]; exact ext_size s s.size hs (k + 1))
          by_cases hd : k < s.size ∧ isAt s.data.toList k 46 = true
          · obtain ⟨hds, hd⟩ := hd
            have F := PreI.mk (l := s.data.toList) hP.out hNg.out hn'.out hj'.out hd
            have b5 : ((s[k].toNat : Int) == 46) = true := by
              rw [beq_iff_eq]; apply Decidable.byContradiction; intro h; rw [isAt_f s _ hds 46 h] at hd; cases hd
            have hjs : k + 1 + j ≤ s.size := by
              have := run_le dg (s.data.toList.drop (k + 1))
              rw [hj'.out, List.length_drop, ← size_len] at this; omega
            clear hd
            obtain ⟨y, hy⟩ : ∃ y, s.extract (k + 1) (k + 1 + j) = y := ⟨_, rfl⟩
            have Y : Hid (y.data.toList = (s.data.toList.drop (k + 1)).take j) := Lib.hid (by rw [← hy, ext_mid]; congr 1; omega)
            have Dy : Hid (∀ c ∈ y.data.toList, dg c = true) := Lib.hid (by rw [Y.out]; have := mem_run dg (s.data.toList.drop (k + 1)); rw [hj'.out] at this; exact this)
            have hys : Hid (y.size ≤ 9223372036854775807) := Lib.hid (by rw [← hy]; exact ext_size s _ hs _)
            have hv := Lib.hid (value_bd ([] : List UInt8) y.data.toList (by simp) Dy.out)
            by_cases hu : 0 < j
            · have Q := Lib.hid (F.use (.inr hu))
              have c4 : (y.toList == []) = false := by
                rw [str_eq, decide_eq_false_iff_not]
                intro h2
                have h3 : y.size = 0 := by rw [size_len, h2]; rfl
                have h4 : y.size = j := by rw [← hy]; simp; omega
                omega
              go_wp2_with (first | (go_at_call 50; (first | (with_reducible refine (digits_is u 0 _ hz1.out hn.out).mono ?_) | (with_reducible refine (digits_is u2 j _ hz2.out hj.out).mono ?_)); rintro e w' ⟨rfl, rfl⟩) | (go_at_call 51; (with_reducible refine (value_any ByteArray.empty y _ hxs.out hys.out Dx Dy).mono ?_); rintro e w' ⟨rfl, rfl⟩; obtain ⟨v1, v2⟩ := hv.out))
              all_goals go_ret2
              all_goals exact ⟨ret_ii' (by rw [Q.out.1, ← X.out, ← Y.out]; simp only [Bool.false_eq_true, if_false]; omega) (by rw [Q.out.2]; omega), rfl⟩
            · have Q := Lib.hid (F.empty rfl (.inr (by omega)))
              go_wp2_with (first | (go_at_call 50; (first | (with_reducible refine (digits_is u 0 _ hz1.out hn.out).mono ?_) | (with_reducible refine (digits_is u2 j _ hz2.out hj.out).mono ?_)); rintro e w' ⟨rfl, rfl⟩) | (go_at_call 51; (with_reducible refine (value_any ByteArray.empty y _ hxs.out hys.out Dx Dy).mono ?_); rintro e w' ⟨rfl, rfl⟩; obtain ⟨v1, v2⟩ := hv.out))
              all_goals go_ret2
              all_goals exact ⟨ret_ii' Q.out.1.symm (by rw [Q.out.2]; rfl), rfl⟩
          · have hdf : isAt s.data.toList k 46 = false := by
              by_cases h : k < s.size
              · simpa [h] using hd
              · exact isAt_e s _ (by omega) 46
            have F := PreI.mk (l := s.data.toList) hP.out hNg.out hn'.out hj'.out hdf
            have c5 : s.size ≤ k ∨ ∃ h : k < s.size, ((s[k].toNat : Int) == 46) = false := by
              by_cases h : k < s.size
              · right
                refine ⟨h, ?_⟩
                rw [beq_eq_false_iff_ne]; intro h2; rw [isAt_t s _ h 46 h2] at hdf; cases hdf
              · left; omega
            clear hd hdf
            have hv := Lib.hid (value_bd ([] : List UInt8) [] (by simp) (by simp))
            have Q := Lib.hid (F.empty rfl (.inl rfl))
            rcases c5 with c5 | ⟨h5, c5⟩
            all_goals
              go_wp2_with (first | (go_at_call 50; (with_reducible refine (digits_is u 0 _ hz1.out hn.out).mono ?_); rintro e w' ⟨rfl, rfl⟩) | (go_at_call 51; (with_reducible refine (value_e ByteArray.empty _ hxs.out Dx).mono ?_); rintro e w' ⟨rfl, rfl⟩; obtain ⟨v1, v2⟩ := hv.out))
              all_goals go_ret2
              all_goals exact ⟨ret_ii' Q.out.1.symm (by rw [Q.out.2]; rfl), rfl⟩
        · have hn0 : 0 < n := by omega
          have c1 : ((n : Int) == 0) = false := by rw [beq_eq_false_iff_ne]; omega
          obtain ⟨x, hx⟩ : ∃ x, s.extract k (k + n) = x := ⟨_, rfl⟩
          have X : Hid (x.data.toList = (s.data.toList.drop k).take n) := Lib.hid (by rw [← hx, ext_mid]; congr 1; omega)
          have Dx : Hid (∀ c ∈ x.data.toList, dg c = true) := Lib.hid (by rw [X.out]; have := mem_run dg (s.data.toList.drop k); rw [hn'.out] at this; exact this)
          have hxs : Hid (x.size ≤ 9223372036854775807) := Lib.hid (by rw [← hx]; exact ext_size s _ hs _)
          obtain ⟨u2, hu2⟩ : ∃ u, s.extract (k + n + 1) s.size = u := ⟨_, rfl⟩
          obtain ⟨j, hj0⟩ : ∃ j, run dg u2.data.toList = j := ⟨_, rfl⟩
          have hj := Lib.hid hj0; clear hj0
          have hj' : Hid (run dg (s.data.toList.drop (k + n + 1)) = j) := Lib.hid (by rw [← ext_to, hu2]; exact hj.out)
          have hz2 : Hid (u2.size ≤ 9223372036854775807) := Lib.hid (by rw [← hu2]; exact ext_size s s.size hs (k + n + 1))
          by_cases hd : k + n < s.size ∧ isAt s.data.toList (k + n) 46 = true
          · obtain ⟨hds, hd⟩ := hd
            have F := PreI.mk (l := s.data.toList) hP.out hNg.out hn'.out hj'.out hd
            have b5 : ((s[k + n].toNat : Int) == 46) = true := by
              rw [beq_iff_eq]; apply Decidable.byContradiction; intro h; rw [isAt_f s _ hds 46 h] at hd; cases hd
            have hjs : k + n + 1 + j ≤ s.size := by
              have := run_le dg (s.data.toList.drop (k + n + 1))
              rw [hj'.out, List.length_drop, ← size_len] at this; omega
            clear hd
            obtain ⟨y, hy⟩ : ∃ y, s.extract (k + n + 1) (k + n + 1 + j) = y := ⟨_, rfl⟩
            have Y : Hid (y.data.toList = (s.data.toList.drop (k + n + 1)).take j) := Lib.hid (by rw [← hy, ext_mid]; congr 1; omega)
            have Dy : Hid (∀ c ∈ y.data.toList, dg c = true) := Lib.hid (by rw [Y.out]; have := mem_run dg (s.data.toList.drop (k + n + 1)); rw [hj'.out] at this; exact this)
            have hys : Hid (y.size ≤ 9223372036854775807) := Lib.hid (by rw [← hy]; exact ext_size s _ hs _)
            have hv := Lib.hid (value_bd x.data.toList y.data.toList Dx.out Dy.out)
            have Q := Lib.hid (F.use (.inl hn0))
            go_wp2_with (first | (go_at_call 50; (first | (with_reducible refine (digits_is u n _ hz1.out hn.out).mono ?_) | (with_reducible refine (digits_is u2 j _ hz2.out hj.out).mono ?_)); rintro e w' ⟨rfl, rfl⟩) | (go_at_call 51; (with_reducible refine (value_any x y _ hxs.out hys.out Dx Dy).mono ?_); rintro e w' ⟨rfl, rfl⟩; obtain ⟨v1, v2⟩ := hv.out))
            all_goals go_ret2
            all_goals exact ⟨ret_ii' (by rw [Q.out.1, ← X.out, ← Y.out]; simp only [Bool.false_eq_true, if_false]; omega) (by rw [Q.out.2]; omega), rfl⟩
          · have hdf : isAt s.data.toList (k + n) 46 = false := by
              by_cases h : k + n < s.size
              · simpa [h] using hd
              · exact isAt_e s _ (by omega) 46
            have F := PreI.mk (l := s.data.toList) hP.out hNg.out hn'.out hj'.out hdf
            have c5 : s.size ≤ k + n ∨ ∃ h : k + n < s.size, ((s[k + n].toNat : Int) == 46) = false := by
              by_cases h : k + n < s.size
              · right
                refine ⟨h, ?_⟩
                rw [beq_eq_false_iff_ne]; intro h2; rw [isAt_t s _ h 46 h2] at hdf; cases hdf
              · left; omega
            clear hd hdf
            have hv := Lib.hid (value_bd x.data.toList [] Dx.out (by simp))
            have Q := Lib.hid (F.nouse hn0)
            rcases c5 with c5 | ⟨h5, c5⟩
            all_goals
              go_wp2_with (first | (go_at_call 50; (with_reducible refine (digits_is u n _ hz1.out hn.out).mono ?_); rintro e w' ⟨rfl, rfl⟩) | (go_at_call 51; (with_reducible refine (value_e x _ hxs.out Dx).mono ?_); rintro e w' ⟨rfl, rfl⟩; obtain ⟨v1, v2⟩ := hv.out))
              all_goals go_ret2
              all_goals exact ⟨ret_ii' (by rw [Q.out.1, ← X.out]; simp only [Bool.false_eq_true, if_false]; omega) (by rw [Q.out.2]; omega), rfl⟩
end Go.Proofs.YtjngkapfngempaaDoor
