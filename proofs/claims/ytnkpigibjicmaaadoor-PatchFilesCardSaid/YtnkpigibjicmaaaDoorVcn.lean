/- walks: the reference's Whole (written by gen_vcn.py) -/
import Derived.Test.YtnkpigibjicmaaaDoorVcm
namespace Go.Proofs.YtnkpigibjicmaaaDoor
open Go.RowKit Go.Maps
open Pt
set_option maxRecDepth 100000 in
set_option maxHeartbeats 8000000 in
theorem rwhole_any (files : List Nm) (L : List PV) (fv pv : Value) (fuzz : Int) (w : World) (hf : RowsAt w fv 2 (files.map rowN)) (hp : PsAt w pv L) (hf6 : files.length ≤ 6) (hp4 : L.length ≤ 4) (hfz : ∀ x ∈ files, x.2.size ≤ 200) (hpz : ∀ p ∈ L, fewPB p.1.2.2 = true) {out : List Nm} {rej : List Hk} {er : Int} (ha : Hid (wholeP fuzz (L.map phP) files [] = (out, rej, er))) :
    Calls Tryd.prog 19 #[fv, pv, .int .i64 fuzz] w fun e w' => ∃ vo vr M, e = .returned (.tuple #[vo, vr, .int .i64 er]) ∧ Hid (RowsAt w' vo 2 (out.map rowN)) ∧ Hid (M.map (·.1) = rej) ∧ Hid (HksAt w' vr M) ∧ Hid (Below w.heap.size w w') := by
  obtain ⟨n, hn⟩ : ∃ n, L.length = n := ⟨_, rfl⟩
  have HN := Lib.hid hn
  have HPS := Lib.hid hp
  have HPZ := Lib.hid hpz
  have HFZ := Lib.hid hfz
  have HFR := Lib.hid hf
  have LF : Hid (([] : List (List Value)).length + (files.map rowN).length ≤ 1048577) := Lib.hid (by rw [List.length_map, List.length_nil]; omega)
  obtain ⟨a, cap, rfl, q1, q2, hc⟩ := hp.rows.sl (n := n) (by rw [List.length_map]; exact hn)
  have HC := Lib.hid hc
  rw [hn] at hp4
  unfold maxLen at q2
  have HF6 := Lib.hid hf6
  have HWH := ha
  clear ha hf hp hn hc hfz hpz
  go_enter Tryd.func19, Tryd.ntmps19
  go_upto_region 3 with (first | (at_builtin; (refine append_own3 rtN rfl (.tmp 18) (.tmp 19) rfl _ _ [] (files.map rowN) w.heap.size w (OwnR.nil _ _ _ _) HFR.out rowN_len rowN_one (Nat.le_refl _) LF.out (by simp [Act.eval]) (by simp [Act.eval]) ?_; intro v1 w1 O1 GR1)))
  obtain ⟨va, vc, ev⟩ := O1.out.sl
  obtain ⟨fn, hfn⟩ : ∃ k, (([] : List (List Value)) ++ files.map rowN).length = k := ⟨_, rfl⟩
  rw [hfn] at ev
  have hf6 : fn ≤ 6 := by rw [← hfn, List.nil_append, List.length_map]; exact HF6.out
  clear hfn
  subst ev
  obtain ⟨B, hB⟩ : ∃ b, w.heap.size = b := ⟨_, rfl⟩
  have HB := Lib.hid hB
  have B1 : Hid (Below w.heap.size w w1) := Lib.hid ((Below.refl _ _).grown GR1.out (Nat.le_refl _) (fun k hk => by cases hk))
  have A0 : Hid (WQ B (.slice va fn vc) (.slice none 0 0) files [] w w1) := Lib.hid ⟨by rw [← hB]; exact NB.of O1.out, OwnR.nil _ _ _ _, (fun p hp => by simp at hp), by rw [← hB]; exact B1.out, by rw [← hB]; exact B1.out.size⟩
  clear hB
  go_wp2_with fail
  go_loopw [10, 11, 12, 13, 14, 15, 16, 17] (fun x10 i b12 b13 b14 b15 b16 b17 wr => ∃ (j : Nat) (ou : List Nm) (MB : List HV), i = .int .i64 j ∧ j ≤ n ∧ Hid (wholeP fuzz (L.map phP) files [] = wholeP fuzz ((L.drop j).map phP) ou (MB.map (·.1))) ∧ Hid (ou.length ≤ 6 ∧ ∀ x ∈ ou, x.2.size ≤ 200 + 6600 * j) ∧ Hid (MB.length ≤ 100 * j) ∧ Hid (WQ B (.slice va fn vc) x10 ou MB w wr)) (fun _ i _ _ _ _ _ _ _ => n - (intOf i).toNat)
  case atStart => exact ⟨0, files, [], rfl, Nat.zero_le _, Lib.hid rfl, Lib.hid ⟨HF6.out, fun x hx => by have := HFZ.out x hx; omega⟩, Lib.hid (Nat.zero_le _), A0⟩
  case round =>
    obtain ⟨j, ou, MB, rfl, hj, HW, HOZ, HML, HA⟩ := hrel
    have BW : Hid (Below w.heap.size w wr) := Lib.hid (by rw [HB.out]; exact HA.out.bel)
    by_cases hlt : j < n
    · obtain ⟨x, hx⟩ : ∃ x, L[j]? = some x := ⟨_, List.getElem?_eq_getElem (by rw [HN.out]; exact hlt)⟩
      have hmem := List.mem_of_getElem? hx
      rcases HC.out with h0 | ⟨g, o, rfl, -, hcc⟩
      · omega
      have m1 : (L.map rowP)[j]? = some (rowP x) := by rw [List.getElem?_map, hx]; rfl
      have d0 := kp BW.out (hcc j _ m1 0 _ rfl)
      have d1 := kp BW.out (hcc j _ m1 1 _ rfl)
      have d2 := kp BW.out (hcc j _ m1 2 _ rfl)
      rw [Nat.add_zero] at d0
      have HK := Lib.hid (HPS.out.each x hmem)
      have FP := Lib.hid (HPZ.out x hmem)
      have DR : Hid ((L.drop j).map phP = phP x :: (L.drop (j + 1)).map phP) := Lib.hid (by rw [drop_get hx]; rfl)
      have p0 : (0 : Int) ≤ (j : Int) := by omega
      have p1 : (j : Int) < (n : Int) := by omega
      have p2 : IntKind.i64.wrap (j : Int) = (j : Int) := IntWalk.i64_in _ (by omega)
      obtain ⟨⟨old, new, H⟩, u⟩ := x
      simp only at d0 d1 d2 HK FP DR
      clear hcc m1 hx hmem
      obtain ⟨hn, hhn⟩ : ∃ k, (H.map rowH).length = k := ⟨_, rfl⟩
      obtain ⟨ha, hc, e2, -⟩ := HK.out.rows.sl hhn
      clear hhn
      subst e2
      have SA := Lib.hid (few_smallA FP.out)
      have CK := Lib.hid (fun W (hb : Below wr.heap.size wr W) => rcheck_any old new H (.slice ha hn hc) W (HK.out.below (BW.out.trans (hb.mono BW.out.size))) SA.out.h)
      obtain ⟨ck, hck⟩ : ∃ c, chk (H.map (·.1)) = c := ⟨_, rfl⟩
      have HCK := Lib.hid hck
      rw [hck] at CK
      clear hck
      by_cases h0 : ck = 0
      rotate_left
      · have t0 : (ck != 0) = true := bne_iff_ne.2 h0
        have E : Hid (out = [] ∧ rej = [] ∧ er = ck) := Lib.hid (by
          have h := HWH.out.symm.trans HW.out
          rw [DR.out, whole_e1 (by show chk (H.map (·.1)) ≠ 0; rw [HCK.out]; exact h0)] at h
          simp only [Prod.mk.injEq] at h
          exact ⟨h.1, h.2.1, by rw [h.2.2]; exact HCK.out⟩)
        clear h0
        go_wp2_with (first | (go_at_call 21; (with_reducible refine (CK.out _ (Below.refl _ _)).mono ?_); rintro _ w6 ⟨rfl, B6⟩; have d0 := kp B6.out d0; have d1 := kp B6.out d1; have d2 := kp B6.out d2; have S6 := Lib.hid (HA.out.keep B6.out); have C6 := Lib.hid (BW.out.trans (B6.out.mono BW.out.size))))
        go_ret3
        first | exact ⟨_, _, [], by rw [E.out.2.2]; rfl, Lib.hid (by rw [E.out.1]; exact .inl ⟨rfl, _, rfl⟩), Lib.hid (by rw [E.out.2.1]; rfl), Lib.hid (HksAt.nil _), C6⟩ | exact ⟨_, _, by rw [E.out.2.2]; rfl, Lib.hid (by rw [E.out.1]; exact .inl ⟨rfl, _, rfl⟩), [], Lib.hid (by rw [E.out.2.1]; rfl), Lib.hid (HksAt.nil _), C6⟩
      subst h0
      obtain ⟨k, hk⟩ : ∃ k, idxN old 0 ou = k := ⟨_, rfl⟩
      have KL := Lib.hid (idxN_lt old ou 0)
      have IN := Lib.hid (fun W (h5 : Below wr.heap.size wr W) => rplace_any ou old (.slice va fn vc) W ((HA.out.keep h5).nb.rows) (by have := HOZ.out.1; omega))
      rw [hk] at IN KL
      have HK1 := Lib.hid hk
      clear hk
      go_upto_region 11 with (first | (go_at_call 21; (with_reducible refine (CK.out _ (Below.refl _ _)).mono ?_); rintro _ w6 ⟨rfl, B6⟩; have d0 := kp B6.out d0; have d1 := kp B6.out d1; have d2 := kp B6.out d2; have S6 := Lib.hid (HA.out.keep B6.out); have C6 := Lib.hid (BW.out.trans (B6.out.mono BW.out.size))) | (go_at_call 45; (with_reducible refine (IN.out _ B6.out).mono ?_); rintro _ w7 ⟨rfl, h7⟩; replace h7 := h7.symm; subst h7))
      rcases KL.out with rfl | ⟨hk1, hk2⟩
      · have E : Hid (out = [] ∧ rej = [] ∧ er = 5) := Lib.hid (by
          have h := HWH.out.symm.trans HW.out
          rw [DR.out, whole_e2 HCK.out HK1.out] at h
          simp only [Prod.mk.injEq] at h
          exact h)
        go_wp2_with fail
        go_ret3
        first | exact ⟨_, _, [], by rw [E.out.2.2]; rfl, Lib.hid (by rw [E.out.1]; exact .inl ⟨rfl, _, rfl⟩), Lib.hid (by rw [E.out.2.1]; rfl), Lib.hid (HksAt.nil _), C6⟩ | exact ⟨_, _, by rw [E.out.2.2]; rfl, Lib.hid (by rw [E.out.1]; exact .inl ⟨rfl, _, rfl⟩), [], Lib.hid (by rw [E.out.2.1]; rfl), Lib.hid (HksAt.nil _), C6⟩
      obtain ⟨kk, rfl⟩ : ∃ kk : Nat, k = (kk : Int) := ⟨k.toNat, by omega⟩
      have HOF : Hid (ou.length = fn) := Lib.hid S6.out.nb.len
      have hkk : kk < fn := by have := HOF.out; omega
      have nk : ¬ (kk : Int) < 0 := by omega
      obtain ⟨y, hy⟩ : ∃ y, ou[kk]? = some y := ⟨_, List.getElem?_eq_getElem (by rw [HOF.out]; exact hkk)⟩
      have HY := Lib.hid hy
      obtain ⟨g1, rfl⟩ := S6.out.nb.head (by omega)
      clear hk1 hk2 hy
      go_wp2_with fail
      go_loopw [14] (fun q wr => ∃ r : Nat, q = .int .i64 r ∧ r ≤ fn ∧ Hid (clashB (kk : Int) new 0 ou = clashB (kk : Int) new r (ou.drop r)) ∧ Hid (Below w6.heap.size w6 wr)) (fun q _ => fn - (intOf q).toNat)
      case atStart => exact ⟨0, rfl, Nat.zero_le _, Lib.hid rfl, Lib.hid (Below.refl _ _)⟩
      case round =>
        obtain ⟨r, rfl, hr, HI, BK⟩ := hrel
        have S8 := Lib.hid (S6.out.keep BK.out)
        have z1 := kp BK.out d1
        by_cases hrl : r < fn
        · obtain ⟨u, hu⟩ : ∃ u, ou[r]? = some u := ⟨_, List.getElem?_eq_getElem (by rw [HOF.out]; exact hrl)⟩
          have DU := Lib.hid (drop_get hu)
          obtain ⟨e0, -, -, -⟩ := S8.out.nb.cells hu
          have p3 : (0 : Int) ≤ (r : Int) := by omega
          have p4 : (r : Int) < (fn : Int) := by omega
          have p5 : IntKind.i64.wrap (r : Int) = (r : Int) := IntWalk.i64_in _ (by omega)
          have BN := Lib.hid (fun k => BK.out.trans ((bel_dn wr k).mono BK.out.size))
          obtain ⟨un, ut⟩ := u
          simp only at e0
          clear hu
          by_cases hrk : r = kk
          · have E2 : Hid (clashB (kk : Int) new 0 ou = clashB (kk : Int) new (r + 1) (ou.drop (r + 1))) := Lib.hid (by rw [HI.out, DU.out]; exact clash_next (fun e => e.1 (by rw [hrk])))
            subst hrk
            clear HI DU
            go_wp2_with fail
            go_quiet (fail)
            go_wp2_with fail
            go_roundw
            case rel => exact ⟨r + 1, by go_num, by omega, E2, Lib.hid (BN.out _)⟩
            case measure => simp [intOf]; omega
          · have t1 : ((r : Int) != (kk : Int)) = true := bne_iff_ne.2 (by omega)
            by_cases hun : un = new
            · subst hun
              have E2 : Hid (out = [] ∧ rej = [] ∧ er = 6) := Lib.hid (by
                have h := HWH.out.symm.trans HW.out
                rw [DR.out, whole_e3 HCK.out HK1.out (by show clashB (kk : Int) un 0 ou = true; rw [HI.out, DU.out]; exact clash_here (by omega) rfl)] at h
                simp only [Prod.mk.injEq] at h
                exact h)
              clear hrk HI DU
              go_wp2_with fail
              go_quiet (fail)
              go_wp2_with fail
              go_ret3
              first | exact ⟨_, _, [], by rw [E2.out.2.2]; rfl, Lib.hid (by rw [E2.out.1]; exact .inl ⟨rfl, _, rfl⟩), Lib.hid (by rw [E2.out.2.1]; rfl), Lib.hid (HksAt.nil _), Lib.hid (C6.out.trans ((BN.out _).mono C6.out.size))⟩ | exact ⟨_, _, by rw [E2.out.2.2]; rfl, Lib.hid (by rw [E2.out.1]; exact .inl ⟨rfl, _, rfl⟩), [], Lib.hid (by rw [E2.out.2.1]; rfl), Lib.hid (HksAt.nil _), Lib.hid (C6.out.trans ((BN.out _).mono C6.out.size))⟩
            · have ts := strs_ne hun
              have E2 : Hid (clashB (kk : Int) new 0 ou = clashB (kk : Int) new (r + 1) (ou.drop (r + 1))) := Lib.hid (by rw [HI.out, DU.out]; exact clash_next (fun e => hun e.2))
              clear hrk HI DU hun
              go_wp2_with fail
              go_quiet (fail)
              go_wp2_with fail
              go_roundw
              case rel => exact ⟨r + 1, by go_num, by omega, E2, Lib.hid (BN.out _)⟩
              case measure => simp [intOf]; omega
        · obtain rfl : r = fn := by omega
          have HCL : Hid (clashB (kk : Int) new 0 ou = false) := Lib.hid (by rw [HI.out, List.drop_eq_nil_of_le (by rw [HOF.out]; exact Nat.le_refl _)]; rfl)
          obtain ⟨⟨t, pl, bd⟩, hap⟩ : ∃ x, applyP y.2 (H.map (·.1)) fuzz = x := ⟨_, rfl⟩
          have HAP := Lib.hid hap
          have TS := Lib.hid (apply_sz y.2 (H.map (·.1)) fuzz)
          rw [hap] at TS
          have FS := Lib.hid (few_sum FP.out)
          have YS : Hid (y.2.size ≤ 200 + 6600 * j) := Lib.hid (HOZ.out.2 y (List.mem_of_getElem? HY.out))
          have hj4 : j < 4 := by omega
          have APS := Lib.hid (fun M => apply_small (M := M) SA.out hap)
          have C8 := Lib.hid (C6.out.trans (BK.out.mono C6.out.size))
          have APC := Lib.hid (fun W (hb : Below wr.heap.size wr W) => rapply_any y.2 old new H (.slice ha hn hc) fuzz W (HK.out.below (C8.out.trans (hb.mono C8.out.size))) SA.out (by have := YS.out; omega) HAP)
          clear hap
          obtain ⟨tx, htx⟩ : ∃ x, bA t = x := ⟨_, rfl⟩
          rw [htx] at APC
          have HTX := Lib.hid htx
          clear htx
          obtain ⟨e0, e1, -, -⟩ := S8.out.nb.cells HY.out
          have KPP : Hid (∀ w' : World, Below wr.heap.size wr w' → (fun w' => Below wr.heap.size wr w' ∧ w'.cell? ⟨g1, kk * 2 + 1, none⟩ = some (.string y.2) ∧ w'.cell? ⟨g, o + j * 3, none⟩ = some (.string old) ∧ w'.cell? ⟨g, o + j * 3 + 1, none⟩ = some (.string new) ∧ w'.cell? ⟨g, o + j * 3 + 2, none⟩ = some (.slice ha hn hc)) w') := Lib.hid (fun w' hb => ⟨hb, kp hb e1, kp hb (kp BK.out d0), kp hb (kp BK.out d1), kp hb (kp BK.out d2)⟩)
          have p3 : (0 : Int) ≤ (kk : Int) := by omega
          have p4 : (kk : Int) < (r : Int) := by omega
          have p5 : IntKind.i64.wrap (kk : Int) = (kk : Int) := IntWalk.i64_in _ (by omega)
          clear d0 d1 d2 e0 e1 z1
          go_upto_region 18 with (fail)
          have S0 := KPP.out _ (Below.refl wr.heap.size wr).drew
          go_region_held3 (fun w' => Below wr.heap.size wr w' ∧ w'.cell? ⟨g1, kk * 2 + 1, none⟩ = some (.string y.2) ∧ w'.cell? ⟨g, o + j * 3, none⟩ = some (.string old) ∧ w'.cell? ⟨g, o + j * 3 + 1, none⟩ = some (.string new) ∧ w'.cell? ⟨g, o + j * 3 + 2, none⟩ = some (.slice ha hn hc)) (first | exact S0) (first | (go_at_call 12; (with_reducible refine (APC.out _ S0.1).mono ?_); rintro e w9 ⟨vp, vh, M, rfl, P1, h1, H1, D1, L1, hb⟩; have S0 := KPP.out _ (S0.1.trans (hb.out.mono S0.1.size))))
          have S9 := Lib.hid (S8.out.keep S0.1)
          have C9 := Lib.hid (C8.out.trans (S0.1.mono C8.out.size))
          have d1 := S0.2.2.2.1
          obtain ⟨e0, e1, f0, f1⟩ := S9.out.nb.cells HY.out
          have ST := Lib.hid (S9.out.nb.store (by rw [HOF.out]; exact hkk) new tx)
          have S10 := Lib.hid (S9.out.kt ST.out.1 ST.out.2 (by decide) (by decide))
          have LR := Lib.hid (((L1.out HCK.out).kt ST.out.2 (by decide)).rows rowH_len)
          have EM : Hid (∀ p ∈ M, EQ B ((w9.setCell ⟨g1, kk * 2, none⟩ (.string new)).setCell ⟨g1, kk * 2 + 1, none⟩ (.string tx)) p) := Lib.hid (fun p hp => .inr (OldR.kt ⟨w, HK.out.each p (D1.out p hp), Nat.le_of_eq HB.out, C9.out⟩ ST.out.2))
          have ONE : Hid (∀ x ∈ M.map rowH, ∀ u ∈ x, u.oneCell' = true) := Lib.hid (by intro x hx; obtain ⟨y, hy, rfl⟩ := List.mem_map.1 hx; exact one_H (H1.out.each y hy).one)
          have ML := Lib.hid (((APS.out M).2 h1.out).1)
          have LEN : Hid ((MB.map rowH).length + (M.map rowH).length ≤ 1048577) := Lib.hid (by rw [List.length_map, List.length_map]; have h2 := HML.out; have h3 := ML.out; omega)
          clear S0
          go_wp2_with (first | (at_builtin; (refine append_own3 rtH rfl (.tmp 91) (.tmp 92) rfl _ _ (MB.map rowH) (M.map rowH) B _ S10.out.rj LR.out rowH_len ONE.out S10.out.sz LEN.out (by simp [Act.eval]) (by simp [Act.eval]) ?_; intro v11 w11 own11 gr11; have NN := Lib.hid (S10.out.push own11.out gr11.out EM.out))))
          go_roundw
          case rel => exact ⟨j + 1, ou.set kk (new, tx), MB ++ M, by go_num, by omega, Lib.hid (by rw [HW.out, DR.out, whole_ok HCK.out HK1.out HCL.out HY.out HAP.out, List.map_append, h1.out, ← HTX.out]), Lib.hid ⟨by rw [List.length_set]; exact HOZ.out.1, fun x hx => by
            rcases List.mem_or_eq_of_mem_set hx with hx | hx
            · have := HOZ.out.2 x hx; omega
            · rw [hx, ← HTX.out]
              show t.toArray.size ≤ _
              rw [List.size_toArray]
              have h2 := TS.out; have h3 := FS.out; have h4 := YS.out
              try simp only at h2
              omega⟩, Lib.hid (by rw [List.length_append]; have h2 := HML.out; have h3 := ML.out; omega), NN⟩
          case measure => simp [intOf]; omega
    · obtain rfl : j = n := by omega
      have E : Hid (out = ou ∧ rej = MB.map (·.1) ∧ er = 0) := Lib.hid (by
        have h := HWH.out.symm.trans HW.out
        rw [List.drop_eq_nil_of_le (by rw [HN.out]; exact Nat.le_refl _)] at h
        simp only [List.map_nil, wholeP, Prod.mk.injEq] at h
        exact h)
      go_wp2_with fail
      go_ret3
      exact ⟨_, _, MB, by rw [E.out.2.2]; rfl, Lib.hid (by rw [E.out.1]; exact HA.out.nb.rows), Lib.hid E.out.2.1.symm, Lib.hid ⟨HA.out.rj.rows rowH_len, fun p hp => (HA.out.each p hp).rows⟩, BW⟩
end Go.Proofs.YtnkpigibjicmaaaDoor
