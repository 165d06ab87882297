/- walks: PatchReverses (written by gen_vch.py) -/
import Derived.Test.YtnkpigibjicmaaaDoorVcf
import Derived.Test.YtnkpigibjicmaaaDoorVrev
namespace Go.Proofs.YtnkpigibjicmaaaDoor
open Go.RowKit Go.Maps
open Pt
theorem ord_snoc : ∀ (l : List DL) (r : Nat) (x y : DL), l[r]? = some x → l[r + 1]? = some y → ¬ (x.1 = 3 ∧ y.1 = 2) → ordL (l.take (r + 1)) = true → ordL (l.take (r + 2)) = true
  | [], _, _, _, h, _, _, _ => by simp at h
  | [_], _, _, _, _, h, _, _ => by simp at h
  | u :: v :: t, 0, x, y, hx, hy, hn, _ => by
    simp at hx hy
    subst hx hy
    simp only [List.take_succ_cons, List.take_zero, ordL, Bool.and_true]
    simp only [Bool.not_eq_true', Bool.and_eq_false_iff, decide_eq_false_iff_not]
    omega
  | u :: v :: t, r + 1, x, y, hx, hy, hn, ho => by
    rw [List.getElem?_cons_succ] at hx hy
    simp only [List.take_succ_cons, ordL, Bool.and_eq_true] at ho ⊢
    refine ⟨ho.1, ?_⟩
    have := ord_snoc (v :: t) r x y hx hy hn (by rw [List.take_succ_cons]; exact ho.2)
    rw [List.take_succ_cons] at this
    exact this
theorem ord_short (l : List DL) : ordL (l.take 1) = true := by cases l <;> simp [ordL]
set_option maxRecDepth 100000 in
set_option maxHeartbeats 8000000 in
theorem law_reverses (old new : ByteArray) (L : List HV) (v : Value) (m : Int) (w : World) (hm : w.cell? ⟨0, 0, none⟩ = some (.int .i64 m)) (hv : HksAt w v L) (hz : ∀ p ∈ L, ∀ x ∈ p.1.ls, x.2.1.size ≤ 9223372036854775807) :
    Calls Tryd.prog 8 #[.agg #[.string old, .string new, v]] w fun e w' => e = .returned (.bool true) ∧ Below w.heap.size w w' := by
  obtain ⟨n, hn⟩ : ∃ n, L.length = n := ⟨_, rfl⟩
  have HN := Lib.hid hn
  have HVH := Lib.hid hv
  have HM := Lib.hid hm
  have HZ := Lib.hid hz
  obtain ⟨a, cap, rfl, q1, q2, hc⟩ := hv.rows.sl (n := n) (by rw [List.length_map]; exact hn)
  have HC := Lib.hid hc
  unfold maxLen at q2
  have BA : Hid (Below w.heap.size w (w.alloc (.cells #[.string old, .string new, .slice a n cap] 24))) := Lib.hid ((Below.refl _ _).alloc (Nat.le_refl _) _)
  have NA : Hid ((w.alloc (.cells #[.string old, .string new, .slice a n cap] 24)).heap[w.heap.size]? = some (.cells #[.string old, .string new, .slice a n cap] 24 (0, 0))) := Lib.hid (heap_alloc_new w _)
  have BW : Hid (∀ w' : World, Below (w.alloc (.cells #[.string old, .string new, .slice a n cap] 24)).heap.size (w.alloc (.cells #[.string old, .string new, .slice a n cap] 24)) w' → Below w.heap.size w w') := Lib.hid (fun w' hb => BA.out.trans (hb.mono BA.out.size))
  have FW := Lib.hid (fun W (hb : Below (w.alloc (.cells #[.string old, .string new, .slice a n cap] 24)).heap.size (w.alloc (.cells #[.string old, .string new, .slice a n cap] 24)) W) => few_any old new L (.slice a n cap) W (HVH.out.below (BW.out W hb)) HZ.out)
  have AW := Lib.hid (fun W (hb : Below (w.alloc (.cells #[.string old, .string new, .slice a n cap] 24)).heap.size (w.alloc (.cells #[.string old, .string new, .slice a n cap] 24)) W) => awake_any m W (kp (BW.out W hb) HM.out))
  have B0 := Lib.hid (Below.refl (w.alloc (.cells #[.string old, .string new, .slice a n cap] 24)).heap.size (w.alloc (.cells #[.string old, .string new, .slice a n cap] 24)))
  have y0 := blk_cellx NA.out 0 _ rfl
  have y1 := blk_cellx NA.out 1 _ rfl
  have y2 := blk_cellx NA.out 2 _ rfl
  clear hv hm hz hn hc
  cases hf : fewPB L with
  | false =>
    rw [hf] at FW
    go_enter Tryd.func8, Tryd.ntmps8
    go_wp2_with (first | (go_at_call 9; (with_reducible refine (FW.out _ B0.out).mono ?_); rintro e w2 ⟨rfl, hb⟩; have B2 := Lib.hid (B0.out.trans (hb.out.mono B0.out.size))) | (go_at_call 10; (with_reducible refine (AW.out _ B2.out).mono ?_); rintro e w3 ⟨rfl, hb3⟩; have B3 := Lib.hid (B2.out.trans (hb3.out.mono B2.out.size))))
    go_ret
    exact ⟨rfl, BW.out _ B3.out⟩
  | true =>
    rw [hf] at FW
    have SA := Lib.hid (few_smallA hf)
    have hn100 : n ≤ 100 := by have := SA.out.1; have := HN.out; omega
    clear hf
    go_enter Tryd.func8, Tryd.ntmps8
    go_upto_region 3 with (first | (go_at_call 9; (with_reducible refine (FW.out _ B0.out).mono ?_); rintro e w2 ⟨rfl, hb⟩; have B2 := Lib.hid (B0.out.trans (hb.out.mono B0.out.size)); have y0 := kp B2.out y0; have y1 := kp B2.out y1; have y2 := kp B2.out y2))
    have C2 := Lib.hid (BW.out _ B2.out)
    go_wp2_with fail
    go_loop [3, 4, 5] (fun i b4 b5 => ∃ j : Nat, i = .int .i64 j ∧ j ≤ n ∧ Hid (∀ p ∈ L.take j, ordL p.1.ls = true)) (fun i _ _ => n - (intOf i).toNat)
    case atStart => exact ⟨0, rfl, Nat.zero_le _, Lib.hid (fun p hp => by simp at hp)⟩
    case round =>
      obtain ⟨j, rfl, hj, HO⟩ := hrel
      by_cases hlt : j < n
      · obtain ⟨x, hx⟩ : ∃ x, L[j]? = some x := ⟨_, List.getElem?_eq_getElem (by rw [HN.out]; exact hlt)⟩
        have hmem := List.mem_of_getElem? hx
        rcases HC.out with h0 | ⟨g, o, rfl, -, hcc⟩
        · omega
        have m1 : (L.map rowH)[j]? = some (rowH x) := by rw [List.getElem?_map, hx]; rfl
        have d4 := kp C2.out (hcc j _ m1 4 _ rfl)
        have HX := Lib.hid ((HVH.out.each x hmem).below C2.out)
        have SX := Lib.hid (SA.out.2 x hmem).1
        have TK : Hid (ordL x.1.ls = true → ∀ p ∈ L.take (j + 1), ordL p.1.ls = true) := Lib.hid (fun h p hp => by
          rw [take_get hx] at hp
          rcases List.mem_append.1 hp with hp | hp
          · exact HO.out p hp
          · rw [List.mem_singleton] at hp; rw [hp]; exact h)
        have p0 : (0 : Int) ≤ (j : Int) := by omega
        have p1 : (j : Int) < (n : Int) := by omega
        have p2 : IntKind.i64.wrap (j : Int) = (j : Int) := IntWalk.i64_in _ (by omega)
        obtain ⟨⟨fa, la, fb, lb, ls⟩, u⟩ := x
        simp only at d4 HX SX TK
        clear hcc m1 hx hmem
        obtain ⟨un, hun⟩ : ∃ n, ls.length = n := ⟨_, rfl⟩
        obtain ⟨ua, uc, rfl, e1, e2, hcU⟩ := HX.out.sl (n := un) (by rw [List.length_map]; exact hun)
        have HU := Lib.hid hcU
        have LU := Lib.hid hun
        have un100 : un ≤ 100 := by have := SX.out; omega
        clear hcU hun e1 e2
        go_wp2_with fail
        go_loop [5] (fun k => ∃ r : Nat, k = .int .i64 ((r + 1 : Nat) : Int) ∧ (r = 0 ∨ r + 1 ≤ un) ∧ Hid (ordL (ls.take (r + 1)) = true)) (fun k => un + 1 - (intOf k).toNat)
        case atStart => exact ⟨0, rfl, .inl rfl, Lib.hid (ord_short ls)⟩
        case round =>
          obtain ⟨r, rfl, hr, HI⟩ := hrel
          by_cases hk : r + 1 < un
          · obtain ⟨x, hx⟩ : ∃ x, ls[r]? = some x := ⟨_, List.getElem?_eq_getElem (by rw [LU.out]; omega)⟩
            obtain ⟨y, hy⟩ : ∃ y, ls[r + 1]? = some y := ⟨_, List.getElem?_eq_getElem (by rw [LU.out]; omega)⟩
            rcases HU.out with h0 | ⟨g3, o3, rfl, -, hc3⟩
            · omega
            have mx : (ls.map rowD)[r]? = some (rowD x) := by rw [List.getElem?_map, hx]; rfl
            have my : (ls.map rowD)[r + 1]? = some (rowD y) := by rw [List.getElem?_map, hy]; rfl
            have b0 := hc3 r _ mx 0 _ rfl
            have c0 := hc3 (r + 1) _ my 0 _ rfl
            rw [Nat.add_zero] at b0 c0
            have SN := Lib.hid (ord_snoc ls r x y hx hy)
            have k1 : ((r + 1 : Nat) : Int) < (un : Int) := by omega
            have k2 : ((r + 1 : Nat) : Int) - 1 = (r : Int) := by omega
            have k3 : IntKind.i64.wrap (r : Int) = (r : Int) := IntWalk.i64_in _ (by omega)
            have k4 : (0 : Int) ≤ (r : Int) := by omega
            have k5 : (r : Int) < (un : Int) := by omega
            obtain ⟨xo, xt, xn⟩ := x
            obtain ⟨yo, yt, yn⟩ := y
            simp only at b0 c0 SN
            clear hc3 mx my hx hy
            by_cases h3 : xo = 3
            · subst h3
              by_cases h2 : yo = 2
              · subst h2
                go_wp2_with (go_at_call 10; (with_reducible refine (AW.out _ B2.out).mono ?_); rintro e w3 ⟨rfl, hb3⟩; have B3 := Lib.hid (B2.out.trans (hb3.out.mono B2.out.size)))
                go_ret
                exact ⟨rfl, BW.out _ B3.out⟩
              · have t2 : (yo == 2) = false := beq_eq_false_iff_ne.2 h2
                have E := Lib.hid (SN.out (fun e => h2 e.2) HI.out)
                clear h2
                go_wp2_with fail
                go_round
                case rel => exact ⟨r + 1, by go_num, .inr (by omega), E⟩
                case measure => simp [intOf]; omega
            · have t3 : (xo == 3) = false := beq_eq_false_iff_ne.2 h3
              have E := Lib.hid (SN.out (fun e => h3 e.1) HI.out)
              clear h3
              go_wp2_with fail
              go_round
              case rel => exact ⟨r + 1, by go_num, .inr (by omega), E⟩
              case measure => simp [intOf]; omega
          · have E := Lib.hid (TK.out (by have := HI.out; rwa [List.take_of_length_le (by rw [LU.out]; omega)] at this))
            have k1 : ¬ ((r + 1 : Nat) : Int) < (un : Int) := by omega
            go_wp2_with fail
            go_round
            case rel => exact ⟨j + 1, by go_num, by omega, E⟩
            case measure => simp [intOf]; omega
      · obtain rfl : j = n := by omega
        have OA : Hid (∀ p ∈ L, ordL p.1.ls = true) := Lib.hid (fun p hp => HO.out p (by rw [List.take_of_length_le (by rw [HN.out]; exact Nat.le_refl _)]; exact hp))
        have RV := Lib.hid (reverse_any old new L (.slice a j cap) w2 (HVH.out.below C2.out) SA.out.r)
        go_upto_region 13 with (go_at_call 23; (with_reducible refine RV.out.mono ?_); rintro e w3 ⟨v1, M1, rfl, H1, K1, B23⟩; obtain ⟨a1, c1, e1, -⟩ := K1.out.rows.sl rfl; obtain ⟨n1, hn1⟩ : ∃ k, (M1.map rowH).length = k := ⟨_, rfl⟩; rw [hn1] at e1; clear hn1; subst e1; obtain ⟨w4, hw4⟩ : ∃ W, w3.alloc (.cells #[.string new, .string old, .slice a1 n1 c1] 24) = W := ⟨_, rfl⟩)
        have B34 : Hid (Below w3.heap.size w3 w4) := Lib.hid (by rw [← hw4]; exact (Below.refl _ _).alloc (Nat.le_refl _) _)
        have N4 : Hid (w4.heap[w3.heap.size]? = some (.cells #[.string new, .string old, .slice a1 n1 c1] 24 (0, 0))) := Lib.hid (by rw [← hw4]; exact heap_alloc_new w3 _)
        have B24 := Lib.hid (B23.out.trans (B34.out.mono B23.out.size))
        have B4 := Lib.hid (B2.out.trans (B24.out.mono B2.out.size))
        have C4 := Lib.hid (BW.out _ B4.out)
        have K4 := Lib.hid (K1.out.below B34.out)
        try rw [hw4]
        clear hw4
        have BX : Hid (∀ W, Below w4.heap.size w4 W → Below w.heap.size w W) := Lib.hid (fun W hb => C4.out.trans (hb.mono C4.out.size))
        have KP : Hid (∀ w' : World, Below w4.heap.size w4 w' → (fun w' => Below w4.heap.size w4 w' ∧ w'.cell? ⟨w.heap.size, 0, none⟩ = some (.string old) ∧ w'.cell? ⟨w.heap.size, 1, none⟩ = some (.string new) ∧ w'.cell? ⟨w.heap.size, 2, none⟩ = some (.slice a j cap) ∧ w'.cell? ⟨w3.heap.size, 0, none⟩ = some (.string new) ∧ w'.cell? ⟨w3.heap.size, 1, none⟩ = some (.string old) ∧ w'.cell? ⟨w3.heap.size, 2, none⟩ = some (.slice a1 n1 c1)) w') := Lib.hid (fun w' hb => ⟨hb, kp hb (kp B24.out y0), kp hb (kp B24.out y1), kp hb (kp B24.out y2), kp hb (blk_cellx N4.out 0 _ rfl), kp hb (blk_cellx N4.out 1 _ rfl), kp hb (blk_cellx N4.out 2 _ rfl)⟩)
        have S0 := KP.out _ (Below.refl w4.heap.size w4)
        have SA1 := Lib.hid (smallA_rev SA.out H1.out)
        have AW4 := Lib.hid (fun W (hb : Below w4.heap.size w4 W) => awake_any m W (kp (BX.out W hb) HM.out))
        have CK := Lib.hid (fun W (hb : Below w4.heap.size w4 W) => check_any old new L (.slice a j cap) W (HVH.out.below (BX.out W hb)) SA.out.h)
        have CQ := Lib.hid (fun W (hb : Below w4.heap.size w4 W) => check_any new old M1 (.slice a1 n1 c1) W (K4.out.below hb) SA1.out.h)
        have RV2 := Lib.hid (fun W (hb : Below w4.heap.size w4 W) => reverse_any new old M1 (.slice a1 n1 c1) W (K4.out.below hb) SA1.out.r)
        have HRR : Hid (M1.map (fun p => revH p.1) = L.map (·.1)) := Lib.hid (by
          have e : M1.map (fun p => revH p.1) = (M1.map (·.1)).map revH := by rw [List.map_map]; rfl
          rw [e, H1.out, List.map_map]
          exact List.map_congr_left (fun p hp => revH_revH (OA.out p hp)))
        have SM5 := Lib.hid (fun (M : List HV) (e : M.map (·.1) = M1.map (fun p => revH p.1)) => (smallA_rev SA1.out e).h)
        have CR : Hid (chk (L.map (·.1)) = 0 → chk (M1.map (·.1)) = 0) := Lib.hid (fun h => by
          have h2 := chk_revs h
          rw [List.map_map] at h2
          rw [H1.out]; exact h2)
        obtain ⟨c, hc⟩ : ∃ c, chk (L.map (·.1)) = c := ⟨_, rfl⟩
        obtain ⟨d, hd⟩ : ∃ d, chk (M1.map (·.1)) = d := ⟨_, rfl⟩
        rw [hc] at CK CR
        rw [hd] at CQ CR
        clear hc hd y0 y1 y2
        by_cases h0 : c = 0
        · subst h0
          obtain rfl := CR.out rfl
          go_upto_region 15 with (first | (go_at_call 20; (first | (with_reducible refine (CK.out _ S0.1).mono ?_) | (with_reducible refine (CQ.out _ S0.1).mono ?_)); rintro e w' ⟨rfl, hb⟩; have S0 := KP.out _ (S0.1.trans (hb.out.mono S0.1.size))) | (go_at_call 23; (first | (with_reducible refine (RV2.out _ S0.1).mono ?_)); rintro e w' ⟨v5, M5, rfl, h5, H5, hb⟩; have S0 := KP.out _ (S0.1.trans (hb.out.mono S0.1.size))) | (go_at_call 22; (first | (with_reducible refine (samepatch_eq old new M5 L v5 (.slice a j cap) _ H5.out (HVH.out.below (BX.out _ S0.1)) (h5.out.trans HRR.out) (SM5.out M5 h5.out)).mono ?_)); rintro e w' ⟨rfl, hb⟩; have S0 := KP.out _ (S0.1.trans (hb.out.mono S0.1.size))) | (go_at_call 10; (first | (with_reducible refine (AW4.out _ S0.1).mono ?_)); rintro e w' ⟨rfl, hb⟩; have S0 := KP.out _ (S0.1.trans (hb.out.mono S0.1.size))))
          have S0 := KP.out _ (S0.1.drew)
          go_region_held3 (fun w' => Below w4.heap.size w4 w' ∧ w'.cell? ⟨w.heap.size, 0, none⟩ = some (.string old) ∧ w'.cell? ⟨w.heap.size, 1, none⟩ = some (.string new) ∧ w'.cell? ⟨w.heap.size, 2, none⟩ = some (.slice a j cap) ∧ w'.cell? ⟨w3.heap.size, 0, none⟩ = some (.string new) ∧ w'.cell? ⟨w3.heap.size, 1, none⟩ = some (.string old) ∧ w'.cell? ⟨w3.heap.size, 2, none⟩ = some (.slice a1 n1 c1)) (first | exact S0) (first | (go_at_call 20; (first | (with_reducible refine (CK.out _ S0.1).mono ?_) | (with_reducible refine (CQ.out _ S0.1).mono ?_)); rintro e w' ⟨rfl, hb⟩; have S0 := KP.out _ (S0.1.trans (hb.out.mono S0.1.size))) | (go_at_call 23; (first | (with_reducible refine (RV2.out _ S0.1).mono ?_)); rintro e w' ⟨v5, M5, rfl, h5, H5, hb⟩; have S0 := KP.out _ (S0.1.trans (hb.out.mono S0.1.size))) | (go_at_call 22; (first | (with_reducible refine (samepatch_eq old new M5 L v5 (.slice a j cap) _ H5.out (HVH.out.below (BX.out _ S0.1)) (h5.out.trans HRR.out) (SM5.out M5 h5.out)).mono ?_)); rintro e w' ⟨rfl, hb⟩; have S0 := KP.out _ (S0.1.trans (hb.out.mono S0.1.size))) | (go_at_call 10; (first | (with_reducible refine (AW4.out _ S0.1).mono ?_)); rintro e w' ⟨rfl, hb⟩; have S0 := KP.out _ (S0.1.trans (hb.out.mono S0.1.size))))
          go_wp2_with (first | (go_at_call 20; (first | (with_reducible refine (CK.out _ S0.1).mono ?_) | (with_reducible refine (CQ.out _ S0.1).mono ?_)); rintro e w' ⟨rfl, hb⟩; have S0 := KP.out _ (S0.1.trans (hb.out.mono S0.1.size))) | (go_at_call 23; (first | (with_reducible refine (RV2.out _ S0.1).mono ?_)); rintro e w' ⟨v5, M5, rfl, h5, H5, hb⟩; have S0 := KP.out _ (S0.1.trans (hb.out.mono S0.1.size))) | (go_at_call 22; (first | (with_reducible refine (samepatch_eq old new M5 L v5 (.slice a j cap) _ H5.out (HVH.out.below (BX.out _ S0.1)) (h5.out.trans HRR.out) (SM5.out M5 h5.out)).mono ?_)); rintro e w' ⟨rfl, hb⟩; have S0 := KP.out _ (S0.1.trans (hb.out.mono S0.1.size))) | (go_at_call 10; (first | (with_reducible refine (AW4.out _ S0.1).mono ?_)); rintro e w' ⟨rfl, hb⟩; have S0 := KP.out _ (S0.1.trans (hb.out.mono S0.1.size))))
          go_ret
          exact ⟨rfl, BX.out _ S0.1⟩
        · have t0 : (c == 0) = false := beq_eq_false_iff_ne.2 h0
          clear h0
          go_upto_region 15 with (first | (go_at_call 20; (first | (with_reducible refine (CK.out _ S0.1).mono ?_) | (with_reducible refine (CQ.out _ S0.1).mono ?_)); rintro e w' ⟨rfl, hb⟩; have S0 := KP.out _ (S0.1.trans (hb.out.mono S0.1.size))) | (go_at_call 23; (first | (with_reducible refine (RV2.out _ S0.1).mono ?_)); rintro e w' ⟨v5, M5, rfl, h5, H5, hb⟩; have S0 := KP.out _ (S0.1.trans (hb.out.mono S0.1.size))) | (go_at_call 22; (first | (with_reducible refine (samepatch_eq old new M5 L v5 (.slice a j cap) _ H5.out (HVH.out.below (BX.out _ S0.1)) (h5.out.trans HRR.out) (SM5.out M5 h5.out)).mono ?_)); rintro e w' ⟨rfl, hb⟩; have S0 := KP.out _ (S0.1.trans (hb.out.mono S0.1.size))) | (go_at_call 10; (first | (with_reducible refine (AW4.out _ S0.1).mono ?_)); rintro e w' ⟨rfl, hb⟩; have S0 := KP.out _ (S0.1.trans (hb.out.mono S0.1.size))))
          have S0 := KP.out _ (S0.1.drew)
          go_region_held3 (fun w' => Below w4.heap.size w4 w' ∧ w'.cell? ⟨w.heap.size, 0, none⟩ = some (.string old) ∧ w'.cell? ⟨w.heap.size, 1, none⟩ = some (.string new) ∧ w'.cell? ⟨w.heap.size, 2, none⟩ = some (.slice a j cap) ∧ w'.cell? ⟨w3.heap.size, 0, none⟩ = some (.string new) ∧ w'.cell? ⟨w3.heap.size, 1, none⟩ = some (.string old) ∧ w'.cell? ⟨w3.heap.size, 2, none⟩ = some (.slice a1 n1 c1)) (first | exact S0) (first | (go_at_call 20; (first | (with_reducible refine (CK.out _ S0.1).mono ?_) | (with_reducible refine (CQ.out _ S0.1).mono ?_)); rintro e w' ⟨rfl, hb⟩; have S0 := KP.out _ (S0.1.trans (hb.out.mono S0.1.size))) | (go_at_call 23; (first | (with_reducible refine (RV2.out _ S0.1).mono ?_)); rintro e w' ⟨v5, M5, rfl, h5, H5, hb⟩; have S0 := KP.out _ (S0.1.trans (hb.out.mono S0.1.size))) | (go_at_call 22; (first | (with_reducible refine (samepatch_eq old new M5 L v5 (.slice a j cap) _ H5.out (HVH.out.below (BX.out _ S0.1)) (h5.out.trans HRR.out) (SM5.out M5 h5.out)).mono ?_)); rintro e w' ⟨rfl, hb⟩; have S0 := KP.out _ (S0.1.trans (hb.out.mono S0.1.size))) | (go_at_call 10; (first | (with_reducible refine (AW4.out _ S0.1).mono ?_)); rintro e w' ⟨rfl, hb⟩; have S0 := KP.out _ (S0.1.trans (hb.out.mono S0.1.size))))
          go_wp2_with (first | (go_at_call 20; (first | (with_reducible refine (CK.out _ S0.1).mono ?_) | (with_reducible refine (CQ.out _ S0.1).mono ?_)); rintro e w' ⟨rfl, hb⟩; have S0 := KP.out _ (S0.1.trans (hb.out.mono S0.1.size))) | (go_at_call 23; (first | (with_reducible refine (RV2.out _ S0.1).mono ?_)); rintro e w' ⟨v5, M5, rfl, h5, H5, hb⟩; have S0 := KP.out _ (S0.1.trans (hb.out.mono S0.1.size))) | (go_at_call 22; (first | (with_reducible refine (samepatch_eq old new M5 L v5 (.slice a j cap) _ H5.out (HVH.out.below (BX.out _ S0.1)) (h5.out.trans HRR.out) (SM5.out M5 h5.out)).mono ?_)); rintro e w' ⟨rfl, hb⟩; have S0 := KP.out _ (S0.1.trans (hb.out.mono S0.1.size))) | (go_at_call 10; (first | (with_reducible refine (AW4.out _ S0.1).mono ?_)); rintro e w' ⟨rfl, hb⟩; have S0 := KP.out _ (S0.1.trans (hb.out.mono S0.1.size))))
          go_ret
          exact ⟨rfl, BX.out _ S0.1⟩
end Go.Proofs.YtnkpigibjicmaaaDoor
