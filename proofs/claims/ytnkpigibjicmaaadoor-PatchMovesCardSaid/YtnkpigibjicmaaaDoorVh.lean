/- walks: Check, both (written by gen_vh.py) -/
import Derived.Test.YtnkpigibjicmaaaDoorVg
namespace Go.Proofs.YtnkpigibjicmaaaDoor
open Go.RowKit Go.Maps
open Pt
abbrev HV := Hk × Value
abbrev rowH (p : HV) : List Value := [.int .i64 p.1.fa, .int .i64 p.1.la, .int .i64 p.1.fb, .int .i64 p.1.lb, p.2]
theorem one_H {p : HV} (h : p.2.oneCell' = true) : ∀ u ∈ rowH p, u.oneCell' = true := by intro u hu; simp at hu; rcases hu with rfl | rfl | rfl | rfl | rfl <;> first | rfl | exact h
theorem RowsAt.one {w : World} {v : Value} {k : Nat} {l : List (List Value)} (h : RowsAt w v k l) : v.oneCell' = true := by
  rcases h with ⟨-, a, rfl⟩ | ⟨g, o, cap, rfl, -⟩
  · cases a <;> rfl
  · rfl
/-- hunks in memory, their lines behind them -/
structure HksAt (w : World) (v : Value) (L : List HV) : Prop where
  rows : RowsAt w v 5 (L.map rowH)
  each : ∀ p ∈ L, RowsAt w p.2 3 (p.1.ls.map rowD)
theorem HksAt.below {w w' : World} {v : Value} {L : List HV} (h : HksAt w v L) (hb : Below w.heap.size w w') : HksAt w' v L := ⟨h.rows.below hb, fun p hp => (h.each p hp).below hb⟩
/-- hunks of a size that counts -/
def smallD (l : List DL) : Prop := l.length ≤ 1048576 ∧ ∀ x ∈ l, x.2.1.size ≤ 1048576
def smallH (L : List HV) : Prop := L.length ≤ 1048576 ∧ ∀ p ∈ L, smallD p.1.ls
theorem shape_ok {h : Hk} (hs : shapeE h = 0) : h.la = (sideP 2 h.ls).length ∧ h.lb = (sideP 3 h.ls).length ∧ 0 ≤ h.fa ∧ h.fa ≤ 2147483647 ∧ 0 ≤ h.fb ∧ h.fb ≤ 2147483647 := by
  unfold shapeE at hs
  by_cases h1 : lineE h.ls ≠ 0
  · rw [if_pos h1] at hs; exact absurd hs h1
  · rw [if_neg h1] at hs
    by_cases h2 : h.la ≠ (sideP 2 h.ls).length ∨ h.lb ≠ (sideP 3 h.ls).length ∨ h.fa < 0 ∨ 2147483647 < h.fa ∨ h.fb < 0 ∨ 2147483647 < h.fb
    · rw [if_pos h2] at hs; exact absurd hs (by decide)
    · omega
theorem begin_bd {f n : Int} (h1 : 0 ≤ f) (h2 : f ≤ 2147483647) : -1 ≤ beginP f n ∧ beginP f n ≤ 2147483647 := by
  unfold beginP; split <;> omega
theorem begin_q (f n : Int) (w : World) (h1 : 0 ≤ n) (h2 : 0 ≤ f) (h3 : f ≤ 2147483648) : Calls Tryd.prog 47 #[.int .i64 f, .int .i64 n] w fun e w' => e = .returned (.int .i64 (beginP f n)) ∧ w' = w := (begin_any f n w h1 h2 h3).mono fun _ _ ⟨a, b⟩ => ⟨a, b.symm⟩
theorem rbegin_q (f n : Int) (w : World) (h1 : 0 ≤ n) (h2 : 0 ≤ f) (h3 : f ≤ 2147483648) : Calls Tryd.prog 32 #[.int .i64 f, .int .i64 n] w fun e w' => e = .returned (.int .i64 (beginP f n)) ∧ w' = w := (rbegin_any f n w h1 h2 h3).mono fun _ _ ⟨a, b⟩ => ⟨a, b.symm⟩
theorem bel_dn (w : World) (k : Nat) : Below w.heap.size w (w.drewN k) := by
  have h := Below.refl w.heap.size w
  exact ⟨h.os, h.tape, h.output, h.size, h.block⟩
theorem chkP_cons (e m : Int) (h : Hk) (r : List Hk) : chkP e m (h :: r) = if shapeE h ≠ 0 then shapeE h else
    if beginP h.fa h.la < e ∨ beginP h.fb h.lb ≠ beginP h.fa h.la + m then 2 else
    if endsB (decide (r = [])) (sideP 2 h.ls) = false ∨ endsB (decide (r = [])) (sideP 3 h.ls) = false then 8 else
    chkP (beginP h.fa h.la + h.la) (m + (h.lb - h.la)) r := rfl
theorem rowL_len {l : List Ln} : ∀ x ∈ l.map rowL, x.length = 2 := by intro x hx; obtain ⟨y, -, rfl⟩ := List.mem_map.1 hx; rfl
set_option maxRecDepth 100000 in
set_option maxHeartbeats 8000000 in
theorem check_any (old new : ByteArray) (L : List HV) (v : Value) (w : World) (hv : HksAt w v L) (hl : smallH L) :
    Calls Tryd.prog 20 #[.agg #[.string old, .string new, v]] w fun e w' => e = .returned (.int .i64 (chk (L.map (·.1)))) ∧ Hid (Below w.heap.size w w') := by
  obtain ⟨n, hn⟩ : ∃ n, L.length = n := ⟨_, rfl⟩
  have HN := Lib.hid hn
  have HV := Lib.hid hv
  have HS := Lib.hid hl
  obtain ⟨a, cap, rfl, c1, c2, hc⟩ := hv.rows.sl (n := n) (by rw [List.length_map]; exact hn)
  have HC := Lib.hid hc
  have hl1 := hl.1
  rw [hn] at hl1
  unfold maxLen at c2
  have B0 : Hid (Below w.heap.size w (w.alloc (.cells #[.string old, .string new, .slice a n cap] 24))) := Lib.hid ((Below.refl _ _).alloc (Nat.le_refl _) _)
  have N0 := heap_alloc_new w (.cells #[.string old, .string new, .slice a n cap] 24)
  have Y2 : Hid ((w.alloc (.cells #[.string old, .string new, .slice a n cap] 24)).cell? ⟨w.heap.size, 2, none⟩ = some (.slice a n cap)) := Lib.hid (blk_cellx N0 2 _ rfl)
  obtain ⟨r, hr⟩ : ∃ r, chk (L.map (·.1)) = r := ⟨_, rfl⟩
  have HR := Lib.hid hr
  rw [hr]
  have y2 := Y2.out
  clear hv hn hc hl N0 hr
  go_enter Tryd.func20, Tryd.ntmps20
  go_wp2_with fail
  clear y2
  go_loopw [3, 4, 14] (fun ee mm i wr => ∃ (j : Nat) (e m : Int), ee = .int .i64 e ∧ mm = .int .i64 m ∧ i = .int .i64 j ∧ j ≤ n ∧ (-1 ≤ e ∧ e ≤ 4294967296) ∧ (-1048576 * (j : Int) ≤ m ∧ m ≤ 1048576 * (j : Int)) ∧ Hid (chkP e m ((L.drop j).map (·.1)) = r) ∧ Hid (Below (w.alloc (.cells #[.string old, .string new, .slice a n cap] 24)).heap.size (w.alloc (.cells #[.string old, .string new, .slice a n cap] 24)) wr)) (fun _ _ i _ => n - (intOf i).toNat)
  case atStart => exact ⟨0, 0, 0, rfl, rfl, rfl, Nat.zero_le _, by omega, by omega, HR, Lib.hid (Below.refl _ _)⟩
  case round =>
    obtain ⟨j, e, m, rfl, rfl, rfl, hj, he, hm, HI, BK⟩ := hrel
    have BW := Lib.hid (B0.out.trans (BK.out.mono B0.out.size))
    have y2 := kp BK.out Y2.out
    by_cases hlt : j < n
    · obtain ⟨x, hx⟩ : ∃ x, L[j]? = some x := ⟨_, List.getElem?_eq_getElem (by rw [HN.out]; exact hlt)⟩
      have hmem := List.mem_of_getElem? hx
      rcases HC.out with h0 | ⟨g, o, rfl, -, hcc⟩
      · omega
      have m1 : (L.map rowH)[j]? = some (rowH x) := by rw [List.getElem?_map, hx]; rfl
      have d0 := kp BW.out (hcc j _ m1 0 _ rfl)
      have d1 := kp BW.out (hcc j _ m1 1 _ rfl)
      have d2 := kp BW.out (hcc j _ m1 2 _ rfl)
      have d3 := kp BW.out (hcc j _ m1 3 _ rfl)
      have d4 := kp BW.out (hcc j _ m1 4 _ rfl)
      rw [Nat.add_zero] at d0
      have HX := Lib.hid ((HV.out.each x hmem).below BW.out)
      have SX := Lib.hid (HS.out.2 x hmem)
      have DR : Hid (chkP e m (x.1 :: (L.drop (j + 1)).map (·.1)) = r) := Lib.hid (by rw [← HI.out, drop_get hx]; rfl)
      have LD : Hid (((L.drop (j + 1)).map (·.1)).length = n - (j + 1)) := Lib.hid (by rw [List.length_map, List.length_drop, HN.out])
      have p0 : (0 : Int) ≤ (j : Int) := by omega
      have p1 : (j : Int) < (n : Int) := by omega
      have p2 : IntKind.i64.wrap (j : Int) = (j : Int) := IntWalk.i64_in _ (by omega)
      obtain ⟨⟨fa, la, fb, lb, ls⟩, u⟩ := x
      simp only at d0 d1 d2 d3 d4 HX SX DR
      clear hcc m1 hx hmem HI
      obtain ⟨un, hun⟩ : ∃ n, ls.length = n := ⟨_, rfl⟩
      obtain ⟨ua, uc, rfl, -, -, -⟩ := HX.out.sl (n := un) (by rw [List.length_map]; exact hun)
      clear hun
      have NB := Lib.hid (heap_alloc_new wr (.cells #[.int .i64 fa, .int .i64 la, .int .i64 fb, .int .i64 lb, .slice ua un uc] 38))
      have BX := Lib.hid (BK.out.alloc BK.out.size (.cells #[.int .i64 fa, .int .i64 la, .int .i64 fb, .int .i64 lb, .slice ua un uc] 38))
      have BR := Lib.hid ((Below.refl wr.heap.size wr).alloc (Nat.le_refl _) (.cells #[.int .i64 fa, .int .i64 la, .int .i64 fb, .int .i64 lb, .slice ua un uc] 38))
      have HK := Lib.hid (hunk_any ⟨fa, la, fb, lb, ls⟩ (.slice ua un uc) (wr.alloc (.cells #[.int .i64 fa, .int .i64 la, .int .i64 fb, .int .i64 lb, .slice ua un uc] 38)) (HX.out.below BR.out) SX.out.1 SX.out.2)
      have dr := DR.out
      rw [chkP_cons] at dr
      simp only at dr
      by_cases s0 : shapeE ⟨fa, la, fb, lb, ls⟩ = 0
      rotate_left
      · rw [if_pos s0] at dr
        rw [dr] at HK s0
        have t0 : (r != 0) = true := bne_iff_ne.2 s0
        clear dr DR s0
        go_wp2_with (go_at_call 46; refine HK.out.mono ?_; rintro _ w3 ⟨rfl, B3⟩)
        go_ret
        exact ⟨rfl, Lib.hid ((B0.out.trans (BX.out.mono B0.out.size)).trans (B3.out.mono (B0.out.trans (BX.out.mono B0.out.size)).size))⟩
      · rw [if_neg (fun q => q s0)] at dr
        obtain ⟨o1, o2, o3, o4, o5, o6⟩ := shape_ok s0
        try simp only at o1 o2 o3 o4 o5 o6
        rw [s0] at HK
        clear s0
        have SL2 := side_len 2 ls
        have SL3 := side_len 3 ls
        have SXL := SX.out.1
        try simp only at SXL
        have la0 : 0 ≤ la ∧ la ≤ 1048576 := by omega
        have lb0 : 0 ≤ lb ∧ lb ≤ 1048576 := by omega
        clear o1 o2 SL2 SL3 SXL
        have bd1 := begin_bd (n := la) o3 o4
        have bd2 := begin_bd (n := lb) o5 o6
        have CA := Lib.hid (fun W => begin_q fa la W (by omega) (by omega) (by omega))
        have CB := Lib.hid (fun W => begin_q fb lb W (by omega) (by omega) (by omega))
        obtain ⟨ba, hba⟩ : ∃ b, beginP fa la = b := ⟨_, rfl⟩
        obtain ⟨bb, hbb⟩ : ∃ b, beginP fb lb = b := ⟨_, rfl⟩
        rw [hba] at CA bd1 dr
        rw [hbb] at CB bd2 dr
        clear hba hbb
        have DR2 := Lib.hid dr
        clear dr DR
        go_wp2_with (go_at_call 46; refine HK.out.mono ?_; rintro _ w3 ⟨rfl, B3⟩)
        have B4 := Lib.hid (BR.out.trans (B3.out.mono BR.out.size))
        have B5 := Lib.hid (BX.out.trans (B3.out.mono BX.out.size))
        have NC := Lib.hid ((B3.out.block _ (by rw [World.size_alloc]; omega)).trans NB.out)
        have z0 : w3.cell? ⟨wr.heap.size, 0, none⟩ = some (.int .i64 fa) := blk_cellx NC.out 0 _ rfl
        have z1 : w3.cell? ⟨wr.heap.size, 1, none⟩ = some (.int .i64 la) := blk_cellx NC.out 1 _ rfl
        have z2 : w3.cell? ⟨wr.heap.size, 2, none⟩ = some (.int .i64 fb) := blk_cellx NC.out 2 _ rfl
        have z3 : w3.cell? ⟨wr.heap.size, 3, none⟩ = some (.int .i64 lb) := blk_cellx NC.out 3 _ rfl
        have S0 : w3.drew.cell? ⟨wr.heap.size, 0, none⟩ = some (.int .i64 fa) ∧ w3.drew.cell? ⟨wr.heap.size, 1, none⟩ = some (.int .i64 la) ∧ w3.drew.cell? ⟨wr.heap.size, 2, none⟩ = some (.int .i64 fb) ∧ w3.drew.cell? ⟨wr.heap.size, 3, none⟩ = some (.int .i64 lb) := ⟨z0, z1, z2, z3⟩
        go_quiet (first | exact Calls.quiet_of_same (CA.out _) | exact Calls.quiet_of_same (CB.out _))
        have BQ := Lib.hid (show Below w3.heap.size w3 (w3.drewN nq) from bel_dn w3 nq)
        have FIN := Lib.hid (fun W (hb : Below w3.heap.size w3 W) => (B0.out.trans (B5.out.mono B0.out.size)).trans (hb.mono (B0.out.trans (B5.out.mono B0.out.size)).size))
        have HX3 := Lib.hid (fun W (hb : Below w3.heap.size w3 W) => HX.out.below (B4.out.trans (hb.mono B4.out.size)))
        clear S0 CA CB z0 z2
        have z4 : w3.cell? ⟨wr.heap.size, 4, none⟩ = some (.slice ua un uc) := blk_cellx NC.out 4 _ rfl
        have y2 : w3.cell? ⟨w.heap.size, 2, none⟩ = some (.slice (some ⟨g, o, none⟩) n cap) := kp B5.out Y2.out
        have Z1 := Lib.hid z1
        have Z3 := Lib.hid z3
        have Z4 := Lib.hid z4
        have Y2C := Lib.hid y2
        have dr := DR2.out
        by_cases c1 : ba < e
        · have t1 : decide (ba < e) = true := decide_eq_true c1
          obtain rfl : r = 2 := by rw [← dr, if_pos (Or.inl c1)]
          clear dr DR2 c1
          go_wp2_with fail
          go_ret
          exact ⟨rfl, Lib.hid (FIN.out _ BQ.out)⟩
        · have t1 : decide (ba < e) = false := decide_eq_false c1
          by_cases c3 : bb = ba + m
          rotate_left
          · have t2 : (bb != ba + m) = true := bne_iff_ne.2 c3
            obtain rfl : r = 2 := by rw [← dr, if_pos (Or.inr c3)]
            clear dr DR2 c1 c3
            go_wp2_with fail
            go_ret
            exact ⟨rfl, Lib.hid (FIN.out _ BQ.out)⟩
          · have t2 : (bb != ba + m) = false := by rw [c3]; simp
            rw [if_neg (fun q => q.elim c1 (fun h => h c3))] at dr
            have DR3 := Lib.hid dr
            clear dr DR2 c1
            obtain ⟨last, hlast⟩ : ∃ b, decide ((L.drop (j + 1)).map (·.1) = []) = b := ⟨_, rfl⟩
            have HLA : Hid (last = decide (j + 1 = n)) := Lib.hid (by
              rw [← hlast]
              have h := LD.out
              by_cases hjn : j + 1 = n
              · rw [decide_eq_true hjn, List.eq_nil_of_length_eq_zero (l := (L.drop (j + 1)).map (·.1)) (by omega)]; rfl
              · rw [decide_eq_false hjn, decide_eq_false]
                intro e0
                rw [e0] at h
                simp at h
                omega)
            rw [hlast] at DR3
            clear hlast
            obtain ⟨s2, hs2⟩ : ∃ s, sideP 2 ls = s := ⟨_, rfl⟩
            obtain ⟨s3, hs3⟩ : ∃ s, sideP 3 ls = s := ⟨_, rfl⟩
            have SA := Lib.hid (fun W (hb : Below w3.heap.size w3 W) => side_any ls (.slice ua un uc) 2 W (HX3.out W hb) SX.out.1)
            have SB := Lib.hid (fun W (hb : Below w3.heap.size w3 W) => side_any ls (.slice ua un uc) 3 W (HX3.out W hb) SX.out.1)
            have L2 := Lib.hid (Nat.le_trans (side_len 2 ls) SX.out.1)
            have L3 := Lib.hid (Nat.le_trans (side_len 3 ls) SX.out.1)
            rw [hs2] at SA DR3 L2
            rw [hs3] at SB DR3 L3
            clear hs2 hs3
            obtain ⟨e2, he2⟩ : ∃ b, endsB last s2 = b := ⟨_, rfl⟩
            obtain ⟨e3, he3⟩ : ∃ b, endsB last s3 = b := ⟨_, rfl⟩
            have EA := Lib.hid (fun W v (h : RowsAt W v 2 (s2.map rowL)) => ends_any s2 v last W h L2.out)
            have EB := Lib.hid (fun W v (h : RowsAt W v 2 (s3.map rowL)) => ends_any s3 v last W h L3.out)
            rw [he2] at EA DR3
            rw [he3] at EB DR3
            clear he2 he3
            have dr := DR3.out
            clear DR3
            have mp : j + 1 ≤ n := hlt
            by_cases hjn : j + 1 = n
            · have t3 : ((j : Int) == (n : Int) - 1) = true := beq_iff_eq.2 (by omega)
              obtain rfl : last = true := by rw [HLA.out, decide_eq_true hjn]
              cases e2 with
              | false =>
                obtain rfl : r = 8 := by rw [← dr]; simp
                clear dr c3
                go_wp2_with (first
                    | (go_at_call 49; (first
                        | ((with_reducible refine (SA.out _ BQ.out).mono ?_); rintro _ w5 ⟨v5, rfl, O5, B6⟩; have BQ := Lib.hid (BQ.out.trans (B6.out.mono BQ.out.size)); have z1 := kp BQ.out Z1.out; have z3 := kp BQ.out Z3.out; have z4 := kp BQ.out Z4.out; have y2 := kp BQ.out Y2C.out)
                        | ((with_reducible refine (SB.out _ BQ.out).mono ?_); rintro _ w7 ⟨v7, rfl, O7, B6⟩; have BQ := Lib.hid (BQ.out.trans (B6.out.mono BQ.out.size)); have z1 := kp BQ.out Z1.out; have z3 := kp BQ.out Z3.out; have z4 := kp BQ.out Z4.out; have y2 := kp BQ.out Y2C.out)))
                    | (go_at_call 48; (first
                        | ((with_reducible refine (EB.out _ _ (O7.out.rows rowL_len)).mono ?_); rintro _ w6 ⟨rfl, B6⟩; have BQ := Lib.hid (BQ.out.trans (B6.out.mono BQ.out.size)); have z1 := kp BQ.out Z1.out; have z3 := kp BQ.out Z3.out; have z4 := kp BQ.out Z4.out; have y2 := kp BQ.out Y2C.out)
                        | ((with_reducible refine (EA.out _ _ (O5.out.rows rowL_len)).mono ?_); rintro _ w6 ⟨rfl, B6⟩; have BQ := Lib.hid (BQ.out.trans (B6.out.mono BQ.out.size)); have z1 := kp BQ.out Z1.out; have z3 := kp BQ.out Z3.out; have z4 := kp BQ.out Z4.out; have y2 := kp BQ.out Y2C.out))))
                go_ret
                exact ⟨rfl, Lib.hid (FIN.out _ BQ.out)⟩
              | true =>
                cases e3 with
                | false =>
                  obtain rfl : r = 8 := by rw [← dr]; simp
                  clear dr c3
                  go_wp2_with (first
                      | (go_at_call 49; (first
                          | ((with_reducible refine (SA.out _ BQ.out).mono ?_); rintro _ w5 ⟨v5, rfl, O5, B6⟩; have BQ := Lib.hid (BQ.out.trans (B6.out.mono BQ.out.size)); have z1 := kp BQ.out Z1.out; have z3 := kp BQ.out Z3.out; have z4 := kp BQ.out Z4.out; have y2 := kp BQ.out Y2C.out)
                          | ((with_reducible refine (SB.out _ BQ.out).mono ?_); rintro _ w7 ⟨v7, rfl, O7, B6⟩; have BQ := Lib.hid (BQ.out.trans (B6.out.mono BQ.out.size)); have z1 := kp BQ.out Z1.out; have z3 := kp BQ.out Z3.out; have z4 := kp BQ.out Z4.out; have y2 := kp BQ.out Y2C.out)))
                      | (go_at_call 48; (first
                          | ((with_reducible refine (EB.out _ _ (O7.out.rows rowL_len)).mono ?_); rintro _ w6 ⟨rfl, B6⟩; have BQ := Lib.hid (BQ.out.trans (B6.out.mono BQ.out.size)); have z1 := kp BQ.out Z1.out; have z3 := kp BQ.out Z3.out; have z4 := kp BQ.out Z4.out; have y2 := kp BQ.out Y2C.out)
                          | ((with_reducible refine (EA.out _ _ (O5.out.rows rowL_len)).mono ?_); rintro _ w6 ⟨rfl, B6⟩; have BQ := Lib.hid (BQ.out.trans (B6.out.mono BQ.out.size)); have z1 := kp BQ.out Z1.out; have z3 := kp BQ.out Z3.out; have z4 := kp BQ.out Z4.out; have y2 := kp BQ.out Y2C.out))))
                  go_ret
                  exact ⟨rfl, Lib.hid (FIN.out _ BQ.out)⟩
                | true =>
                  have DR4 : Hid (chkP (ba + la) (m + (lb - la)) ((L.drop (j + 1)).map (·.1)) = r) := Lib.hid (by rw [← dr]; simp)
                  clear dr c3
                  go_wp2_with (first
                      | (go_at_call 49; (first
                          | ((with_reducible refine (SA.out _ BQ.out).mono ?_); rintro _ w5 ⟨v5, rfl, O5, B6⟩; have BQ := Lib.hid (BQ.out.trans (B6.out.mono BQ.out.size)); have z1 := kp BQ.out Z1.out; have z3 := kp BQ.out Z3.out; have z4 := kp BQ.out Z4.out; have y2 := kp BQ.out Y2C.out)
                          | ((with_reducible refine (SB.out _ BQ.out).mono ?_); rintro _ w7 ⟨v7, rfl, O7, B6⟩; have BQ := Lib.hid (BQ.out.trans (B6.out.mono BQ.out.size)); have z1 := kp BQ.out Z1.out; have z3 := kp BQ.out Z3.out; have z4 := kp BQ.out Z4.out; have y2 := kp BQ.out Y2C.out)))
                      | (go_at_call 48; (first
                          | ((with_reducible refine (EB.out _ _ (O7.out.rows rowL_len)).mono ?_); rintro _ w6 ⟨rfl, B6⟩; have BQ := Lib.hid (BQ.out.trans (B6.out.mono BQ.out.size)); have z1 := kp BQ.out Z1.out; have z3 := kp BQ.out Z3.out; have z4 := kp BQ.out Z4.out; have y2 := kp BQ.out Y2C.out)
                          | ((with_reducible refine (EA.out _ _ (O5.out.rows rowL_len)).mono ?_); rintro _ w6 ⟨rfl, B6⟩; have BQ := Lib.hid (BQ.out.trans (B6.out.mono BQ.out.size)); have z1 := kp BQ.out Z1.out; have z3 := kp BQ.out Z3.out; have z4 := kp BQ.out Z4.out; have y2 := kp BQ.out Y2C.out))))
                  go_roundw
                  case rel => exact ⟨j + 1, ba + la, m + (lb - la), by go_num, by go_num, by go_num, by omega, by omega, by omega, DR4, Lib.hid (B5.out.trans (BQ.out.mono B5.out.size))⟩
                  case measure => simp [intOf]; omega
            · have t3 : ((j : Int) == (n : Int) - 1) = false := beq_eq_false_iff_ne.2 (by omega)
              obtain rfl : last = false := by rw [HLA.out, decide_eq_false hjn]
              cases e2 with
              | false =>
                obtain rfl : r = 8 := by rw [← dr]; simp
                clear dr c3
                go_wp2_with (first
                    | (go_at_call 49; (first
                        | ((with_reducible refine (SA.out _ BQ.out).mono ?_); rintro _ w5 ⟨v5, rfl, O5, B6⟩; have BQ := Lib.hid (BQ.out.trans (B6.out.mono BQ.out.size)); have z1 := kp BQ.out Z1.out; have z3 := kp BQ.out Z3.out; have z4 := kp BQ.out Z4.out; have y2 := kp BQ.out Y2C.out)
                        | ((with_reducible refine (SB.out _ BQ.out).mono ?_); rintro _ w7 ⟨v7, rfl, O7, B6⟩; have BQ := Lib.hid (BQ.out.trans (B6.out.mono BQ.out.size)); have z1 := kp BQ.out Z1.out; have z3 := kp BQ.out Z3.out; have z4 := kp BQ.out Z4.out; have y2 := kp BQ.out Y2C.out)))
                    | (go_at_call 48; (first
                        | ((with_reducible refine (EB.out _ _ (O7.out.rows rowL_len)).mono ?_); rintro _ w6 ⟨rfl, B6⟩; have BQ := Lib.hid (BQ.out.trans (B6.out.mono BQ.out.size)); have z1 := kp BQ.out Z1.out; have z3 := kp BQ.out Z3.out; have z4 := kp BQ.out Z4.out; have y2 := kp BQ.out Y2C.out)
                        | ((with_reducible refine (EA.out _ _ (O5.out.rows rowL_len)).mono ?_); rintro _ w6 ⟨rfl, B6⟩; have BQ := Lib.hid (BQ.out.trans (B6.out.mono BQ.out.size)); have z1 := kp BQ.out Z1.out; have z3 := kp BQ.out Z3.out; have z4 := kp BQ.out Z4.out; have y2 := kp BQ.out Y2C.out))))
                go_ret
                exact ⟨rfl, Lib.hid (FIN.out _ BQ.out)⟩
              | true =>
                cases e3 with
                | false =>
                  obtain rfl : r = 8 := by rw [← dr]; simp
                  clear dr c3
                  go_wp2_with (first
                      | (go_at_call 49; (first
                          | ((with_reducible refine (SA.out _ BQ.out).mono ?_); rintro _ w5 ⟨v5, rfl, O5, B6⟩; have BQ := Lib.hid (BQ.out.trans (B6.out.mono BQ.out.size)); have z1 := kp BQ.out Z1.out; have z3 := kp BQ.out Z3.out; have z4 := kp BQ.out Z4.out; have y2 := kp BQ.out Y2C.out)
                          | ((with_reducible refine (SB.out _ BQ.out).mono ?_); rintro _ w7 ⟨v7, rfl, O7, B6⟩; have BQ := Lib.hid (BQ.out.trans (B6.out.mono BQ.out.size)); have z1 := kp BQ.out Z1.out; have z3 := kp BQ.out Z3.out; have z4 := kp BQ.out Z4.out; have y2 := kp BQ.out Y2C.out)))
                      | (go_at_call 48; (first
                          | ((with_reducible refine (EB.out _ _ (O7.out.rows rowL_len)).mono ?_); rintro _ w6 ⟨rfl, B6⟩; have BQ := Lib.hid (BQ.out.trans (B6.out.mono BQ.out.size)); have z1 := kp BQ.out Z1.out; have z3 := kp BQ.out Z3.out; have z4 := kp BQ.out Z4.out; have y2 := kp BQ.out Y2C.out)
                          | ((with_reducible refine (EA.out _ _ (O5.out.rows rowL_len)).mono ?_); rintro _ w6 ⟨rfl, B6⟩; have BQ := Lib.hid (BQ.out.trans (B6.out.mono BQ.out.size)); have z1 := kp BQ.out Z1.out; have z3 := kp BQ.out Z3.out; have z4 := kp BQ.out Z4.out; have y2 := kp BQ.out Y2C.out))))
                  go_ret
                  exact ⟨rfl, Lib.hid (FIN.out _ BQ.out)⟩
                | true =>
                  have DR4 : Hid (chkP (ba + la) (m + (lb - la)) ((L.drop (j + 1)).map (·.1)) = r) := Lib.hid (by rw [← dr]; simp)
                  clear dr c3
                  go_wp2_with (first
                      | (go_at_call 49; (first
                          | ((with_reducible refine (SA.out _ BQ.out).mono ?_); rintro _ w5 ⟨v5, rfl, O5, B6⟩; have BQ := Lib.hid (BQ.out.trans (B6.out.mono BQ.out.size)); have z1 := kp BQ.out Z1.out; have z3 := kp BQ.out Z3.out; have z4 := kp BQ.out Z4.out; have y2 := kp BQ.out Y2C.out)
                          | ((with_reducible refine (SB.out _ BQ.out).mono ?_); rintro _ w7 ⟨v7, rfl, O7, B6⟩; have BQ := Lib.hid (BQ.out.trans (B6.out.mono BQ.out.size)); have z1 := kp BQ.out Z1.out; have z3 := kp BQ.out Z3.out; have z4 := kp BQ.out Z4.out; have y2 := kp BQ.out Y2C.out)))
                      | (go_at_call 48; (first
                          | ((with_reducible refine (EB.out _ _ (O7.out.rows rowL_len)).mono ?_); rintro _ w6 ⟨rfl, B6⟩; have BQ := Lib.hid (BQ.out.trans (B6.out.mono BQ.out.size)); have z1 := kp BQ.out Z1.out; have z3 := kp BQ.out Z3.out; have z4 := kp BQ.out Z4.out; have y2 := kp BQ.out Y2C.out)
                          | ((with_reducible refine (EA.out _ _ (O5.out.rows rowL_len)).mono ?_); rintro _ w6 ⟨rfl, B6⟩; have BQ := Lib.hid (BQ.out.trans (B6.out.mono BQ.out.size)); have z1 := kp BQ.out Z1.out; have z3 := kp BQ.out Z3.out; have z4 := kp BQ.out Z4.out; have y2 := kp BQ.out Y2C.out))))
                  go_roundw
                  case rel => exact ⟨j + 1, ba + la, m + (lb - la), by go_num, by go_num, by go_num, by omega, by omega, by omega, DR4, Lib.hid (B5.out.trans (BQ.out.mono B5.out.size))⟩
                  case measure => simp [intOf]; omega
    · obtain rfl : j = n := by omega
      have E : r = 0 := by rw [← HI.out, List.drop_eq_nil_of_le (by rw [HN.out]; exact Nat.le_refl _)]; rfl
      subst E
      go_wp2_with fail
      go_ret
      exact ⟨rfl, Lib.hid (B0.out.trans (BK.out.mono B0.out.size))⟩
set_option maxRecDepth 100000 in
set_option maxHeartbeats 8000000 in
theorem rcheck_any (old new : ByteArray) (L : List HV) (v : Value) (w : World) (hv : HksAt w v L) (hl : smallH L) :
    Calls Tryd.prog 21 #[.agg #[.string old, .string new, v]] w fun e w' => e = .returned (.int .i64 (chk (L.map (·.1)))) ∧ Hid (Below w.heap.size w w') := by
  obtain ⟨n, hn⟩ : ∃ n, L.length = n := ⟨_, rfl⟩
  have HN := Lib.hid hn
  have HV := Lib.hid hv
  have HS := Lib.hid hl
  obtain ⟨a, cap, rfl, c1, c2, hc⟩ := hv.rows.sl (n := n) (by rw [List.length_map]; exact hn)
  have HC := Lib.hid hc
  have hl1 := hl.1
  rw [hn] at hl1
  unfold maxLen at c2
  have B0 : Hid (Below w.heap.size w (w.alloc (.cells #[.string old, .string new, .slice a n cap] 24))) := Lib.hid ((Below.refl _ _).alloc (Nat.le_refl _) _)
  have N0 := heap_alloc_new w (.cells #[.string old, .string new, .slice a n cap] 24)
  have Y2 : Hid ((w.alloc (.cells #[.string old, .string new, .slice a n cap] 24)).cell? ⟨w.heap.size, 2, none⟩ = some (.slice a n cap)) := Lib.hid (blk_cellx N0 2 _ rfl)
  obtain ⟨r, hr⟩ : ∃ r, chk (L.map (·.1)) = r := ⟨_, rfl⟩
  have HR := Lib.hid hr
  rw [hr]
  have y2 := Y2.out
  clear hv hn hc hl N0 hr
  go_enter Tryd.func21, Tryd.ntmps21
  go_wp2_with fail
  clear y2
  go_loopw [3, 4, 5] (fun ee mm i wr => ∃ (j : Nat) (e m : Int), ee = .int .i64 e ∧ mm = .int .i64 m ∧ i = .int .i64 j ∧ j ≤ n ∧ (-1 ≤ e ∧ e ≤ 4294967296) ∧ (-1048576 * (j : Int) ≤ m ∧ m ≤ 1048576 * (j : Int)) ∧ Hid (chkP e m ((L.drop j).map (·.1)) = r) ∧ Hid (Below (w.alloc (.cells #[.string old, .string new, .slice a n cap] 24)).heap.size (w.alloc (.cells #[.string old, .string new, .slice a n cap] 24)) wr)) (fun _ _ i _ => n - (intOf i).toNat)
  case atStart => exact ⟨0, 0, 0, rfl, rfl, rfl, Nat.zero_le _, by omega, by omega, HR, Lib.hid (Below.refl _ _)⟩
  case round =>
    obtain ⟨j, e, m, rfl, rfl, rfl, hj, he, hm, HI, BK⟩ := hrel
    have BW := Lib.hid (B0.out.trans (BK.out.mono B0.out.size))
    have y2 := kp BK.out Y2.out
    by_cases hlt : j < n
    · obtain ⟨x, hx⟩ : ∃ x, L[j]? = some x := ⟨_, List.getElem?_eq_getElem (by rw [HN.out]; exact hlt)⟩
      have hmem := List.mem_of_getElem? hx
      rcases HC.out with h0 | ⟨g, o, rfl, -, hcc⟩
      · omega
      have m1 : (L.map rowH)[j]? = some (rowH x) := by rw [List.getElem?_map, hx]; rfl
      have d0 := kp BW.out (hcc j _ m1 0 _ rfl)
      have d1 := kp BW.out (hcc j _ m1 1 _ rfl)
      have d2 := kp BW.out (hcc j _ m1 2 _ rfl)
      have d3 := kp BW.out (hcc j _ m1 3 _ rfl)
      have d4 := kp BW.out (hcc j _ m1 4 _ rfl)
      rw [Nat.add_zero] at d0
      have HX := Lib.hid ((HV.out.each x hmem).below BW.out)
      have SX := Lib.hid (HS.out.2 x hmem)
      have DR : Hid (chkP e m (x.1 :: (L.drop (j + 1)).map (·.1)) = r) := Lib.hid (by rw [← HI.out, drop_get hx]; rfl)
      have LD : Hid (((L.drop (j + 1)).map (·.1)).length = n - (j + 1)) := Lib.hid (by rw [List.length_map, List.length_drop, HN.out])
      have p0 : (0 : Int) ≤ (j : Int) := by omega
      have p1 : (j : Int) < (n : Int) := by omega
      have p2 : IntKind.i64.wrap (j : Int) = (j : Int) := IntWalk.i64_in _ (by omega)
      obtain ⟨⟨fa, la, fb, lb, ls⟩, u⟩ := x
      simp only at d0 d1 d2 d3 d4 HX SX DR
      clear hcc m1 hx hmem HI
      obtain ⟨un, hun⟩ : ∃ n, ls.length = n := ⟨_, rfl⟩
      obtain ⟨ua, uc, rfl, -, -, -⟩ := HX.out.sl (n := un) (by rw [List.length_map]; exact hun)
      clear hun
      have NB := Lib.hid (heap_alloc_new wr (.cells #[.int .i64 fa, .int .i64 la, .int .i64 fb, .int .i64 lb, .slice ua un uc] 38))
      have BX := Lib.hid (BK.out.alloc BK.out.size (.cells #[.int .i64 fa, .int .i64 la, .int .i64 fb, .int .i64 lb, .slice ua un uc] 38))
      have BR := Lib.hid ((Below.refl wr.heap.size wr).alloc (Nat.le_refl _) (.cells #[.int .i64 fa, .int .i64 la, .int .i64 fb, .int .i64 lb, .slice ua un uc] 38))
      have HK := Lib.hid (shape_any ⟨fa, la, fb, lb, ls⟩ (.slice ua un uc) (wr.alloc (.cells #[.int .i64 fa, .int .i64 la, .int .i64 fb, .int .i64 lb, .slice ua un uc] 38)) (HX.out.below BR.out) SX.out.1 SX.out.2)
      have dr := DR.out
      rw [chkP_cons] at dr
      simp only at dr
      by_cases s0 : shapeE ⟨fa, la, fb, lb, ls⟩ = 0
      rotate_left
      · rw [if_pos s0] at dr
        rw [dr] at HK s0
        have t0 : (r != 0) = true := bne_iff_ne.2 s0
        clear dr DR s0
        go_wp2_with (go_at_call 50; refine HK.out.mono ?_; rintro _ w3 ⟨rfl, B3⟩)
        go_ret
        exact ⟨rfl, Lib.hid ((B0.out.trans (BX.out.mono B0.out.size)).trans (B3.out.mono (B0.out.trans (BX.out.mono B0.out.size)).size))⟩
      · rw [if_neg (fun q => q s0)] at dr
        obtain ⟨o1, o2, o3, o4, o5, o6⟩ := shape_ok s0
        try simp only at o1 o2 o3 o4 o5 o6
        rw [s0] at HK
        clear s0
        have SL2 := side_len 2 ls
        have SL3 := side_len 3 ls
        have SXL := SX.out.1
        try simp only at SXL
        have la0 : 0 ≤ la ∧ la ≤ 1048576 := by omega
        have lb0 : 0 ≤ lb ∧ lb ≤ 1048576 := by omega
        clear o1 o2 SL2 SL3 SXL
        have bd1 := begin_bd (n := la) o3 o4
        have bd2 := begin_bd (n := lb) o5 o6
        have CA := Lib.hid (fun W => rbegin_q fa la W (by omega) (by omega) (by omega))
        have CB := Lib.hid (fun W => rbegin_q fb lb W (by omega) (by omega) (by omega))
        obtain ⟨ba, hba⟩ : ∃ b, beginP fa la = b := ⟨_, rfl⟩
        obtain ⟨bb, hbb⟩ : ∃ b, beginP fb lb = b := ⟨_, rfl⟩
        rw [hba] at CA bd1 dr
        rw [hbb] at CB bd2 dr
        clear hba hbb
        have DR2 := Lib.hid dr
        clear dr DR
        go_wp2_with (go_at_call 50; refine HK.out.mono ?_; rintro _ w3 ⟨rfl, B3⟩)
        have B4 := Lib.hid (BR.out.trans (B3.out.mono BR.out.size))
        have B5 := Lib.hid (BX.out.trans (B3.out.mono BX.out.size))
        have NC := Lib.hid ((B3.out.block _ (by rw [World.size_alloc]; omega)).trans NB.out)
        have z0 : w3.cell? ⟨wr.heap.size, 0, none⟩ = some (.int .i64 fa) := blk_cellx NC.out 0 _ rfl
        have z1 : w3.cell? ⟨wr.heap.size, 1, none⟩ = some (.int .i64 la) := blk_cellx NC.out 1 _ rfl
        have z2 : w3.cell? ⟨wr.heap.size, 2, none⟩ = some (.int .i64 fb) := blk_cellx NC.out 2 _ rfl
        have z3 : w3.cell? ⟨wr.heap.size, 3, none⟩ = some (.int .i64 lb) := blk_cellx NC.out 3 _ rfl
        have S0 : w3.drew.cell? ⟨wr.heap.size, 0, none⟩ = some (.int .i64 fa) ∧ w3.drew.cell? ⟨wr.heap.size, 1, none⟩ = some (.int .i64 la) ∧ w3.drew.cell? ⟨wr.heap.size, 2, none⟩ = some (.int .i64 fb) ∧ w3.drew.cell? ⟨wr.heap.size, 3, none⟩ = some (.int .i64 lb) := ⟨z0, z1, z2, z3⟩
        go_quiet (first | exact Calls.quiet_of_same (CA.out _) | exact Calls.quiet_of_same (CB.out _))
        have BQ := Lib.hid (show Below w3.heap.size w3 (w3.drewN nq) from bel_dn w3 nq)
        have FIN := Lib.hid (fun W (hb : Below w3.heap.size w3 W) => (B0.out.trans (B5.out.mono B0.out.size)).trans (hb.mono (B0.out.trans (B5.out.mono B0.out.size)).size))
        have HX3 := Lib.hid (fun W (hb : Below w3.heap.size w3 W) => HX.out.below (B4.out.trans (hb.mono B4.out.size)))
        clear S0 CA CB z0 z2
        have z4 : w3.cell? ⟨wr.heap.size, 4, none⟩ = some (.slice ua un uc) := blk_cellx NC.out 4 _ rfl
        have y2 : w3.cell? ⟨w.heap.size, 2, none⟩ = some (.slice (some ⟨g, o, none⟩) n cap) := kp B5.out Y2.out
        have Z1 := Lib.hid z1
        have Z3 := Lib.hid z3
        have Z4 := Lib.hid z4
        have Y2C := Lib.hid y2
        have dr := DR2.out
        by_cases c1 : ba < e
        · have t1 : decide (ba < e) = true := decide_eq_true c1
          obtain rfl : r = 2 := by rw [← dr, if_pos (Or.inl c1)]
          clear dr DR2 c1
          go_wp2_with fail
          go_ret
          exact ⟨rfl, Lib.hid (FIN.out _ BQ.out)⟩
        · have t1 : decide (ba < e) = false := decide_eq_false c1
          by_cases c3 : bb = ba + m
          rotate_left
          · have t2 : (bb != ba + m) = true := bne_iff_ne.2 c3
            obtain rfl : r = 2 := by rw [← dr, if_pos (Or.inr c3)]
            clear dr DR2 c1 c3
            go_wp2_with fail
            go_ret
            exact ⟨rfl, Lib.hid (FIN.out _ BQ.out)⟩
          · have t2 : (bb != ba + m) = false := by rw [c3]; simp
            rw [if_neg (fun q => q.elim c1 (fun h => h c3))] at dr
            have DR3 := Lib.hid dr
            clear dr DR2 c1
            obtain ⟨last, hlast⟩ : ∃ b, decide ((L.drop (j + 1)).map (·.1) = []) = b := ⟨_, rfl⟩
            have HLA : Hid (last = decide (j + 1 = n)) := Lib.hid (by
              rw [← hlast]
              have h := LD.out
              by_cases hjn : j + 1 = n
              · rw [decide_eq_true hjn, List.eq_nil_of_length_eq_zero (l := (L.drop (j + 1)).map (·.1)) (by omega)]; rfl
              · rw [decide_eq_false hjn, decide_eq_false]
                intro e0
                rw [e0] at h
                simp at h
                omega)
            rw [hlast] at DR3
            clear hlast
            obtain ⟨s2, hs2⟩ : ∃ s, sideP 2 ls = s := ⟨_, rfl⟩
            obtain ⟨s3, hs3⟩ : ∃ s, sideP 3 ls = s := ⟨_, rfl⟩
            have SA := Lib.hid (fun W (hb : Below w3.heap.size w3 W) => part_any ls (.slice ua un uc) 2 W (HX3.out W hb) SX.out.1)
            have SB := Lib.hid (fun W (hb : Below w3.heap.size w3 W) => part_any ls (.slice ua un uc) 3 W (HX3.out W hb) SX.out.1)
            have L2 := Lib.hid (Nat.le_trans (side_len 2 ls) SX.out.1)
            have L3 := Lib.hid (Nat.le_trans (side_len 3 ls) SX.out.1)
            rw [hs2] at SA DR3 L2
            rw [hs3] at SB DR3 L3
            clear hs2 hs3
            obtain ⟨e2, he2⟩ : ∃ b, endsB last s2 = b := ⟨_, rfl⟩
            obtain ⟨e3, he3⟩ : ∃ b, endsB last s3 = b := ⟨_, rfl⟩
            have EA := Lib.hid (fun W v (h : RowsAt W v 2 (s2.map rowL)) => marks_any s2 v last W h L2.out)
            have EB := Lib.hid (fun W v (h : RowsAt W v 2 (s3.map rowL)) => marks_any s3 v last W h L3.out)
            rw [he2] at EA DR3
            rw [he3] at EB DR3
            clear he2 he3
            have dr := DR3.out
            clear DR3
            have mp : j + 1 ≤ n := hlt
            by_cases hjn : j + 1 = n
            · have t3 : ((j : Int) == (n : Int) - 1) = true := beq_iff_eq.2 (by omega)
              obtain rfl : last = true := by rw [HLA.out, decide_eq_true hjn]
              cases e2 with
              | false =>
                obtain rfl : r = 8 := by rw [← dr]; simp
                clear dr c3
                go_wp2_with (first
                    | (go_at_call 33; (first
                        | ((with_reducible refine (SA.out _ BQ.out).mono ?_); rintro _ w5 ⟨v5, rfl, O5, B6⟩; have BQ := Lib.hid (BQ.out.trans (B6.out.mono BQ.out.size)); have z1 := kp BQ.out Z1.out; have z3 := kp BQ.out Z3.out; have z4 := kp BQ.out Z4.out; have y2 := kp BQ.out Y2C.out)
                        | ((with_reducible refine (SB.out _ BQ.out).mono ?_); rintro _ w7 ⟨v7, rfl, O7, B6⟩; have BQ := Lib.hid (BQ.out.trans (B6.out.mono BQ.out.size)); have z1 := kp BQ.out Z1.out; have z3 := kp BQ.out Z3.out; have z4 := kp BQ.out Z4.out; have y2 := kp BQ.out Y2C.out)))
                    | (go_at_call 51; (first
                        | ((with_reducible refine (EB.out _ _ (O7.out.rows rowL_len)).mono ?_); rintro _ w6 ⟨rfl, h6⟩; replace h6 := h6.symm; subst h6)
                        | ((with_reducible refine (EA.out _ _ (O5.out.rows rowL_len)).mono ?_); rintro _ w6 ⟨rfl, h6⟩; replace h6 := h6.symm; subst h6))))
                go_ret
                exact ⟨rfl, Lib.hid (FIN.out _ BQ.out)⟩
              | true =>
                cases e3 with
                | false =>
                  obtain rfl : r = 8 := by rw [← dr]; simp
                  clear dr c3
                  go_wp2_with (first
                      | (go_at_call 33; (first
                          | ((with_reducible refine (SA.out _ BQ.out).mono ?_); rintro _ w5 ⟨v5, rfl, O5, B6⟩; have BQ := Lib.hid (BQ.out.trans (B6.out.mono BQ.out.size)); have z1 := kp BQ.out Z1.out; have z3 := kp BQ.out Z3.out; have z4 := kp BQ.out Z4.out; have y2 := kp BQ.out Y2C.out)
                          | ((with_reducible refine (SB.out _ BQ.out).mono ?_); rintro _ w7 ⟨v7, rfl, O7, B6⟩; have BQ := Lib.hid (BQ.out.trans (B6.out.mono BQ.out.size)); have z1 := kp BQ.out Z1.out; have z3 := kp BQ.out Z3.out; have z4 := kp BQ.out Z4.out; have y2 := kp BQ.out Y2C.out)))
                      | (go_at_call 51; (first
                          | ((with_reducible refine (EB.out _ _ (O7.out.rows rowL_len)).mono ?_); rintro _ w6 ⟨rfl, h6⟩; replace h6 := h6.symm; subst h6)
                          | ((with_reducible refine (EA.out _ _ (O5.out.rows rowL_len)).mono ?_); rintro _ w6 ⟨rfl, h6⟩; replace h6 := h6.symm; subst h6))))
                  go_ret
                  exact ⟨rfl, Lib.hid (FIN.out _ BQ.out)⟩
                | true =>
                  have DR4 : Hid (chkP (ba + la) (m + (lb - la)) ((L.drop (j + 1)).map (·.1)) = r) := Lib.hid (by rw [← dr]; simp)
                  clear dr c3
                  go_wp2_with (first
                      | (go_at_call 33; (first
                          | ((with_reducible refine (SA.out _ BQ.out).mono ?_); rintro _ w5 ⟨v5, rfl, O5, B6⟩; have BQ := Lib.hid (BQ.out.trans (B6.out.mono BQ.out.size)); have z1 := kp BQ.out Z1.out; have z3 := kp BQ.out Z3.out; have z4 := kp BQ.out Z4.out; have y2 := kp BQ.out Y2C.out)
                          | ((with_reducible refine (SB.out _ BQ.out).mono ?_); rintro _ w7 ⟨v7, rfl, O7, B6⟩; have BQ := Lib.hid (BQ.out.trans (B6.out.mono BQ.out.size)); have z1 := kp BQ.out Z1.out; have z3 := kp BQ.out Z3.out; have z4 := kp BQ.out Z4.out; have y2 := kp BQ.out Y2C.out)))
                      | (go_at_call 51; (first
                          | ((with_reducible refine (EB.out _ _ (O7.out.rows rowL_len)).mono ?_); rintro _ w6 ⟨rfl, h6⟩; replace h6 := h6.symm; subst h6)
                          | ((with_reducible refine (EA.out _ _ (O5.out.rows rowL_len)).mono ?_); rintro _ w6 ⟨rfl, h6⟩; replace h6 := h6.symm; subst h6))))
                  go_roundw
                  case rel => exact ⟨j + 1, ba + la, m + (lb - la), by go_num, by go_num, by go_num, by omega, by omega, by omega, DR4, Lib.hid (B5.out.trans (BQ.out.mono B5.out.size))⟩
                  case measure => simp [intOf]; omega
            · have t3 : ((j : Int) == (n : Int) - 1) = false := beq_eq_false_iff_ne.2 (by omega)
              obtain rfl : last = false := by rw [HLA.out, decide_eq_false hjn]
              cases e2 with
              | false =>
                obtain rfl : r = 8 := by rw [← dr]; simp
                clear dr c3
                go_wp2_with (first
                    | (go_at_call 33; (first
                        | ((with_reducible refine (SA.out _ BQ.out).mono ?_); rintro _ w5 ⟨v5, rfl, O5, B6⟩; have BQ := Lib.hid (BQ.out.trans (B6.out.mono BQ.out.size)); have z1 := kp BQ.out Z1.out; have z3 := kp BQ.out Z3.out; have z4 := kp BQ.out Z4.out; have y2 := kp BQ.out Y2C.out)
                        | ((with_reducible refine (SB.out _ BQ.out).mono ?_); rintro _ w7 ⟨v7, rfl, O7, B6⟩; have BQ := Lib.hid (BQ.out.trans (B6.out.mono BQ.out.size)); have z1 := kp BQ.out Z1.out; have z3 := kp BQ.out Z3.out; have z4 := kp BQ.out Z4.out; have y2 := kp BQ.out Y2C.out)))
                    | (go_at_call 51; (first
                        | ((with_reducible refine (EB.out _ _ (O7.out.rows rowL_len)).mono ?_); rintro _ w6 ⟨rfl, h6⟩; replace h6 := h6.symm; subst h6)
                        | ((with_reducible refine (EA.out _ _ (O5.out.rows rowL_len)).mono ?_); rintro _ w6 ⟨rfl, h6⟩; replace h6 := h6.symm; subst h6))))
                go_ret
                exact ⟨rfl, Lib.hid (FIN.out _ BQ.out)⟩
              | true =>
                cases e3 with
                | false =>
                  obtain rfl : r = 8 := by rw [← dr]; simp
                  clear dr c3
                  go_wp2_with (first
                      | (go_at_call 33; (first
                          | ((with_reducible refine (SA.out _ BQ.out).mono ?_); rintro _ w5 ⟨v5, rfl, O5, B6⟩; have BQ := Lib.hid (BQ.out.trans (B6.out.mono BQ.out.size)); have z1 := kp BQ.out Z1.out; have z3 := kp BQ.out Z3.out; have z4 := kp BQ.out Z4.out; have y2 := kp BQ.out Y2C.out)
                          | ((with_reducible refine (SB.out _ BQ.out).mono ?_); rintro _ w7 ⟨v7, rfl, O7, B6⟩; have BQ := Lib.hid (BQ.out.trans (B6.out.mono BQ.out.size)); have z1 := kp BQ.out Z1.out; have z3 := kp BQ.out Z3.out; have z4 := kp BQ.out Z4.out; have y2 := kp BQ.out Y2C.out)))
                      | (go_at_call 51; (first
                          | ((with_reducible refine (EB.out _ _ (O7.out.rows rowL_len)).mono ?_); rintro _ w6 ⟨rfl, h6⟩; replace h6 := h6.symm; subst h6)
                          | ((with_reducible refine (EA.out _ _ (O5.out.rows rowL_len)).mono ?_); rintro _ w6 ⟨rfl, h6⟩; replace h6 := h6.symm; subst h6))))
                  go_ret
                  exact ⟨rfl, Lib.hid (FIN.out _ BQ.out)⟩
                | true =>
                  have DR4 : Hid (chkP (ba + la) (m + (lb - la)) ((L.drop (j + 1)).map (·.1)) = r) := Lib.hid (by rw [← dr]; simp)
                  clear dr c3
                  go_wp2_with (first
                      | (go_at_call 33; (first
                          | ((with_reducible refine (SA.out _ BQ.out).mono ?_); rintro _ w5 ⟨v5, rfl, O5, B6⟩; have BQ := Lib.hid (BQ.out.trans (B6.out.mono BQ.out.size)); have z1 := kp BQ.out Z1.out; have z3 := kp BQ.out Z3.out; have z4 := kp BQ.out Z4.out; have y2 := kp BQ.out Y2C.out)
                          | ((with_reducible refine (SB.out _ BQ.out).mono ?_); rintro _ w7 ⟨v7, rfl, O7, B6⟩; have BQ := Lib.hid (BQ.out.trans (B6.out.mono BQ.out.size)); have z1 := kp BQ.out Z1.out; have z3 := kp BQ.out Z3.out; have z4 := kp BQ.out Z4.out; have y2 := kp BQ.out Y2C.out)))
                      | (go_at_call 51; (first
                          | ((with_reducible refine (EB.out _ _ (O7.out.rows rowL_len)).mono ?_); rintro _ w6 ⟨rfl, h6⟩; replace h6 := h6.symm; subst h6)
                          | ((with_reducible refine (EA.out _ _ (O5.out.rows rowL_len)).mono ?_); rintro _ w6 ⟨rfl, h6⟩; replace h6 := h6.symm; subst h6))))
                  go_roundw
                  case rel => exact ⟨j + 1, ba + la, m + (lb - la), by go_num, by go_num, by go_num, by omega, by omega, by omega, DR4, Lib.hid (B5.out.trans (BQ.out.mono B5.out.size))⟩
                  case measure => simp [intOf]; omega
    · obtain rfl : j = n := by omega
      have E : r = 0 := by rw [← HI.out, List.drop_eq_nil_of_le (by rw [HN.out]; exact Nat.le_refl _)]; rfl
      subst E
      go_wp2_with fail
      go_ret
      exact ⟨rfl, Lib.hid (B0.out.trans (BK.out.mono B0.out.size))⟩
end Go.Proofs.YtnkpigibjicmaaaDoor
