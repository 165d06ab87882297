/- walks: the reference's Print (written by gen_jk.py) -/
import Derived.Test.YtlhagpfpcdedpaaDoorJg
namespace Go.Proofs.YtlhagpfpcdedpaaDoor
open Go.RowKit
open Shp
theorem moreT_le (l : List Pl) (k : Nat) : (scP (l.take k)).length ≤ (scP l).length := by
  cases l with
  | nil => simp
  | cons p l =>
    cases k with
    | zero => simp [scP]
    | succ k =>
      rw [List.take_succ_cons]
      show (plT p ++ moreT (l.take k)).length ≤ (plT p ++ moreT l).length
      have : (moreT (l.take k)).length ≤ (moreT l).length := by
        conv => rhs; rw [← List.take_append_drop k l]
        unfold moreT
        rw [List.flatMap_append, List.length_append]; omega
      simp only [List.length_append]; omega
theorem cmsT_le (l : List Cm) (k : Nat) : (cmsT (l.take k)).length ≤ (cmsT l).length := by
  cases l with
  | nil => simp
  | cons p l =>
    cases k with
    | zero => simp [cmsT]
    | succ k =>
      rw [List.take_succ_cons]
      show (cmT p ++ barsT (l.take k)).length ≤ (cmT p ++ barsT l).length
      have : (barsT (l.take k)).length ≤ (barsT l).length := by
        conv => rhs; rw [← List.take_append_drop k l]
        unfold barsT
        rw [List.flatMap_append, List.length_append]; omega
      simp only [List.length_append]; omega
theorem chk_mem {l : List Pl} (h : chk l = 0) {x : Pl} (hx : x ∈ l) : x.cmds.all okC = true := by
  unfold chk at h
  split at h
  · cases h
  · have key : ∀ (l : List Pl) (f : Bool), chkL f l = 0 → x ∈ l → x.cmds.all okC = true := by
      intro l
      induction l with
      | nil => intro f _ h; cases h
      | cons p l ih =>
        intro f h hx
        unfold chkL at h
        split at h
        · rename_i hp
          rcases List.mem_cons.1 hx with rfl | hx
          · exact (chkP_ok hp).2.2.2.2.2
          · exact ih false h hx
        · rename_i hp; exact absurd h hp
    exact key l true h hx
theorem bel_to {w w1 w2 : World} (h : Below w.heap.size w w1) (e : SameW w1 w2) : Below w.heap.size w w2 := ⟨e.2.1.trans h.os, e.2.2.1.trans h.tape, e.2.2.2.trans h.output, by rw [e.1]; exact h.size, fun i hi => by rw [e.1]; exact h.block i hi⟩
theorem bel_call2 {w W W' w1 : World} (B : Below W'.heap.size W' w1) (h : Below w.heap.size w W) (e : SameW W W' := by exact ⟨rfl, rfl, rfl, rfl⟩) : Below w.heap.size w w1 := h.trans ((bel_eqw B e).mono h.size)
theorem hab2 {W W' w1 : World} {v : Obj} {n : Nat} (B : Below W'.heap.size W' w1) (h : W.heap[n]? = some v) (e : SameW W W' := by exact ⟨rfl, rfl, rfl, rfl⟩) : w1.heap[n]? = some v := hab B (by rw [e.1]; exact h)
theorem bd_app {a b : List UInt8} {n : Nat} (h : (a ++ b).length ≤ n) : a.length + b.length ≤ n := by rw [List.length_append] at h; exact h
set_option maxRecDepth 100000 in
set_option maxHeartbeats 8000000 in
theorem rprint_any (l : List Pl) (v : Value) (w : World) (h : PlsD w v l) (hz : SzL l) (hl : (scT l).length ≤ 17592186044416) {tx : ByteArray} {er : Int} (hr : Hid (ByteArray.mk (prR l).1.toArray = tx ∧ (prR l).2 = er)) :
    Calls Tryd.prog 16 #[.agg #[v]] w fun e w' => e = .returned (.tuple #[.string tx, .int .i64 er]) ∧ Hid (Below w.heap.size w w') := by
  obtain ⟨a, cap, rfl, l1, l2⟩ := h.slice
  obtain ⟨n, hn⟩ : ∃ n, l.length = n := ⟨_, rfl⟩
  rw [hn] at h l1 ⊢
  have HN := Lib.hid hn
  have NL : n ≤ 9223372036854775807 := by unfold maxLen at l2; omega
  have B0 := Lib.hid ((Below.refl w.heap.size w).alloc (Nat.le_refl _) (.cells #[.slice a n cap] 24))
  have D1 := Lib.hid (h.below B0.out)
  have HZ := Lib.hid hz
  have HLT := Lib.hid hl
  have BX0 : Hid ((w.alloc (.cells #[.slice a n cap] 24)).cell? ⟨w.heap.size, 0, none⟩ = some (.slice a n cap)) := Lib.hid (blk_cell (heap_alloc_new w _) 0)
  obtain ⟨ch, hch⟩ : ∃ c, chk l = c := ⟨_, rfl⟩
  have CH := Lib.hid hch
  clear l1 l2 hn h hz hch hl
  by_cases hc0 : ch = 0
  · subst hc0
    go_enter Tryd.func16, Tryd.ntmps16
    go_wp2_with (go_at_call 18; refine (rcheck_any l (.slice a n cap) _ D1.out CH).mono ?_; rintro _ w1 ⟨rfl, B1⟩; have bx1 := kp B1.out BX0.out)
    go_loopw [5, 6] (fun v i wr => ∃ (k : Nat) (o : ByteArray), k ≤ n ∧ v = .string o ∧ i = .int .i64 k ∧ Hid (o.data.toList = scP (l.take k)) ∧ Hid (Below (w.alloc (.cells #[.slice a n cap] 24)).heap.size (w.alloc (.cells #[.slice a n cap] 24)) wr)) (fun _ i _ => n - (intOf i).toNat)
    case atStart => exact ⟨0, ⟨#[]⟩, Nat.zero_le _, rfl, rfl, Lib.hid (by simp [scP]), B1⟩
    case round =>
      obtain ⟨k, o, hk, rfl, rfl, HO, BK⟩ := hrel
      have bx := kp BK.out BX0.out
      clear bx1
      by_cases hlt : k < n
      · obtain ⟨x, hx⟩ : ∃ x, l[k]? = some x := ⟨_, List.getElem?_eq_getElem (by rw [HN.out]; exact hlt)⟩
        have HX := Lib.hid hx
        obtain ⟨g, ob, rr, rfl, D, hc⟩ := D1.out.at hx
        obtain ⟨pa, nc, ca, rfl, hnc, nl, DC⟩ := D.parts
        have s0 := kp BK.out (hc 0 _ rfl)
        have s1 := kp BK.out (hc 1 _ rfl)
        have s2 := kp BK.out (hc 2 _ rfl)
        rw [Nat.add_zero] at s0
        obtain ⟨no, hno⟩ : ∃ t, x.no = t := ⟨_, rfl⟩
        obtain ⟨cn, hcn⟩ : ∃ t, x.conn = t := ⟨_, rfl⟩
        rw [hno] at s1
        rw [hcn] at s2
        have HC : Hid (x.conn = cn ∧ x.cmds.length = nc ∧ x.no = no) := Lib.hid ⟨hcn, hnc, hno⟩
        have DC := Lib.hid DC
        have BX := Lib.hid (BK.out.alloc BK.out.size (.cells #[.slice pa nc ca, .bool no, .int .i64 cn] 34))
        have HB8 : Hid ((wr.alloc (.cells #[.slice pa nc ca, .bool no, .int .i64 cn] 34)).heap[wr.heap.size]? = some (.cells #[.slice pa nc ca, .bool no, .int .i64 cn] 34 (0, 0))) := Lib.hid (heap_alloc_new wr _)
        have TOT : Hid ((scP (l.take k) ++ sepT k cn ++ noT no ++ cmsT x.cmds).length ≤ 17592186044416) := Lib.hid (by
          have h1 := moreT_le l (k + 1)
          rw [scP_more HX.out, HC.out.1, HC.out.2.2] at h1
          have h2 := HLT.out
          unfold scT at h2
          rw [List.length_append] at h2
          omega)
        have OS : o.size + (sepT k cn).length + (noT no).length ≤ 17592186044416 := by
          have := TOT.out
          rw [size_of HO.out]
          simp only [List.length_append] at this
          omega
        obtain ⟨gx, hgx⟩ : ∃ gx, wr.heap.size = gx := ⟨_, rfl⟩
        have HGX := Lib.hid hgx
        have e2 := blk_cell HB8.out 2
        have e1 := blk_cell HB8.out 1
        simp only [List.getElem?_toArray, List.getElem?_cons_zero, List.getElem?_cons_succ] at e1 e2
        clear hc hx hno hcn hnc D hgx
        go_upto_region 9 with (fail)
        go_cut [27] from 14 to 55 (fun u w' => u = .bool (decide (0 < k)) ∧ Hid (SameW (wr.alloc (.cells #[.slice pa nc ca, .bool no, .int .i64 cn] 34)) w'))
        · go_wp2_with (fail)
          repeat (go_region; go_wp2_with (fail))
          go_meet
          case rel => exact ⟨rfl, Lib.hid (by exact ⟨rfl, rfl, rfl, rfl⟩)⟩
        obtain ⟨rfl, E9⟩ := hcut
        refine ‹∀ (a : Act) (w : World), Code.wp _ _ _ a w → _› _ _ ?_
        go_cut [5] from 14 to 55 (fun u w' => ∃ o1 : ByteArray, u = .string o1 ∧ Hid (o1.data.toList = scP (l.take k) ++ sepT k cn) ∧ Hid (SameW (wr.alloc (.cells #[.slice pa nc ca, .bool no, .int .i64 cn] 34)) w'))
        · by_cases hk0 : k = 0
          · subst hk0
            go_wp2_with fail
            go_meet
            case rel => exact ⟨o, rfl, Lib.hid (by rw [HO.out]; simp [sepT]), E9⟩
          · have k0 : 0 < k := by omega
            have SE : Hid (sepT k cn = btw cn) := Lib.hid (if_neg hk0)
            obtain ⟨bt, hbt⟩ : ∃ bt, ByteArray.mk (btw cn).toArray = bt := ⟨_, rfl⟩
            have HBT := Lib.hid hbt
            have BS : o.size + bt.size ≤ 17592186044416 := by
              have e : bt.size = (btw cn).length := by rw [← hbt]; rfl
              rw [SE.out] at OS
              omega
            have f2 := E9.out.cell ⟨wr.heap.size, 2, none⟩
            rw [e2] at f2
            have HD : Hid ((o ++ bt).data.toList = scP (l.take k) ++ sepT k cn) := Lib.hid (by rw [SE.out, ← hbt]; simp [HO.out])
            clear hk0 hbt
            go_wp2_with ((go_at_call 39; refine (btw_is cn _ HBT).mono ?_; rintro _ _ ⟨rfl, rfl⟩))
            repeat (go_region; go_wp2_with ((go_at_call 39; refine (btw_is cn _ HBT).mono ?_; rintro _ _ ⟨rfl, rfl⟩)))
            go_meet
            case rel => exact ⟨_, rfl, HD, Lib.hid (same_trans E9.out (by exact ⟨rfl, rfl, rfl, rfl⟩))⟩
        obtain ⟨o1, rfl, HO1, E10⟩ := hcut
        clear E9
        refine ‹∀ (a : Act) (w : World), Code.wp _ _ _ a w → _› _ _ ?_
        have f1 := E10.out.cell ⟨wr.heap.size, 1, none⟩
        rw [e1] at f1
        go_upto_region 11 with (fail)
        go_cut [34] from 14 to 55 (fun u w' => u = .bool no ∧ Hid (SameW (wr.alloc (.cells #[.slice pa nc ca, .bool no, .int .i64 cn] 34)) w'))
        · go_wp2_with (fail)
          repeat (go_region; go_wp2_with (fail))
          go_meet
          case rel => exact ⟨rfl, Lib.hid (same_trans E10.out (by exact ⟨rfl, rfl, rfl, rfl⟩))⟩
        obtain ⟨rfl, E11⟩ := hcut
        refine ‹∀ (a : Act) (w : World), Code.wp _ _ _ a w → _› _ _ ?_
        have OS1 : o1.size + 2 ≤ 17592186044420 := by
          have := TOT.out
          rw [size_of HO1.out]
          simp only [List.length_append] at this ⊢
          omega
        go_cut [5] from 14 to 55 (fun u w' => ∃ o2 : ByteArray, u = .string o2 ∧ Hid (o2.data.toList = scP (l.take k) ++ sepT k cn ++ noT no) ∧ Hid (SameW (wr.alloc (.cells #[.slice pa nc ca, .bool no, .int .i64 cn] 34)) w'))
        · cases no with
          | true =>
            have HD : Hid ((o1 ++ ByteArray.mk #[33, 32]).data.toList = scP (l.take k) ++ sepT k cn ++ noT true) := Lib.hid (by simp [HO1.out, noT])
            go_wp2_with (fail)
            repeat (go_region; go_wp2_with (fail))
            go_meet
            case rel => exact ⟨_, rfl, HD, Lib.hid (same_trans E11.out (by exact ⟨rfl, rfl, rfl, rfl⟩))⟩
          | false =>
            go_wp2_with fail
            go_meet
            case rel => exact ⟨o1, rfl, Lib.hid (by rw [HO1.out]; simp [noT]), E11⟩
        obtain ⟨o2, rfl, HO2, E12⟩ := hcut
        clear E10 E11 f1 OS1 e1 e2
        refine ‹∀ (a : Act) (w : World), Code.wp _ _ _ a w → _› _ _ ?_
        have B12 := Lib.hid (bel_to BX.out E12.out)
        have HB12 : Hid (wc.heap[gx]? = some (.cells #[.slice pa nc ca, .bool no, .int .i64 cn] 34 (0, 0))) := Lib.hid (by rw [E12.out.1, ← HGX.out]; exact HB8.out)
        rw [HGX.out]
        go_wp2_with fail
        go_loopw [5, 8] (fun v i wx => ∃ (j : Nat) (o3 : ByteArray), j ≤ nc ∧ v = .string o3 ∧ i = .int .i64 j ∧ Hid (o3.data.toList = scP (l.take k) ++ sepT k cn ++ noT no ++ cmsT (x.cmds.take j)) ∧ Hid (Below (w.alloc (.cells #[.slice (some ⟨g, ob, none⟩) n cap] 24)).heap.size (w.alloc (.cells #[.slice (some ⟨g, ob, none⟩) n cap] 24)) wx) ∧ Hid (wx.heap[gx]? = some (.cells #[.slice pa nc ca, .bool no, .int .i64 cn] 34 (0, 0)))) (fun _ i _ => nc - (intOf i).toNat)
        case atStart => exact ⟨0, o2, Nat.zero_le _, rfl, rfl, Lib.hid (by rw [HO2.out]; simp [cmsT]), (by first | exact B12 | exact Lib.hid B12.out.drew), HB12⟩
        case round =>
          obtain ⟨j, o3, hj, rfl, rfl, HO3, BJ, HBJ⟩ := hrel
          have d0 := blk_cell HBJ.out 0
          simp only [List.getElem?_toArray, List.getElem?_cons_zero] at d0
          clear B12 HB12 E12 HB8
          by_cases hjt : j < nc
          · obtain ⟨c, hc⟩ : ∃ c, x.cmds[j]? = some c := ⟨_, List.getElem?_eq_getElem (by rw [HC.out.2.1]; exact hjt)⟩
            have HCJ := Lib.hid hc
            obtain ⟨g3, o3b, r3, rfl, D3, hc3⟩ := DC.out.at hc
            obtain ⟨u, p1, p2, m1, m2, k1, k2, z, rfl, u1, u2, u3, u4, R1, R2⟩ := D3.parts
            have t0 := kp BJ.out (hc3 0 _ rfl)
            have t1 := kp BJ.out (hc3 1 _ rfl)
            have t2 := kp BJ.out (hc3 2 _ rfl)
            have t3 := kp BJ.out (hc3 3 _ rfl)
            rw [Nat.add_zero] at t0
            have HU := Lib.hid u1
            have HM1 := Lib.hid u2
            have HM2 := Lib.hid u3
            have R1x := Lib.hid (R1.below BJ.out)
            have R2x := Lib.hid (R2.below BJ.out)
            have R1y := Lib.hid (R1.below BJ.out.drew)
            have R2y := Lib.hid (R2.below BJ.out.drew)
            have SZC := Lib.hid (HZ.out x (List.mem_of_getElem? HX.out) c (List.mem_of_getElem? HCJ.out))
            have NXT : Hid ((scP (l.take k) ++ sepT k cn ++ noT no ++ cmsT (x.cmds.take j) ++ barT j ++ cmT c).length ≤ 17592186044416) := Lib.hid (by
              have h1 := TOT.out
              have h2 := cmsT_le x.cmds (j + 1)
              rw [cmsT_more HCJ.out] at h2
              unfold cmT
              simp only [List.length_append] at h1 h2 ⊢
              omega)
            have LTC : Hid ((cmT c).length ≤ 17592186044416) := Lib.hid (by have := NXT.out; simp only [List.length_append] at this; omega)
            have OKC : Hid (okC c = true) := Lib.hid (by
              have e := CH.out
              have hp := chk_mem e (List.mem_of_getElem? HX.out)
              exact List.all_eq_true.1 hp c (List.mem_of_getElem? HCJ.out))
            obtain ⟨xt, hxt⟩ : ∃ xt, ByteArray.mk (cmT c).toArray = xt := ⟨_, rfl⟩
            have HX2 : Hid (xt.data.toList = cmT c) := Lib.hid (by rw [← hxt])
            have TJ : Hid (scP (l.take k) ++ sepT k cn ++ noT no ++ cmsT (x.cmds.take (j + 1)) = scP (l.take k) ++ sepT k cn ++ noT no ++ cmsT (x.cmds.take j) ++ barT j ++ cmT c) := Lib.hid (by
              rw [cmsT_more HCJ.out]; unfold cmT; simp)
            have OS3 : o3.size + (barT j).length + xt.size ≤ 17592186044416 := by
              have := NXT.out
              rw [size_of HO3.out, size_of HX2.out]
              simp only [List.length_append] at this ⊢
              omega
            clear hc hc3 D3 u1 u2 u3 u4 hxt R1 R2
            by_cases hj0 : j = 0
            · subst hj0
              have HD : Hid ((o3 ++ xt).data.toList = scP (l.take k) ++ sepT k cn ++ noT no ++ cmsT (x.cmds.take (0 + 1))) := Lib.hid (by rw [TJ.out]; simp [HO3.out, HX2.out, barT])
              simp only [Nat.zero_mul, Nat.add_zero] at t0 t1 t2 t3
              go_wp2_with ((go_at_call 40; refine (printcmd_any c u p1 p2 m1 k1 m2 k2 z _ HU HM1 HM2 (by first | exact R1x | exact R1y) (by first | exact R2x | exact R2y) SZC LTC OKC.out HX2).mono ?_; rintro _ w5 ⟨rfl, B5⟩))
              repeat (go_region; go_wp2_with ((go_at_call 40; refine (printcmd_any c u p1 p2 m1 k1 m2 k2 z _ HU HM1 HM2 (by first | exact R1x | exact R1y) (by first | exact R2x | exact R2y) SZC LTC OKC.out HX2).mono ?_; rintro _ w5 ⟨rfl, B5⟩)))
              go_roundw
              case rel => exact ⟨1, _, by omega, rfl, by go_num, HD, Lib.hid (bel_call2 B5.out BJ.out), Lib.hid (hab2 B5.out HBJ.out)⟩
              case measure => simp [intOf]; omega
            · have j0 : 0 < j := by omega
              have BA : Hid (barT j = [32, 124, 32]) := Lib.hid (if_neg hj0)
              have OS4 : o3.size + 3 + xt.size ≤ 17592186044416 := by rw [BA.out] at OS3; simpa using OS3
              have HD : Hid ((o3 ++ ByteArray.mk #[32, 124, 32] ++ xt).data.toList = scP (l.take k) ++ sepT k cn ++ noT no ++ cmsT (x.cmds.take (j + 1))) := Lib.hid (by rw [TJ.out, BA.out]; simp [HO3.out, HX2.out])
              clear hj0 OS3
              go_wp2_with ((go_at_call 40; refine (printcmd_any c u p1 p2 m1 k1 m2 k2 z _ HU HM1 HM2 (by first | exact R1x | exact R1y) (by first | exact R2x | exact R2y) SZC LTC OKC.out HX2).mono ?_; rintro _ w5 ⟨rfl, B5⟩))
              repeat (go_region; go_wp2_with ((go_at_call 40; refine (printcmd_any c u p1 p2 m1 k1 m2 k2 z _ HU HM1 HM2 (by first | exact R1x | exact R1y) (by first | exact R2x | exact R2y) SZC LTC OKC.out HX2).mono ?_; rintro _ w5 ⟨rfl, B5⟩)))
              go_roundw
              case rel => exact ⟨j + 1, _, by omega, rfl, by go_num, HD, Lib.hid (bel_call2 B5.out BJ.out), Lib.hid (hab2 B5.out HBJ.out)⟩
              case measure => simp [intOf]; omega
          · have TC : Hid (o3.data.toList = scP (l.take (k + 1))) := Lib.hid (by
              have := HO3.out
              rw [List.take_of_length_le (l := x.cmds) (by rw [HC.out.2.1]; omega)] at this
              rw [scP_more HX.out, HC.out.1, HC.out.2.2]; exact this)
            go_wp2_with (fail)
            repeat (go_region; go_wp2_with (fail))
            go_roundw
            case rel => exact ⟨k + 1, o3, by omega, rfl, by go_num, TC, (by first | exact BJ | exact Lib.hid BJ.out.drew)⟩
            case measure => simp [intOf]; omega
      · have TL : Hid (o.data.toList = scP l) := Lib.hid (by have := HO.out; rw [List.take_of_length_le (by rw [HN.out]; omega)] at this; exact this)
        obtain ⟨t, ht⟩ : ∃ t, scT l = t := ⟨_, rfl⟩
        have HT := Lib.hid ht
        have TB : t.length ≤ 17592186044416 := by rw [← ht]; exact HLT.out
        clear ht
        by_cases hn0 : n = 0
        · subst hn0
          have l0 : l = [] := List.length_eq_zero_iff.1 HN.out
          have OE : Hid (o = ⟨#[]⟩) := Lib.hid (by have := bytes_of TL.out; rw [this, l0]; rfl)
          have PR : Hid (prR l = ([], 0)) := Lib.hid (by unfold prR; rw [CH.out, l0]; rfl)
          obtain rfl : tx = ⟨#[]⟩ := by rw [← hr.out.1, PR.out]
          obtain rfl : er = 0 := by rw [← hr.out.2, PR.out]
          obtain rfl := OE.out
          clear l0
          go_wp2_with (fail)
          repeat (go_region; go_wp2_with (fail))
          go_ret2
          exact ⟨rfl, Lib.hid (B0.out.trans (BK.out.mono B0.out.size))⟩
        · have n0 : 0 < n := by omega
          have TE : Hid ((o ++ ByteArray.mk #[10]).data.toList = t) := Lib.hid (by
            rw [← HT.out]
            unfold scT
            rw [if_neg (fun e => hn0 (by rw [← HN.out, e]; rfl))]
            simp [TL.out])
          have SZT : o.size + 1 = t.length := by
            have := size_of TE.out
            rw [ByteArray.size_append] at this
            exact this
          clear hn0
          by_cases h8 : 8192 < t.length
          · have PR : Hid (prR l = ([], 3)) := Lib.hid (by unfold prR; rw [CH.out, HT.out, if_pos rfl, if_pos h8])
            obtain rfl : tx = ⟨#[]⟩ := by rw [← hr.out.1, PR.out]
            obtain rfl : er = 3 := by rw [← hr.out.2, PR.out]
            have h9 : 8192 < o.size + 1 := by omega
            go_wp2_with (fail)
            repeat (go_region; go_wp2_with (fail))
            go_ret2
            exact ⟨rfl, Lib.hid (B0.out.trans (BK.out.mono B0.out.size))⟩
          · have PR : Hid (prR l = (t, 0)) := Lib.hid (by unfold prR; rw [CH.out, HT.out, if_pos rfl, if_neg h8])
            obtain rfl : tx = o ++ ByteArray.mk #[10] := by rw [← hr.out.1, PR.out, ← bytes_of TE.out]
            obtain rfl : er = 0 := by rw [← hr.out.2, PR.out]
            have h9 : ¬ 8192 < o.size + 1 := by omega
            go_wp2_with (fail)
            repeat (go_region; go_wp2_with (fail))
            go_ret2
            exact ⟨rfl, Lib.hid (B0.out.trans (BK.out.mono B0.out.size))⟩
  · have PR : Hid (prR l = ([], ch)) := Lib.hid (by unfold prR; rw [CH.out, if_neg hc0])
    obtain rfl : tx = ⟨#[]⟩ := by rw [← hr.out.1, PR.out]
    obtain rfl : er = ch := by rw [← hr.out.2, PR.out]
    have t0 : (er == 0) = false := by rw [beq_eq_false_iff_ne]; exact hc0
    have t1 : (er != 0) = true := by rw [bne, t0]; rfl
    clear hc0 hr
    go_enter Tryd.func16, Tryd.ntmps16
    go_wp2_with (go_at_call 18; refine (rcheck_any l (.slice a n cap) _ D1.out CH).mono ?_; rintro _ w1 ⟨rfl, B1⟩; have bx1 := kp B1.out BX0.out)
    go_ret2
    exact ⟨rfl, Lib.hid (B0.out.trans (B1.out.mono B0.out.size))⟩
end Go.Proofs.YtlhagpfpcdedpaaDoor
