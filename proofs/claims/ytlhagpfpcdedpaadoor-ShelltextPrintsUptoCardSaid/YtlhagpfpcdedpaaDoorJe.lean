/- walks: the program's Print (written by gen_je.py) -/
import Derived.Test.YtlhagpfpcdedpaaDoorJd
import Derived.Test.YtlhagpfpcdedpaaDoorHn
import Derived.Deep.CutBlock
namespace Go.Proofs.YtlhagpfpcdedpaaDoor
open Go.RowKit
open Shp
/-- every word is short enough -/
def SzL (l : List Pl) : Prop := ∀ p ∈ l, ∀ c ∈ p.cmds, c.name.length ≤ 16777216 ∧ (∀ a ∈ c.args, a.length ≤ 16777216) ∧ ∀ r ∈ c.red, r.2.length ≤ 16777216
def sepT (k : Nat) (cn : Int) : List UInt8 := if k = 0 then [] else btw cn
def barT (j : Nat) : List UInt8 := if j = 0 then [] else [32, 124, 32]
theorem scP_more {l : List Pl} {k : Nat} {x : Pl} (hx : l[k]? = some x) : scP (l.take (k + 1)) = scP (l.take k) ++ sepT k x.conn ++ noT x.no ++ cmsT x.cmds := by
  rw [List.take_add_one, hx, Option.toList_some, scP_snoc]
  unfold sepT plT
  have hl : l ≠ [] := fun e => by rw [e] at hx; simp at hx
  by_cases h : k = 0
  · subst h; simp
  · rw [if_neg h, if_neg (by intro e; rw [List.take_eq_nil_iff] at e; exact e.elim h hl)]; simp
theorem cmsT_more {l : List Cm} {k : Nat} {x : Cm} (hx : l[k]? = some x) : cmsT (l.take (k + 1)) = cmsT (l.take k) ++ barT k ++ quoteL x.name ++ argsT x.args ++ redsT x.red := by
  rw [List.take_add_one, hx, Option.toList_some, cmsT_snoc]
  unfold barT cmT
  have hl : l ≠ [] := fun e => by rw [e] at hx; simp at hx
  by_cases h : k = 0
  · subst h; simp
  · rw [if_neg h, if_neg (by intro e; rw [List.take_eq_nil_iff] at e; exact e.elim h hl)]; simp
theorem argsT_more {l : List (List UInt8)} {k : Nat} {x : List UInt8} (hx : l[k]? = some x) : argsT (l.take (k + 1)) = argsT (l.take k) ++ (32 :: quoteL x) := by
  rw [List.take_add_one, hx, Option.toList_some, argsT_snoc]
theorem redsT_more {l : List (Int × List UInt8)} {k : Nat} {x : Int × List UInt8} (hx : l[k]? = some x) : redsT (l.take (k + 1)) = redsT (l.take k) ++ (mkR x.1 ++ quoteL x.2) := by
  rw [List.take_add_one, hx, Option.toList_some, redsT_snoc]
theorem argR_at {c : Cm} {k : Nat} {a : List UInt8} (h : c.args[k]? = some a) : (argR c)[k]? = some [.string ⟨a.toArray⟩] := by rw [List.getElem?_map, h]; rfl
theorem PS.cast {b : Nat} {t t' : List UInt8} {w : World} (h : PS b t w) (e : t = t') : PS b t' w := e ▸ h
/-- Quote of a word -/
theorem quote_is (u : ByteArray) (m : Int) (w0 w : World) (hm : w0.cell? ⟨0, 0, none⟩ = some (.int .i64 m)) (hb : Below w0.heap.size w0 w) (hs : u.size ≤ 16777216) {l : List UInt8} (hu : Hid (u.data.toList = l)) {q : ByteArray} (hq : Hid (ByteArray.mk (quoteL l).toArray = q)) :
    Calls Tryd.prog 13 #[.string u] w fun e w' => e = .returned (.string q) ∧ Hid (Below w.heap.size w w') := by
  refine (quote_any u m w (kp hb hm) hs).mono ?_
  rw [hu.out, hq.out]
  exact fun _ _ h => h
set_option maxRecDepth 100000 in
set_option maxHeartbeats 8000000 in
theorem print_any (l : List Pl) (v : Value) (m : Int) (w : World) (hm : w.cell? ⟨0, 0, none⟩ = some (.int .i64 m)) (h : PlsD w v l) (hz : SzL l) {tx : ByteArray} {er : Int} (hr : Hid (ByteArray.mk (prR l).1.toArray = tx ∧ (prR l).2 = er)) :
    Calls Tryd.prog 15 #[.agg #[v]] w fun e w' => e = .returned (.tuple #[.string tx, .int .i64 er]) ∧ Hid (Below w.heap.size w w') := by
  obtain ⟨a, cap, rfl, l1, l2⟩ := h.slice
  obtain ⟨n, hn⟩ : ∃ n, l.length = n := ⟨_, rfl⟩
  rw [hn] at h l1 ⊢
  have HN := Lib.hid hn
  have NL : n ≤ 9223372036854775807 := by unfold maxLen at l2; omega
  have B0 := Lib.hid ((Below.refl w.heap.size w).alloc (Nat.le_refl _) (.cells #[.slice a n cap] 24))
  have D1 := Lib.hid (h.below B0.out)
  have HM := Lib.hid (kp B0.out hm)
  have HZ := Lib.hid hz
  have bx0 : (w.alloc (.cells #[.slice a n cap] 24)).cell? ⟨w.heap.size, 0, none⟩ = some (.slice a n cap) := blk_cell (heap_alloc_new w _) 0
  have BX0 := Lib.hid bx0
  obtain ⟨ch, hch⟩ : ∃ c, chk l = c := ⟨_, rfl⟩
  have CH := Lib.hid hch
  clear l1 l2 hn h hm hz hch bx0
  by_cases hc0 : ch = 0
  · subst hc0
    go_enter Tryd.func15, Tryd.ntmps15
    go_wp2_with (go_at_call 17; refine (check_any l (.slice a n cap) _ D1.out CH).mono ?_; rintro _ w1 ⟨rfl, B1⟩; have bx1 := kp (B1.out.alloc B1.out.size (.cells #[.pointer none, .slice none 0 0] 69)) BX0.out)
    obtain ⟨b, hb⟩ : ∃ b, w1.heap.size = b := ⟨_, rfl⟩
    have P0 := PS.new w1
    have SZ0 : Hid ((w.alloc (.cells #[.slice a n cap] 24)).heap.size ≤ b) := Lib.hid (by rw [← hb]; exact B1.out.size)
    have B2 : Below (w.alloc (.cells #[.slice a n cap] 24)).heap.size (w.alloc (.cells #[.slice a n cap] 24)) (w1.alloc (.cells #[.pointer none, .slice none 0 0] 69)) := B1.out.alloc B1.out.size _
    rw [hb] at P0 ⊢
    have P0 := Lib.hid P0
    have B2 := Lib.hid B2
    clear hb bx1
    go_loopw [24] (fun i wr => ∃ k : Nat, k ≤ n ∧ i = .int .i64 k ∧ Hid (PS b (scP (l.take k)) wr) ∧ Hid (Below (w.alloc (.cells #[.slice a n cap] 24)).heap.size (w.alloc (.cells #[.slice a n cap] 24)) wr)) (fun i _ => n - (intOf i).toNat)
    case atStart => exact ⟨0, Nat.zero_le _, rfl, Lib.hid P0.out, B2⟩
    case round =>
      obtain ⟨k, hk, rfl, P, BK⟩ := hrel
      clear P0 B2
      by_cases hlt : k < n
      · obtain ⟨x, hx⟩ : ∃ x, l[k]? = some x := ⟨_, List.getElem?_eq_getElem (by rw [HN.out]; exact hlt)⟩
        have HX := Lib.hid hx
        obtain ⟨g, o, rr, rfl, D, hc⟩ := D1.out.at hx
        obtain ⟨pa, nc, ca, rfl, hnc, nl, DC⟩ := D.parts
        have s0 := kp BK.out (hc 0 _ rfl)
        have s1 := kp BK.out (hc 1 _ rfl)
        have s2 := kp BK.out (hc 2 _ rfl)
        rw [Nat.add_zero] at s0
        obtain ⟨no, hno⟩ : ∃ t, x.no = t := ⟨_, rfl⟩
        obtain ⟨cn, hcn⟩ : ∃ t, x.conn = t := ⟨_, rfl⟩
        rw [hno] at s1
        rw [hcn] at s2
        have HC : Hid (x.conn = cn ∧ x.cmds.length = nc ∧ x.no = no) := Lib.hid ⟨hcn, hnc, hno⟩
        have DC := Lib.hid DC
        have BX := Lib.hid (BK.out.alloc BK.out.size (.cells #[.slice pa nc ca, .bool no, .int .i64 cn] 34))
        have PX := Lib.hid (P.out.of ((Below.refl wr.heap.size wr).alloc (Nat.le_refl _) (.cells #[.slice pa nc ca, .bool no, .int .i64 cn] 34)))
        have HB8 : Hid ((wr.alloc (.cells #[.slice pa nc ca, .bool no, .int .i64 cn] 34)).heap[wr.heap.size]? = some (.cells #[.slice pa nc ca, .bool no, .int .i64 cn] 34 (0, 0))) := Lib.hid (heap_alloc_new wr _)
        have NB : Hid (b < wr.heap.size) := Lib.hid P.out.size
        clear hc hx hno hcn hnc D
        go_upto_block 2 with (fail)
        go_cut [] from 25 to 100 (fun w' => Hid (PS b (scP (l.take k) ++ sepT k cn) w') ∧ Hid (KP b (wr.alloc (.cells #[.slice pa nc ca, .bool no, .int .i64 cn] 34)) w'))
        · by_cases hk0 : k = 0
          · subst hk0
            go_wp2_with (fail)
            repeat (go_region; go_wp2_with (fail))
            go_meet
            case rel => exact ⟨Lib.hid ((PX.out.same (by exact ⟨rfl, rfl, rfl, rfl⟩)).cast (by simp [sepT])), Lib.hid ((KP.refl _ _).same (by exact ⟨rfl, rfl, rfl, rfl⟩))⟩
          · have c0 : (((k : Nat) : Int) == 0) = false := by rw [beq_eq_false_iff_ne]; omega
            have c0' : ¬ k = 0 := hk0
            have d1 := blk_cell HB8.out 2
            simp only [List.getElem?_toArray, List.getElem?_cons_zero, List.getElem?_cons_succ] at d1
            have SE : Hid (sepT k cn = btw cn) := Lib.hid (if_neg hk0)
            clear hk0
            by_cases c2 : cn = 2
            · subst c2
              go_wp2_with ((go_at_call 34; refine (put_any b _ _ _ _ PX.out (by exact ⟨rfl, rfl, rfl, rfl⟩) (by decide) (Lib.hid (show (ByteArray.mk #[32, 38, 38, 32]).data.toList = [32, 38, 38, 32] from rfl))).mono ?_; rintro _ q ⟨rfl, Pq, Kq⟩))
              repeat (go_region; go_wp2_with ((go_at_call 34; refine (put_any b _ _ _ _ PX.out (by exact ⟨rfl, rfl, rfl, rfl⟩) (by decide) (Lib.hid (show (ByteArray.mk #[32, 38, 38, 32]).data.toList = [32, 38, 38, 32] from rfl))).mono ?_; rintro _ q ⟨rfl, Pq, Kq⟩)))
              go_meet
              case rel => exact ⟨Lib.hid (Pq.out.cast (by rw [SE.out]; rfl)), Kq⟩
            · have t2 : (cn == 2) = false := by rw [beq_eq_false_iff_ne]; exact c2
              by_cases c3 : cn = 3
              · subst c3
                clear c2
                go_wp2_with ((go_at_call 34; refine (put_any b _ _ _ _ PX.out (by exact ⟨rfl, rfl, rfl, rfl⟩) (by decide) (Lib.hid (show (ByteArray.mk #[32, 124, 124, 32]).data.toList = [32, 124, 124, 32] from rfl))).mono ?_; rintro _ q ⟨rfl, Pq, Kq⟩))
                repeat (go_region; go_wp2_with ((go_at_call 34; refine (put_any b _ _ _ _ PX.out (by exact ⟨rfl, rfl, rfl, rfl⟩) (by decide) (Lib.hid (show (ByteArray.mk #[32, 124, 124, 32]).data.toList = [32, 124, 124, 32] from rfl))).mono ?_; rintro _ q ⟨rfl, Pq, Kq⟩)))
                go_meet
                case rel => exact ⟨Lib.hid (Pq.out.cast (by rw [SE.out]; rfl)), Kq⟩
              · have t3 : (cn == 3) = false := by rw [beq_eq_false_iff_ne]; exact c3
                have SE2 : Hid (sepT k cn = [10]) := Lib.hid (by rw [SE.out]; unfold btw; rw [if_neg c2, if_neg c3])
                clear c2 c3
                go_wp2_with ((go_at_call 34; refine (put_any b _ _ _ _ PX.out (by exact ⟨rfl, rfl, rfl, rfl⟩) (by decide) (Lib.hid (show (ByteArray.mk #[10]).data.toList = [10] from rfl))).mono ?_; rintro _ q ⟨rfl, Pq, Kq⟩))
                repeat (go_region; go_wp2_with ((go_at_call 34; refine (put_any b _ _ _ _ PX.out (by exact ⟨rfl, rfl, rfl, rfl⟩) (by decide) (Lib.hid (show (ByteArray.mk #[10]).data.toList = [10] from rfl))).mono ?_; rintro _ q ⟨rfl, Pq, Kq⟩)))
                go_meet
                case rel => exact ⟨Lib.hid (Pq.out.cast (by rw [SE2.out])), Kq⟩
        obtain ⟨PA, KA⟩ := hcut
        refine ‹∀ (a : Act) (w : World), Code.wp _ _ _ a w → _› _ _ ?_
        have HB9 := Lib.hid (KA.out.other _ _ _ _ (by decide) (by have := NB.out; omega) HB8.out)
        have e1 := blk_cell HB9.out 1
        simp only [List.getElem?_toArray, List.getElem?_cons_zero, List.getElem?_cons_succ] at e1
        go_upto_region 15 with (fail)
        go_cut [47] from 25 to 100 (fun u w' => u = .bool no ∧ Hid (PS b (scP (l.take k) ++ sepT k cn) w') ∧ Hid (KP b (wr.alloc (.cells #[.slice pa nc ca, .bool no, .int .i64 cn] 34)) w'))
        · go_wp2_with (fail)
          repeat (go_region; go_wp2_with (fail))
          go_meet
          case rel => exact ⟨rfl, Lib.hid (PA.out.same (by exact ⟨rfl, rfl, rfl, rfl⟩)), Lib.hid (KA.out.same (by exact ⟨rfl, rfl, rfl, rfl⟩))⟩
        obtain ⟨rfl, PA2, KA2⟩ := hcut
        clear PA KA e1 HB9
        refine ‹∀ (a : Act) (w : World), Code.wp _ _ _ a w → _› _ _ ?_
        go_cut [] from 25 to 100 (fun w' => Hid (PS b (scP (l.take k) ++ sepT k cn ++ noT no) w') ∧ Hid (KP b (wr.alloc (.cells #[.slice pa nc ca, .bool no, .int .i64 cn] 34)) w'))
        · cases no with
          | true =>
            go_wp2_with ((go_at_call 34; refine (put_any b _ _ _ _ PA2.out (by exact ⟨rfl, rfl, rfl, rfl⟩) (by decide) (Lib.hid (show (ByteArray.mk #[33, 32]).data.toList = [33, 32] from rfl))).mono ?_; rintro _ q ⟨rfl, Pq, Kq⟩))
            repeat (go_region; go_wp2_with ((go_at_call 34; refine (put_any b _ _ _ _ PA2.out (by exact ⟨rfl, rfl, rfl, rfl⟩) (by decide) (Lib.hid (show (ByteArray.mk #[33, 32]).data.toList = [33, 32] from rfl))).mono ?_; rintro _ q ⟨rfl, Pq, Kq⟩)))
            go_meet
            case rel => exact ⟨Pq, Lib.hid (KA2.out.trans Kq.out)⟩
          | false =>
            go_wp2_with fail
            go_meet
            case rel => exact ⟨Lib.hid (PA2.out.cast (by simp [noT])), KA2⟩
        obtain ⟨PB, KB⟩ := hcut
        clear PA2 KA2
        refine ‹∀ (a : Act) (w : World), Code.wp _ _ _ a w → _› _ _ ?_
        have HB9 := Lib.hid (KB.out.other _ _ _ _ (by decide) (by have := NB.out; omega) HB8.out)
        have e0 := blk_cell HB9.out 0
        simp only [List.getElem?_toArray, List.getElem?_cons_zero] at e0
        have BB := Lib.hid (BX.out.trans (KB.out.below.mono SZ0.out))
        go_wp2_with (fail)
        repeat (go_region; go_wp2_with (fail))
        go_loopw [53] (fun i wx => ∃ j : Nat, j ≤ nc ∧ i = .int .i64 j ∧ Hid (PS b (scP (l.take k) ++ sepT k cn ++ noT no ++ cmsT (x.cmds.take j)) wx) ∧ Hid (Below (w.alloc (.cells #[.slice (some ⟨g, o, none⟩) n cap] 24)).heap.size (w.alloc (.cells #[.slice (some ⟨g, o, none⟩) n cap] 24)) wx)) (fun i _ => nc - (intOf i).toNat)
        case atStart => exact ⟨0, Nat.zero_le _, rfl, Lib.hid (PS.same (PB.out.cast (by simp [cmsT])) (by exact ⟨rfl, rfl, rfl, rfl⟩)), Lib.hid (by first | exact BB.out | exact BB.out.drew)⟩
        case round =>
          obtain ⟨j, hj, rfl, PJ, BJ⟩ := hrel
          clear PB KB HB9 BB e0 PX HB8 NB BX
          by_cases hjt : j < nc
          · obtain ⟨c, hc⟩ : ∃ c, x.cmds[j]? = some c := ⟨_, List.getElem?_eq_getElem (by rw [HC.out.2.1]; exact hjt)⟩
            have HCJ := Lib.hid hc
            obtain ⟨g3, o3, r3, rfl, D3, hc3⟩ := DC.out.at hc
            obtain ⟨u, p1, p2, m1, m2, k1, k2, z, rfl, u1, u2, u3, u4, R1, R2⟩ := D3.parts
            have t0 := kp BJ.out (hc3 0 _ rfl)
            have t1 := kp BJ.out (hc3 1 _ rfl)
            have t2 := kp BJ.out (hc3 2 _ rfl)
            have t3 := kp BJ.out (hc3 3 _ rfl)
            rw [Nat.add_zero] at t0
            have HU := Lib.hid u1
            have HM1 := Lib.hid u2
            have HM2 := Lib.hid u3
            have L1 : m1 ≤ 9223372036854775807 := by have := R1.len; rw [List.length_map, u2] at this; exact this
            have L2 : m2 ≤ 9223372036854775807 := by have := R2.len; rw [List.length_map, u3] at this; exact this
            have R1 := Lib.hid R1
            have R2 := Lib.hid R2
            have SZC := Lib.hid (HZ.out x (List.mem_of_getElem? HX.out) c (List.mem_of_getElem? HCJ.out))
            have US : u.size ≤ 16777216 := by have := SZC.out.1; rw [← HU.out] at this; exact this
            have BJ2 := Lib.hid (BJ.out.alloc BJ.out.size (.cells #[.string u, .slice p1 m1 k1, .slice p2 m2 k2, .int .i64 z] 40))
            have PC := Lib.hid (PJ.out.of ((Below.refl wr.heap.size wr).alloc (Nat.le_refl _) (.cells #[.string u, .slice p1 m1 k1, .slice p2 m2 k2, .int .i64 z] 40)))
            have HBC : Hid ((wr.alloc (.cells #[.string u, .slice p1 m1 k1, .slice p2 m2 k2, .int .i64 z] 40)).heap[wr.heap.size]? = some (.cells #[.string u, .slice p1 m1 k1, .slice p2 m2 k2, .int .i64 z] 40 (0, 0))) := Lib.hid (heap_alloc_new wr _)
            have NBC : Hid (b < wr.heap.size) := Lib.hid PJ.out.size
            clear hc hc3 D3 u1 u2 u3 u4
            go_upto_region 20 with (fail)
            go_cut [59] from 54 to 99 (fun v w' => v = .bool (decide (0 < j)) ∧ Hid (PS b (scP (l.take k) ++ sepT k cn ++ noT no ++ cmsT (x.cmds.take j)) w') ∧ Hid (KP b (wr.alloc (.cells #[.string u, .slice p1 m1 k1, .slice p2 m2 k2, .int .i64 z] 40)) w'))
            · go_wp2_with (fail)
              repeat (go_region; go_wp2_with (fail))
              go_meet
              case rel => exact ⟨rfl, Lib.hid (PC.out.same (by exact ⟨rfl, rfl, rfl, rfl⟩)), Lib.hid ((KP.refl _ _).same (by exact ⟨rfl, rfl, rfl, rfl⟩))⟩
            obtain ⟨rfl, PC2, KC2⟩ := hcut
            refine ‹∀ (a : Act) (w : World), Code.wp _ _ _ a w → _› _ _ ?_
            go_cut [] from 54 to 99 (fun w' => Hid (PS b (scP (l.take k) ++ sepT k cn ++ noT no ++ cmsT (x.cmds.take j) ++ barT j) w') ∧ Hid (KP b (wr.alloc (.cells #[.string u, .slice p1 m1 k1, .slice p2 m2 k2, .int .i64 z] 40)) w'))
            · by_cases hj0 : j = 0
              · subst hj0
                go_wp2_with fail
                go_meet
                case rel => exact ⟨Lib.hid (PC2.out.cast (by simp [barT])), KC2⟩
              · have j0 : 0 < j := by omega
                have BA : Hid (barT j = [32, 124, 32]) := Lib.hid (if_neg hj0)
                clear hj0
                go_wp2_with ((go_at_call 34; refine (put_any b _ _ _ _ PC2.out (by exact ⟨rfl, rfl, rfl, rfl⟩) (by decide) (Lib.hid (show (ByteArray.mk #[32, 124, 32]).data.toList = [32, 124, 32] from rfl))).mono ?_; rintro _ q ⟨rfl, Pq, Kq⟩))
                repeat (go_region; go_wp2_with ((go_at_call 34; refine (put_any b _ _ _ _ PC2.out (by exact ⟨rfl, rfl, rfl, rfl⟩) (by decide) (Lib.hid (show (ByteArray.mk #[32, 124, 32]).data.toList = [32, 124, 32] from rfl))).mono ?_; rintro _ q ⟨rfl, Pq, Kq⟩)))
                go_meet
                case rel => exact ⟨Lib.hid (Pq.out.cast (by rw [BA.out])), Lib.hid (KC2.out.trans Kq.out)⟩
            obtain ⟨PD, KD⟩ := hcut
            clear PC PC2 KC2
            refine ‹∀ (a : Act) (w : World), Code.wp _ _ _ a w → _› _ _ ?_
            have HB10 := Lib.hid (KD.out.other _ _ _ _ (by decide) (by have := NBC.out; omega) HBC.out)
            have e0 := blk_cell HB10.out 0
            simp only [List.getElem?_toArray, List.getElem?_cons_zero] at e0
            have BD := Lib.hid (BJ2.out.trans (KD.out.below.mono SZ0.out))
            obtain ⟨q, hq⟩ : ∃ q, ByteArray.mk (quoteL c.name).toArray = q := ⟨_, rfl⟩
            have HQ := Lib.hid hq
            have HQD : Hid (q.data.toList = quoteL c.name) := Lib.hid (by rw [← hq])
            have QS : q.size ≤ 17592186044416 := by rw [← hq]; have := quote_len c.name; have := SZC.out.1; show (quoteL c.name).length ≤ _; omega
            clear hq
            go_upto_region 22 with (fail)
            go_cut [] from 54 to 99 (fun w' => Hid (PS b (scP (l.take k) ++ sepT k cn ++ noT no ++ cmsT (x.cmds.take j) ++ barT j ++ quoteL c.name) w') ∧ Hid (KP b (wr.alloc (.cells #[.string u, .slice p1 m1 k1, .slice p2 m2 k2, .int .i64 z] 40)) w'))
            · go_wp2_with (first | (go_at_call 13; refine (quote_is u m _ _ HM.out BD.out US HU HQ).mono ?_; rintro _ wq ⟨rfl, Bq⟩; have PD2 := Lib.hid (PD.out.of Bq.out); have KD2 := Lib.hid (KD.out.trans (KP.of (Nat.le_of_lt PD.out.size) Bq.out))) | (go_at_call 34; refine (put_any b _ _ _ _ PD2.out (by exact ⟨rfl, rfl, rfl, rfl⟩) QS HQD).mono ?_; rintro _ q ⟨rfl, Pq, Kq⟩))
              repeat (go_region; go_wp2_with (first | (go_at_call 13; refine (quote_is u m _ _ HM.out BD.out US HU HQ).mono ?_; rintro _ wq ⟨rfl, Bq⟩; have PD2 := Lib.hid (PD.out.of Bq.out); have KD2 := Lib.hid (KD.out.trans (KP.of (Nat.le_of_lt PD.out.size) Bq.out))) | (go_at_call 34; refine (put_any b _ _ _ _ PD2.out (by exact ⟨rfl, rfl, rfl, rfl⟩) QS HQD).mono ?_; rintro _ q ⟨rfl, Pq, Kq⟩)))
              go_meet
              case rel => exact ⟨Pq, Lib.hid (KD2.out.trans Kq.out)⟩
            obtain ⟨PE, KE⟩ := hcut
            clear PD KD HB10 e0 BD QS HQ HQD
            refine ‹∀ (a : Act) (w : World), Code.wp _ _ _ a w → _› _ _ ?_
            have HB10 := Lib.hid (KE.out.other _ _ _ _ (by decide) (by have := NBC.out; omega) HBC.out)
            have e1 := blk_cell HB10.out 1
            simp only [List.getElem?_toArray, List.getElem?_cons_zero, List.getElem?_cons_succ] at e1
            have BE := Lib.hid (BJ2.out.trans (KE.out.below.mono SZ0.out))
            obtain ⟨gc, hgc⟩ : ∃ gc, wr.heap.size = gc := ⟨_, rfl⟩
            rw [hgc] at HB10 e1 NBC ⊢
            have HGC := Lib.hid hgc
            clear hgc
            go_wp2_with (fail)
            repeat (go_region; go_wp2_with (fail))
            go_loopw [72] (fun i wy => ∃ y : Nat, y ≤ m1 ∧ i = .int .i64 y ∧ Hid (PS b (scP (l.take k) ++ sepT k cn ++ noT no ++ cmsT (x.cmds.take j) ++ barT j ++ quoteL c.name ++ argsT (c.args.take y)) wy) ∧ Hid (Below (w.alloc (.cells #[.slice (some ⟨g, o, none⟩) n cap] 24)).heap.size (w.alloc (.cells #[.slice (some ⟨g, o, none⟩) n cap] 24)) wy) ∧ Hid (wy.heap[gc]? = some (.cells #[.string u, .slice p1 m1 k1, .slice p2 m2 k2, .int .i64 z] 40 (0, 0)))) (fun i _ => m1 - (intOf i).toNat)
            case atStart => exact ⟨0, Nat.zero_le _, rfl, Lib.hid (PS.same (PE.out.cast (by simp [argsT])) (by exact ⟨rfl, rfl, rfl, rfl⟩)), Lib.hid (by first | exact BE.out | exact BE.out.drew), Lib.hid HB10.out⟩
            case round =>
              obtain ⟨y, hy, rfl, PY, BY, HY⟩ := hrel
              clear PE KE HB10 BE e1
              by_cases hyt : y < m1
              · obtain ⟨ag, hag⟩ : ∃ ag, c.args[y]? = some ag := ⟨_, List.getElem?_eq_getElem (by rw [HM1.out]; exact hyt)⟩
                have HAG := Lib.hid hag
                obtain ⟨g4, o4, rfl, hc4⟩ := R1.out.at (argR_at hag)
                have v0 := kp BY.out (hc4 0 _ rfl)
                rw [Nat.add_zero, Nat.mul_one] at v0
                obtain ⟨ua, hua⟩ : ∃ ua, ByteArray.mk ag.toArray = ua := ⟨_, rfl⟩
                have HUA : Hid (ua.data.toList = ag) := Lib.hid (by rw [← hua])
                rw [hua] at v0
                have USA : ua.size ≤ 16777216 := by rw [← hua]; exact SZC.out.2.1 ag (List.mem_of_getElem? hag)
                obtain ⟨q, hq⟩ : ∃ q, ByteArray.mk (quoteL ag).toArray = q := ⟨_, rfl⟩
                have HQ := Lib.hid hq
                have QS : q.size ≤ 67108868 := by rw [← hq]; have := quote_len ag; have := SZC.out.2.1 ag (List.mem_of_getElem? hag); show (quoteL ag).length ≤ _; omega
                have HQD : Hid ((ByteArray.mk #[32] ++ q).data.toList = 32 :: quoteL ag) := Lib.hid (by rw [← hq]; simp)
                have NG : Hid (gc ≠ b) := Lib.hid (by have := NBC.out; omega)
                clear hag hc4 hua hq
                go_wp2_with (first | (go_at_call 13; refine (quote_is ua m _ _ HM.out (by first | exact BY.out | exact BY.out.drew) USA HUA HQ).mono ?_; rintro _ wq ⟨rfl, Bq⟩; have PY2 := Lib.hid (PY.out.of (bel_eqw Bq.out ⟨rfl, rfl, rfl, rfl⟩)); have KY2 := Lib.hid (KP.of (Nat.le_of_lt PY.out.size) (bel_eqw Bq.out ⟨rfl, rfl, rfl, rfl⟩))) | (go_at_call 34; refine (put_any b _ _ _ _ PY2.out (by exact ⟨rfl, rfl, rfl, rfl⟩) (by simp only [ByteArray.size_append]; show 1 + q.size ≤ _; omega) HQD).mono ?_; rintro _ q ⟨rfl, Pq, Kq⟩))
                repeat (go_region; go_wp2_with (first | (go_at_call 13; refine (quote_is ua m _ _ HM.out (by first | exact BY.out | exact BY.out.drew) USA HUA HQ).mono ?_; rintro _ wq ⟨rfl, Bq⟩; have PY2 := Lib.hid (PY.out.of (bel_eqw Bq.out ⟨rfl, rfl, rfl, rfl⟩)); have KY2 := Lib.hid (KP.of (Nat.le_of_lt PY.out.size) (bel_eqw Bq.out ⟨rfl, rfl, rfl, rfl⟩))) | (go_at_call 34; refine (put_any b _ _ _ _ PY2.out (by exact ⟨rfl, rfl, rfl, rfl⟩) (by simp only [ByteArray.size_append]; show 1 + q.size ≤ _; omega) HQD).mono ?_; rintro _ q ⟨rfl, Pq, Kq⟩)))
                go_roundw
                case rel => exact ⟨y + 1, by omega, by go_num, Lib.hid (Pq.out.cast (by rw [argsT_more HAG.out]; simp)), Lib.hid (BY.out.trans ((KY2.out.trans Kq.out).below.mono SZ0.out)), Lib.hid ((KY2.out.trans Kq.out).other _ _ _ _ (by decide) NG.out HY.out)⟩
                case measure => simp [intOf]; omega
              · have TA : Hid (c.args.take y = c.args) := Lib.hid (List.take_of_length_le (by rw [HM1.out]; omega))
                have f2 := blk_cell HY.out 2
                simp only [List.getElem?_toArray, List.getElem?_cons_zero, List.getElem?_cons_succ] at f2
                go_wp2_with (fail)
                repeat (go_region; go_wp2_with (fail))
                go_loopw [85] (fun i wy => ∃ y : Nat, y ≤ m2 ∧ i = .int .i64 y ∧ Hid (PS b (scP (l.take k) ++ sepT k cn ++ noT no ++ cmsT (x.cmds.take j) ++ barT j ++ quoteL c.name ++ argsT c.args ++ redsT (c.red.take y)) wy) ∧ Hid (Below (w.alloc (.cells #[.slice (some ⟨g, o, none⟩) n cap] 24)).heap.size (w.alloc (.cells #[.slice (some ⟨g, o, none⟩) n cap] 24)) wy)) (fun i _ => m2 - (intOf i).toNat)
                case atStart => exact ⟨0, Nat.zero_le _, rfl, Lib.hid (PS.same (PY.out.cast (by rw [TA.out]; simp [redsT])) (by exact ⟨rfl, rfl, rfl, rfl⟩)), Lib.hid (by first | exact BY.out | exact BY.out.drew)⟩
                case round =>
                  obtain ⟨y, hy, rfl, PZ, BZ⟩ := hrel
                  clear PY BY HY TA f2
                  by_cases hyt : y < m2
                  · obtain ⟨rx, hrx⟩ : ∃ rx, c.red[y]? = some rx := ⟨_, List.getElem?_eq_getElem (by rw [HM2.out]; exact hyt)⟩
                    have HRX := Lib.hid hrx
                    obtain ⟨g5, o5, rfl, hc5⟩ := R2.out.at (redR_at hrx)
                    have v0 := kp BZ.out (hc5 0 _ rfl)
                    have v1 := kp BZ.out (hc5 1 _ rfl)
                    rw [Nat.add_zero] at v0
                    obtain ⟨rk, rn⟩ := rx
                    simp only at v0 v1
                    obtain ⟨ua, hua⟩ : ∃ ua, ByteArray.mk rn.toArray = ua := ⟨_, rfl⟩
                    have HUA : Hid (ua.data.toList = rn) := Lib.hid (by rw [← hua])
                    rw [hua] at v1
                    have USA : ua.size ≤ 16777216 := by rw [← hua]; exact SZC.out.2.2 _ (List.mem_of_getElem? hrx)
                    obtain ⟨q, hq⟩ : ∃ q, ByteArray.mk (quoteL rn).toArray = q := ⟨_, rfl⟩
                    have HQ := Lib.hid hq
                    have QS : q.size ≤ 67108868 := by rw [← hq]; have := quote_len rn; have := SZC.out.2.2 _ (List.mem_of_getElem? hrx); simp only at this; show (quoteL rn).length ≤ _; omega
                    obtain ⟨mk, hmk⟩ : ∃ mk, ByteArray.mk (mkR rk).toArray = mk := ⟨_, rfl⟩
                    have HMK := Lib.hid hmk
                    have MS : mk.size ≤ 4 := by rw [← hmk]; unfold mkR; split; (show 3 ≤ 4; decide); split; (show 3 ≤ 4; decide); (show 4 ≤ 4; decide)
                    have HQD : Hid ((mk ++ q).data.toList = mkR rk ++ quoteL rn) := Lib.hid (by rw [← hq, ← hmk]; simp)
                    have MQ : mk.size + q.size ≤ 67108872 := by omega
                    have MQ2 : ¬ 9223372036854775807 < mk.size + q.size := by omega
                    clear hrx hc5 hua hq hmk
                    have PW := Lib.hid (PZ.out.of ((Below.refl wr.heap.size wr).alloc (Nat.le_refl _) (.cells #[.int .i64 rk, .string ua] 77)))
                    have KW := Lib.hid (KP.of (Nat.le_of_lt PZ.out.size) ((Below.refl wr.heap.size wr).alloc (Nat.le_refl _) (.cells #[.int .i64 rk, .string ua] 77)))
                    have BW := Lib.hid (BZ.out.alloc BZ.out.size (.cells #[.int .i64 rk, .string ua] 77))
                    go_wp2_with fail
                    go_region_law (first | (go_simp; (go_at_call 37; refine (mark_any rk _ HMK).mono ?_; rintro _ _ ⟨rfl, rfl⟩)) | (go_simp; (go_at_call 13; refine (quote_is ua m _ _ HM.out (by first | exact BW.out | exact BW.out.drew) USA HUA HQ).mono ?_; rintro _ wq ⟨rfl, Bq⟩; have PW2 := Lib.hid (PW.out.of (bel_eqw Bq.out ⟨rfl, rfl, rfl, rfl⟩)); have KW2 := Lib.hid (KW.out.trans (KP.of (Nat.le_of_lt PW.out.size) (bel_eqw Bq.out ⟨rfl, rfl, rfl, rfl⟩))))) | (go_simp; (go_at_call 34; refine (put_any b _ _ _ _ PW2.out (by exact ⟨rfl, rfl, rfl, rfl⟩) (by simp only [ByteArray.size_append]; omega) HQD).mono ?_; rintro _ wqq ⟨rfl, Pqq, Kqq⟩)))
                    all_goals go_wp2_with fail
                    all_goals go_roundw
                    all_goals first
                      | exact ⟨y + 1, by omega, by go_num, Lib.hid (Pqq.out.cast (by rw [redsT_more HRX.out]; simp)), Lib.hid (BZ.out.trans ((KW2.out.trans Kqq.out).below.mono SZ0.out))⟩
                      | (simp [intOf]; omega)
                  · have TR : Hid (c.red.take y = c.red) := Lib.hid (List.take_of_length_le (by rw [HM2.out]; omega))
                    go_wp2_with fail
                    go_roundw
                    case rel => exact ⟨j + 1, by omega, by go_num, Lib.hid (PZ.out.cast (by rw [TR.out, cmsT_more HCJ.out]; simp)), BZ⟩
                    case measure => simp [intOf]; omega
          · have TC : Hid (x.cmds.take j = x.cmds) := Lib.hid (List.take_of_length_le (by rw [HC.out.2.1]; omega))
            go_wp2_with fail
            go_roundw
            case rel => exact ⟨k + 1, by omega, by go_num, Lib.hid (PJ.out.cast (by rw [TC.out, scP_more HX.out, HC.out.1, HC.out.2.2])), BJ⟩
            case measure => simp [intOf]; omega
      · have TL : Hid (l.take k = l) := Lib.hid (List.take_of_length_le (by rw [HN.out]; omega))
        have bx := kp BK.out BX0.out
        obtain ⟨t, ht⟩ : ∃ t, scT l = t := ⟨_, rfl⟩
        have HT := Lib.hid ht
        clear ht
        by_cases hn0 : n = 0
        · subst hn0
          have PT : Hid (PS b t wr) := Lib.hid (P.out.cast (by
            have : l = [] := List.length_eq_zero_iff.1 HN.out
            rw [TL.out, ← HT.out, this]; rfl))
          have PR : Hid (prR l = (t, 0)) := Lib.hid (by
            have e : l = [] := List.length_eq_zero_iff.1 HN.out
            unfold prR; rw [CH.out, HT.out, if_pos rfl, if_neg (by rw [← HT.out, e]; decide)])
          obtain rfl : tx = ⟨t.toArray⟩ := by rw [← hr.out.1, PR.out]
          obtain rfl : er = 0 := by rw [← hr.out.2, PR.out]
          have h8 : ¬ 8192 < t.length := by
            have e : l = [] := List.length_eq_zero_iff.1 HN.out
            rw [← HT.out, e]; decide
          obtain ⟨ol, hol⟩ : ∃ ol, t.length = ol := ⟨_, rfl⟩
          have OL := Lib.hid hol
          have h9 : ¬ 8192 < ol := by rw [← hol]; exact h8
          clear hol
          go_wp2_with (first | (go_at_call 35; refine (len_small b t _ _ PT.out (by exact ⟨rfl, rfl, rfl, rfl⟩) h8 OL).mono ?_; rintro _ _ ⟨rfl, rfl⟩) | (go_at_call 38; refine (str_small b t _ _ PT.out (by exact ⟨rfl, rfl, rfl, rfl⟩) h8).mono ?_; rintro _ ws ⟨rfl, Bs⟩))
          repeat (go_region; go_wp2_with (first | (go_at_call 35; refine (len_small b t _ _ PT.out (by exact ⟨rfl, rfl, rfl, rfl⟩) h8 OL).mono ?_; rintro _ _ ⟨rfl, rfl⟩) | (go_at_call 38; refine (str_small b t _ _ PT.out (by exact ⟨rfl, rfl, rfl, rfl⟩) h8).mono ?_; rintro _ ws ⟨rfl, Bs⟩)))
          go_ret2
          exact ⟨rfl, Lib.hid (B0.out.trans ((BK.out.trans (Bs.out.mono SZ0.out)).mono B0.out.size))⟩
        · have n0 : 0 < n := by omega
          have TE : Hid (scP (l.take k) ++ [10] = t) := Lib.hid (by
            rw [TL.out, ← HT.out]
            unfold scT
            rw [if_neg (fun e => hn0 (by rw [← HN.out, e]; rfl))])
          clear hn0
          by_cases h8 : 8192 < t.length
          · have PR : Hid (prR l = ([], 3)) := Lib.hid (by unfold prR; rw [CH.out, HT.out, if_pos rfl, if_pos h8])
            obtain rfl : tx = ⟨#[]⟩ := by rw [← hr.out.1, PR.out]
            obtain rfl : er = 3 := by rw [← hr.out.2, PR.out]
            go_wp2_with (first | (go_at_call 34; refine (put_any b _ _ wr _ P.out (by exact ⟨rfl, rfl, rfl, rfl⟩) (by decide) (Lib.hid (show (ByteArray.mk #[10]).data.toList = [10] from rfl))).mono ?_; rintro _ q ⟨rfl, Pq, Kq⟩) | (go_at_call 35; refine (len_big b t _ _ (Pq.out.cast TE.out) (by exact ⟨rfl, rfl, rfl, rfl⟩) h8).mono ?_; rintro _ _ ⟨ol, hgt, rfl, rfl⟩))
            repeat (go_region; go_wp2_with (first | (go_at_call 34; refine (put_any b _ _ wr _ P.out (by exact ⟨rfl, rfl, rfl, rfl⟩) (by decide) (Lib.hid (show (ByteArray.mk #[10]).data.toList = [10] from rfl))).mono ?_; rintro _ q ⟨rfl, Pq, Kq⟩) | (go_at_call 35; refine (len_big b t _ _ (Pq.out.cast TE.out) (by exact ⟨rfl, rfl, rfl, rfl⟩) h8).mono ?_; rintro _ _ ⟨ol, hgt, rfl, rfl⟩)))
            go_ret2
            exact ⟨rfl, Lib.hid (B0.out.trans ((BK.out.trans (Kq.out.below.mono SZ0.out)).mono B0.out.size))⟩
          · have PR : Hid (prR l = (t, 0)) := Lib.hid (by unfold prR; rw [CH.out, HT.out, if_pos rfl, if_neg h8])
            obtain rfl : tx = ⟨t.toArray⟩ := by rw [← hr.out.1, PR.out]
            obtain rfl : er = 0 := by rw [← hr.out.2, PR.out]
            obtain ⟨ol, hol⟩ : ∃ ol, t.length = ol := ⟨_, rfl⟩
            have OL := Lib.hid hol
            have h9 : ¬ 8192 < ol := by rw [← hol]; exact h8
            clear hol
            go_wp2_with (first | (go_at_call 34; refine (put_any b _ _ wr _ P.out (by exact ⟨rfl, rfl, rfl, rfl⟩) (by decide) (Lib.hid (show (ByteArray.mk #[10]).data.toList = [10] from rfl))).mono ?_; rintro _ q ⟨rfl, Pq, Kq⟩) | (go_at_call 35; refine (len_small b t _ _ (Pq.out.cast TE.out) (by exact ⟨rfl, rfl, rfl, rfl⟩) h8 OL).mono ?_; rintro _ _ ⟨rfl, rfl⟩) | (go_at_call 38; refine (str_small b t _ _ (Pq.out.cast TE.out) (by exact ⟨rfl, rfl, rfl, rfl⟩) h8).mono ?_; rintro _ ws ⟨rfl, Bs⟩))
            repeat (go_region; go_wp2_with (first | (go_at_call 34; refine (put_any b _ _ wr _ P.out (by exact ⟨rfl, rfl, rfl, rfl⟩) (by decide) (Lib.hid (show (ByteArray.mk #[10]).data.toList = [10] from rfl))).mono ?_; rintro _ q ⟨rfl, Pq, Kq⟩) | (go_at_call 35; refine (len_small b t _ _ (Pq.out.cast TE.out) (by exact ⟨rfl, rfl, rfl, rfl⟩) h8 OL).mono ?_; rintro _ _ ⟨rfl, rfl⟩) | (go_at_call 38; refine (str_small b t _ _ (Pq.out.cast TE.out) (by exact ⟨rfl, rfl, rfl, rfl⟩) h8).mono ?_; rintro _ ws ⟨rfl, Bs⟩)))
            go_ret2
            exact ⟨rfl, Lib.hid (B0.out.trans (((BK.out.trans (Kq.out.below.mono SZ0.out)).trans (Bs.out.mono SZ0.out)).mono B0.out.size))⟩
  · have PR : Hid (prR l = ([], ch)) := Lib.hid (by unfold prR; rw [CH.out, if_neg hc0])
    obtain rfl : tx = ⟨#[]⟩ := by rw [← hr.out.1, PR.out]
    obtain rfl : er = ch := by rw [← hr.out.2, PR.out]
    have t0 : (er == 0) = false := by rw [beq_eq_false_iff_ne]; exact hc0
    have t1 : (er != 0) = true := by rw [bne, t0]; rfl
    clear hc0 hr
    go_enter Tryd.func15, Tryd.ntmps15
    go_wp2_with (go_at_call 17; refine (check_any l (.slice a n cap) _ D1.out CH).mono ?_; rintro _ w1 ⟨rfl, B1⟩)
    go_ret2
    exact ⟨rfl, Lib.hid (B0.out.trans (B1.out.mono B0.out.size))⟩
end Go.Proofs.YtlhagpfpcdedpaaDoor
