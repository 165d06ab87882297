/- the law UniqFeeds -/
import Derived.Test.YtoohbgjfhchnmaaDoorRf
namespace Go.Proofs.YtoohbgjfhchnmaaDoor
open Go.RowKit Go.Maps
open Lcl
theorem out_rows {w : World} {v : Value} {L : List ByteArray} (h : OutAt w v L) : RowsAt w v 1 (strs L) := by
  rcases h with ⟨rfl, rfl⟩ | ⟨g, cap, x, rfl, h1, h2, rfl, hc⟩
  · exact rows_empty w 1
  · have hg : g < w.heap.size := by
      rcases Nat.lt_or_ge g w.heap.size with h | h
      · exact h
      · exfalso; simp [World.cell?, Array.getElem?_eq_none h] at hc
    refine ⟨some ⟨g, 0, none⟩, cap, rfl, h1, h2, .inr ⟨g, 0, rfl, hg, fun j y hj i z hi => ?_⟩⟩
    match j, hj with
    | 0, hj => cases hj; match i, hi with | 0, hi => cases hi; exact hc
theorem out_kept {w w' : World} {v : Value} {L : List ByteArray} {B j : Nat} (h : OutAt w v L) (hn : OutN B v) (hj : j < B) (hg : w.grownBy w' (some j)) : OutAt w' v L := by
  rcases h with h | ⟨g, cap, x, rfl, h1, h2, rfl, hc⟩
  · exact .inl h
  · have hB := hn _ _ _ _ _ rfl
    have hl : g < w.heap.size := by
      rcases Nat.lt_or_ge g w.heap.size with h | h
      · exact h
      · exfalso; simp [World.cell?, Array.getElem?_eq_none h] at hc
    refine .inr ⟨g, cap, x, rfl, h1, h2, rfl, ?_⟩
    have := hg.block g hl (fun e => by cases e; omega)
    simp only [World.cell?, this] at hc ⊢
    exact hc
theorem out_nil {w : World} {v : Value} (h : OutAt w v []) : v = .slice none 0 0 := by
  rcases h with ⟨rfl, -⟩ | ⟨g, cap, x, -, -, -, h, -⟩
  · rfl
  · cases h
/-- both filters, in one state -/
structure FD (c : Cfg) (W2 w0 : World) (bp bo bq : Nat) (x1 x4 x5 v1 v4 v5 : Value) (g kk : Nat) (wr : World) (st : St) (n : Nat) : Prop where
  p : PF c w0 wr bp bo bq x1 x4 x5 g st
  r : RF c W2 wr v1 v4 v5 kk st
  b : Below W2.heap.size W2 wr
  n : st.n ≤ n
  f : st.first.size ≤ 140737488351232
  gk : g < kk
  wg : W2.heap.size ≤ g
section
variable {c : Cfg} {W2 w0 w1 w2 wr : World} {bp bo bq g kk n : Nat} {x1 x4 x5 v1 v4 v5 : Value} {st st' : St}
theorem pf_grown {j : Nat} (h : PF c w0 w1 bp bo bq x1 x4 x5 g st) (hg : w1.grownBy w2 (some j)) (hj : g < j) : PF c w0 w2 bp bo bq x1 x4 x5 g st :=
  ⟨h.own, h.le, h.bel.grown hg h.bel.size (fun k hk => by cases hk; have := h.le; omega), by rw [hg.block g h.lt (fun e => by cases e; omega)]; exact h.blk⟩
theorem rfil_grown {j : Nat} {first last : ByteArray} {m : Nat} (h : RFil c W2 w1 v1 v4 v5 kk first last m) (hg : w1.grownBy w2 (some j)) (hj : j < kk) (hw : W2.heap.size ≤ j) : RFil c W2 w2 v1 v4 v5 kk first last m :=
  ⟨h.loc, h.le, h.bel.grown hg h.bel.size (fun k hk => by cases hk; exact hw), by rw [hg.block kk h.lt (fun e => by cases e; omega)]; exact h.blk⟩
theorem rf_grown {j : Nat} (h : RF c W2 w1 v1 v4 v5 kk st) (hg : w1.grownBy w2 (some j)) (hj : j < kk) (hw : W2.heap.size ≤ j) : RF c W2 w2 v1 v4 v5 kk st := by
  obtain ⟨last, h1, h2, h3⟩ := h
  exact ⟨last, rfil_grown h1 hg hj hw, h2, h3⟩
theorem rf_keep (h : RF c W2 w1 v1 v4 v5 kk st) (hb : Below w1.heap.size w1 w2) : RF c W2 w2 v1 v4 v5 kk st := by
  obtain ⟨last, h1, h2, h3⟩ := h
  exact ⟨last, ⟨h1.loc, h1.le, h1.bel.trans (hb.mono h1.bel.size), by rw [hb.block _ h1.lt]; exact h1.blk⟩, h2, h3⟩
theorem rf_base {wb : World} (h : RF c wb w1 v1 v4 v5 kk st) (hl : LocAt W2 v1 v4 v5 c.W c.C c.E) (hb : Below W2.heap.size W2 w1) (hk : W2.heap.size ≤ kk) : RF c W2 w1 v1 v4 v5 kk st := by
  obtain ⟨last, h1, h2, h3⟩ := h
  exact ⟨last, ⟨hl, hk, hb, h1.blk⟩, h2, h3⟩
theorem FD.keep (h : FD c W2 w0 bp bo bq x1 x4 x5 v1 v4 v5 g kk wr st n) (hb : Below wr.heap.size wr w1) : FD c W2 w0 bp bo bq x1 x4 x5 v1 v4 v5 g kk w1 st n :=
  ⟨h.p.keep hb, rf_keep h.r hb, h.b.trans (hb.mono h.b.size), h.n, h.f, h.gk, h.wg⟩
theorem FD.kk_lt (h : FD c W2 w0 bp bo bq x1 x4 x5 v1 v4 v5 g kk wr st n) : kk < wr.heap.size := by
  obtain ⟨last, h1, -, -⟩ := h.r
  exact h1.lt
theorem feed_n (st : St) (x : ByteArray) (m : Nat) (h : st.n ≤ m) : (feedS c st x).n ≤ m + 1 := by
  unfold feedS; split
  · exact Nat.succ_le_succ h
  · exact Nat.succ_le_succ (Nat.zero_le m)
theorem feed_f (st : St) (x : ByteArray) (h : st.first.size ≤ 140737488351232) (hx : x.size ≤ 140737488351232) : (feedS c st x).first.size ≤ 140737488351232 := by
  unfold feedS; split
  · exact h
  · exact hx
theorem FD.both (h : FD c W2 w0 bp bo bq x1 x4 x5 v1 v4 v5 g kk wr st n) (hp : PF c w0 w1 bp bo bq x1 x4 x5 g st') (hg : wr.grownBy w1 (some g)) (hr : RF c W2 w2 v1 v4 v5 kk st') (hg2 : w1.grownBy w2 (some kk)) {m : Nat} (hm : st'.n ≤ m) (hf : st'.first.size ≤ 140737488351232) : FD c W2 w0 bp bo bq x1 x4 x5 v1 v4 v5 g kk w2 st' m :=
  ⟨pf_grown hp hg2 h.gk, hr, (h.b.grown hg h.b.size (fun j hj => by cases hj; exact h.wg)).grown hg2 (Nat.le_trans h.b.size hg.size) (fun j hj => by cases hj; have := h.gk; have := h.wg; omega), hm, hf, h.gk, h.wg⟩
end
set_option maxRecDepth 100000 in
set_option maxHeartbeats 32000000 in
theorem law_feeds (c : Cfg) (hc : c.Ok) (v1 v4 v5 vl vc : Value) (L : List ByteArray) (M : List Bool) (w : World) (hL : LocAt w v1 v4 v5 c.W c.C c.E) (n1 : NZ v1) (n4 : NZ v4) (n5 : NZ v5) (ht : Tab w) (hr : RowsAt w vl 1 (strs L)) (hz : ∀ x ∈ L, x.size ≤ 140737488351232) (hl : L.length * 16 ≤ 140737488351232) (hm : RowsAt w vc 1 (M.map fun b => [.bool b])) :
    Calls Tryd.prog 4 #[c.sp, c.lv v1 v4 v5, vl, vc] w fun e w' => e = .returned (.bool true) ∧ Below w.heap.size w w' := by
  have LO := Lib.hid hL
  have HT := Lib.hid ht
  have HZ := Lib.hid hz
  have HL := Lib.hid hl
  have HC := Lib.hid hc
  have S0 := keepS (c := c) (w := w) (v1 := v1) (v4 := v4) (v5 := v5) ((Below.refl _ _).drew)
  have W2b : Hid (Below w.heap.size w ((w.alloc (.cells c.cells 23)).alloc (.cells (c.lcells v1 v4 v5) 28))) := Lib.hid (below_step (below_step (Below.refl _ _)))
  have RL := Lib.hid (hr.below W2b.out)
  have RM := Lib.hid (hm.below W2b.out)
  have ML : Hid (M.length ≤ maxLen) := Lib.hid (by have := hm.len; rwa [List.length_map] at this)
  have NA : Hid (∀ w', LocAt w' v1 v4 v5 c.W c.C c.E → Calls Tryd.prog 13 #[c.sp, c.lv v1 v4 v5] w' (NewR c w')) := Lib.hid (fun w' h => new_any c hc v1 v4 v5 w' h n1 n4 n5)
  have NR : Hid (∀ w', LocAt w' v1 v4 v5 c.W c.C c.E → Calls Tryd.prog 14 #[c.sp, c.lv v1 v4 v5] w' (RNewR c v1 v4 v5 w')) := Lib.hid (fun w' h => rnew_any c v1 v4 v5 w' h)
  obtain ⟨a0, cap0, e0, -⟩ := hr
  rw [List.length_map] at e0
  subst e0
  obtain ⟨a2, cap2, e2, -⟩ := hm
  rw [List.length_map] at e2
  subst e2
  have hu64 : L.length ≤ 8796093022208 := by have := HL.out; omega
  have hm64 : M.length ≤ 9223372036854775807 := by have := ML.out; unfold maxLen at this; omega
  clear hc hL n1 n4 n5 ht hz hl
  go_enter Tryd.func4, Tryd.ntmps4
  go_wp2_with fail
  go_region_held3 (fun w' => Below ((w.alloc (.cells c.cells 23)).alloc (.cells (c.lcells v1 v4 v5) 28)).heap.size ((w.alloc (.cells c.cells 23)).alloc (.cells (c.lcells v1 v4 v5) 28)) w' ∧ w'.cell? ⟨w.heap.size, 0, none⟩ = some (.int .i64 c.F) ∧ w'.cell? ⟨w.heap.size, 1, none⟩ = some (.int .i64 c.B) ∧ w'.cell? ⟨w.heap.size, 2, none⟩ = some (.int .i64 c.D) ∧ w'.cell? ⟨w.heap.size, 3, none⟩ = some (.bool c.cnt) ∧ w'.cell? ⟨w.heap.size, 4, none⟩ = some (.bool c.fold) ∧ w'.cell? ⟨w.heap.size, 5, none⟩ = some (.bool c.rep) ∧ w'.cell? ⟨w.heap.size, 6, none⟩ = some (.bool c.sg) ∧ w'.cell? ⟨w.heap.size + 1, 0, none⟩ = some (.string c.n) ∧ w'.cell? ⟨w.heap.size + 1, 1, none⟩ = some (v1) ∧ w'.cell? ⟨w.heap.size + 1, 2, none⟩ = some (.string c.lo) ∧ w'.cell? ⟨w.heap.size + 1, 3, none⟩ = some (.string c.up) ∧ w'.cell? ⟨w.heap.size + 1, 4, none⟩ = some (v4) ∧ w'.cell? ⟨w.heap.size + 1, 5, none⟩ = some (v5)) (first | exact S0)
    (first
      | (go_at_call 13; (with_reducible refine (NA.out _ (LO.out.below (below_step (below_step S0.1)))).mono ?_); rintro e w1 ⟨y, bp, bo, bq, x1, x4, x5, g, rfl, PF1, B1, -, G1⟩; have G1 := Lib.hid (Nat.le_trans S0.1.size G1.out); have S0 := keepS (S0.1.trans (B1.out.mono S0.1.size)))
      | (go_at_call 14; (with_reducible refine (NR.out _ (LO.out.below (below_step (below_step S0.1)))).mono ?_); rintro e w2 ⟨z, kk, rfl, RF1, B1, G2, L2⟩; have GK := Lib.hid (Nat.lt_of_lt_of_le PF1.out.lt G2.out); have S0 := keepS (S0.1.trans (B1.out.mono S0.1.size)); have F0 : Hid (FD c ((w.alloc (.cells c.cells 23)).alloc (.cells (c.lcells v1 v4 v5) 28)) y bp bo bq x1 x4 x5 v1 v4 v5 g kk w2 st0 0) := Lib.hid ⟨PF1.out.keep B1.out, rf_base RF1.out (LO.out.below W2b.out) S0.1 (Nat.le_trans G1.out (Nat.le_of_lt GK.out)), S0.1, Nat.le_refl _, by decide, GK.out, G1.out⟩))
  go_wp2_with fail
  go_loopw [12] (fun i wr => ∃ (k : Nat) (st : St), k ≤ L.length ∧ i = .int .i64 k ∧ Hid (FD c ((w.alloc (.cells c.cells 23)).alloc (.cells (c.lcells v1 v4 v5) 28)) y bp bo bq x1 x4 x5 v1 v4 v5 g kk wr st k)) (fun i _ => L.length - (intOf i).toNat)
  case atStart => exact ⟨0, st0, Nat.zero_le _, rfl, F0⟩
  case round =>
    clear F0
    obtain ⟨k, st, hk, rfl, RN⟩ := hrel
    by_cases hlt : k < L.length
    · obtain ⟨x, hx⟩ : ∃ x, L[k]? = some x := ⟨L[k], List.getElem?_eq_getElem hlt⟩
      obtain ⟨gl, ol, cl, el, hc1, hc2, hgl, hcell⟩ := RL.out.cons (by intro e; have h0 := congrArg List.length e; rw [List.length_map, List.length_nil] at h0; omega)
      rw [List.length_map] at el hc1
      have hcx := hcell k [.string x] (by rw [List.getElem?_map, hx]; rfl) 0 _ rfl
      simp only [Value.slice.injEq, true_and] at el
      obtain ⟨rfl, rfl⟩ := el
      rw [Nat.mul_one, Nat.add_zero] at hcx
      have RN := Lib.hid (RN.out.keep ((Below.refl _ _).drew))
      have CX := Lib.hid hcx
      have GL := Lib.hid hgl
      have S0 := And.intro RN.out.b ((RN.out.b.cell (p := ⟨gl, ol + k, none⟩) GL.out).trans CX.out)
      have XZ : Hid (x.size ≤ 140737488351232) := Lib.hid (HZ.out x (List.mem_of_getElem? hx))
      have C1 := Lib.hid hc1
      clear hc1 hc2 hcell hx hgl hcx
      go_wp2_with fail
      go_region_held3 (fun w' => Below ((w.alloc (.cells c.cells 23)).alloc (.cells (c.lcells v1 v4 v5) 28)).heap.size ((w.alloc (.cells c.cells 23)).alloc (.cells (c.lcells v1 v4 v5) 28)) w' ∧ w'.cell? ⟨gl, ol + k, none⟩ = some (.string x)) (first | exact S0)
        (first
          | (go_at_call 15; (first | ((with_reducible refine (feed_any c HC.out y _ bp bo bq x1 x4 x5 g st x RN.out.p (tab_below HT.out (below_step (below_step RN.out.b))) (by have := RN.out.n; have := HL.out; omega) RN.out.f XZ.out).mono ?_); intro e w3 h3; obtain ⟨u1, rfl, OV1, P2, G2, NV⟩ := stepr_is h3; clear h3; have BB := RN.out.b.grown G2.out RN.out.b.size (fun j hj => by cases hj; exact RN.out.wg); have S0 := And.intro BB ((BB.cell (p := ⟨gl, ol + k, none⟩) GL.out).trans CX.out)) | ((with_reducible refine (feed_nil _ _).mono ?_); rintro e w6 ⟨rfl, rfl⟩)))
          | (go_at_call 16; (with_reducible refine (rfeed_any c HC.out _ _ v1 v4 v5 kk st x (rf_grown RN.out.r G2.out RN.out.gk RN.out.wg) (by have := RN.out.n; have := HL.out; omega) RN.out.f XZ.out).mono ?_); intro e w4 h4; obtain ⟨u2, rfl, OV2, R3, G3, NV2⟩ := rstepr_is h4; clear h4; have OV1 := Lib.hid (out_kept OV1.out NV.out RN.out.kk_lt G3.out); have F1 := Lib.hid (RN.out.both P2.out G2.out R3.out G3.out (feed_n st x k RN.out.n) (feed_f st x RN.out.f XZ.out)); have BB := F1.out.b; have S0 := And.intro BB ((BB.cell (p := ⟨gl, ol + k, none⟩) GL.out).trans CX.out))
          | (go_at_call 9; (with_reducible refine (sametexts_eq _ _ _ _ (out_rows OV1.out) (out_rows OV2.out)).mono ?_); rintro e w5 ⟨rfl, hb⟩; have F1 := Lib.hid (F1.out.keep hb); have BB := F1.out.b; have S0 := And.intro BB ((BB.cell (p := ⟨gl, ol + k, none⟩) GL.out).trans CX.out)))
      clear RN S0 CX GL C1
      by_cases hkm : k < M.length
      · obtain ⟨b, hx⟩ : ∃ b, M[k]? = some b := ⟨M[k], List.getElem?_eq_getElem hkm⟩
        obtain ⟨gm, om, cm, el, hc1, hc2, hgm, hcell⟩ := RM.out.cons (by intro e; have h0 := congrArg List.length e; rw [List.length_map, List.length_nil] at h0; omega)
        rw [List.length_map] at el hc1
        have hcx := hcell k [.bool b] (by rw [List.getElem?_map, hx]; rfl) 0 _ rfl
        simp only [Value.slice.injEq, true_and] at el
        obtain ⟨rfl, rfl⟩ := el
        rw [Nat.mul_one, Nat.add_zero] at hcx
        have hcy := (F1.out.b.cell (p := ⟨gm, om + k, none⟩) hgm).trans hcx
        have C1 := Lib.hid hc1
        clear hc1 hc2 hcell hx hgm hcx
        cases b
        · go_wp2_with fail
          go_roundw
          case rel => exact ⟨k + 1, feedS c st x, by omega, by go_num, F1⟩
          case measure => simp [intOf]; omega
        · have C9 := True.intro
          go_wp2_with fail
          refine (close_any c _ _ bp bo bq x1 x4 x5 g _ _ _ F1.out.p (tab_below HT.out (below_step (below_step F1.out.b))) (by have := F1.out.n; have := HL.out; omega) F1.out.f).mono ?_
          intro e wc1 h2
          obtain ⟨uc1, rfl, OV1, P2, G2, NV⟩ := closer_is h2
          clear h2
          obtain ⟨last, R1, -, ls⟩ := F1.out.r
          have KL := Lib.hid F1.out.kk_lt
          have R2 := Lib.hid (rfil_grown R1 G2.out F1.out.gk F1.out.wg)
          clear R1
          go_wp2_with fail
          refine (rclose_any c _ _ v1 v4 v5 kk _ _ _ R2.out (by have := F1.out.n; have := HL.out; omega) F1.out.f).mono ?_
          intro e wc2 h2
          obtain ⟨uc2, rfl, OV2, R3, G3, NV2⟩ := rcloser_is h2
          clear h2
          have OV1 := Lib.hid (out_kept OV1.out NV.out KL.out G3.out)
          have FC : Hid (FD c ((w.alloc (.cells c.cells 23)).alloc (.cells (c.lcells v1 v4 v5) 28)) y bp bo bq x1 x4 x5 v1 v4 v5 g kk wc2 ⟨(feedS c st x).first, (feedS c st x).key, 0⟩ (k + 1)) := Lib.hid (F1.out.both (st' := ⟨(feedS c st x).first, (feedS c st x).key, 0⟩) P2.out G2.out ⟨last, R3.out, fun h => absurd h (Nat.lt_irrefl 0), ls⟩ G3.out (Nat.zero_le _) F1.out.f)
          clear P2 G2 R2 R3 G3 NV NV2 KL
          go_wp2_with fail
          refine (sametexts_eq _ _ _ _ (out_rows OV1.out) (out_rows OV2.out)).mono ?_
          rintro e wc3 ⟨rfl, hb⟩
          have FC := Lib.hid (FC.out.keep hb)
          clear hb OV1 OV2
          go_wp2_with fail
          go_roundw
          case rel => exact ⟨k + 1, _, by omega, by go_num, FC⟩
          case measure => simp [intOf]; omega
      · go_wp2_with fail
        go_roundw
        case rel => exact ⟨k + 1, feedS c st x, by omega, by go_num, F1⟩
        case measure => simp [intOf]; omega
    · have ek : k = L.length := by omega
      subst ek
      go_wp2_with fail
      refine (close_any c _ _ bp bo bq x1 x4 x5 g _ _ _ RN.out.p (tab_below HT.out (below_step (below_step RN.out.b))) (by have := RN.out.n; have := HL.out; omega) RN.out.f).mono ?_
      intro e wd1 h2
      obtain ⟨ud1, rfl, OV1, P2, G2, NV⟩ := closer_is h2
      clear h2
      obtain ⟨last, R1, -, ls⟩ := RN.out.r
      have KL := Lib.hid RN.out.kk_lt
      have R2 := Lib.hid (rfil_grown R1 G2.out RN.out.gk RN.out.wg)
      clear R1
      go_wp2_with fail
      refine (rclose_any c _ _ v1 v4 v5 kk _ _ _ R2.out (by have := RN.out.n; have := HL.out; omega) RN.out.f).mono ?_
      intro e wd2 h2
      obtain ⟨ud2, rfl, OV2, R3, G3, NV2⟩ := rcloser_is h2
      clear h2
      have OV1 := Lib.hid (out_kept OV1.out NV.out KL.out G3.out)
      have FC : Hid (FD c ((w.alloc (.cells c.cells 23)).alloc (.cells (c.lcells v1 v4 v5) 28)) y bp bo bq x1 x4 x5 v1 v4 v5 g kk wd2 ⟨st.first, st.key, 0⟩ L.length) := Lib.hid (RN.out.both (st' := ⟨st.first, st.key, 0⟩) P2.out G2.out ⟨last, R3.out, fun h => absurd h (Nat.lt_irrefl 0), ls⟩ G3.out (Nat.zero_le _) RN.out.f)
      clear P2 G2 R2 R3 G3 NV NV2 KL
      go_wp2_with fail
      refine (sametexts_eq _ _ _ _ (out_rows OV1.out) (out_rows OV2.out)).mono ?_
      rintro e wd3 ⟨rfl, hb⟩
      have FC := Lib.hid (FC.out.keep hb)
      clear hb OV1 OV2
      go_wp2_with fail
      refine (close_any c _ _ bp bo bq x1 x4 x5 g _ _ _ FC.out.p (tab_below HT.out (below_step (below_step FC.out.b))) (Nat.zero_le _) FC.out.f).mono ?_
      intro e w4 h2
      obtain ⟨u4, rfl, OV, P2, G2, NV⟩ := closer_is h2
      clear h2
      have e4 := out_nil (show OutAt w4 u4 [] from OV.out)
      subst e4
      have BB := Lib.hid (FC.out.b.grown G2.out FC.out.b.size (fun j hj => by cases hj; exact FC.out.wg))
      go_wp2_with fail
      refine (close_nil _).mono ?_
      rintro e w5 ⟨rfl, rfl⟩
      go_wp2_with fail
      refine (awake_any _ (tab_below HT.out (below_step (below_step BB.out)))).mono ?_
      rintro e w6 ⟨rfl, hb⟩
      go_wp2_with fail
      go_ret
      exact ⟨rfl, below_step (below_step (BB.out.trans (hb.mono BB.out.size)))⟩
end Go.Proofs.YtoohbgjfhchnmaaDoor
