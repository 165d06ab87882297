/- walks: the reference's next, Parse (written by gen_kj.py) -/
import Derived.Test.YtlhagpfpcdedpaaDoorKi
import Derived.Test.YtlhagpfpcdedpaaDoorHt
namespace Go.Proofs.YtlhagpfpcdedpaaDoor
open Go.RowKit
open Shp
namespace Shp
def yP (y : St) (n : Nat) : St := if 64 ≤ n ∧ beg y = true then failS 3 y else y
theorem rp_top {s : ByteArray} {y : St} {k : Nat} {cn : Int} (w : WfS s y) (hg : BgW y) (hk : k ≤ 64) :
    (plS s y (k + 1) cn).1 = (plI s ((plC s (yP y k)).1, [], false)).1 ∧ (okB (plI s ((plC s (yP y k)).1, [], false)).1 = true → (plS s y (k + 1) cn).2 = ⟨(plI s ((plC s (yP y k)).1, [], false)).2.1, (plC s (yP y k)).2, cn⟩) := by
  by_cases h : k = 64
  · subst h
    have e := rp_lim (s := s) (x := y) (cn := cn) (num := ((64 : Nat) : Int) + 1) (by decide)
    rw [e]
    cases hb : beg y with
    | true =>
      obtain ⟨t, a, rfl⟩ := beg_run hb
      have e1 : yP (.run t a) 64 = .bad 3 t.a := by unfold yP; rw [if_pos ⟨Nat.le_refl _, hb⟩]; rfl
      rw [e1, plC_bad, if_pos rfl, pl_bad rfl]
      exact ⟨rfl, fun h => by cases h⟩
    | false =>
      have e1 : yP y 64 = y := by unfold yP; rw [if_neg (fun h => by rw [hb] at h; cases h.2)]
      rw [e1, if_neg (by decide)]
      have r := rp_plS (s := s) (cn := cn) (num := 1) w hg (by decide)
      have e2 : (plS s y 1 cn).1 = failS 1 y := by
        unfold plS
        simp only
        have : plB s y 1 = (failS 1 y, false) := by
          rw [plB_eq, if_neg (by decide), if_neg (by rw [hb]; decide)]
          cases y <;> rfl
        rw [this]
        simp only
        rw [pl_bad (fail_ok 1 y)]
      rw [← r.1, e2]
      refine ⟨by cases y <;> rfl, fun h => by rw [fail_ok] at h; cases h⟩
  · have e1 : yP y k = y := by unfold yP; rw [if_neg (fun h' => by omega)]
    rw [e1]
    have r := rp_plS (s := s) (cn := cn) (num := (k : Int) + 1) w hg (by omega)
    refine ⟨r.1, fun ho => ?_⟩
    have e2 := r.2.2.2 (by rw [r.1]; exact ho)
    have e3 := r.2.1
    have e4 := r.2.2.1
    generalize (plS s y ((k : Int) + 1) cn).2 = z at e2 e3 e4
    obtain ⟨z1, z2, z3⟩ := z
    simp only at e2 e3 e4
    rw [e2, e3, e4]
theorem gb_yP {y : St} {n : Nat} (h : BgW y) : BgW (yP y n) := by unfold yP; split; exact gb_fail _ _; exact h
theorem cn_end {y : St} (h : endB y = true) : cnO y = 1 ∧ ∀ s, sepN s y = y := by
  refine ⟨by unfold cnO; rw [end_isO h, end_isO h]; rfl, fun s => ?_⟩
  have e1 : sepS y = y := by unfold sepS sepB; rw [h]; simp
  unfold sepN
  rw [e1, if_pos h]; exact lf_none (end_isO h _)
end Shp
set_option maxRecDepth 100000 in
set_option maxHeartbeats 4000000 in
theorem rnx_st (p : Nat) (s : ByteArray) (y : St) (w0 w : World) (h : RM p s w0 y) (hw : SameW w0 w) (hs : s.size ≤ 8192) (he : endB y = false) {cn : Int} {b : Bool} {y3 : St} (hc : Hid (cnO y = cn)) (hb : Hid (decide (cn = 1) = b)) (hy : Hid (sepN s y = y3)) :
    Calls Tryd.prog 29 #[.pointer (some ⟨p, 0, none⟩)] w fun e w' => e = .returned (.tuple #[.int .i64 cn, .bool b]) ∧ Hid (RM p s w' y3) ∧ Hid (Gr p w0 w') := by
  have H := Lib.hid (h.sameW hw)
  have G0 := Lib.hid (gr_same (gr_refl p w) hw)
  obtain ⟨r1, h1⟩ : ∃ b, isO [38, 38] y = b := ⟨_, rfl⟩
  obtain ⟨r2, h2⟩ : ∃ b, isO [124, 124] y = b := ⟨_, rfl⟩
  obtain ⟨r3, h3⟩ : ∃ b, isO [59] y = b := ⟨_, rfl⟩
  obtain ⟨r4, h4⟩ : ∃ b, isO [10] y = b := ⟨_, rfl⟩
  have I1 : Hid (isO (ByteArray.mk #[38, 38]).data.toList y = r1) := Lib.hid h1
  have I2 : Hid (isO (ByteArray.mk #[124, 124]).data.toList y = r2) := Lib.hid h2
  have I3 : Hid (isO (ByteArray.mk #[59]).data.toList y = r3) := Lib.hid h3
  have I4 : Hid (isO (ByteArray.mk #[10]).data.toList y = r4) := Lib.hid h4
  have CN : Hid (Ending.returned (.tuple #[.int .i64 cn, .bool b]) = Ending.returned (if r1 = true then .tuple #[.int .i64 2, .bool false] else if r2 = true then .tuple #[.int .i64 3, .bool false] else .tuple #[.int .i64 1, .bool true])) := Lib.hid (by
    rw [← hb.out, ← hc.out]
    unfold cnO
    rw [h1, h2]
    cases r1 with
    | true => rfl
    | false => cases r2 with
      | true => rfl
      | false => rfl)
  have SP : Hid (y3 = lfS s (rd s (if r1 = true ∨ r2 = true ∨ r3 = true ∨ r4 = true then y else failS 1 y))) := Lib.hid (by rw [← hy.out, rp_sep he, h1, h2, h3, h4])
  clear h hw h1 h2 h3 h4 hc hb hy he
  cases r1 with
  | true =>
    have SP : Hid (y3 = lfS s (rd s y)) := Lib.hid (by rw [SP.out, if_pos (.inl rfl)])
    go_enter Tryd.func29, Tryd.ntmps29
    go_wp2_with (first | (go_at_call 50; (first | (with_reducible refine (ris_st p s y _ w _ H.out (by first | exact S1 | exact same_trans S1 ⟨rfl, rfl, rfl, rfl⟩ | exact ⟨rfl, rfl, rfl, rfl⟩) I1).mono ?_) ); rintro e wi ⟨rfl, S1⟩) | (go_at_call 24; refine (rread_st p s y w _ H.out (by first | exact S1 | exact same_trans S1 ⟨rfl, rfl, rfl, rfl⟩) hs).mono ?_; rintro e w3 ⟨rfl, L3, G3⟩) | (go_at_call 25; refine (feeds_st p s (rd s y) w3 _ L3.out (by exact ⟨rfl, rfl, rfl, rfl⟩) hs).mono ?_; rintro e w4 ⟨rfl, L4, G4⟩))
    repeat (go_region; go_wp2_with (first | (go_at_call 50; (first | (with_reducible refine (ris_st p s y _ w _ H.out (by first | exact S1 | exact same_trans S1 ⟨rfl, rfl, rfl, rfl⟩ | exact ⟨rfl, rfl, rfl, rfl⟩) I1).mono ?_) ); rintro e wi ⟨rfl, S1⟩) | (go_at_call 24; refine (rread_st p s y w _ H.out (by first | exact S1 | exact same_trans S1 ⟨rfl, rfl, rfl, rfl⟩) hs).mono ?_; rintro e w3 ⟨rfl, L3, G3⟩) | (go_at_call 25; refine (feeds_st p s (rd s y) w3 _ L3.out (by exact ⟨rfl, rfl, rfl, rfl⟩) hs).mono ?_; rintro e w4 ⟨rfl, L4, G4⟩)))
    go_ret2
    exact ⟨by rw [CN.out]; rfl, Lib.hid (by rw [SP.out]; exact L4.out), Lib.hid (gr_trans G0.out (gr_trans G3.out G4.out))⟩
  | false =>
    cases r2 with
    | true =>
      have SP : Hid (y3 = lfS s (rd s y)) := Lib.hid (by rw [SP.out, if_pos (.inr (.inl rfl))])
      go_enter Tryd.func29, Tryd.ntmps29
      go_wp2_with (first | (go_at_call 50; (first | (with_reducible refine (ris_st p s y _ w _ H.out (by first | exact S1 | exact same_trans S1 ⟨rfl, rfl, rfl, rfl⟩ | exact ⟨rfl, rfl, rfl, rfl⟩) I1).mono ?_) | (with_reducible refine (ris_st p s y _ w _ H.out (by first | exact S1 | exact same_trans S1 ⟨rfl, rfl, rfl, rfl⟩ | exact ⟨rfl, rfl, rfl, rfl⟩) I2).mono ?_) ); rintro e wi ⟨rfl, S1⟩) | (go_at_call 24; refine (rread_st p s y w _ H.out (by first | exact S1 | exact same_trans S1 ⟨rfl, rfl, rfl, rfl⟩) hs).mono ?_; rintro e w3 ⟨rfl, L3, G3⟩) | (go_at_call 25; refine (feeds_st p s (rd s y) w3 _ L3.out (by exact ⟨rfl, rfl, rfl, rfl⟩) hs).mono ?_; rintro e w4 ⟨rfl, L4, G4⟩))
      repeat (go_region; go_wp2_with (first | (go_at_call 50; (first | (with_reducible refine (ris_st p s y _ w _ H.out (by first | exact S1 | exact same_trans S1 ⟨rfl, rfl, rfl, rfl⟩ | exact ⟨rfl, rfl, rfl, rfl⟩) I1).mono ?_) | (with_reducible refine (ris_st p s y _ w _ H.out (by first | exact S1 | exact same_trans S1 ⟨rfl, rfl, rfl, rfl⟩ | exact ⟨rfl, rfl, rfl, rfl⟩) I2).mono ?_) ); rintro e wi ⟨rfl, S1⟩) | (go_at_call 24; refine (rread_st p s y w _ H.out (by first | exact S1 | exact same_trans S1 ⟨rfl, rfl, rfl, rfl⟩) hs).mono ?_; rintro e w3 ⟨rfl, L3, G3⟩) | (go_at_call 25; refine (feeds_st p s (rd s y) w3 _ L3.out (by exact ⟨rfl, rfl, rfl, rfl⟩) hs).mono ?_; rintro e w4 ⟨rfl, L4, G4⟩)))
      go_ret2
      exact ⟨by rw [CN.out]; rfl, Lib.hid (by rw [SP.out]; exact L4.out), Lib.hid (gr_trans G0.out (gr_trans G3.out G4.out))⟩
    | false =>
      cases r3 with
      | true =>
        have SP : Hid (y3 = lfS s (rd s y)) := Lib.hid (by rw [SP.out, if_pos (.inr (.inr (.inl rfl)))])
        go_enter Tryd.func29, Tryd.ntmps29
        go_wp2_with (first | (go_at_call 50; (first | (with_reducible refine (ris_st p s y _ w _ H.out (by first | exact S1 | exact same_trans S1 ⟨rfl, rfl, rfl, rfl⟩ | exact ⟨rfl, rfl, rfl, rfl⟩) I1).mono ?_) | (with_reducible refine (ris_st p s y _ w _ H.out (by first | exact S1 | exact same_trans S1 ⟨rfl, rfl, rfl, rfl⟩ | exact ⟨rfl, rfl, rfl, rfl⟩) I2).mono ?_) | (with_reducible refine (ris_st p s y _ w _ H.out (by first | exact S1 | exact same_trans S1 ⟨rfl, rfl, rfl, rfl⟩ | exact ⟨rfl, rfl, rfl, rfl⟩) I3).mono ?_) ); rintro e wi ⟨rfl, S1⟩) | (go_at_call 24; refine (rread_st p s y w _ H.out (by first | exact S1 | exact same_trans S1 ⟨rfl, rfl, rfl, rfl⟩) hs).mono ?_; rintro e w3 ⟨rfl, L3, G3⟩) | (go_at_call 25; refine (feeds_st p s (rd s y) w3 _ L3.out (by exact ⟨rfl, rfl, rfl, rfl⟩) hs).mono ?_; rintro e w4 ⟨rfl, L4, G4⟩))
        repeat (go_region; go_wp2_with (first | (go_at_call 50; (first | (with_reducible refine (ris_st p s y _ w _ H.out (by first | exact S1 | exact same_trans S1 ⟨rfl, rfl, rfl, rfl⟩ | exact ⟨rfl, rfl, rfl, rfl⟩) I1).mono ?_) | (with_reducible refine (ris_st p s y _ w _ H.out (by first | exact S1 | exact same_trans S1 ⟨rfl, rfl, rfl, rfl⟩ | exact ⟨rfl, rfl, rfl, rfl⟩) I2).mono ?_) | (with_reducible refine (ris_st p s y _ w _ H.out (by first | exact S1 | exact same_trans S1 ⟨rfl, rfl, rfl, rfl⟩ | exact ⟨rfl, rfl, rfl, rfl⟩) I3).mono ?_) ); rintro e wi ⟨rfl, S1⟩) | (go_at_call 24; refine (rread_st p s y w _ H.out (by first | exact S1 | exact same_trans S1 ⟨rfl, rfl, rfl, rfl⟩) hs).mono ?_; rintro e w3 ⟨rfl, L3, G3⟩) | (go_at_call 25; refine (feeds_st p s (rd s y) w3 _ L3.out (by exact ⟨rfl, rfl, rfl, rfl⟩) hs).mono ?_; rintro e w4 ⟨rfl, L4, G4⟩)))
        go_ret2
        exact ⟨by rw [CN.out]; rfl, Lib.hid (by rw [SP.out]; exact L4.out), Lib.hid (gr_trans G0.out (gr_trans G3.out G4.out))⟩
      | false =>
        cases r4 with
        | true =>
          have SP : Hid (y3 = lfS s (rd s y)) := Lib.hid (by rw [SP.out, if_pos (.inr (.inr (.inr rfl)))])
          go_enter Tryd.func29, Tryd.ntmps29
          go_wp2_with (first | (go_at_call 50; (first | (with_reducible refine (ris_st p s y _ w _ H.out (by first | exact S1 | exact same_trans S1 ⟨rfl, rfl, rfl, rfl⟩ | exact ⟨rfl, rfl, rfl, rfl⟩) I1).mono ?_) | (with_reducible refine (ris_st p s y _ w _ H.out (by first | exact S1 | exact same_trans S1 ⟨rfl, rfl, rfl, rfl⟩ | exact ⟨rfl, rfl, rfl, rfl⟩) I2).mono ?_) | (with_reducible refine (ris_st p s y _ w _ H.out (by first | exact S1 | exact same_trans S1 ⟨rfl, rfl, rfl, rfl⟩ | exact ⟨rfl, rfl, rfl, rfl⟩) I3).mono ?_) | (with_reducible refine (ris_st p s y _ w _ H.out (by first | exact S1 | exact same_trans S1 ⟨rfl, rfl, rfl, rfl⟩ | exact ⟨rfl, rfl, rfl, rfl⟩) I4).mono ?_)); rintro e wi ⟨rfl, S1⟩) | (go_at_call 24; refine (rread_st p s y w _ H.out (by first | exact S1 | exact same_trans S1 ⟨rfl, rfl, rfl, rfl⟩) hs).mono ?_; rintro e w3 ⟨rfl, L3, G3⟩) | (go_at_call 25; refine (feeds_st p s (rd s y) w3 _ L3.out (by exact ⟨rfl, rfl, rfl, rfl⟩) hs).mono ?_; rintro e w4 ⟨rfl, L4, G4⟩))
          repeat (go_region; go_wp2_with (first | (go_at_call 50; (first | (with_reducible refine (ris_st p s y _ w _ H.out (by first | exact S1 | exact same_trans S1 ⟨rfl, rfl, rfl, rfl⟩ | exact ⟨rfl, rfl, rfl, rfl⟩) I1).mono ?_) | (with_reducible refine (ris_st p s y _ w _ H.out (by first | exact S1 | exact same_trans S1 ⟨rfl, rfl, rfl, rfl⟩ | exact ⟨rfl, rfl, rfl, rfl⟩) I2).mono ?_) | (with_reducible refine (ris_st p s y _ w _ H.out (by first | exact S1 | exact same_trans S1 ⟨rfl, rfl, rfl, rfl⟩ | exact ⟨rfl, rfl, rfl, rfl⟩) I3).mono ?_) | (with_reducible refine (ris_st p s y _ w _ H.out (by first | exact S1 | exact same_trans S1 ⟨rfl, rfl, rfl, rfl⟩ | exact ⟨rfl, rfl, rfl, rfl⟩) I4).mono ?_)); rintro e wi ⟨rfl, S1⟩) | (go_at_call 24; refine (rread_st p s y w _ H.out (by first | exact S1 | exact same_trans S1 ⟨rfl, rfl, rfl, rfl⟩) hs).mono ?_; rintro e w3 ⟨rfl, L3, G3⟩) | (go_at_call 25; refine (feeds_st p s (rd s y) w3 _ L3.out (by exact ⟨rfl, rfl, rfl, rfl⟩) hs).mono ?_; rintro e w4 ⟨rfl, L4, G4⟩)))
          go_ret2
          exact ⟨by rw [CN.out]; rfl, Lib.hid (by rw [SP.out]; exact L4.out), Lib.hid (gr_trans G0.out (gr_trans G3.out G4.out))⟩
        | false =>
          have SP : Hid (y3 = lfS s (rd s (failS 1 y))) := Lib.hid (by rw [SP.out, if_neg (by simp)])
          go_enter Tryd.func29, Tryd.ntmps29
          go_wp2_with (first | (go_at_call 50; (first | (with_reducible refine (ris_st p s y _ w _ H.out (by first | exact S1 | exact same_trans S1 ⟨rfl, rfl, rfl, rfl⟩ | exact ⟨rfl, rfl, rfl, rfl⟩) I1).mono ?_) | (with_reducible refine (ris_st p s y _ w _ H.out (by first | exact S1 | exact same_trans S1 ⟨rfl, rfl, rfl, rfl⟩ | exact ⟨rfl, rfl, rfl, rfl⟩) I2).mono ?_) | (with_reducible refine (ris_st p s y _ w _ H.out (by first | exact S1 | exact same_trans S1 ⟨rfl, rfl, rfl, rfl⟩ | exact ⟨rfl, rfl, rfl, rfl⟩) I3).mono ?_) | (with_reducible refine (ris_st p s y _ w _ H.out (by first | exact S1 | exact same_trans S1 ⟨rfl, rfl, rfl, rfl⟩ | exact ⟨rfl, rfl, rfl, rfl⟩) I4).mono ?_)); rintro e wi ⟨rfl, S1⟩) | (go_at_call 27; refine (rfail_st p s y 1 w _ H.out (by first | exact S1 | exact same_trans S1 ⟨rfl, rfl, rfl, rfl⟩) (.inl rfl)).mono ?_; rintro e w2 ⟨rfl, L2, G2⟩) | (go_at_call 24; refine (rread_st p s (failS 1 y) w2 _ L2.out (by exact ⟨rfl, rfl, rfl, rfl⟩) hs).mono ?_; rintro e w3 ⟨rfl, L3, G3⟩) | (go_at_call 25; refine (feeds_st p s (rd s (failS 1 y)) w3 _ L3.out (by exact ⟨rfl, rfl, rfl, rfl⟩) hs).mono ?_; rintro e w4 ⟨rfl, L4, G4⟩))
          repeat (go_region; go_wp2_with (first | (go_at_call 50; (first | (with_reducible refine (ris_st p s y _ w _ H.out (by first | exact S1 | exact same_trans S1 ⟨rfl, rfl, rfl, rfl⟩ | exact ⟨rfl, rfl, rfl, rfl⟩) I1).mono ?_) | (with_reducible refine (ris_st p s y _ w _ H.out (by first | exact S1 | exact same_trans S1 ⟨rfl, rfl, rfl, rfl⟩ | exact ⟨rfl, rfl, rfl, rfl⟩) I2).mono ?_) | (with_reducible refine (ris_st p s y _ w _ H.out (by first | exact S1 | exact same_trans S1 ⟨rfl, rfl, rfl, rfl⟩ | exact ⟨rfl, rfl, rfl, rfl⟩) I3).mono ?_) | (with_reducible refine (ris_st p s y _ w _ H.out (by first | exact S1 | exact same_trans S1 ⟨rfl, rfl, rfl, rfl⟩ | exact ⟨rfl, rfl, rfl, rfl⟩) I4).mono ?_)); rintro e wi ⟨rfl, S1⟩) | (go_at_call 27; refine (rfail_st p s y 1 w _ H.out (by first | exact S1 | exact same_trans S1 ⟨rfl, rfl, rfl, rfl⟩) (.inl rfl)).mono ?_; rintro e w2 ⟨rfl, L2, G2⟩) | (go_at_call 24; refine (rread_st p s (failS 1 y) w2 _ L2.out (by exact ⟨rfl, rfl, rfl, rfl⟩) hs).mono ?_; rintro e w3 ⟨rfl, L3, G3⟩) | (go_at_call 25; refine (feeds_st p s (rd s (failS 1 y)) w3 _ L3.out (by exact ⟨rfl, rfl, rfl, rfl⟩) hs).mono ?_; rintro e w4 ⟨rfl, L4, G4⟩)))
          go_ret2
          exact ⟨by rw [CN.out]; rfl, Lib.hid (by rw [SP.out]; exact L4.out), Lib.hid (gr_trans G0.out (gr_trans (gr_trans G2.out G3.out) G4.out))⟩
theorem rpipeline_is (p : Nat) (s : ByteArray) (x : St) (cn : Int) (w : World) (h : RM p s w x) (hb : BgW x) (hs : s.size ≤ 8192) {y2 : St} {pl : List Cm} {no : Bool} (hY : Hid ((plC s x).2 = no ∧ (plI s ((plC s x).1, [], false)).1 = y2 ∧ (plI s ((plC s x).1, [], false)).2.1 = pl)) :
    Calls Tryd.prog 28 #[.pointer (some ⟨p, 0, none⟩), .int .i64 cn] w fun e w' => ∃ (l : List CmV) (vc : Value),
      e = .returned (.agg #[vc, .bool no, .int .i64 cn]) ∧ Hid (CmdsV w.heap.size vc l w') ∧ Hid (RM p s w' y2) ∧ Hid (Gr p w w') ∧ Hid (okB y2 = true → l.map (·.1) = pl) := by
  obtain ⟨e1, e2, e3⟩ := hY.out
  refine (rpipeline_st p s x cn w h hb hs).mono ?_
  rw [e1, e2, e3]
  exact fun _ _ h => h
theorem PipsV.grr {B p : Nat} {v : Value} {l : List PlV} {s : ByteArray} {x : St} {w w' : World} (h : PipsV B v l w) (m : RM p s w x) (g : Gr p w w') : PipsV B v l w' := by
  obtain ⟨cs, hb⟩ := m.blk
  exact ⟨own_gr h.1 g hb (by decide), fun x hx => (h.2 x hx).grr m g⟩
theorem SO.grr {g B p : Nat} {l : List PlV} {v : Value} {w w' : World} {s : ByteArray} {x : St} (h : SO g B l v w) (m : RM p s w x) (hg : Gr p w w') (hne : g ≠ p) : SO g B l v w' := by
  refine ⟨?_, h.pips.grr m hg⟩
  obtain ⟨q1, q2, q3, q4, q5⟩ := hg
  rw [q5 g (Array.getElem?_eq_some_iff.1 h.blk).1 (fun e => hne (by cases e; rfl))]
  exact h.blk
/-- the measure with the error -/
def muQ (s : ByteArray) (p : Nat) (w : World) : Nat := muR s p w + (match w.cell? ⟨p, 6, none⟩ with
  | some (.int _ x) => if x = 0 then 1 else 0
  | _ => 0)
theorem RM.muQ {p : Nat} {s : ByteArray} {w : World} {x : St} (h : RM p s w x) : Go.Proofs.YtlhagpfpcdedpaaDoor.muQ s p w = Shp.mu s x + (if okB x = true then 1 else 0) := by
  unfold Go.Proofs.YtlhagpfpcdedpaaDoor.muQ
  rw [h.mu]
  obtain ⟨h, h2⟩ := h
  cases x with
  | run t a =>
    rw [(RY.cells h).2.2.2.2.2.2.1]; rfl
  | bad e q =>
    obtain ⟨k, tx, b, ta, af, h⟩ := h
    rw [h.cells.2.2.2.2.2.2.1]
    simp only
    rw [if_neg (by have := h2.1; omega)]; rfl
/-- the parts of the memory -/
structure PYR (s : ByteArray) (w wr : World) (x : St) (l : List PlV) (v : Value) (g : Nat) : Prop where
  L : RM (w.heap.size + 1) s wr x
  R : wr.heap[w.heap.size]? = some (.cells #[.slice none 0 0] 24 (0, 0))
  O : SO g w.heap.size l v wr
  G : Gr (w.heap.size + 1) w wr
  lt : w.heap.size + 1 < g
theorem PYR.same {s : ByteArray} {w wr w' : World} {x : St} {l : List PlV} {v : Value} {g : Nat} (h : PYR s w wr x l v g) (e : SameW wr w') : PYR s w w' x l v g := ⟨h.L.sameW e, by rw [e.1]; exact h.R, h.O.same e.1, gr_same' h.G e, h.lt⟩
theorem PYR.next {s : ByteArray} {w wr w' : World} {x y : St} {l : List PlV} {v : Value} {g : Nat} (h : PYR s w wr x l v g) (L : RM (w.heap.size + 1) s w' y) (hg : Gr (w.heap.size + 1) wr w') : PYR s w w' y l v g := by
  refine ⟨L, ?_, h.O.grr h.L hg (by have := h.lt; omega), gr_trans h.G hg, h.lt⟩
  obtain ⟨q1, q2, q3, q4, q5⟩ := hg
  rw [q5 w.heap.size (Array.getElem?_eq_some_iff.1 h.R).1 (fun e => by injection e with e; omega)]; exact h.R
abbrev RW0 (s : ByteArray) (w : World) : World := (w.alloc (.cells #[.slice none 0 0] 24)).alloc (.cells #[.string s, .int .i64 0, .string ⟨#[]⟩, .bool false, .int .i64 0, .int .i64 0, .int .i64 0, .int .i64 0] 58)
theorem RW0.below (s : ByteArray) (w : World) : Below w.heap.size w (RW0 s w) := ((Below.refl w.heap.size w).alloc (Nat.le_refl _) _).alloc (by simp) _
theorem RW0.res (s : ByteArray) (w : World) : (RW0 s w).heap[w.heap.size]? = some (.cells #[.slice none 0 0] 24 (0, 0)) :=
  (heap_alloc_old _ _ (by simp)).trans (heap_alloc_new w _)
theorem RW0.ry (s : ByteArray) (w : World) : RY (w.heap.size + 1) s 0 ⟨#[]⟩ false 0 0 0 0 (RW0 s w) := by
  have h := heap_alloc_new (w.alloc (.cells #[.slice none 0 0] 24)) (.cells #[.string s, .int .i64 0, .string ⟨#[]⟩, .bool false, .int .i64 0, .int .i64 0, .int .i64 0, .int .i64 0] 58)
  rw [show (w.alloc (.cells #[.slice none 0 0] 24)).heap.size = w.heap.size + 1 by simp] at h
  exact h
theorem RW0.first {s : ByteArray} {w w' : World} {x : St} (L : RM (w.heap.size + 1) s w' x) (g : Gr (w.heap.size + 1) (RW0 s w) w') : PYR s w (w'.alloc (.cells #[.slice none 0 0] 24)) x [] (.slice none 0 0) w'.heap.size := by
  have r := RW0.res s w
  have sz : w.heap.size + 1 < w'.heap.size := L.lt
  have b := (Below.refl w'.heap.size w').alloc (Nat.le_refl _) (.cells #[.slice none 0 0] 24)
  refine ⟨L.same (heap_alloc_old _ _ sz), (heap_alloc_old _ _ (by omega)).trans ?_, ⟨heap_alloc_new w' _, ⟨rfl, .inl ⟨rfl, rfl⟩⟩, fun x hx => by cases hx⟩, gr_trans (gr_trans (gr_below (RW0.below s w)) g) (gr_below b), sz⟩
  obtain ⟨q1, q2, q3, q4, q5⟩ := g
  rw [q5 _ (Array.getElem?_eq_some_iff.1 r).1 (fun e => by injection e with e; omega)]; exact r
/-- on the way -/
structure PXR (s : ByteArray) (w wr : World) (x : St) (l : List PlV) (v : Value) (g : Nat) (cn : Int) : Prop where
  P : PYR s w wr x l v g
  len : l.length ≤ 65 ∧ (okB x = true → l.length ≤ 64)
  run : okB x = true → paI s (x, l.map toPl, cn) = paS s
  bad : okB x = false → (paS s).1 = x
  gb : BgW x
set_option maxRecDepth 100000 in
set_option maxHeartbeats 8000000 in
theorem rparse_any (s : ByteArray) (w : World) :
    Calls Tryd.prog 10 #[.string s] w fun e w' => ∃ (l : List PlV) (v : Value),
      e = .returned (.tuple #[.agg #[v], .int .i64 (paR s).2.1, .int .i64 (paR s).2.2]) ∧ Hid (PipsV w.heap.size v l w') ∧ Hid (Below w.heap.size w w') ∧ Hid (l.map toPl = (paR s).1) := by
  by_cases hs : s.size ≤ 8192
  · have R0 := RW0.ry s w
    go_enter Tryd.func10, Tryd.ntmps10
    go_wp2_with (first | (go_at_call 24; refine (rread_run (w.heap.size + 1) s 0 _ _ _ 0 0 _ R0 hs (Nat.zero_le _)).mono ?_; rintro e w1 ⟨rfl, L1, G1⟩; have N1 : Hid (RM (w.heap.size + 1) s w1 (nx s 0)) := Lib.hid ⟨L1.out, nx_wf (Nat.zero_le _)⟩) | (go_at_call 25; refine (feeds_st (w.heap.size + 1) s (nx s 0) w1 _ N1.out (by exact ⟨rfl, rfl, rfl, rfl⟩) hs).mono ?_; rintro e w2 ⟨rfl, L2, G2⟩; have Y0 := Lib.hid (RW0.first L2.out (gr_trans G1.out G2.out)); clear L1 L2 G1 G2 N1 R0))
    go_loopw [7, 8] (fun u b wr => ∃ (y : St) (l : List PlV) (v : Value) (g : Nat) (cn : Int), u = .int .i64 cn ∧ b = .bool (decide (cn = 1)) ∧ g = w2.heap.size ∧ Hid (PXR s w wr y l v g cn)) (fun _ _ wr => muQ s (w.heap.size + 1) wr)
    case atStart => exact ⟨_, [], _, _, 1, rfl, rfl, rfl, Lib.hid ⟨Y0.out, by simp, fun _ => rfl, fun ho => by unfold paS; rw [pa_none (by unfold pa1; rw [if_pos (.inl ho)])], gb_lf (gb_nx 0)⟩⟩
    case round =>
      obtain ⟨y, l, v, g, cn, rfl, rfl, hg0, X⟩ := hrel
      rw [← hg0]
      clear hg0
      have P0 := Lib.hid X.out.P
      obtain ⟨k1, hk1⟩ : ∃ k1, l.length = k1 := ⟨_, rfl⟩
      have HK1 := Lib.hid hk1
      obtain ⟨b1, j1, rfl⟩ := own_slice2 P0.out.O.pips.1
      have K65 : k1 ≤ 65 := by have := X.out.len.1; omega
      rw [hk1] at X P0
      clear hk1 Y0
      cases y with
      | bad er qq =>
        obtain ⟨⟨tk, tx, tb, ta, af, h1⟩, h2⟩ := P0.out.L
        obtain ⟨-, c1, -, -, -, -, c6, c7⟩ := RY.cells h1
        have te : (er == 0) = false := by rw [beq_eq_false_iff_ne]; have := h2.1; omega
        have te2 : (er != 0) = true := by rw [bne, te]; rfl
        have RR := Lib.hid P0.out.R
        have g0 := blk_frozen P0.out.R 0
        have r0 := blk_cell P0.out.R 0
        simp only [List.getElem?_toArray, List.getElem?_cons_zero] at r0
        have PR : Hid (paR s = ([], er, qq)) := Lib.hid (by unfold paR; rw [if_neg (by omega), X.out.bad rfl])
        clear h1 h2
        go_wp2_with (fail)
        repeat (go_region; go_wp2_with (fail))
        (try simp only [Exit.inBlock, Exit.then])
        have FB := res_set RR.out (.slice none 0 0)
        have z0 := blk_cell FB 0
        simp only [List.getElem?_toArray, List.getElem?_cons_zero] at z0
        refine bodyPost_ret (v := .tuple #[.agg #[.slice none 0 0], .int .i64 er, .int .i64 qq]) (by simp [results, Tryd.results10, go_sem, z0]) rfl ⟨[], _, by rw [PR.out], Lib.hid (⟨⟨rfl, .inl ⟨rfl, rfl⟩⟩, fun x hx => by cases hx⟩), Lib.hid ((by first | exact ((gr_bel P0.out.G (by omega)).setCell (p := ⟨w.heap.size, 0, none⟩) (Nat.le_refl _) _).drew | exact ((gr_bel P0.out.G (by omega)).setCell (p := ⟨w.heap.size, 0, none⟩) (Nat.le_refl _) _))), Lib.hid (by rw [PR.out]; try rfl)⟩
      | run t a =>
        obtain ⟨-, c1, -, -, -, -, c6, c7⟩ := RY.cells P0.out.L.1
        have AL : Hid (l.length ≤ 1048576) := Lib.hid (by have := X.out.len; omega)
        by_cases hend : endB (.run t a) = true ∧ cn = 1
        · obtain ⟨he, rfl⟩ := hend
          have k0 : t.k = 0 := by simpa [endB] using he
          rw [k0] at c1
          have PR : Hid (paR s = (l.map toPl, 0, 0)) := Lib.hid (by
            have e := X.out.run rfl
            rw [pa_none (by unfold pa1; rw [if_pos (.inr ⟨he, rfl⟩)])] at e
            unfold paR; rw [if_neg (by omega), ← e])
          have RR := Lib.hid P0.out.R
          have g0 := blk_frozen P0.out.R 0
          have r0 := blk_cell P0.out.R 0
          simp only [List.getElem?_toArray, List.getElem?_cons_zero] at r0
          obtain ⟨d0, fd0⟩ := P0.out.O.cells
          clear he k0
          go_wp2_with (fail)
          repeat (go_region; go_wp2_with (fail))
          (try simp only [Exit.inBlock, Exit.then])
          have FB := res_set RR.out (.slice b1 k1 j1)
          have z0 := blk_cell FB 0
          simp only [List.getElem?_toArray, List.getElem?_cons_zero] at z0
          refine bodyPost_ret (v := .tuple #[.agg #[.slice b1 k1 j1], .int .i64 0, .int .i64 0]) (by simp [results, Tryd.results10, go_sem, z0]) rfl ⟨l, _, by rw [PR.out], Lib.hid (P0.out.O.pips.setc RR.out (by decide) (by decide) (by decide) (by decide)), Lib.hid ((by first | exact ((gr_bel P0.out.G (by omega)).setCell (p := ⟨w.heap.size, 0, none⟩) (Nat.le_refl _) _).drew | exact ((gr_bel P0.out.G (by omega)).setCell (p := ⟨w.heap.size, 0, none⟩) (Nat.le_refl _) _))), Lib.hid (by rw [PR.out]; try rfl)⟩
        have hne : okB (.run t a) = false ∨ (endB (.run t a) = true ∧ cn = 1) → False := fun h => h.elim (fun h => by cases h) hend
        have HNE := Lib.hid hne
        have K64 : k1 ≤ 64 := by have := X.out.len.2 rfl; have := HK1.out; omega
        obtain ⟨y', hy'⟩ : ∃ y', yP (.run t a) k1 = y' := ⟨_, rfl⟩
        have YP := Lib.hid hy'
        have RT := rp_top (s := s) (y := .run t a) (k := k1) (cn := cn) P0.out.L.2 X.out.gb K64
        rw [hy'] at RT
        obtain ⟨no, hno⟩ : ∃ no, (plC s y').2 = no := ⟨_, rfl⟩
        obtain ⟨y2, hy2⟩ : ∃ y2, (plI s ((plC s y').1, [], false)).1 = y2 := ⟨_, rfl⟩
        obtain ⟨pl, hpl⟩ : ∃ pl, (plI s ((plC s y').1, [], false)).2.1 = pl := ⟨_, rfl⟩
        have HP : Hid ((plC s y').2 = no ∧ (plI s ((plC s y').1, [], false)).1 = y2 ∧ (plI s ((plC s y').1, [], false)).2.1 = pl) := Lib.hid ⟨hno, hy2, hpl⟩
        rw [hno, hy2, hpl] at RT
        have BW : Hid (BgW y') := Lib.hid (by rw [← hy']; exact gb_yP X.out.gb)
        obtain ⟨plx, hplx⟩ : ∃ plx, (plS s (.run t a) ((k1 : Int) + 1) cn).2 = plx := ⟨_, rfl⟩
        have HY : Hid (plS s (.run t a) ((k1 : Int) + 1) cn = (y2, plx)) := Lib.hid (by rw [← RT.1, ← hplx])
        have HPL : Hid (okB y2 = true → plx = ⟨pl, no, cn⟩) := Lib.hid (fun ho => by rw [← hplx]; exact RT.2 ho)
        have TOP : Hid (pa1 s (.run t a, l.map toPl, cn) = some (sepN s y2, l.map toPl ++ [plx], cnO y2)) := Lib.hid (by
          unfold pa1; simp only; rw [if_neg HNE.out]; simp only [List.length_map, HK1.out, HY.out])
        have RUN := Lib.hid ((X.out.run rfl).symm.trans (pa_step (z := (.run t a, l.map toPl, cn)) P0.out.L.2 TOP.out))
        have PMU := Lib.hid (pa1_mu (z := (.run t a, l.map toPl, cn)) P0.out.L.2 TOP.out).2
        have MU := Lib.hid P0.out.L.muQ
        have LIM : Hid (okB y2 = true → k1 + 1 ≤ 64) := Lib.hid (fun ho => by
          refine Decidable.byContradiction fun h => ?_
          have := plS_lim (s := s) (x := .run t a) (num := (k1 : Int) + 1) (cn := cn) (by omega)
          rw [HY.out] at this
          rw [this] at ho; cases ho)
        have BG2 : Hid (BgW y2) := Lib.hid (by rw [← hy2]; refine gb_pl (z := ((plC s y').1, [], false)) ?_; unfold plC; split; (split; (simp only; exact gb_rd _); exact BW.out); exact gb_bad _ _)
        clear hne RT hno hy2 hpl hplx hy'
        obtain ⟨bq, hbq⟩ : ∃ bq, decide (cn = 1) = bq := ⟨_, rfl⟩
        rw [hbq]
        have HBQ := Lib.hid hbq
        clear hbq
        go_upto_region 8 with (fail)
        go_cut [37] from 20 to 74 (fun u w' => u = .bool true ∧ Hid (PYR s w w' (.run t a) l (.slice b1 k1 j1) g))
        · by_cases hc : cn = 1
          · subst hc
            obtain rfl : bq = true := by rw [← HBQ.out]; rfl
            have k0 : t.k ≠ 0 := fun h => hend ⟨by simpa [endB] using h, rfl⟩
            have tn : (((t.k : Nat) : Int) == 0) = false := by rw [beq_eq_false_iff_ne]; omega
            clear hend k0
            go_wp2_with (fail)
            repeat (go_region; go_wp2_with (fail))
            go_meet
            case rel => exact ⟨rfl, Lib.hid (P0.out.same (by exact ⟨rfl, rfl, rfl, rfl⟩))⟩
          · obtain rfl : bq = false := by rw [← HBQ.out]; exact decide_eq_false hc
            clear hend hc
            go_wp2_with (fail)
            repeat (go_region; go_wp2_with (fail))
            go_meet
            case rel => exact ⟨rfl, Lib.hid (P0.out.same (by exact ⟨rfl, rfl, rfl, rfl⟩))⟩
        obtain ⟨rfl, P1⟩ := hcut
        clear hend P0 c1 c6 c7
        refine ‹∀ (a : Act) (w : World), Code.wp _ _ _ a w → _› _ _ ?_
        obtain ⟨r, hr⟩ : ∃ r, beg (.run t a) = r := ⟨_, rfl⟩
        have BG := Lib.hid hr
        clear hr
        go_upto_region 9 with (fail)
        go_cut [45] from 20 to 74 (fun u w' => u = .bool (decide (64 ≤ k1) && r) ∧ Hid (PYR s w w' (.run t a) l (.slice b1 k1 j1) g))
        · obtain ⟨d0, fd0⟩ := P1.out.O.cells
          by_cases h64 : k1 = 64
          · subst h64
            go_wp2_with ((go_at_call 26; refine (rbegins_st (w.heap.size + 1) s (.run t a) _ _ P1.out.L (by exact ⟨rfl, rfl, rfl, rfl⟩) BG).mono ?_; rintro e w5 ⟨rfl, S5⟩))
            repeat (go_region; go_wp2_with ((go_at_call 26; refine (rbegins_st (w.heap.size + 1) s (.run t a) _ _ P1.out.L (by exact ⟨rfl, rfl, rfl, rfl⟩) BG).mono ?_; rintro e w5 ⟨rfl, S5⟩)))
            go_meet
            case rel => exact ⟨rfl, Lib.hid (P1.out.same S5)⟩
          · have d16 : Hid (decide (64 ≤ k1) = false) := Lib.hid (decide_eq_false (by omega))
            have d17 : k1 < 64 := by omega
            go_wp2_with (fail)
            repeat (go_region; go_wp2_with (fail))
            go_meet
            case rel => exact ⟨by rw [d16.out]; rfl, Lib.hid (P1.out.same (by exact ⟨rfl, rfl, rfl, rfl⟩))⟩
        obtain ⟨rfl, P2⟩ := hcut
        refine ‹∀ (a : Act) (w : World), Code.wp _ _ _ a w → _› _ _ ?_
        go_cut [] from 20 to 74 (fun w' => Hid (PYR s w w' y' l (.slice b1 k1 j1) g))
        · cases hd : (decide (64 ≤ k1) && r) with
          | true =>
            have YR : Hid (y' = failS 3 (.run t a)) := Lib.hid (by
              rw [← YP.out]
              unfold yP
              simp only [Bool.and_eq_true, decide_eq_true_eq] at hd
              rw [if_pos ⟨hd.1, by rw [BG.out]; exact hd.2⟩])
            clear hd
            go_wp2_with (go_at_call 27; refine (rfail_st (w.heap.size + 1) s (.run t a) 3 _ _ P2.out.L (by exact ⟨rfl, rfl, rfl, rfl⟩) (.inr rfl)).mono ?_; rintro e w2' ⟨rfl, L2, G2⟩)
            go_meet
            case rel => exact Lib.hid (by rw [YR.out]; exact P2.out.next L2.out G2.out)
          | false =>
            have YR : Hid (y' = .run t a) := Lib.hid (by
              rw [← YP.out]
              unfold yP
              rw [if_neg (fun h => by
                rw [decide_eq_true h.1, ← BG.out, h.2] at hd
                cases hd)])
            clear hd
            go_wp2_with fail
            go_meet
            case rel => exact Lib.hid (by rw [YR.out]; exact P2.out)
        have Z := hcut
        clear hcut P2 P1 BG
        refine ‹∀ (a : Act) (w : World), Code.wp _ _ _ a w → _› _ _ ?_
        obtain ⟨d0, fd0⟩ := Z.out.O.cells
        go_upto_region 11 with (fail)
        go_cut [] from 20 to 74 (fun w' => Hid (∃ (lv : List CmV) (a1 : Option Addr) (m1 h2 cap : Nat), PYR s w w' y2 (l ++ [(lv, Value.slice a1 lv.length m1, no, cn)]) (.slice (some ⟨h2, 0, none⟩) (l.length + 1) cap) g ∧ (okB y2 = true → lv.map (·.1) = pl)))
        · go_region_law (first | (go_simp; (go_at_call 28; refine (rpipeline_is (w.heap.size + 1) s y' cn _ (Z.out.L.same (by rfl)) BW.out hs HP).mono ?_; rintro e w3 ⟨lv, vc, rfl, M3, L3, G3, E3⟩; obtain ⟨a1, m1, rfl⟩ := own_slice2 M3.out.1; have P3 := Lib.hid (Z.out.next L3.out (gr_same G3.out (by exact ⟨rfl, rfl, rfl, rfl⟩))); have SZ := Lib.hid P3.out.G.size; obtain ⟨d0, fd0⟩ := P3.out.O.cells; have d0a : (w3.alloc (.cells #[.slice a1 lv.length m1, .bool no, .int .i64 cn] 34)).cell? ⟨g, 0, none⟩ = some (.slice b1 k1 j1) := (((Below.refl w3.heap.size w3).alloc (Nat.le_refl _) _).cell (p := ⟨g, 0, none⟩) (Array.getElem?_eq_some_iff.1 P3.out.O.blk).1).trans d0)) | (refine step_pip rfl (.tmp 49) (.tmp 53) rfl (.slice b1 k1 j1) k1 (pipC l) lv.length m1 a1 no cn w.heap.size w3 (HK1.out ▸ P3.out.O.pips.1) SZ.out (HK1.out ▸ AL.out) (by simp [Act.eval]) (by simp [Act.eval]) ?_; intro h2 cap w4 hown hgr; have e0 := (grown_keep hgr P3.out.O.pips.1 P3.out.O.blk (by decide)).trans P3.out.O.blk; have d0 := blk_cell e0 0; have fd0 := blk_frozen e0 0; simp only [List.getElem?_toArray, List.getElem?_cons_zero] at d0))
          all_goals (
            obtain rfl := HK1.out
            have P4 : Hid (PYR s w (w4.setCell ⟨g, 0, none⟩ (.slice (some ⟨h2, 0, none⟩) (l.length + 1) cap)) y2 (l ++ [(lv, Value.slice a1 lv.length m1, no, cn)]) (.slice (some ⟨h2, 0, none⟩) (l.length + 1) cap) g) := Lib.hid (by
              have M4 := M3.out.mono (show w.heap.size ≤ _ from Z.out.G.size)
              have r2 := (grown_keep hgr P3.out.O.pips.1 P3.out.R (by decide)).trans P3.out.R
              have lt := Z.out.lt
              exact ⟨(P3.out.L.grown hgr P3.out.O.pips.1 (by decide)).setc (by omega), (set_other (by omega)).trans r2, P3.out.O.pip1 M4 hgr hown, gr_setc (gr_grown P3.out.G hgr P3.out.O.pips.1 (Nat.le_refl _)) (by omega), lt⟩)
            clear hown hgr e0 d0 fd0
            go_wp2_with fail
            go_meet
            case rel => exact Lib.hid ⟨lv, a1, m1, h2, cap, P4.out.same (by exact ⟨rfl, rfl, rfl, rfl⟩), E3.out⟩)
        obtain ⟨lv, a1, m1, h2, cap, P4, E4⟩ := hcut.out
        have P4 := Lib.hid P4
        have E4 := Lib.hid E4
        clear hcut Z d0 fd0 HP BW YP
        have LPX : Hid (okB y2 = true → (l ++ [(lv, Value.slice a1 lv.length m1, no, cn)]).map toPl = l.map toPl ++ [plx]) := Lib.hid (fun ho => by
          rw [List.map_append, List.map_singleton, HPL.out ho, show toPl (lv, Value.slice a1 lv.length m1, no, cn) = ⟨pl, no, cn⟩ by unfold toPl; simp only [E4.out ho]])
        refine ‹∀ (a : Act) (w : World), Code.wp _ _ _ a w → _› _ _ ?_
        cases he2 : endB y2 with
        | true =>
          obtain ⟨t2, a2, rfl, k0⟩ := end_k he2
          have PR : Hid (paR s = ((l ++ [(lv, Value.slice a1 lv.length m1, no, cn)]).map toPl, 0, 0)) := Lib.hid (by
            obtain ⟨q1, q2⟩ := cn_end he2
            have e := RUN.out
            rw [q1, q2 s, pa_none (by unfold pa1; rw [if_pos (.inr ⟨he2, rfl⟩)])] at e
            unfold paR; rw [if_neg (by omega), e, LPX.out rfl])
          obtain ⟨-, c1, -, -, -, -, c6, c7⟩ := RY.cells P4.out.L.1
          rw [k0] at c1
          have RR := Lib.hid P4.out.R
          have g0 := blk_frozen P4.out.R 0
          have r0 := blk_cell P4.out.R 0
          simp only [List.getElem?_toArray, List.getElem?_cons_zero] at r0
          obtain ⟨d0, fd0⟩ := P4.out.O.cells
          clear he2 k0
          go_wp2_with (fail)
          repeat (go_region; go_wp2_with (fail))
          (try simp only [Exit.inBlock, Exit.then])
          have FB := res_set RR.out (.slice (some ⟨h2, 0, none⟩) (l.length + 1) cap)
          have z0 := blk_cell FB 0
          simp only [List.getElem?_toArray, List.getElem?_cons_zero] at z0
          refine bodyPost_ret (v := .tuple #[.agg #[.slice (some ⟨h2, 0, none⟩) (l.length + 1) cap], .int .i64 0, .int .i64 0]) (by simp [results, Tryd.results10, go_sem, z0]) rfl ⟨_, _, by rw [PR.out], Lib.hid (P4.out.O.pips.setc RR.out (by decide) (by decide) (by decide) (by decide)), Lib.hid ((by first | exact ((gr_bel P4.out.G (by omega)).setCell (p := ⟨w.heap.size, 0, none⟩) (Nat.le_refl _) _).drew | exact ((gr_bel P4.out.G (by omega)).setCell (p := ⟨w.heap.size, 0, none⟩) (Nat.le_refl _) _))), Lib.hid (by rw [PR.out]; try rfl)⟩
        | false =>
          obtain ⟨cn2, hcn2⟩ : ∃ c, cnO y2 = c := ⟨_, rfl⟩
          obtain ⟨y3, hy3⟩ : ∃ y3, sepN s y2 = y3 := ⟨_, rfl⟩
          obtain ⟨bb, hbb⟩ : ∃ b, decide (cn2 = 1) = b := ⟨_, rfl⟩
          have HC := Lib.hid hcn2
          have H3 := Lib.hid hy3
          have HB := Lib.hid hbb
          rw [hcn2, hy3] at RUN PMU
          have FINX : Hid (∀ w', PYR s w w' y3 (l ++ [(lv, Value.slice a1 lv.length m1, no, cn)]) (.slice (some ⟨h2, 0, none⟩) (l.length + 1) cap) g → PXR s w w' y3 (l ++ [(lv, Value.slice a1 lv.length m1, no, cn)]) (.slice (some ⟨h2, 0, none⟩) (l.length + 1) cap) g cn2) := Lib.hid (fun w' hp => by
            have yok : okB y3 = true → okB y2 = true := fun h => by
              refine Decidable.byContradiction fun hc => ?_
              have := sepN_bad (s := s) (y := y2) (by simpa using hc)
              rw [hy3, h] at this; cases this
            refine ⟨hp, ⟨by rw [List.length_append]; have := HK1.out; simp only [List.length_singleton]; omega, fun ho => ?_⟩, fun ho => ?_, fun ho => ?_, by rw [← hy3]; exact gb_sep BG2.out⟩
            · have := LIM.out (yok ho)
              have := HK1.out
              rw [List.length_append]; simp only [List.length_singleton]; omega
            · rw [RUN.out, LPX.out (yok ho)]
            · rw [RUN.out, pa_none (by unfold pa1; rw [if_pos (.inl ho)])])
          have FINM : Hid (∀ w', PYR s w w' y3 (l ++ [(lv, Value.slice a1 lv.length m1, no, cn)]) (.slice (some ⟨h2, 0, none⟩) (l.length + 1) cap) g → muQ s (w.heap.size + 1) w' < muQ s (w.heap.size + 1) wr) := Lib.hid (fun w' hp => by
            rw [MU.out, hp.L.muQ]; exact PMU.out)
          have HE2 := Lib.hid he2
          have K0 : Hid (∀ t a, y2 = .run t a → (((t.k : Nat) : Int) == 0) = false) := Lib.hid (fun t a h => by
            subst h
            rw [beq_eq_false_iff_ne]
            have : ¬ t.k = 0 := by simpa [endB] using HE2.out
            omega)
          clear hcn2 hy3 hbb PMU MU RUN LIM HPL he2
          go_upto_region 12 with (fail)
          go_cut [69] from 20 to 74 (fun u w' => u = .bool false ∧ Hid (PYR s w w' y2 (l ++ [(lv, Value.slice a1 lv.length m1, no, cn)]) (.slice (some ⟨h2, 0, none⟩) (l.length + 1) cap) g))
          · cases y2 with
            | run t2 a2 =>
              obtain ⟨-, c1, -, -, -, -, c6, c7⟩ := RY.cells P4.out.L.1
              have tn := K0.out t2 a2 rfl
              go_wp2_with (fail)
              repeat (go_region; go_wp2_with (fail))
              go_meet
              case rel => exact ⟨rfl, Lib.hid (P4.out.same (by exact ⟨rfl, rfl, rfl, rfl⟩))⟩
            | bad e2 q2 =>
              obtain ⟨⟨tk, tx, tb, ta, af, h1⟩, h2⟩ := P4.out.L
              obtain ⟨-, c1, -, -, -, -, c6, c7⟩ := RY.cells h1
              have te : (e2 == 0) = false := by rw [beq_eq_false_iff_ne]; have := h2.1; omega
              clear h1 h2
              go_wp2_with (fail)
              repeat (go_region; go_wp2_with (fail))
              go_meet
              case rel => exact ⟨rfl, Lib.hid (P4.out.same (by exact ⟨rfl, rfl, rfl, rfl⟩))⟩
          obtain ⟨rfl, P5⟩ := hcut
          refine ‹∀ (a : Act) (w : World), Code.wp _ _ _ a w → _› _ _ ?_
          go_wp2_with (go_at_call 29; refine (rnx_st (w.heap.size + 1) s y2 _ _ P5.out.L (by exact ⟨rfl, rfl, rfl, rfl⟩) hs HE2.out HC HB H3).mono ?_; rintro e w7 ⟨rfl, L7, G7⟩)
          go_roundw
          case rel => exact ⟨_, _, _, _, _, rfl, by rw [HB.out], rfl, Lib.hid (FINX.out _ (P5.out.next L7.out G7.out))⟩
          case measure => exact FINM.out _ (P5.out.next L7.out G7.out)
  · have PR : Hid (paR s = ([], 3, 8192)) := Lib.hid (by unfold paR; rw [if_pos (by omega)])
    have hs2 : decide (8192 < (s.size : Int)) = true := decide_eq_true (by omega)
    go_enter Tryd.func10, Tryd.ntmps10
    go_wp2_with (fail)
    repeat (go_region; go_wp2_with (fail))
    have RR := Lib.hid (heap_alloc_new w (.cells #[.slice none 0 0] 24))
    (try simp only [Exit.inBlock, Exit.then])
    have z0 := blk_cell RR.out 0
    simp only [List.getElem?_toArray, List.getElem?_cons_zero] at z0
    refine bodyPost_ret (v := .tuple #[.agg #[.slice none 0 0], .int .i64 3, .int .i64 8192]) (by simp [results, Tryd.results10, go_sem, z0]) rfl ⟨[], _, by rw [PR.out], Lib.hid ⟨⟨rfl, .inl ⟨rfl, rfl⟩⟩, fun x hx => by cases hx⟩, Lib.hid ((Below.refl w.heap.size w).alloc (Nat.le_refl _) _), Lib.hid (by rw [PR.out]; try rfl)⟩
/-- what the reference's Parse returns, read -/
theorem rparse_is (s : ByteArray) (w : World) {l : List Pl} {er po : Int} (h : Hid (paR s = (l, er, po))) :
    Calls Tryd.prog 10 #[.string s] w fun e w' => ∃ v, e = .returned (.tuple #[.agg #[v], .int .i64 er, .int .i64 po]) ∧ Hid (PlsD w' v l) ∧ Hid (Below w.heap.size w w') := by
  refine (rparse_any s w).mono ?_
  rw [h.out]
  rintro e w' ⟨L, v, e1, h1, h2, h3⟩
  have e := h3.out
  simp only at e
  exact ⟨v, e1, Lib.hid (by rw [← e]; exact h1.out.toD), h2⟩
end Go.Proofs.YtlhagpfpcdedpaaDoor
