/- the law UniqFilters -/
import Derived.Test.YtoohbgjfhchnmaaDoorRe
namespace Go.Proofs.YtoohbgjfhchnmaaDoor
open Go.RowKit Go.Maps
open Lcl
abbrev LinesC (c : Cfg) (v1 v4 v5 vl : Value) (L M : List ByteArray) : Prop := ∀ w', LocAt w' v1 v4 v5 c.W c.C c.E → Tab w' → RowsAt w' vl 1 (strs L) → Calls Tryd.prog 10 #[c.sp, c.lv v1 v4 v5, vl] w' fun e w'' => ∃ v, e = .returned v ∧ Hid (RowsAt w'' v 1 (strs M)) ∧ Hid (Below w'.heap.size w' w'')
theorem linesc (c : Cfg) (hc : c.Ok) (v1 v4 v5 vl : Value) (L M : List ByteArray) (n1 : NZ v1) (n4 : NZ v4) (n5 : NZ v5) (hz : ∀ x ∈ L, x.size ≤ 140737488351232) (hl : L.length * 16 ≤ 140737488351232) (hM : linesM c L = M) : Hid (LinesC c v1 v4 v5 vl L M) :=
  Lib.hid fun w' h1 h2 h3 => by rw [← hM]; exact (lines_any c hc v1 v4 v5 vl L w' h1 n1 n4 n5 h2 h3 hz hl).mono fun e w'' h => linesr_is h
theorem srow_kept {w w' : World} {B g : Nat} {v : Value} {L : List ByteArray} (h : SRow w B v L) (hB : g < B) (hg : w.grownBy w' (some g)) : SRow w' B v L := by
  refine h.kept hg ?_
  cases e : v.ownBlock with
  | none => exact .inl rfl
  | some j => exact .inr (fun ee => by cases ee; have := (h.lt _ e).1; omega)
set_option maxRecDepth 100000 in
set_option maxHeartbeats 16000000 in
theorem law_filters (c : Cfg) (hc : c.Ok) (v1 v4 v5 va vb : Value) (L M : List ByteArray) (w : World) (hL : LocAt w v1 v4 v5 c.W c.C c.E) (n1 : NZ v1) (n4 : NZ v4) (n5 : NZ v5) (ht : Tab w) (ha : RowsAt w va 1 (strs L)) (za : ∀ x ∈ L, x.size ≤ 140737488351232) (la : L.length * 16 ≤ 140737488351232) (hb : RowsAt w vb 1 (strs M)) (zb : ∀ x ∈ M, x.size ≤ 140737488351232) (lb : M.length * 16 ≤ 140737488351232) :
    Calls Tryd.prog 5 #[c.sp, c.lv v1 v4 v5, va, vb] w fun e w' => e = .returned (.bool true) ∧ Below w.heap.size w w' := by
  have LO := Lib.hid hL
  have HT := Lib.hid ht
  have RA := Lib.hid ha
  have RB := Lib.hid hb
  have S0 := keepS (c := c) (w := w) (v1 := v1) (v4 := v4) (v5 := v5) (Below.refl _ _)
  obtain ⟨X, hX⟩ : ∃ X, linesM c L = X := ⟨_, rfl⟩
  obtain ⟨Y, hY⟩ : ∃ Y, linesM c M = Y := ⟨_, rfl⟩
  have EX := Lib.hid hX
  have EY := Lib.hid hY
  have CA := linesc c hc v1 v4 v5 va L X n1 n4 n5 za la hX
  have CB := linesc c hc v1 v4 v5 vb M Y n1 n4 n5 zb lb hY
  have NA := Lib.hid (new_any c hc v1 v4 v5 _ (hL.below (below_step (below_step S0.1))) n1 n4 n5)
  have AA := Lib.hid (fun w0 w bp bo bq x1 x4 x5 g st h hst hf ht hr => all_any c hc w0 w bp bo bq x1 x4 x5 g st va L h hst hf ht hr za la)
  have AB := Lib.hid (fun w0 w bp bo bq x1 x4 x5 g st h hst hf ht hr => all_any c hc w0 w bp bo bq x1 x4 x5 g st vb M h hst hf ht hr zb lb)
  clear hL ht ha hb hX hY hc n1 n4 n5 za la zb lb
  go_enter Tryd.func5, Tryd.ntmps5
  go_wp2_with fail
  refine NA.out.mono ?_
  intro e w1 h1
  obtain ⟨w0, bp, bo, bq, x1, x4, x5, g, rfl, PF1, B1, B2, G1⟩ := h1
  have S0 := keepS B1.out
  have BW := Lib.hid (below_step (below_step B2.out))
  go_wp2_with fail
  refine (AA.out w0 w1 bp bo bq x1 x4 x5 g st0 PF1.out rfl (by decide) (tab_below HT.out BW.out) (RA.out.below BW.out)).mono ?_
  intro e w2 h2
  obtain ⟨vx, st1, rfl, R1, PF2, Z2, G2⟩ := allr_is h2
  clear h2
  have GX : Hid (g < w1.heap.size) := Lib.hid PF1.out.lt
  have S0 := keepS (S0.1.grown G2.out S0.1.size (fun j hj => by cases hj; exact G1.out))
  go_wp2_with fail
  refine (AB.out w0 w2 bp bo bq x1 x4 x5 g st1 PF2.out Z2.out.1 Z2.out.2 (tab_below HT.out BW.out) (RB.out.below BW.out)).mono ?_
  intro e w3 h3
  obtain ⟨vy, st2, rfl, R2, PF3, Z3, G3⟩ := allr_is h3
  clear h3
  have S0 := keepS (S0.1.grown G3.out S0.1.size (fun j hj => by cases hj; exact G1.out))
  have RX := Lib.hid (srow_rows (srow_kept R1.out GX.out G3.out))
  have RY := Lib.hid (srow_rows R2.out)
  rw [EX.out] at RX
  rw [EY.out] at RY
  clear AA AB NA PF1 PF2 PF3 B1 B2 R1 R2 G2 G3 Z2 Z3 EX EY BW GX G1
  go_wp2_with fail
  refine (CA.out _ (LO.out.below (below_step (below_step S0.1))) (tab_below HT.out (below_step (below_step S0.1))) (RA.out.below (below_step (below_step S0.1)))).mono ?_
  rintro e w4 ⟨u1, rfl, R1, hb⟩
  have S0 := keepS (S0.1.trans (hb.out.mono S0.1.size))
  have RX := Lib.hid (RX.out.below hb.out)
  have RY := Lib.hid (RY.out.below hb.out)
  go_wp2_with fail
  refine (sametexts_eq _ _ _ _ RX.out R1.out).mono ?_
  rintro e w5 ⟨rfl, hb5⟩
  have S0 := keepS (S0.1.trans (hb5.mono S0.1.size))
  have RY := Lib.hid (RY.out.below hb5)
  go_wp2_with fail
  refine (CB.out _ (LO.out.below (below_step (below_step S0.1))) (tab_below HT.out (below_step (below_step S0.1))) (RB.out.below (below_step (below_step S0.1)))).mono ?_
  rintro e w6 ⟨u2, rfl, R2, hb6⟩
  have S0 := keepS (S0.1.trans (hb6.out.mono S0.1.size))
  have RY := Lib.hid (RY.out.below hb6.out)
  go_wp2_with fail
  refine (sametexts_eq _ _ _ _ RY.out R2.out).mono ?_
  rintro e w7 ⟨rfl, hb7⟩
  have S0 := keepS (S0.1.trans (hb7.mono S0.1.size))
  go_wp2_with fail
  refine (awake_any _ (tab_below HT.out (below_step (below_step S0.1)))).mono ?_
  rintro e w8 ⟨rfl, hb8⟩
  have S0 := keepS (S0.1.trans (hb8.mono S0.1.size))
  go_wp2_with fail
  go_ret
  exact ⟨rfl, (below_step (below_step S0.1))⟩
end Go.Proofs.YtoohbgjfhchnmaaDoor
