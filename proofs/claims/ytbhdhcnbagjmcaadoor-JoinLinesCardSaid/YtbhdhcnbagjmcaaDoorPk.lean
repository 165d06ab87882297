/- walks: the closures left and right of Join -/
import Derived.Test.YtbhdhcnbagjmcaaDoorPj
namespace Go.Proofs.YtbhdhcnbagjmcaaDoor
open Go.RowKit Go.Maps Go.WideMaps
open Jn Lcl
theorem kg {w w' : World} {X : Option Nat} (h : w.grownBy w' X) {b i : Nat} {v : Value} (hne : X ≠ some b) (hc : w.cell? ⟨b, i, none⟩ = some v) : w'.cell? ⟨b, i, none⟩ = some v := by
  have hb : b < w.heap.size := by
    refine Decidable.byContradiction fun hn => ?_
    simp [World.cell?, Array.getElem?_eq_none (Nat.le_of_not_lt hn)] at hc
  simp only [World.cell?, h.block b hb (fun e => hne e.symm)]
  exact hc
set_option maxRecDepth 100000 in
set_option maxHeartbeats 1000000 in
theorem left_any (s : ByteArray) (f1 f2 sep m : Int) (lf rt pr : Bool) (em : ByteArray) (vo vout : Value) (vb pb jb mb n B : Nat) (X : Option Nat) (w : World) (hm : w.cell? ⟨0, 0, none⟩ = some (.int .i64 m))
    (hj : w.heap[jb]? = some (.cells (jcells f1 f2 sep lf rt pr em vo mb vout) 64 (0, 0))) (hv : w.cell? ⟨vb, 0, none⟩ = some (.pointer (some ⟨jb, 0, none⟩))) (hp : w.cell? ⟨pb, 0, none⟩ = some (.int .i64 f1)) (hnv : vb ≠ mb) (hnp : pb ≠ mb)
    (hc : Cache w mb n B X sep) (hB : mb < B) (hBw : B ≤ w.heap.size) (hX : ∀ g, X = some g → g < w.heap.size) (hne : jb ≠ mb) (hn : n ≤ 1048576) (hs : s.size ≤ 1048576) :
    Calls Tryd.prog 36 #[.string s, .pointer (some ⟨vb, 0, none⟩), .pointer (some ⟨pb, 0, none⟩)] w fun e w' => e = .returned (.string (bA (keyL sep f1 s.data.toList))) ∧ Hid (Cache w' mb (n + 1) B X sep) ∧ Hid (w.grownBy w' (some mb)) := by
  have SP := Lib.hid (fun (W : World) (h : W = w.drew) => jsplit_any s f1 f2 sep m lf rt pr em vo vout jb mb n B X W (by rw [h]; exact hm) (by rw [h]; exact hj) (by rw [h]; exact hc.below (Below.refl _ _).drew) hB (by rw [h]; exact hBw) (by rw [h]; exact hX) hne hn hs)
  have HV := Lib.hid hv
  have HP := Lib.hid hp
  have NV := Lib.hid (show some mb ≠ some vb from fun e => hnv (Option.some.inj e).symm)
  have NP := Lib.hid (show some mb ≠ some pb from fun e => hnp (Option.some.inj e).symm)
  unfold keyL
  obtain ⟨L, hL⟩ : ∃ L, fieldsL sep s.data.toList = L := ⟨_, rfl⟩
  rw [hL] at SP ⊢
  have S0 : w.grownBy w.drew (some mb) ∧ w.drew.cell? ⟨vb, 0, none⟩ = some (.pointer (some ⟨jb, 0, none⟩)) ∧ w.drew.cell? ⟨pb, 0, none⟩ = some (.int .i64 f1) := ⟨grown_of_below (Below.refl _ _).drew _, hv, hp⟩
  clear hm hj hv hp hnv hnp hc hB hBw hX hne hn hs hL
  go_enter Tryd.func36, Tryd.ntmps36
  go_wp2_with fail
  go_region_held3 (fun w' => w.grownBy w' (some mb) ∧ w'.cell? ⟨vb, 0, none⟩ = some (.pointer (some ⟨jb, 0, none⟩)) ∧ w'.cell? ⟨pb, 0, none⟩ = some (.int .i64 f1)) (first | exact S0)
    (first | (go_at_call 37; (with_reducible refine (SP.out _ rfl).mono ?_); rintro _ w1 ⟨v, rfl, F1, C1, G1⟩; have GG := S0.1.trans G1.out; have S0 := And.intro GG (And.intro (kg GG NV.out HV.out) (kg GG NP.out HP.out))) | (go_at_call 28; (with_reducible refine (get_any L _ f1 _ F1.out.1).mono ?_); rintro _ _ ⟨rfl, rfl⟩))
  go_wp2_with fail
  go_ret
  exact ⟨rfl, C1, Lib.hid S0.1⟩
set_option maxRecDepth 100000 in
set_option maxHeartbeats 1000000 in
theorem right_any (s : ByteArray) (f1 f2 sep m : Int) (lf rt pr : Bool) (em : ByteArray) (vo vout : Value) (vb pb jb mb n B : Nat) (X : Option Nat) (w : World) (hm : w.cell? ⟨0, 0, none⟩ = some (.int .i64 m))
    (hj : w.heap[jb]? = some (.cells (jcells f1 f2 sep lf rt pr em vo mb vout) 64 (0, 0))) (hv : w.cell? ⟨vb, 0, none⟩ = some (.pointer (some ⟨jb, 0, none⟩))) (hp : w.cell? ⟨pb, 1, none⟩ = some (.int .i64 f2)) (hnv : vb ≠ mb) (hnp : pb ≠ mb)
    (hc : Cache w mb n B X sep) (hB : mb < B) (hBw : B ≤ w.heap.size) (hX : ∀ g, X = some g → g < w.heap.size) (hne : jb ≠ mb) (hn : n ≤ 1048576) (hs : s.size ≤ 1048576) :
    Calls Tryd.prog 38 #[.string s, .pointer (some ⟨vb, 0, none⟩), .pointer (some ⟨pb, 0, none⟩)] w fun e w' => e = .returned (.string (bA (keyL sep f2 s.data.toList))) ∧ Hid (Cache w' mb (n + 1) B X sep) ∧ Hid (w.grownBy w' (some mb)) := by
  have SP := Lib.hid (fun (W : World) (h : W = w.drew) => jsplit_any s f1 f2 sep m lf rt pr em vo vout jb mb n B X W (by rw [h]; exact hm) (by rw [h]; exact hj) (by rw [h]; exact hc.below (Below.refl _ _).drew) hB (by rw [h]; exact hBw) (by rw [h]; exact hX) hne hn hs)
  have HV := Lib.hid hv
  have HP := Lib.hid hp
  have NV := Lib.hid (show some mb ≠ some vb from fun e => hnv (Option.some.inj e).symm)
  have NP := Lib.hid (show some mb ≠ some pb from fun e => hnp (Option.some.inj e).symm)
  unfold keyL
  obtain ⟨L, hL⟩ : ∃ L, fieldsL sep s.data.toList = L := ⟨_, rfl⟩
  rw [hL] at SP ⊢
  have S0 : w.grownBy w.drew (some mb) ∧ w.drew.cell? ⟨vb, 0, none⟩ = some (.pointer (some ⟨jb, 0, none⟩)) ∧ w.drew.cell? ⟨pb, 1, none⟩ = some (.int .i64 f2) := ⟨grown_of_below (Below.refl _ _).drew _, hv, hp⟩
  clear hm hj hv hp hnv hnp hc hB hBw hX hne hn hs hL
  go_enter Tryd.func38, Tryd.ntmps38
  go_wp2_with fail
  go_region_held3 (fun w' => w.grownBy w' (some mb) ∧ w'.cell? ⟨vb, 0, none⟩ = some (.pointer (some ⟨jb, 0, none⟩)) ∧ w'.cell? ⟨pb, 1, none⟩ = some (.int .i64 f2)) (first | exact S0)
    (first | (go_at_call 37; (with_reducible refine (SP.out _ rfl).mono ?_); rintro _ w1 ⟨v, rfl, F1, C1, G1⟩; have GG := S0.1.trans G1.out; have S0 := And.intro GG (And.intro (kg GG NV.out HV.out) (kg GG NP.out HP.out))) | (go_at_call 28; (with_reducible refine (get_any L _ f2 _ F1.out.1).mono ?_); rintro _ _ ⟨rfl, rfl⟩))
  go_wp2_with fail
  go_ret
  exact ⟨rfl, C1, Lib.hid S0.1⟩
end Go.Proofs.YtbhdhcnbagjmcaaDoor
