/- walks: capital letters -/
import Derived.Test.YtoohbgjfhchnmaaDoorQk
namespace Go.Proofs.YtoohbgjfhchnmaaDoor
open Go.RowKit Go.Maps
open Lcl
theorem vout_at {ok : Bool} {W : List Int} {lo up : ByteArray} {C : List Cl} {E : List El} {w w' : World} {e : Ending} (h : VOut ok W lo up C E w e w') :
    ∃ n a1 c1 a4 c4 a5 c5, e = .returned (.agg #[.string n, .slice a1 (eL ok W (wtab 256)).length c1, .string (eS ok lo (ltab 256)), .string (eS ok up (utab 256)), .slice a4 (eL ok C []).length c4, .slice a5 (eL ok E []).length c5]) ∧
      Hid (LocAt w' (.slice a1 (eL ok W (wtab 256)).length c1) (.slice a4 (eL ok C []).length c4) (.slice a5 (eL ok E []).length c5) (eL ok W (wtab 256)) (eL ok C []) (eL ok E [])) ∧ Hid (Below w.heap.size w w') := by
  obtain ⟨n', v1', v4', v5', rfl, LV, hb1⟩ := vout_is h
  obtain ⟨a1, c1, e1, -⟩ := LV.out.r1
  obtain ⟨a4, c4, e4, -⟩ := LV.out.r4
  obtain ⟨a5, c5, e5, -⟩ := LV.out.r5
  rw [List.length_map] at e1 e4 e5
  subst e1 e4 e5
  exact ⟨n', a1, c1, a4, c4, a5, c5, rfl, LV, hb1⟩
theorem field_up (n lo u : ByteArray) (a1 a4 a5 : Option Addr) (n1 c1 n4 c4 n5 c5 : Nat) (w : World) : (Instr.field 28 (.agg #[.string n, .slice a1 n1 c1, .string lo, .string u, .slice a4 n4 c4, .slice a5 n5 c5]) 3).run Tryd.prog w = .ok (.string u) w := by kernel_rfl
theorem up_size {n : ByteArray} {W : List Int} {lo up : ByteArray} {C : List Cl} {E : List El} : (eS (okL n W lo up C E) up (utab 256)).size = 256 := by
  cases h : okL n W lo up C E with
  | false => exact utab_len 256
  | true =>
    unfold okL at h
    simp only [Bool.and_eq_true, decide_eq_true_eq] at h
    exact h.2.1.2.2
/-- a string in capital letters -/
def upS (n : ByteArray) (W : List Int) (lo up : ByteArray) (C : List Cl) (E : List El) (s : ByteArray) : ByteArray := ⟨(mapL (eS (okL n W lo up C E) up (utab 256)).data.toList s.data.toList).toArray⟩
set_option maxRecDepth 100000 in
theorem upper_any (n : ByteArray) (v1 : Value) (lo up : ByteArray) (v4 v5 : Value) (W : List Int) (C : List Cl) (E : List El) (s : ByteArray) (w : World) (hL : LocAt w v1 v4 v5 W C E) (hn : n.size ≤ 9223372036854775807) (hs : s.size ≤ 140737488351232) :
    Calls Tryd.prog 33 #[lval n v1 lo up v4 v5, .string s] w fun e w' => e = .returned (.string (upS n W lo up C E s)) ∧ Below w.heap.size w w' := by
  have LO := Lib.hid (hL.below ((Below.refl w.heap.size w).alloc (Nat.le_refl _) (.cells #[.string n, v1, .string lo, .string up, v4, v5] 28))); clear hL
  have ZN := Lib.hid hn; clear hn
  have SZ := Lib.hid hs; clear hs
  have US := Lib.hid (up_size (n := n) (W := W) (lo := lo) (up := up) (C := C) (E := E))
  unfold upS
  obtain ⟨ok, hok⟩ : ∃ b, okL n W lo up C E = b := ⟨_, rfl⟩
  have VA := Lib.hid (valid_any n v1 lo up v4 v5 W C E _ LO.out ZN.out)
  rw [hok] at US VA ⊢
  clear hok
  have hfu := field_up
  go_enter Tryd.func33, Tryd.ntmps33
  go_wp2_with fail
  refine VA.out.mono ?_
  intro e w1 h1
  obtain ⟨n', a1, c1, a4, c4, a5, c5, rfl, -, hb1⟩ := vout_at h1
  clear h1
  obtain ⟨u, hu⟩ : ∃ u, eS ok up (utab 256) = u := ⟨_, rfl⟩
  rw [hu] at US ⊢
  have HU := Lib.hid hu
  clear hu
  go_wp2_with fail
  refine (mapped_any u s _ US.out (by have := SZ.out; omega)).mono ?_
  rintro e w2 ⟨rfl, hb2⟩
  go_wp2_with fail
  go_ret
  exact ⟨ret_str (by rw [HU.out]), below_step (hb1.out.trans (hb2.mono hb1.out.size))⟩
set_option maxRecDepth 100000 in
theorem rupper_any (n : ByteArray) (v1 : Value) (lo up : ByteArray) (v4 v5 : Value) (W : List Int) (C : List Cl) (E : List El) (s : ByteArray) (w : World) (hL : LocAt w v1 v4 v5 W C E) (hn : n.size ≤ 9223372036854775807) (hs : s.size ≤ 140737488351232) :
    Calls Tryd.prog 39 #[lval n v1 lo up v4 v5, .string s] w fun e w' => e = .returned (.string (upS n W lo up C E s)) ∧ Below w.heap.size w w' := by
  have LO := Lib.hid (hL.below ((Below.refl w.heap.size w).alloc (Nat.le_refl _) (.cells #[.string n, v1, .string lo, .string up, v4, v5] 28))); clear hL
  have ZN := Lib.hid hn; clear hn
  have SZ := Lib.hid hs; clear hs
  have US := Lib.hid (up_size (n := n) (W := W) (lo := lo) (up := up) (C := C) (E := E))
  unfold upS
  obtain ⟨ok, hok⟩ : ∃ b, okL n W lo up C E = b := ⟨_, rfl⟩
  have VA := Lib.hid (rvalid_any n v1 lo up v4 v5 W C E _ LO.out ZN.out)
  rw [hok] at US VA ⊢
  clear hok
  have hfu := field_up
  go_enter Tryd.func39, Tryd.ntmps39
  go_wp2_with fail
  refine VA.out.mono ?_
  intro e w1 h1
  obtain ⟨n', a1, c1, a4, c4, a5, c5, rfl, -, hb1⟩ := vout_at h1
  clear h1
  obtain ⟨u, hu⟩ : ∃ u, eS ok up (utab 256) = u := ⟨_, rfl⟩
  rw [hu] at US ⊢
  have HU := Lib.hid hu
  clear hu
  go_wp2_with fail
  refine (rmapped_any u s _ US.out SZ.out).mono ?_
  rintro e w2 ⟨rfl, hb2⟩
  go_wp2_with fail
  go_ret
  exact ⟨ret_str (by rw [HU.out]), below_step (hb1.out.trans (hb2.mono hb1.out.size))⟩
end Go.Proofs.YtoohbgjfhchnmaaDoor
