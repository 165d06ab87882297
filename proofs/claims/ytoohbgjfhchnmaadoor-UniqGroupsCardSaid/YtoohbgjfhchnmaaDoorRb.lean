/- the law UniqSames -/
import Derived.Test.YtoohbgjfhchnmaaDoorRa
namespace Go.Proofs.YtoohbgjfhchnmaaDoor
open Go.RowKit Go.Maps
open Lcl
abbrev RSameC (c : Cfg) (v1 v4 v5 : Value) (a b : ByteArray) (r : Bool) : Prop := ∀ w', LocAt w' v1 v4 v5 c.W c.C c.E → Calls Tryd.prog 24 #[c.sp, c.lv v1 v4 v5, .string a, .string b] w' fun e w'' => e = .returned (.bool r) ∧ Below w'.heap.size w' w''
theorem rsamec (c : Cfg) (hc : c.Ok) (v1 v4 v5 : Value) (a b : ByteArray) (ha : a.size ≤ 140737488351232) (hb : b.size ≤ 140737488351232) (r : Bool) (hr : sameB c a b = r) : Hid (RSameC c v1 v4 v5 a b r) :=
  Lib.hid fun w' hL => by rw [← hr]; exact rsame_any c hc v1 v4 v5 a b w' hL ha hb
set_option maxRecDepth 100000 in
set_option maxHeartbeats 16000000 in
theorem law_sames (c : Cfg) (hc : c.Ok) (v1 v4 v5 : Value) (a b : ByteArray) (w : World) (hL : LocAt w v1 v4 v5 c.W c.C c.E) (ht : Tab w) (ha : a.size ≤ 140737488351232) (hb : b.size ≤ 140737488351232) :
    Calls Tryd.prog 7 #[c.sp, c.lv v1 v4 v5, .string a, .string b] w fun e w' => e = .returned (.bool true) ∧ Below w.heap.size w w' := by
  have LO := Lib.hid hL
  have HT := Lib.hid ht
  obtain ⟨q, hq⟩ : ∃ q, sameB c a b = q := ⟨_, rfl⟩
  have HA := samec c hc v1 v4 v5 a b ha hb q hq
  have HB := rsamec c hc v1 v4 v5 a b ha hb q hq
  clear hL ht hc ha hb hq
  have S0 := keepS (c := c) (w := w) (v1 := v1) (v4 := v4) (v5 := v5) ((Below.refl _ _).drew)
  obtain ⟨x, hx⟩ : ∃ x, chkV c.F c.B c.D = x := ⟨_, rfl⟩
  have CU := fun w' => ucheck_any c.F c.B c.D c.cnt c.fold c.rep c.sg w'
  have CR := fun w' => rucheck_any c.F c.B c.D c.cnt c.fold c.rep c.sg w'
  rw [hx] at CU CR
  have CU := Lib.hid CU
  have CR := Lib.hid CR
  clear hx
  cases q
  · go_enter Tryd.func7, Tryd.ntmps7
    go_wp2_with fail
    go_region_held3 (fun w' => Below ((w.alloc (.cells c.cells 23)).alloc (.cells (c.lcells v1 v4 v5) 28)).heap.size ((w.alloc (.cells c.cells 23)).alloc (.cells (c.lcells v1 v4 v5) 28)) w' ∧ w'.cell? ⟨w.heap.size, 0, none⟩ = some (.int .i64 c.F) ∧ w'.cell? ⟨w.heap.size, 1, none⟩ = some (.int .i64 c.B) ∧ w'.cell? ⟨w.heap.size, 2, none⟩ = some (.int .i64 c.D) ∧ w'.cell? ⟨w.heap.size, 3, none⟩ = some (.bool c.cnt) ∧ w'.cell? ⟨w.heap.size, 4, none⟩ = some (.bool c.fold) ∧ w'.cell? ⟨w.heap.size, 5, none⟩ = some (.bool c.rep) ∧ w'.cell? ⟨w.heap.size, 6, none⟩ = some (.bool c.sg) ∧ w'.cell? ⟨w.heap.size + 1, 0, none⟩ = some (.string c.n) ∧ w'.cell? ⟨w.heap.size + 1, 1, none⟩ = some (v1) ∧ w'.cell? ⟨w.heap.size + 1, 2, none⟩ = some (.string c.lo) ∧ w'.cell? ⟨w.heap.size + 1, 3, none⟩ = some (.string c.up) ∧ w'.cell? ⟨w.heap.size + 1, 4, none⟩ = some (v4) ∧ w'.cell? ⟨w.heap.size + 1, 5, none⟩ = some (v5)) (first | exact S0)
      (first
        | (go_at_call 21; with_reducible refine (CU.out _).mono ?_; rintro e w' ⟨rfl, hb⟩; have S0 := keepS (S0.1.trans (hb.mono S0.1.size)))
        | (go_at_call 22; with_reducible refine (CR.out _).mono ?_; rintro e w' ⟨rfl, hb⟩; have S0 := keepS (S0.1.trans (hb.mono S0.1.size)))
        | (go_at_call 23; with_reducible refine (HA.out _ (LO.out.below (below_step (below_step S0.1)))).mono ?_; rintro e w' ⟨rfl, hb⟩; have S0 := keepS (S0.1.trans (hb.mono S0.1.size)))
        | (go_at_call 24; with_reducible refine (HB.out _ (LO.out.below (below_step (below_step S0.1)))).mono ?_; rintro e w' ⟨rfl, hb⟩; have S0 := keepS (S0.1.trans (hb.mono S0.1.size)))
        | (go_at_call 12; with_reducible refine (awake_any _ (tab_below HT.out (below_step (below_step S0.1)))).mono ?_; rintro e w' ⟨rfl, hb⟩; have S0 := keepS (S0.1.trans (hb.mono S0.1.size))))
    go_wp2_with fail
    go_ret
    exact ⟨rfl, below_step (below_step S0.1)⟩
  · go_enter Tryd.func7, Tryd.ntmps7
    go_wp2_with fail
    go_region_held3 (fun w' => Below ((w.alloc (.cells c.cells 23)).alloc (.cells (c.lcells v1 v4 v5) 28)).heap.size ((w.alloc (.cells c.cells 23)).alloc (.cells (c.lcells v1 v4 v5) 28)) w' ∧ w'.cell? ⟨w.heap.size, 0, none⟩ = some (.int .i64 c.F) ∧ w'.cell? ⟨w.heap.size, 1, none⟩ = some (.int .i64 c.B) ∧ w'.cell? ⟨w.heap.size, 2, none⟩ = some (.int .i64 c.D) ∧ w'.cell? ⟨w.heap.size, 3, none⟩ = some (.bool c.cnt) ∧ w'.cell? ⟨w.heap.size, 4, none⟩ = some (.bool c.fold) ∧ w'.cell? ⟨w.heap.size, 5, none⟩ = some (.bool c.rep) ∧ w'.cell? ⟨w.heap.size, 6, none⟩ = some (.bool c.sg) ∧ w'.cell? ⟨w.heap.size + 1, 0, none⟩ = some (.string c.n) ∧ w'.cell? ⟨w.heap.size + 1, 1, none⟩ = some (v1) ∧ w'.cell? ⟨w.heap.size + 1, 2, none⟩ = some (.string c.lo) ∧ w'.cell? ⟨w.heap.size + 1, 3, none⟩ = some (.string c.up) ∧ w'.cell? ⟨w.heap.size + 1, 4, none⟩ = some (v4) ∧ w'.cell? ⟨w.heap.size + 1, 5, none⟩ = some (v5)) (first | exact S0)
      (first
        | (go_at_call 21; with_reducible refine (CU.out _).mono ?_; rintro e w' ⟨rfl, hb⟩; have S0 := keepS (S0.1.trans (hb.mono S0.1.size)))
        | (go_at_call 22; with_reducible refine (CR.out _).mono ?_; rintro e w' ⟨rfl, hb⟩; have S0 := keepS (S0.1.trans (hb.mono S0.1.size)))
        | (go_at_call 23; with_reducible refine (HA.out _ (LO.out.below (below_step (below_step S0.1)))).mono ?_; rintro e w' ⟨rfl, hb⟩; have S0 := keepS (S0.1.trans (hb.mono S0.1.size)))
        | (go_at_call 24; with_reducible refine (HB.out _ (LO.out.below (below_step (below_step S0.1)))).mono ?_; rintro e w' ⟨rfl, hb⟩; have S0 := keepS (S0.1.trans (hb.mono S0.1.size)))
        | (go_at_call 12; with_reducible refine (awake_any _ (tab_below HT.out (below_step (below_step S0.1)))).mono ?_; rintro e w' ⟨rfl, hb⟩; have S0 := keepS (S0.1.trans (hb.mono S0.1.size))))
    go_wp2_with fail
    go_ret
    exact ⟨rfl, below_step (below_step S0.1)⟩
end Go.Proofs.YtoohbgjfhchnmaaDoor
