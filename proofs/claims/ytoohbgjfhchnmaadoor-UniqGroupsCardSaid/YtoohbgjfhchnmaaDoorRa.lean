/- the law UniqAgrees -/
import Derived.Test.YtoohbgjfhchnmaaDoorQz
namespace Go.Proofs.YtoohbgjfhchnmaaDoor
open Go.RowKit Go.Maps
open Lcl
abbrev SameC (c : Cfg) (v1 v4 v5 : Value) (a b : ByteArray) (r : Bool) : Prop := ∀ w', LocAt w' v1 v4 v5 c.W c.C c.E → Calls Tryd.prog 23 #[c.sp, c.lv v1 v4 v5, .string a, .string b] w' fun e w'' => e = .returned (.bool r) ∧ Below w'.heap.size w' w''
theorem samec (c : Cfg) (hc : c.Ok) (v1 v4 v5 : Value) (a b : ByteArray) (ha : a.size ≤ 140737488351232) (hb : b.size ≤ 140737488351232) (r : Bool) (hr : sameB c a b = r) : Hid (SameC c v1 v4 v5 a b r) :=
  Lib.hid fun w' hL => by rw [← hr]; exact same_any c hc v1 v4 v5 a b w' hL ha hb
set_option maxRecDepth 100000 in
set_option maxHeartbeats 16000000 in
theorem agr_tt (c : Cfg) (v1 v4 v5 : Value) (a b d : ByteArray) (w : World) (HA : Hid (SameC c v1 v4 v5 a b true)) (HB : Hid (SameC c v1 v4 v5 b d true)) (HC : Hid (SameC c v1 v4 v5 a d true)) (HD : Hid (SameC c v1 v4 v5 a a true)) (HE : Hid (SameC c v1 v4 v5 b a true))
    (LO : Hid (LocAt w v1 v4 v5 c.W c.C c.E)) (HT : Hid (Tab w))
    : Calls Tryd.prog 8 #[c.sp, c.lv v1 v4 v5, .string a, .string b, .string d] w fun e w' => e = .returned (.bool true) ∧ Below w.heap.size w w' := by
  have S0 := keepS (c := c) (w := w) (v1 := v1) (v4 := v4) (v5 := v5) ((Below.refl _ _).drew)
  go_enter Tryd.func8, Tryd.ntmps8
  go_wp2_with fail
  go_region_held3 (fun w' => Below ((w.alloc (.cells c.cells 23)).alloc (.cells (c.lcells v1 v4 v5) 28)).heap.size ((w.alloc (.cells c.cells 23)).alloc (.cells (c.lcells v1 v4 v5) 28)) w' ∧ w'.cell? ⟨w.heap.size, 0, none⟩ = some (.int .i64 c.F) ∧ w'.cell? ⟨w.heap.size, 1, none⟩ = some (.int .i64 c.B) ∧ w'.cell? ⟨w.heap.size, 2, none⟩ = some (.int .i64 c.D) ∧ w'.cell? ⟨w.heap.size, 3, none⟩ = some (.bool c.cnt) ∧ w'.cell? ⟨w.heap.size, 4, none⟩ = some (.bool c.fold) ∧ w'.cell? ⟨w.heap.size, 5, none⟩ = some (.bool c.rep) ∧ w'.cell? ⟨w.heap.size, 6, none⟩ = some (.bool c.sg) ∧ w'.cell? ⟨w.heap.size + 1, 0, none⟩ = some (.string c.n) ∧ w'.cell? ⟨w.heap.size + 1, 1, none⟩ = some (v1) ∧ w'.cell? ⟨w.heap.size + 1, 2, none⟩ = some (.string c.lo) ∧ w'.cell? ⟨w.heap.size + 1, 3, none⟩ = some (.string c.up) ∧ w'.cell? ⟨w.heap.size + 1, 4, none⟩ = some (v4) ∧ w'.cell? ⟨w.heap.size + 1, 5, none⟩ = some (v5)) (first | exact S0)
    (first | (go_at_call 23; (first | (with_reducible refine (HA.out _ (LO.out.below (below_step (below_step S0.1)))).mono ?_; rintro e w' ⟨rfl, hb⟩; have S0 := keepS (S0.1.trans (hb.mono S0.1.size))) | (with_reducible refine (HB.out _ (LO.out.below (below_step (below_step S0.1)))).mono ?_; rintro e w' ⟨rfl, hb⟩; have S0 := keepS (S0.1.trans (hb.mono S0.1.size))))))
  go_wp2_with fail
  refine (HC.out _ (LO.out.below (below_step (below_step S0.1)))).mono ?_
  rintro e w' ⟨rfl, hb⟩
  have S0 := keepS (S0.1.trans (hb.mono S0.1.size))
  go_wp2_with fail
  refine (HD.out _ (LO.out.below (below_step (below_step S0.1)))).mono ?_
  rintro e w' ⟨rfl, hb⟩
  have S0 := keepS (S0.1.trans (hb.mono S0.1.size))
  go_wp2_with fail
  refine (HE.out _ (LO.out.below (below_step (below_step S0.1)))).mono ?_
  rintro e w' ⟨rfl, hb⟩
  have S0 := keepS (S0.1.trans (hb.mono S0.1.size))
  go_wp2_with fail
  refine (awake_any _ (tab_below HT.out (below_step (below_step S0.1)))).mono ?_
  rintro e w' ⟨rfl, hb⟩
  have S0 := keepS (S0.1.trans (hb.mono S0.1.size))
  go_wp2_with fail
  go_ret
  exact ⟨rfl, below_step (below_step S0.1)⟩
set_option maxRecDepth 100000 in
set_option maxHeartbeats 16000000 in
theorem agr_tf (c : Cfg) (v1 v4 v5 : Value) (a b d : ByteArray) (w : World) (HA : Hid (SameC c v1 v4 v5 a b true)) (HB : Hid (SameC c v1 v4 v5 b d false)) (HD : Hid (SameC c v1 v4 v5 a a true)) (HE : Hid (SameC c v1 v4 v5 b a true))
    (LO : Hid (LocAt w v1 v4 v5 c.W c.C c.E)) (HT : Hid (Tab w))
    : Calls Tryd.prog 8 #[c.sp, c.lv v1 v4 v5, .string a, .string b, .string d] w fun e w' => e = .returned (.bool true) ∧ Below w.heap.size w w' := by
  have S0 := keepS (c := c) (w := w) (v1 := v1) (v4 := v4) (v5 := v5) ((Below.refl _ _).drew)
  go_enter Tryd.func8, Tryd.ntmps8
  go_wp2_with fail
  go_region_held3 (fun w' => Below ((w.alloc (.cells c.cells 23)).alloc (.cells (c.lcells v1 v4 v5) 28)).heap.size ((w.alloc (.cells c.cells 23)).alloc (.cells (c.lcells v1 v4 v5) 28)) w' ∧ w'.cell? ⟨w.heap.size, 0, none⟩ = some (.int .i64 c.F) ∧ w'.cell? ⟨w.heap.size, 1, none⟩ = some (.int .i64 c.B) ∧ w'.cell? ⟨w.heap.size, 2, none⟩ = some (.int .i64 c.D) ∧ w'.cell? ⟨w.heap.size, 3, none⟩ = some (.bool c.cnt) ∧ w'.cell? ⟨w.heap.size, 4, none⟩ = some (.bool c.fold) ∧ w'.cell? ⟨w.heap.size, 5, none⟩ = some (.bool c.rep) ∧ w'.cell? ⟨w.heap.size, 6, none⟩ = some (.bool c.sg) ∧ w'.cell? ⟨w.heap.size + 1, 0, none⟩ = some (.string c.n) ∧ w'.cell? ⟨w.heap.size + 1, 1, none⟩ = some (v1) ∧ w'.cell? ⟨w.heap.size + 1, 2, none⟩ = some (.string c.lo) ∧ w'.cell? ⟨w.heap.size + 1, 3, none⟩ = some (.string c.up) ∧ w'.cell? ⟨w.heap.size + 1, 4, none⟩ = some (v4) ∧ w'.cell? ⟨w.heap.size + 1, 5, none⟩ = some (v5)) (first | exact S0)
    (first | (go_at_call 23; (first | (with_reducible refine (HA.out _ (LO.out.below (below_step (below_step S0.1)))).mono ?_; rintro e w' ⟨rfl, hb⟩; have S0 := keepS (S0.1.trans (hb.mono S0.1.size))) | (with_reducible refine (HB.out _ (LO.out.below (below_step (below_step S0.1)))).mono ?_; rintro e w' ⟨rfl, hb⟩; have S0 := keepS (S0.1.trans (hb.mono S0.1.size))))))
  go_wp2_with fail
  refine (HD.out _ (LO.out.below (below_step (below_step S0.1)))).mono ?_
  rintro e w' ⟨rfl, hb⟩
  have S0 := keepS (S0.1.trans (hb.mono S0.1.size))
  go_wp2_with fail
  refine (HE.out _ (LO.out.below (below_step (below_step S0.1)))).mono ?_
  rintro e w' ⟨rfl, hb⟩
  have S0 := keepS (S0.1.trans (hb.mono S0.1.size))
  go_wp2_with fail
  refine (awake_any _ (tab_below HT.out (below_step (below_step S0.1)))).mono ?_
  rintro e w' ⟨rfl, hb⟩
  have S0 := keepS (S0.1.trans (hb.mono S0.1.size))
  go_wp2_with fail
  go_ret
  exact ⟨rfl, below_step (below_step S0.1)⟩
set_option maxRecDepth 100000 in
set_option maxHeartbeats 16000000 in
theorem agr_f (c : Cfg) (v1 v4 v5 : Value) (a b d : ByteArray) (w : World) (q : Bool) (HA : Hid (SameC c v1 v4 v5 a b false)) (HB : Hid (SameC c v1 v4 v5 b d q)) (HD : Hid (SameC c v1 v4 v5 a a true)) (HE : Hid (SameC c v1 v4 v5 b a false))
    (LO : Hid (LocAt w v1 v4 v5 c.W c.C c.E)) (HT : Hid (Tab w))
    : Calls Tryd.prog 8 #[c.sp, c.lv v1 v4 v5, .string a, .string b, .string d] w fun e w' => e = .returned (.bool true) ∧ Below w.heap.size w w' := by
  have S0 := keepS (c := c) (w := w) (v1 := v1) (v4 := v4) (v5 := v5) ((Below.refl _ _).drew)
  go_enter Tryd.func8, Tryd.ntmps8
  go_wp2_with fail
  go_region_held3 (fun w' => Below ((w.alloc (.cells c.cells 23)).alloc (.cells (c.lcells v1 v4 v5) 28)).heap.size ((w.alloc (.cells c.cells 23)).alloc (.cells (c.lcells v1 v4 v5) 28)) w' ∧ w'.cell? ⟨w.heap.size, 0, none⟩ = some (.int .i64 c.F) ∧ w'.cell? ⟨w.heap.size, 1, none⟩ = some (.int .i64 c.B) ∧ w'.cell? ⟨w.heap.size, 2, none⟩ = some (.int .i64 c.D) ∧ w'.cell? ⟨w.heap.size, 3, none⟩ = some (.bool c.cnt) ∧ w'.cell? ⟨w.heap.size, 4, none⟩ = some (.bool c.fold) ∧ w'.cell? ⟨w.heap.size, 5, none⟩ = some (.bool c.rep) ∧ w'.cell? ⟨w.heap.size, 6, none⟩ = some (.bool c.sg) ∧ w'.cell? ⟨w.heap.size + 1, 0, none⟩ = some (.string c.n) ∧ w'.cell? ⟨w.heap.size + 1, 1, none⟩ = some (v1) ∧ w'.cell? ⟨w.heap.size + 1, 2, none⟩ = some (.string c.lo) ∧ w'.cell? ⟨w.heap.size + 1, 3, none⟩ = some (.string c.up) ∧ w'.cell? ⟨w.heap.size + 1, 4, none⟩ = some (v4) ∧ w'.cell? ⟨w.heap.size + 1, 5, none⟩ = some (v5)) (first | exact S0)
    (first | (go_at_call 23; (first | (with_reducible refine (HA.out _ (LO.out.below (below_step (below_step S0.1)))).mono ?_; rintro e w' ⟨rfl, hb⟩; have S0 := keepS (S0.1.trans (hb.mono S0.1.size))) | (with_reducible refine (HB.out _ (LO.out.below (below_step (below_step S0.1)))).mono ?_; rintro e w' ⟨rfl, hb⟩; have S0 := keepS (S0.1.trans (hb.mono S0.1.size))))))
  go_wp2_with fail
  refine (HD.out _ (LO.out.below (below_step (below_step S0.1)))).mono ?_
  rintro e w' ⟨rfl, hb⟩
  have S0 := keepS (S0.1.trans (hb.mono S0.1.size))
  go_wp2_with fail
  refine (HE.out _ (LO.out.below (below_step (below_step S0.1)))).mono ?_
  rintro e w' ⟨rfl, hb⟩
  have S0 := keepS (S0.1.trans (hb.mono S0.1.size))
  go_wp2_with fail
  refine (awake_any _ (tab_below HT.out (below_step (below_step S0.1)))).mono ?_
  rintro e w' ⟨rfl, hb⟩
  have S0 := keepS (S0.1.trans (hb.mono S0.1.size))
  go_wp2_with fail
  go_ret
  exact ⟨rfl, below_step (below_step S0.1)⟩
theorem law_agrees (c : Cfg) (hc : c.Ok) (v1 v4 v5 : Value) (a b d : ByteArray) (w : World) (hL : LocAt w v1 v4 v5 c.W c.C c.E) (ht : Tab w) (ha : a.size ≤ 140737488351232) (hb : b.size ≤ 140737488351232) (hd : d.size ≤ 140737488351232) :
    Calls Tryd.prog 8 #[c.sp, c.lv v1 v4 v5, .string a, .string b, .string d] w fun e w' => e = .returned (.bool true) ∧ Below w.heap.size w w' := by
  have LO := Lib.hid hL
  have HT := Lib.hid ht
  have HD := samec c hc v1 v4 v5 a a ha ha true (by unfold sameB; exact decide_eq_true rfl)
  by_cases h1 : (c.K a).data.toList = (c.K b).data.toList
  · have HA := samec c hc v1 v4 v5 a b ha hb true (by unfold sameB; exact decide_eq_true h1)
    have HE := samec c hc v1 v4 v5 b a hb ha true (by unfold sameB; exact decide_eq_true h1.symm)
    by_cases h2 : (c.K b).data.toList = (c.K d).data.toList
    · exact agr_tt c v1 v4 v5 a b d w HA (samec c hc v1 v4 v5 b d hb hd true (by unfold sameB; exact decide_eq_true h2)) (samec c hc v1 v4 v5 a d ha hd true (by unfold sameB; exact decide_eq_true (h1.trans h2))) HD HE LO HT
    · exact agr_tf c v1 v4 v5 a b d w HA (samec c hc v1 v4 v5 b d hb hd false (by unfold sameB; exact decide_eq_false h2)) HD HE LO HT
  · exact agr_f c v1 v4 v5 a b d w _ (samec c hc v1 v4 v5 a b ha hb false (by unfold sameB; exact decide_eq_false h1)) (samec c hc v1 v4 v5 b d hb hd _ rfl) HD (samec c hc v1 v4 v5 b a hb ha false (by unfold sameB; exact decide_eq_false (fun h => h1 h.symm))) LO HT
end Go.Proofs.YtoohbgjfhchnmaaDoor
