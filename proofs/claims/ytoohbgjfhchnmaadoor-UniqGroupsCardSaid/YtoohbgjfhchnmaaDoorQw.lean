/- walks: Same and Check, both; two lists of strings compared -/
import Derived.Test.YtoohbgjfhchnmaaDoorQv
namespace Go.Proofs.YtoohbgjfhchnmaaDoor
open Go.RowKit Go.Maps
open Lcl
theorem part_c (c : Cfg) (hc : c.Ok) (v1 v4 v5 : Value) (s : ByteArray) (w : World) (hL : LocAt w v1 v4 v5 c.W c.C c.E) (hs : s.size ≤ 140737488351232) :
    Calls Tryd.prog 27 #[c.sp, c.lv v1 v4 v5, .string s] w fun e w' => e = .returned (.string (c.K s)) ∧ Below w.heap.size w w' :=
  part_any c.F c.B c.D c.cnt c.fold c.rep c.sg c.n v1 c.lo c.up v4 v5 c.W c.C c.E s w hL hc.hn hs hc.hF hc.hB hc.hD
theorem rpart_c (c : Cfg) (hc : c.Ok) (v1 v4 v5 : Value) (s : ByteArray) (w : World) (hL : LocAt w v1 v4 v5 c.W c.C c.E) (hs : s.size ≤ 140737488351232) :
    Calls Tryd.prog 31 #[c.sp, c.lv v1 v4 v5, .string s] w fun e w' => e = .returned (.string (c.K s)) ∧ Below w.heap.size w w' :=
  rpart_any c.F c.B c.D c.cnt c.fold c.rep c.sg c.n v1 c.lo c.up v4 v5 c.W c.C c.E s w hL hc.hn hs hc.hF hc.hB.2 hc.hD.2
def sameB (c : Cfg) (a b : ByteArray) : Bool := decide ((c.K a).data.toList = (c.K b).data.toList)
theorem keepS {c : Cfg} {w w' : World} {v1 v4 v5 : Value} (hb : Below ((w.alloc (.cells c.cells 23)).alloc (.cells (c.lcells v1 v4 v5) 28)).heap.size ((w.alloc (.cells c.cells 23)).alloc (.cells (c.lcells v1 v4 v5) 28)) w') : Below ((w.alloc (.cells c.cells 23)).alloc (.cells (c.lcells v1 v4 v5) 28)).heap.size ((w.alloc (.cells c.cells 23)).alloc (.cells (c.lcells v1 v4 v5) 28)) w' ∧ w'.cell? ⟨w.heap.size, 0, none⟩ = some (.int .i64 c.F) ∧ w'.cell? ⟨w.heap.size, 1, none⟩ = some (.int .i64 c.B) ∧ w'.cell? ⟨w.heap.size, 2, none⟩ = some (.int .i64 c.D) ∧ w'.cell? ⟨w.heap.size, 3, none⟩ = some (.bool c.cnt) ∧ w'.cell? ⟨w.heap.size, 4, none⟩ = some (.bool c.fold) ∧ w'.cell? ⟨w.heap.size, 5, none⟩ = some (.bool c.rep) ∧ w'.cell? ⟨w.heap.size, 6, none⟩ = some (.bool c.sg) ∧ w'.cell? ⟨w.heap.size + 1, 0, none⟩ = some (.string c.n) ∧ w'.cell? ⟨w.heap.size + 1, 1, none⟩ = some (v1) ∧ w'.cell? ⟨w.heap.size + 1, 2, none⟩ = some (.string c.lo) ∧ w'.cell? ⟨w.heap.size + 1, 3, none⟩ = some (.string c.up) ∧ w'.cell? ⟨w.heap.size + 1, 4, none⟩ = some (v4) ∧ w'.cell? ⟨w.heap.size + 1, 5, none⟩ = some (v5) := by
  obtain ⟨q1, q2⟩ := two_blk hb
  obtain ⟨a0, a1, a2, a3, a4, a5, a6⟩ := spc_cells q1
  obtain ⟨b0, b1, b2, b3, b4, b5⟩ := lrow_cells q2
  exact ⟨hb, a0, a1, a2, a3, a4, a5, a6, b0, b1, b2, b3, b4, b5⟩
set_option maxRecDepth 100000 in
set_option maxHeartbeats 16000000 in
theorem same_any (c : Cfg) (hc : c.Ok) (v1 v4 v5 : Value) (a b : ByteArray) (w : World) (hL : LocAt w v1 v4 v5 c.W c.C c.E) (ha : a.size ≤ 140737488351232) (hb : b.size ≤ 140737488351232) :
    Calls Tryd.prog 23 #[c.sp, c.lv v1 v4 v5, .string a, .string b] w fun e w' => e = .returned (.bool (sameB c a b)) ∧ Below w.heap.size w w' := by
  have LO := Lib.hid hL
  have HC := Lib.hid hc
  have SA := Lib.hid ha
  have SB := Lib.hid hb
  clear hL hc ha hb
  have S0 := keepS (c := c) (w := w) (v1 := v1) (v4 := v4) (v5 := v5) ((Below.refl _ _).drew)
  obtain ⟨x, hx⟩ : ∃ x, c.K a = x := ⟨_, rfl⟩
  obtain ⟨y, hy⟩ : ∃ y, c.K b = y := ⟨_, rfl⟩
  obtain ⟨r, hr⟩ : ∃ r, sameB c a b = r := ⟨_, rfl⟩
  have te : (x.toList == y.toList) = r := by rw [str_beq, ← hx, ← hy]; exact hr
  have CA := fun w' h => part_c c HC.out v1 v4 v5 a w' h SA.out
  have CB := fun w' h => part_c c HC.out v1 v4 v5 b w' h SB.out
  rw [hx] at CA
  rw [hy] at CB
  rw [hr]
  have HA := Lib.hid CA
  have HB := Lib.hid CB
  clear hx hy hr CA CB
  go_enter Tryd.func23, Tryd.ntmps23
  go_wp2_with fail
  go_region_held3 (fun w' => Below ((w.alloc (.cells c.cells 23)).alloc (.cells (c.lcells v1 v4 v5) 28)).heap.size ((w.alloc (.cells c.cells 23)).alloc (.cells (c.lcells v1 v4 v5) 28)) w' ∧ w'.cell? ⟨w.heap.size, 0, none⟩ = some (.int .i64 c.F) ∧ w'.cell? ⟨w.heap.size, 1, none⟩ = some (.int .i64 c.B) ∧ w'.cell? ⟨w.heap.size, 2, none⟩ = some (.int .i64 c.D) ∧ w'.cell? ⟨w.heap.size, 3, none⟩ = some (.bool c.cnt) ∧ w'.cell? ⟨w.heap.size, 4, none⟩ = some (.bool c.fold) ∧ w'.cell? ⟨w.heap.size, 5, none⟩ = some (.bool c.rep) ∧ w'.cell? ⟨w.heap.size, 6, none⟩ = some (.bool c.sg) ∧ w'.cell? ⟨w.heap.size + 1, 0, none⟩ = some (.string c.n) ∧ w'.cell? ⟨w.heap.size + 1, 1, none⟩ = some (v1) ∧ w'.cell? ⟨w.heap.size + 1, 2, none⟩ = some (.string c.lo) ∧ w'.cell? ⟨w.heap.size + 1, 3, none⟩ = some (.string c.up) ∧ w'.cell? ⟨w.heap.size + 1, 4, none⟩ = some (v4) ∧ w'.cell? ⟨w.heap.size + 1, 5, none⟩ = some (v5)) (first | exact S0)
    (first | (go_at_call 27; (first | (with_reducible refine (HA.out _ (LO.out.below (below_step (below_step S0.1)))).mono ?_; rintro e w' ⟨rfl, hb⟩; have S0 := keepS (S0.1.trans (hb.mono S0.1.size))) | (with_reducible refine (HB.out _ (LO.out.below (below_step (below_step S0.1)))).mono ?_; rintro e w' ⟨rfl, hb⟩; have S0 := keepS (S0.1.trans (hb.mono S0.1.size))))))
  go_wp2_with fail
  go_ret
  exact ⟨rfl, below_step (below_step S0.1)⟩
set_option maxRecDepth 100000 in
set_option maxHeartbeats 16000000 in
theorem rsame_any (c : Cfg) (hc : c.Ok) (v1 v4 v5 : Value) (a b : ByteArray) (w : World) (hL : LocAt w v1 v4 v5 c.W c.C c.E) (ha : a.size ≤ 140737488351232) (hb : b.size ≤ 140737488351232) :
    Calls Tryd.prog 24 #[c.sp, c.lv v1 v4 v5, .string a, .string b] w fun e w' => e = .returned (.bool (sameB c a b)) ∧ Below w.heap.size w w' := by
  have LO := Lib.hid hL
  have HC := Lib.hid hc
  have SA := Lib.hid ha
  have SB := Lib.hid hb
  clear hL hc ha hb
  have S0 := keepS (c := c) (w := w) (v1 := v1) (v4 := v4) (v5 := v5) ((Below.refl _ _).drew)
  obtain ⟨x, hx⟩ : ∃ x, c.K a = x := ⟨_, rfl⟩
  obtain ⟨y, hy⟩ : ∃ y, c.K b = y := ⟨_, rfl⟩
  obtain ⟨r, hr⟩ : ∃ r, sameB c a b = r := ⟨_, rfl⟩
  have te : (x.toList == y.toList) = r := by rw [str_beq, ← hx, ← hy]; exact hr
  have CA := fun w' h => rpart_c c HC.out v1 v4 v5 a w' h SA.out
  have CB := fun w' h => rpart_c c HC.out v1 v4 v5 b w' h SB.out
  rw [hx] at CA
  rw [hy] at CB
  rw [hr]
  have HA := Lib.hid CA
  have HB := Lib.hid CB
  clear hx hy hr CA CB
  go_enter Tryd.func24, Tryd.ntmps24
  go_wp2_with fail
  go_region_held3 (fun w' => Below ((w.alloc (.cells c.cells 23)).alloc (.cells (c.lcells v1 v4 v5) 28)).heap.size ((w.alloc (.cells c.cells 23)).alloc (.cells (c.lcells v1 v4 v5) 28)) w' ∧ w'.cell? ⟨w.heap.size, 0, none⟩ = some (.int .i64 c.F) ∧ w'.cell? ⟨w.heap.size, 1, none⟩ = some (.int .i64 c.B) ∧ w'.cell? ⟨w.heap.size, 2, none⟩ = some (.int .i64 c.D) ∧ w'.cell? ⟨w.heap.size, 3, none⟩ = some (.bool c.cnt) ∧ w'.cell? ⟨w.heap.size, 4, none⟩ = some (.bool c.fold) ∧ w'.cell? ⟨w.heap.size, 5, none⟩ = some (.bool c.rep) ∧ w'.cell? ⟨w.heap.size, 6, none⟩ = some (.bool c.sg) ∧ w'.cell? ⟨w.heap.size + 1, 0, none⟩ = some (.string c.n) ∧ w'.cell? ⟨w.heap.size + 1, 1, none⟩ = some (v1) ∧ w'.cell? ⟨w.heap.size + 1, 2, none⟩ = some (.string c.lo) ∧ w'.cell? ⟨w.heap.size + 1, 3, none⟩ = some (.string c.up) ∧ w'.cell? ⟨w.heap.size + 1, 4, none⟩ = some (v4) ∧ w'.cell? ⟨w.heap.size + 1, 5, none⟩ = some (v5)) (first | exact S0)
    (first | (go_at_call 31; (first | (with_reducible refine (HA.out _ (LO.out.below (below_step (below_step S0.1)))).mono ?_; rintro e w' ⟨rfl, hb⟩; have S0 := keepS (S0.1.trans (hb.mono S0.1.size))) | (with_reducible refine (HB.out _ (LO.out.below (below_step (below_step S0.1)))).mono ?_; rintro e w' ⟨rfl, hb⟩; have S0 := keepS (S0.1.trans (hb.mono S0.1.size))))))
  go_wp2_with fail
  go_ret
  exact ⟨rfl, below_step (below_step S0.1)⟩
end Go.Proofs.YtoohbgjfhchnmaaDoor
