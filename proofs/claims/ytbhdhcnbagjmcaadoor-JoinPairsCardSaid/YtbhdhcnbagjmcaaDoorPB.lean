/- the law JoinPairs (written by gen_PB.py) -/
import Derived.Test.YtbhdhcnbagjmcaaDoorPA
import Derived.Test.YtbhdhcnbagjmcaaDoorPB1
namespace Go.Proofs.YtbhdhcnbagjmcaaDoor
open Go.RowKit Go.Maps
open Jn Lcl
set_option maxRecDepth 100000 in
set_option maxHeartbeats 16000000 in
theorem law_pairs (f1 f2 sep : Int) (A C : List ByteArray) (va vc : Value) (m : Int) (w : World) (hm : w.cell? ⟨0, 0, none⟩ = some (.int .i64 m))
    (hA : Strs w va A) (hC : Strs w vc C) (sA : ∀ x ∈ A, x.size ≤ 9223372036854775807) (sC : ∀ x ∈ C, x.size ≤ 9223372036854775807) :
    Calls Tryd.prog 5 #[.agg #[.int .i64 f1, .int .i64 f2, .int .i64 sep], va, vc] w fun e w' => e = .returned (.bool true) ∧ Below w.heap.size w w' := by
  have s1 : (w.alloc (.cells #[.int .i64 f1, .int .i64 f2, .int .i64 sep] 43)).heap.size = w.heap.size + 1 := World.size_alloc _ _
  have B0 : Hid (Below w.heap.size w ((w.alloc (.cells #[.int .i64 f1, .int .i64 f2, .int .i64 sep] 43)).alloc (.cells #[.int .i64 f1, .int .i64 f2, .int .i64 sep, .bool false, .bool false, .bool false, .string ⟨#[]⟩, .slice none 0 0] 36))) := Lib.hid (((Below.refl _ _).alloc (Nat.le_refl _) _).alloc (by rw [s1]; omega) _)
  have N1 := (Below.heap_alloc (w.alloc (.cells #[.int .i64 f1, .int .i64 f2, .int .i64 sep] 43)) (.cells #[.int .i64 f1, .int .i64 f2, .int .i64 sep, .bool false, .bool false, .bool false, .string ⟨#[]⟩, .slice none 0 0] 36) w.heap.size (by rw [s1]; omega)).trans (heap_alloc_new w (.cells #[.int .i64 f1, .int .i64 f2, .int .i64 sep] 43))
  have N0 := heap_alloc_new (w.alloc (.cells #[.int .i64 f1, .int .i64 f2, .int .i64 sep] 43)) (.cells #[.int .i64 f1, .int .i64 f2, .int .i64 sep, .bool false, .bool false, .bool false, .string ⟨#[]⟩, .slice none 0 0] 36)
  rw [s1] at N0
  have X0 : Hid (((w.alloc (.cells #[.int .i64 f1, .int .i64 f2, .int .i64 sep] 43)).alloc (.cells #[.int .i64 f1, .int .i64 f2, .int .i64 sep, .bool false, .bool false, .bool false, .string ⟨#[]⟩, .slice none 0 0] 36)).cell? ⟨w.heap.size, 0, none⟩ = some (.int .i64 f1)) := Lib.hid (blk_cellx N1 0 _ rfl)
  have X1 : Hid (((w.alloc (.cells #[.int .i64 f1, .int .i64 f2, .int .i64 sep] 43)).alloc (.cells #[.int .i64 f1, .int .i64 f2, .int .i64 sep, .bool false, .bool false, .bool false, .string ⟨#[]⟩, .slice none 0 0] 36)).cell? ⟨w.heap.size, 1, none⟩ = some (.int .i64 f2)) := Lib.hid (blk_cellx N1 1 _ rfl)
  have X2 : Hid (((w.alloc (.cells #[.int .i64 f1, .int .i64 f2, .int .i64 sep] 43)).alloc (.cells #[.int .i64 f1, .int .i64 f2, .int .i64 sep, .bool false, .bool false, .bool false, .string ⟨#[]⟩, .slice none 0 0] 36)).cell? ⟨w.heap.size, 2, none⟩ = some (.int .i64 sep)) := Lib.hid (blk_cellx N1 2 _ rfl)
  have x0 : (w.alloc (.cells #[.int .i64 f1, .int .i64 f2, .int .i64 sep] 43)).cell? ⟨w.heap.size, 0, none⟩ = some (.int .i64 f1) := blk_cellx (heap_alloc_new w (.cells #[.int .i64 f1, .int .i64 f2, .int .i64 sep] 43)) 0 _ rfl
  have x1 : (w.alloc (.cells #[.int .i64 f1, .int .i64 f2, .int .i64 sep] 43)).cell? ⟨w.heap.size, 1, none⟩ = some (.int .i64 f2) := blk_cellx (heap_alloc_new w (.cells #[.int .i64 f1, .int .i64 f2, .int .i64 sep] 43)) 1 _ rfl
  have x2 : (w.alloc (.cells #[.int .i64 f1, .int .i64 f2, .int .i64 sep] 43)).cell? ⟨w.heap.size, 2, none⟩ = some (.int .i64 sep) := blk_cellx (heap_alloc_new w (.cells #[.int .i64 f1, .int .i64 f2, .int .i64 sep] 43)) 2 _ rfl
  have Y0 : Hid (((w.alloc (.cells #[.int .i64 f1, .int .i64 f2, .int .i64 sep] 43)).alloc (.cells #[.int .i64 f1, .int .i64 f2, .int .i64 sep, .bool false, .bool false, .bool false, .string ⟨#[]⟩, .slice none 0 0] 36)).cell? ⟨w.heap.size + 1, 0, none⟩ = some (.int .i64 f1)) := Lib.hid (blk_cellx N0 0 _ rfl)
  have Y1 : Hid (((w.alloc (.cells #[.int .i64 f1, .int .i64 f2, .int .i64 sep] 43)).alloc (.cells #[.int .i64 f1, .int .i64 f2, .int .i64 sep, .bool false, .bool false, .bool false, .string ⟨#[]⟩, .slice none 0 0] 36)).cell? ⟨w.heap.size + 1, 1, none⟩ = some (.int .i64 f2)) := Lib.hid (blk_cellx N0 1 _ rfl)
  have Y2 : Hid (((w.alloc (.cells #[.int .i64 f1, .int .i64 f2, .int .i64 sep] 43)).alloc (.cells #[.int .i64 f1, .int .i64 f2, .int .i64 sep, .bool false, .bool false, .bool false, .string ⟨#[]⟩, .slice none 0 0] 36)).cell? ⟨w.heap.size + 1, 2, none⟩ = some (.int .i64 sep)) := Lib.hid (blk_cellx N0 2 _ rfl)
  have Y3 : Hid (((w.alloc (.cells #[.int .i64 f1, .int .i64 f2, .int .i64 sep] 43)).alloc (.cells #[.int .i64 f1, .int .i64 f2, .int .i64 sep, .bool false, .bool false, .bool false, .string ⟨#[]⟩, .slice none 0 0] 36)).cell? ⟨w.heap.size + 1, 3, none⟩ = some (.bool false)) := Lib.hid (blk_cellx N0 3 _ rfl)
  have Y4 : Hid (((w.alloc (.cells #[.int .i64 f1, .int .i64 f2, .int .i64 sep] 43)).alloc (.cells #[.int .i64 f1, .int .i64 f2, .int .i64 sep, .bool false, .bool false, .bool false, .string ⟨#[]⟩, .slice none 0 0] 36)).cell? ⟨w.heap.size + 1, 4, none⟩ = some (.bool false)) := Lib.hid (blk_cellx N0 4 _ rfl)
  have Y5 : Hid (((w.alloc (.cells #[.int .i64 f1, .int .i64 f2, .int .i64 sep] 43)).alloc (.cells #[.int .i64 f1, .int .i64 f2, .int .i64 sep, .bool false, .bool false, .bool false, .string ⟨#[]⟩, .slice none 0 0] 36)).cell? ⟨w.heap.size + 1, 5, none⟩ = some (.bool false)) := Lib.hid (blk_cellx N0 5 _ rfl)
  have Y6 : Hid (((w.alloc (.cells #[.int .i64 f1, .int .i64 f2, .int .i64 sep] 43)).alloc (.cells #[.int .i64 f1, .int .i64 f2, .int .i64 sep, .bool false, .bool false, .bool false, .string ⟨#[]⟩, .slice none 0 0] 36)).cell? ⟨w.heap.size + 1, 6, none⟩ = some (.string ⟨#[]⟩)) := Lib.hid (blk_cellx N0 6 _ rfl)
  have Y7 : Hid (((w.alloc (.cells #[.int .i64 f1, .int .i64 f2, .int .i64 sep] 43)).alloc (.cells #[.int .i64 f1, .int .i64 f2, .int .i64 sep, .bool false, .bool false, .bool false, .string ⟨#[]⟩, .slice none 0 0] 36)).cell? ⟨w.heap.size + 1, 7, none⟩ = some (.slice none 0 0)) := Lib.hid (blk_cellx N0 7 _ rfl)
  have HA := Lib.hid hA
  have HC := Lib.hid hC
  have HM := Lib.hid hm
  have SA := Lib.hid sA
  have SC := Lib.hid sC
  obtain ⟨c, hc⟩ : ∃ c, chkJ (jP f1 f2 sep false false false) = c := ⟨_, rfl⟩
  have CK := Lib.hid (fun W => rjcheck_any (jP f1 f2 sep false false false) f1 f2 sep false false false ⟨#[]⟩ none 0 0 W rfl (rows_nil2 W) rfl (by decide) (Lib.hid hc))
  have HCK := Lib.hid hc
  obtain ⟨fa, hfa⟩ : ∃ fa, fewB A = fa := ⟨_, rfl⟩
  obtain ⟨fc, hfc⟩ : ∃ fc, fewB C = fc := ⟨_, rfl⟩
  have FA := Lib.hid hfa
  have FC := Lib.hid hfc
  have HN0 := Lib.hid N0
  clear N0 N1 s1 hA hC hm sA sC hc hfa hfc
  cases fa with
  | false =>
    go_enter Tryd.func5, Tryd.ntmps5
    go_upto_region 3 with (go_at_call 12; refine (ddefault_any _).mono ?_; rintro _ w1 ⟨vl, rfl, DL, B1⟩; obtain ⟨v1, rfl, DLA⟩ := DL.out; obtain ⟨av, cv1, ev, -, -⟩ := RowsAt.slice DLA.r1; obtain ⟨nv, hnv⟩ : ∃ n, ((wtab 256).map fun n => [Value.int .i64 n]).length = n := ⟨_, rfl⟩; rw [hnv] at ev; subst ev; clear hnv; have HL1 := Lib.hid (heap_alloc_new w1 (.cells #[.string dNm, .slice av nv cv1, .string dLo, .string dUp, .slice none 0 0, .slice none 0 0] 30)); have BL := Lib.hid (B1.out.alloc B1.out.size (.cells #[.string dNm, .slice av nv cv1, .string dLo, .string dUp, .slice none 0 0, .slice none 0 0] 30)); have DA := Lib.hid (show DLoc (w1.alloc (.cells #[.string dNm, .slice av nv cv1, .string dLo, .string dUp, .slice none 0 0, .slice none 0 0] 30)) (lval dNm (.slice av nv cv1) dLo dUp (.slice none 0 0) (.slice none 0 0)) from ⟨_, rfl, DLA.below ((Below.refl _ _).alloc (Nat.le_refl _) _)⟩); clear DLA DL x0 x1 x2; have BW := BL)
    try simp only [List.append_eq, List.cons_append, List.nil_append]
    go_wp2_with (first | (go_at_call 17; (first | ((with_reducible refine (few_any A _ _ _ (Strs.below HA.out (B0.out.trans (BL.out.mono B0.out.size))) FA SA.out).mono ?_); rintro _ wf ⟨rfl, hwf⟩; replace hwf := hwf.symm; subst hwf) | ((with_reducible refine (few_any C _ _ _ (Strs.below HC.out (B0.out.trans (BL.out.mono B0.out.size))) FC SC.out).mono ?_); rintro _ wf ⟨rfl, hwf⟩; replace hwf := hwf.symm; subst hwf))) | (go_at_call 14; (with_reducible refine (awake_any m _ (kp (B0.out.trans (BW.out.mono B0.out.size)) HM.out)).mono ?_); rintro _ wz ⟨rfl, BZ⟩))
    go_ret
    exact ⟨rfl, (B0.out.trans (BW.out.mono B0.out.size)).trans (BZ.out.mono (B0.out.trans (BW.out.mono B0.out.size)).size)⟩
  | true =>
  cases fc with
  | false =>
    go_enter Tryd.func5, Tryd.ntmps5
    go_upto_region 3 with (go_at_call 12; refine (ddefault_any _).mono ?_; rintro _ w1 ⟨vl, rfl, DL, B1⟩; obtain ⟨v1, rfl, DLA⟩ := DL.out; obtain ⟨av, cv1, ev, -, -⟩ := RowsAt.slice DLA.r1; obtain ⟨nv, hnv⟩ : ∃ n, ((wtab 256).map fun n => [Value.int .i64 n]).length = n := ⟨_, rfl⟩; rw [hnv] at ev; subst ev; clear hnv; have HL1 := Lib.hid (heap_alloc_new w1 (.cells #[.string dNm, .slice av nv cv1, .string dLo, .string dUp, .slice none 0 0, .slice none 0 0] 30)); have BL := Lib.hid (B1.out.alloc B1.out.size (.cells #[.string dNm, .slice av nv cv1, .string dLo, .string dUp, .slice none 0 0, .slice none 0 0] 30)); have DA := Lib.hid (show DLoc (w1.alloc (.cells #[.string dNm, .slice av nv cv1, .string dLo, .string dUp, .slice none 0 0, .slice none 0 0] 30)) (lval dNm (.slice av nv cv1) dLo dUp (.slice none 0 0) (.slice none 0 0)) from ⟨_, rfl, DLA.below ((Below.refl _ _).alloc (Nat.le_refl _) _)⟩); clear DLA DL x0 x1 x2; have BW := BL)
    try simp only [List.append_eq, List.cons_append, List.nil_append]
    go_wp2_with (first | (go_at_call 17; (first | ((with_reducible refine (few_any A _ _ _ (Strs.below HA.out (B0.out.trans (BL.out.mono B0.out.size))) FA SA.out).mono ?_); rintro _ wf ⟨rfl, hwf⟩; replace hwf := hwf.symm; subst hwf) | ((with_reducible refine (few_any C _ _ _ (Strs.below HC.out (B0.out.trans (BL.out.mono B0.out.size))) FC SC.out).mono ?_); rintro _ wf ⟨rfl, hwf⟩; replace hwf := hwf.symm; subst hwf))) | (go_at_call 14; (with_reducible refine (awake_any m _ (kp (B0.out.trans (BW.out.mono B0.out.size)) HM.out)).mono ?_); rintro _ wz ⟨rfl, BZ⟩))
    go_ret
    exact ⟨rfl, (B0.out.trans (BW.out.mono B0.out.size)).trans (BZ.out.mono (B0.out.trans (BW.out.mono B0.out.size)).size)⟩
  | true =>
  by_cases c0 : c = 0
  rotate_left
  · have t6 : (c != 0) = true := bne_iff_ne.2 c0
    go_enter Tryd.func5, Tryd.ntmps5
    go_upto_region 3 with (go_at_call 12; refine (ddefault_any _).mono ?_; rintro _ w1 ⟨vl, rfl, DL, B1⟩; obtain ⟨v1, rfl, DLA⟩ := DL.out; obtain ⟨av, cv1, ev, -, -⟩ := RowsAt.slice DLA.r1; obtain ⟨nv, hnv⟩ : ∃ n, ((wtab 256).map fun n => [Value.int .i64 n]).length = n := ⟨_, rfl⟩; rw [hnv] at ev; subst ev; clear hnv; have HL1 := Lib.hid (heap_alloc_new w1 (.cells #[.string dNm, .slice av nv cv1, .string dLo, .string dUp, .slice none 0 0, .slice none 0 0] 30)); have BL := Lib.hid (B1.out.alloc B1.out.size (.cells #[.string dNm, .slice av nv cv1, .string dLo, .string dUp, .slice none 0 0, .slice none 0 0] 30)); have DA := Lib.hid (show DLoc (w1.alloc (.cells #[.string dNm, .slice av nv cv1, .string dLo, .string dUp, .slice none 0 0, .slice none 0 0] 30)) (lval dNm (.slice av nv cv1) dLo dUp (.slice none 0 0) (.slice none 0 0)) from ⟨_, rfl, DLA.below ((Below.refl _ _).alloc (Nat.le_refl _) _)⟩); clear DLA DL x0 x1 x2; have y0 : (w1.alloc (.cells #[.string dNm, .slice av nv cv1, .string dLo, .string dUp, .slice none 0 0, .slice none 0 0] 30)).cell? ⟨w.heap.size + 1, 0, none⟩ = some (.int .i64 f1) := kp BL.out (Y0.out); have y1 : (w1.alloc (.cells #[.string dNm, .slice av nv cv1, .string dLo, .string dUp, .slice none 0 0, .slice none 0 0] 30)).cell? ⟨w.heap.size + 1, 1, none⟩ = some (.int .i64 f2) := kp BL.out (Y1.out); have y2 : (w1.alloc (.cells #[.string dNm, .slice av nv cv1, .string dLo, .string dUp, .slice none 0 0, .slice none 0 0] 30)).cell? ⟨w.heap.size + 1, 2, none⟩ = some (.int .i64 sep) := kp BL.out (Y2.out); have y3 : (w1.alloc (.cells #[.string dNm, .slice av nv cv1, .string dLo, .string dUp, .slice none 0 0, .slice none 0 0] 30)).cell? ⟨w.heap.size + 1, 3, none⟩ = some (.bool false) := kp BL.out (Y3.out); have y4 : (w1.alloc (.cells #[.string dNm, .slice av nv cv1, .string dLo, .string dUp, .slice none 0 0, .slice none 0 0] 30)).cell? ⟨w.heap.size + 1, 4, none⟩ = some (.bool false) := kp BL.out (Y4.out); have y5 : (w1.alloc (.cells #[.string dNm, .slice av nv cv1, .string dLo, .string dUp, .slice none 0 0, .slice none 0 0] 30)).cell? ⟨w.heap.size + 1, 5, none⟩ = some (.bool false) := kp BL.out (Y5.out); have y6 : (w1.alloc (.cells #[.string dNm, .slice av nv cv1, .string dLo, .string dUp, .slice none 0 0, .slice none 0 0] 30)).cell? ⟨w.heap.size + 1, 6, none⟩ = some (.string ⟨#[]⟩) := kp BL.out (Y6.out); have y7 : (w1.alloc (.cells #[.string dNm, .slice av nv cv1, .string dLo, .string dUp, .slice none 0 0, .slice none 0 0] 30)).cell? ⟨w.heap.size + 1, 7, none⟩ = some (.slice none 0 0) := kp BL.out (Y7.out); have BW := BL)
    try simp only [List.append_eq, List.cons_append, List.nil_append]
    go_wp2_with (first | (go_at_call 17; (first | ((with_reducible refine (few_any A _ _ _ (Strs.below HA.out (B0.out.trans (BL.out.mono B0.out.size))) FA SA.out).mono ?_); rintro _ wf ⟨rfl, hwf⟩; replace hwf := hwf.symm; subst hwf) | ((with_reducible refine (few_any C _ _ _ (Strs.below HC.out (B0.out.trans (BL.out.mono B0.out.size))) FC SC.out).mono ?_); rintro _ wf ⟨rfl, hwf⟩; replace hwf := hwf.symm; subst hwf))) | (go_at_call 16; refine (CK.out _).mono ?_; rintro _ w2 ⟨rfl, B2⟩; have BW2 := Lib.hid (BL.out.trans (B2.out.mono BL.out.size)); clear y0 y1 y2 y3 y4 y5 y6 y7; have BW := BW2) | (go_at_call 14; (with_reducible refine (awake_any m _ (kp (B0.out.trans (BW.out.mono B0.out.size)) HM.out)).mono ?_); rintro _ wz ⟨rfl, BZ⟩))
    go_ret
    exact ⟨rfl, (B0.out.trans (BW.out.mono B0.out.size)).trans (BZ.out.mono (B0.out.trans (BW.out.mono B0.out.size)).size)⟩
  subst c0
  have FA2 := Lib.hid (few_iff.1 FA.out)
  have FC2 := Lib.hid (few_iff.1 FC.out)
  obtain ⟨ua, hua⟩ : ∃ ua, unsL sep f1 (A.map (·.data.toList)) = ua := ⟨_, rfl⟩
  obtain ⟨uc, huc⟩ : ∃ uc, unsL sep f2 (C.map (·.data.toList)) = uc := ⟨_, rfl⟩
  have UA := Lib.hid (fun W vl (hb : Below ((w.alloc (.cells #[.int .i64 f1, .int .i64 f2, .int .i64 sep] 43)).alloc (.cells #[.int .i64 f1, .int .i64 f2, .int .i64 sep, .bool false, .bool false, .bool false, .string ⟨#[]⟩, .slice none 0 0] 36)).heap.size ((w.alloc (.cells #[.int .i64 f1, .int .i64 f2, .int .i64 sep] 43)).alloc (.cells #[.int .i64 f1, .int .i64 f2, .int .i64 sep, .bool false, .bool false, .bool false, .string ⟨#[]⟩, .slice none 0 0] 36)) W) (hl : DLoc W vl) => unsorted_any A va vl f1 sep m W (kp (B0.out.trans (hb.mono B0.out.size)) HM.out) (Strs.below HA.out (B0.out.trans (hb.mono B0.out.size))) hl (fun x hx => Nat.le_trans (FA2.out.2 x hx) (by omega)))
  have UC := Lib.hid (fun W vl (hb : Below ((w.alloc (.cells #[.int .i64 f1, .int .i64 f2, .int .i64 sep] 43)).alloc (.cells #[.int .i64 f1, .int .i64 f2, .int .i64 sep, .bool false, .bool false, .bool false, .string ⟨#[]⟩, .slice none 0 0] 36)).heap.size ((w.alloc (.cells #[.int .i64 f1, .int .i64 f2, .int .i64 sep] 43)).alloc (.cells #[.int .i64 f1, .int .i64 f2, .int .i64 sep, .bool false, .bool false, .bool false, .string ⟨#[]⟩, .slice none 0 0] 36)) W) (hl : DLoc W vl) => unsorted_any C vc vl f2 sep m W (kp (B0.out.trans (hb.mono B0.out.size)) HM.out) (Strs.below HC.out (B0.out.trans (hb.mono B0.out.size))) hl (fun x hx => Nat.le_trans (FC2.out.2 x hx) (by omega)))
  rw [hua] at UA
  rw [huc] at UC
  have HUA := Lib.hid hua
  have HUC := Lib.hid huc
  clear hua huc
  by_cases ua0 : 0 ≤ ua
  · have t7 : decide (0 ≤ ua) = true := decide_eq_true ua0
    go_enter Tryd.func5, Tryd.ntmps5
    go_upto_region 3 with (go_at_call 12; refine (ddefault_any _).mono ?_; rintro _ w1 ⟨vl, rfl, DL, B1⟩; obtain ⟨v1, rfl, DLA⟩ := DL.out; obtain ⟨av, cv1, ev, -, -⟩ := RowsAt.slice DLA.r1; obtain ⟨nv, hnv⟩ : ∃ n, ((wtab 256).map fun n => [Value.int .i64 n]).length = n := ⟨_, rfl⟩; rw [hnv] at ev; subst ev; clear hnv; have HL1 := Lib.hid (heap_alloc_new w1 (.cells #[.string dNm, .slice av nv cv1, .string dLo, .string dUp, .slice none 0 0, .slice none 0 0] 30)); have BL := Lib.hid (B1.out.alloc B1.out.size (.cells #[.string dNm, .slice av nv cv1, .string dLo, .string dUp, .slice none 0 0, .slice none 0 0] 30)); have DA := Lib.hid (show DLoc (w1.alloc (.cells #[.string dNm, .slice av nv cv1, .string dLo, .string dUp, .slice none 0 0, .slice none 0 0] 30)) (lval dNm (.slice av nv cv1) dLo dUp (.slice none 0 0) (.slice none 0 0)) from ⟨_, rfl, DLA.below ((Below.refl _ _).alloc (Nat.le_refl _) _)⟩); clear DLA DL x0 x1 x2; have y0 : (w1.alloc (.cells #[.string dNm, .slice av nv cv1, .string dLo, .string dUp, .slice none 0 0, .slice none 0 0] 30)).cell? ⟨w.heap.size + 1, 0, none⟩ = some (.int .i64 f1) := kp BL.out (Y0.out); have y1 : (w1.alloc (.cells #[.string dNm, .slice av nv cv1, .string dLo, .string dUp, .slice none 0 0, .slice none 0 0] 30)).cell? ⟨w.heap.size + 1, 1, none⟩ = some (.int .i64 f2) := kp BL.out (Y1.out); have y2 : (w1.alloc (.cells #[.string dNm, .slice av nv cv1, .string dLo, .string dUp, .slice none 0 0, .slice none 0 0] 30)).cell? ⟨w.heap.size + 1, 2, none⟩ = some (.int .i64 sep) := kp BL.out (Y2.out); have y3 : (w1.alloc (.cells #[.string dNm, .slice av nv cv1, .string dLo, .string dUp, .slice none 0 0, .slice none 0 0] 30)).cell? ⟨w.heap.size + 1, 3, none⟩ = some (.bool false) := kp BL.out (Y3.out); have y4 : (w1.alloc (.cells #[.string dNm, .slice av nv cv1, .string dLo, .string dUp, .slice none 0 0, .slice none 0 0] 30)).cell? ⟨w.heap.size + 1, 4, none⟩ = some (.bool false) := kp BL.out (Y4.out); have y5 : (w1.alloc (.cells #[.string dNm, .slice av nv cv1, .string dLo, .string dUp, .slice none 0 0, .slice none 0 0] 30)).cell? ⟨w.heap.size + 1, 5, none⟩ = some (.bool false) := kp BL.out (Y5.out); have y6 : (w1.alloc (.cells #[.string dNm, .slice av nv cv1, .string dLo, .string dUp, .slice none 0 0, .slice none 0 0] 30)).cell? ⟨w.heap.size + 1, 6, none⟩ = some (.string ⟨#[]⟩) := kp BL.out (Y6.out); have y7 : (w1.alloc (.cells #[.string dNm, .slice av nv cv1, .string dLo, .string dUp, .slice none 0 0, .slice none 0 0] 30)).cell? ⟨w.heap.size + 1, 7, none⟩ = some (.slice none 0 0) := kp BL.out (Y7.out); have BW := BL)
    try simp only [List.append_eq, List.cons_append, List.nil_append]
    go_wp2_with (first | (go_at_call 17; (first | ((with_reducible refine (few_any A _ _ _ (Strs.below HA.out (B0.out.trans (BL.out.mono B0.out.size))) FA SA.out).mono ?_); rintro _ wf ⟨rfl, hwf⟩; replace hwf := hwf.symm; subst hwf) | ((with_reducible refine (few_any C _ _ _ (Strs.below HC.out (B0.out.trans (BL.out.mono B0.out.size))) FC SC.out).mono ?_); rintro _ wf ⟨rfl, hwf⟩; replace hwf := hwf.symm; subst hwf))) | (go_at_call 16; refine (CK.out _).mono ?_; rintro _ w2 ⟨rfl, B2⟩; have BW2 := Lib.hid (BL.out.trans (B2.out.mono BL.out.size)); clear y0 y1 y2 y3 y4 y5 y6 y7; have x0 : w2.cell? ⟨w.heap.size, 0, none⟩ = some (.int .i64 f1) := kp BW2.out (X0.out); have x2 : w2.cell? ⟨w.heap.size, 2, none⟩ = some (.int .i64 sep) := kp BW2.out (X2.out); have l0 : w2.cell? ⟨w1.heap.size, 0, none⟩ = some (.string dNm) := blk_cellx ((B2.out.block _ (by rw [World.size_alloc]; omega)).trans HL1.out) 0 _ rfl; have l1 : w2.cell? ⟨w1.heap.size, 1, none⟩ = some (.slice av nv cv1) := blk_cellx ((B2.out.block _ (by rw [World.size_alloc]; omega)).trans HL1.out) 1 _ rfl; have l2 : w2.cell? ⟨w1.heap.size, 2, none⟩ = some (.string dLo) := blk_cellx ((B2.out.block _ (by rw [World.size_alloc]; omega)).trans HL1.out) 2 _ rfl; have l3 : w2.cell? ⟨w1.heap.size, 3, none⟩ = some (.string dUp) := blk_cellx ((B2.out.block _ (by rw [World.size_alloc]; omega)).trans HL1.out) 3 _ rfl; have l4 : w2.cell? ⟨w1.heap.size, 4, none⟩ = some (.slice none 0 0) := blk_cellx ((B2.out.block _ (by rw [World.size_alloc]; omega)).trans HL1.out) 4 _ rfl; have l5 : w2.cell? ⟨w1.heap.size, 5, none⟩ = some (.slice none 0 0) := blk_cellx ((B2.out.block _ (by rw [World.size_alloc]; omega)).trans HL1.out) 5 _ rfl; have BW := BW2) | (go_at_call 11; (first | ((with_reducible refine (UA.out _ _ (BW2.out) (DA.out.below B2.out)).mono ?_); rintro _ w3 ⟨rfl, B3⟩; have BW3 := Lib.hid (BW2.out.trans (B3.out.mono BW2.out.size)); have B23 := Lib.hid (B2.out.trans (B3.out.mono B2.out.size)); clear x0 x2 l0 l1 l2 l3 l4 l5; have BW := BW3))) | (go_at_call 14; (with_reducible refine (awake_any m _ (kp (B0.out.trans (BW.out.mono B0.out.size)) HM.out)).mono ?_); rintro _ wz ⟨rfl, BZ⟩))
    go_ret
    exact ⟨rfl, (B0.out.trans (BW.out.mono B0.out.size)).trans (BZ.out.mono (B0.out.trans (BW.out.mono B0.out.size)).size)⟩
  have t7 : decide (0 ≤ ua) = false := decide_eq_false ua0
  by_cases uc0 : 0 ≤ uc
  · have t8 : decide (0 ≤ uc) = true := decide_eq_true uc0
    go_enter Tryd.func5, Tryd.ntmps5
    go_upto_region 3 with (go_at_call 12; refine (ddefault_any _).mono ?_; rintro _ w1 ⟨vl, rfl, DL, B1⟩; obtain ⟨v1, rfl, DLA⟩ := DL.out; obtain ⟨av, cv1, ev, -, -⟩ := RowsAt.slice DLA.r1; obtain ⟨nv, hnv⟩ : ∃ n, ((wtab 256).map fun n => [Value.int .i64 n]).length = n := ⟨_, rfl⟩; rw [hnv] at ev; subst ev; clear hnv; have HL1 := Lib.hid (heap_alloc_new w1 (.cells #[.string dNm, .slice av nv cv1, .string dLo, .string dUp, .slice none 0 0, .slice none 0 0] 30)); have BL := Lib.hid (B1.out.alloc B1.out.size (.cells #[.string dNm, .slice av nv cv1, .string dLo, .string dUp, .slice none 0 0, .slice none 0 0] 30)); have DA := Lib.hid (show DLoc (w1.alloc (.cells #[.string dNm, .slice av nv cv1, .string dLo, .string dUp, .slice none 0 0, .slice none 0 0] 30)) (lval dNm (.slice av nv cv1) dLo dUp (.slice none 0 0) (.slice none 0 0)) from ⟨_, rfl, DLA.below ((Below.refl _ _).alloc (Nat.le_refl _) _)⟩); clear DLA DL x0 x1 x2; have y0 : (w1.alloc (.cells #[.string dNm, .slice av nv cv1, .string dLo, .string dUp, .slice none 0 0, .slice none 0 0] 30)).cell? ⟨w.heap.size + 1, 0, none⟩ = some (.int .i64 f1) := kp BL.out (Y0.out); have y1 : (w1.alloc (.cells #[.string dNm, .slice av nv cv1, .string dLo, .string dUp, .slice none 0 0, .slice none 0 0] 30)).cell? ⟨w.heap.size + 1, 1, none⟩ = some (.int .i64 f2) := kp BL.out (Y1.out); have y2 : (w1.alloc (.cells #[.string dNm, .slice av nv cv1, .string dLo, .string dUp, .slice none 0 0, .slice none 0 0] 30)).cell? ⟨w.heap.size + 1, 2, none⟩ = some (.int .i64 sep) := kp BL.out (Y2.out); have y3 : (w1.alloc (.cells #[.string dNm, .slice av nv cv1, .string dLo, .string dUp, .slice none 0 0, .slice none 0 0] 30)).cell? ⟨w.heap.size + 1, 3, none⟩ = some (.bool false) := kp BL.out (Y3.out); have y4 : (w1.alloc (.cells #[.string dNm, .slice av nv cv1, .string dLo, .string dUp, .slice none 0 0, .slice none 0 0] 30)).cell? ⟨w.heap.size + 1, 4, none⟩ = some (.bool false) := kp BL.out (Y4.out); have y5 : (w1.alloc (.cells #[.string dNm, .slice av nv cv1, .string dLo, .string dUp, .slice none 0 0, .slice none 0 0] 30)).cell? ⟨w.heap.size + 1, 5, none⟩ = some (.bool false) := kp BL.out (Y5.out); have y6 : (w1.alloc (.cells #[.string dNm, .slice av nv cv1, .string dLo, .string dUp, .slice none 0 0, .slice none 0 0] 30)).cell? ⟨w.heap.size + 1, 6, none⟩ = some (.string ⟨#[]⟩) := kp BL.out (Y6.out); have y7 : (w1.alloc (.cells #[.string dNm, .slice av nv cv1, .string dLo, .string dUp, .slice none 0 0, .slice none 0 0] 30)).cell? ⟨w.heap.size + 1, 7, none⟩ = some (.slice none 0 0) := kp BL.out (Y7.out); have BW := BL)
    try simp only [List.append_eq, List.cons_append, List.nil_append]
    go_wp2_with (first | (go_at_call 17; (first | ((with_reducible refine (few_any A _ _ _ (Strs.below HA.out (B0.out.trans (BL.out.mono B0.out.size))) FA SA.out).mono ?_); rintro _ wf ⟨rfl, hwf⟩; replace hwf := hwf.symm; subst hwf) | ((with_reducible refine (few_any C _ _ _ (Strs.below HC.out (B0.out.trans (BL.out.mono B0.out.size))) FC SC.out).mono ?_); rintro _ wf ⟨rfl, hwf⟩; replace hwf := hwf.symm; subst hwf))) | (go_at_call 16; refine (CK.out _).mono ?_; rintro _ w2 ⟨rfl, B2⟩; have BW2 := Lib.hid (BL.out.trans (B2.out.mono BL.out.size)); clear y0 y1 y2 y3 y4 y5 y6 y7; have x0 : w2.cell? ⟨w.heap.size, 0, none⟩ = some (.int .i64 f1) := kp BW2.out (X0.out); have x2 : w2.cell? ⟨w.heap.size, 2, none⟩ = some (.int .i64 sep) := kp BW2.out (X2.out); have l0 : w2.cell? ⟨w1.heap.size, 0, none⟩ = some (.string dNm) := blk_cellx ((B2.out.block _ (by rw [World.size_alloc]; omega)).trans HL1.out) 0 _ rfl; have l1 : w2.cell? ⟨w1.heap.size, 1, none⟩ = some (.slice av nv cv1) := blk_cellx ((B2.out.block _ (by rw [World.size_alloc]; omega)).trans HL1.out) 1 _ rfl; have l2 : w2.cell? ⟨w1.heap.size, 2, none⟩ = some (.string dLo) := blk_cellx ((B2.out.block _ (by rw [World.size_alloc]; omega)).trans HL1.out) 2 _ rfl; have l3 : w2.cell? ⟨w1.heap.size, 3, none⟩ = some (.string dUp) := blk_cellx ((B2.out.block _ (by rw [World.size_alloc]; omega)).trans HL1.out) 3 _ rfl; have l4 : w2.cell? ⟨w1.heap.size, 4, none⟩ = some (.slice none 0 0) := blk_cellx ((B2.out.block _ (by rw [World.size_alloc]; omega)).trans HL1.out) 4 _ rfl; have l5 : w2.cell? ⟨w1.heap.size, 5, none⟩ = some (.slice none 0 0) := blk_cellx ((B2.out.block _ (by rw [World.size_alloc]; omega)).trans HL1.out) 5 _ rfl; have BW := BW2) | (go_at_call 11; (first | ((with_reducible refine (UA.out _ _ (BW2.out) (DA.out.below B2.out)).mono ?_); rintro _ w3 ⟨rfl, B3⟩; have BW3 := Lib.hid (BW2.out.trans (B3.out.mono BW2.out.size)); have B23 := Lib.hid (B2.out.trans (B3.out.mono B2.out.size)); clear x0 x2 l0 l1 l2 l3 l4 l5; have x1 : w3.cell? ⟨w.heap.size, 1, none⟩ = some (.int .i64 f2) := kp BW3.out (X1.out); have x2 : w3.cell? ⟨w.heap.size, 2, none⟩ = some (.int .i64 sep) := kp BW3.out (X2.out); have l0 : w3.cell? ⟨w1.heap.size, 0, none⟩ = some (.string dNm) := blk_cellx ((B23.out.block _ (by rw [World.size_alloc]; omega)).trans HL1.out) 0 _ rfl; have l1 : w3.cell? ⟨w1.heap.size, 1, none⟩ = some (.slice av nv cv1) := blk_cellx ((B23.out.block _ (by rw [World.size_alloc]; omega)).trans HL1.out) 1 _ rfl; have l2 : w3.cell? ⟨w1.heap.size, 2, none⟩ = some (.string dLo) := blk_cellx ((B23.out.block _ (by rw [World.size_alloc]; omega)).trans HL1.out) 2 _ rfl; have l3 : w3.cell? ⟨w1.heap.size, 3, none⟩ = some (.string dUp) := blk_cellx ((B23.out.block _ (by rw [World.size_alloc]; omega)).trans HL1.out) 3 _ rfl; have l4 : w3.cell? ⟨w1.heap.size, 4, none⟩ = some (.slice none 0 0) := blk_cellx ((B23.out.block _ (by rw [World.size_alloc]; omega)).trans HL1.out) 4 _ rfl; have l5 : w3.cell? ⟨w1.heap.size, 5, none⟩ = some (.slice none 0 0) := blk_cellx ((B23.out.block _ (by rw [World.size_alloc]; omega)).trans HL1.out) 5 _ rfl; have BW := BW3) | ((with_reducible refine (UC.out _ _ (BW3.out) (DA.out.below B23.out)).mono ?_); rintro _ w4 ⟨rfl, B4⟩; have BW4 := Lib.hid (BW3.out.trans (B4.out.mono BW3.out.size)); have B24 := Lib.hid (B23.out.trans (B4.out.mono B23.out.size)); clear x1 x2 l0 l1 l2 l3 l4 l5; have BW := BW4))) | (go_at_call 14; (with_reducible refine (awake_any m _ (kp (B0.out.trans (BW.out.mono B0.out.size)) HM.out)).mono ?_); rintro _ wz ⟨rfl, BZ⟩))
    go_ret
    exact ⟨rfl, (B0.out.trans (BW.out.mono B0.out.size)).trans (BZ.out.mono (B0.out.trans (BW.out.mono B0.out.size)).size)⟩
  have t8 : decide (0 ≤ uc) = false := decide_eq_false uc0
  go_enter Tryd.func5, Tryd.ntmps5
  go_upto_region 3 with (go_at_call 12; refine (ddefault_any _).mono ?_; rintro _ w1 ⟨vl, rfl, DL, B1⟩; obtain ⟨v1, rfl, DLA⟩ := DL.out; obtain ⟨av, cv1, ev, -, -⟩ := RowsAt.slice DLA.r1; obtain ⟨nv, hnv⟩ : ∃ n, ((wtab 256).map fun n => [Value.int .i64 n]).length = n := ⟨_, rfl⟩; rw [hnv] at ev; subst ev; clear hnv; have HL1 := Lib.hid (heap_alloc_new w1 (.cells #[.string dNm, .slice av nv cv1, .string dLo, .string dUp, .slice none 0 0, .slice none 0 0] 30)); have BL := Lib.hid (B1.out.alloc B1.out.size (.cells #[.string dNm, .slice av nv cv1, .string dLo, .string dUp, .slice none 0 0, .slice none 0 0] 30)); have DA := Lib.hid (show DLoc (w1.alloc (.cells #[.string dNm, .slice av nv cv1, .string dLo, .string dUp, .slice none 0 0, .slice none 0 0] 30)) (lval dNm (.slice av nv cv1) dLo dUp (.slice none 0 0) (.slice none 0 0)) from ⟨_, rfl, DLA.below ((Below.refl _ _).alloc (Nat.le_refl _) _)⟩); clear DLA DL x0 x1 x2; have y0 : (w1.alloc (.cells #[.string dNm, .slice av nv cv1, .string dLo, .string dUp, .slice none 0 0, .slice none 0 0] 30)).cell? ⟨w.heap.size + 1, 0, none⟩ = some (.int .i64 f1) := kp BL.out (Y0.out); have y1 : (w1.alloc (.cells #[.string dNm, .slice av nv cv1, .string dLo, .string dUp, .slice none 0 0, .slice none 0 0] 30)).cell? ⟨w.heap.size + 1, 1, none⟩ = some (.int .i64 f2) := kp BL.out (Y1.out); have y2 : (w1.alloc (.cells #[.string dNm, .slice av nv cv1, .string dLo, .string dUp, .slice none 0 0, .slice none 0 0] 30)).cell? ⟨w.heap.size + 1, 2, none⟩ = some (.int .i64 sep) := kp BL.out (Y2.out); have y3 : (w1.alloc (.cells #[.string dNm, .slice av nv cv1, .string dLo, .string dUp, .slice none 0 0, .slice none 0 0] 30)).cell? ⟨w.heap.size + 1, 3, none⟩ = some (.bool false) := kp BL.out (Y3.out); have y4 : (w1.alloc (.cells #[.string dNm, .slice av nv cv1, .string dLo, .string dUp, .slice none 0 0, .slice none 0 0] 30)).cell? ⟨w.heap.size + 1, 4, none⟩ = some (.bool false) := kp BL.out (Y4.out); have y5 : (w1.alloc (.cells #[.string dNm, .slice av nv cv1, .string dLo, .string dUp, .slice none 0 0, .slice none 0 0] 30)).cell? ⟨w.heap.size + 1, 5, none⟩ = some (.bool false) := kp BL.out (Y5.out); have y6 : (w1.alloc (.cells #[.string dNm, .slice av nv cv1, .string dLo, .string dUp, .slice none 0 0, .slice none 0 0] 30)).cell? ⟨w.heap.size + 1, 6, none⟩ = some (.string ⟨#[]⟩) := kp BL.out (Y6.out); have y7 : (w1.alloc (.cells #[.string dNm, .slice av nv cv1, .string dLo, .string dUp, .slice none 0 0, .slice none 0 0] 30)).cell? ⟨w.heap.size + 1, 7, none⟩ = some (.slice none 0 0) := kp BL.out (Y7.out); have BW := BL)
  try simp only [List.append_eq, List.cons_append, List.nil_append]
  go_wp2_with (first | (go_at_call 17; (first | ((with_reducible refine (few_any A _ _ _ (Strs.below HA.out (B0.out.trans (BL.out.mono B0.out.size))) FA SA.out).mono ?_); rintro _ wf ⟨rfl, hwf⟩; replace hwf := hwf.symm; subst hwf) | ((with_reducible refine (few_any C _ _ _ (Strs.below HC.out (B0.out.trans (BL.out.mono B0.out.size))) FC SC.out).mono ?_); rintro _ wf ⟨rfl, hwf⟩; replace hwf := hwf.symm; subst hwf))) | (go_at_call 16; refine (CK.out _).mono ?_; rintro _ w2 ⟨rfl, B2⟩; have BW2 := Lib.hid (BL.out.trans (B2.out.mono BL.out.size)); clear y0 y1 y2 y3 y4 y5 y6 y7; have x0 : w2.cell? ⟨w.heap.size, 0, none⟩ = some (.int .i64 f1) := kp BW2.out (X0.out); have x2 : w2.cell? ⟨w.heap.size, 2, none⟩ = some (.int .i64 sep) := kp BW2.out (X2.out); have l0 : w2.cell? ⟨w1.heap.size, 0, none⟩ = some (.string dNm) := blk_cellx ((B2.out.block _ (by rw [World.size_alloc]; omega)).trans HL1.out) 0 _ rfl; have l1 : w2.cell? ⟨w1.heap.size, 1, none⟩ = some (.slice av nv cv1) := blk_cellx ((B2.out.block _ (by rw [World.size_alloc]; omega)).trans HL1.out) 1 _ rfl; have l2 : w2.cell? ⟨w1.heap.size, 2, none⟩ = some (.string dLo) := blk_cellx ((B2.out.block _ (by rw [World.size_alloc]; omega)).trans HL1.out) 2 _ rfl; have l3 : w2.cell? ⟨w1.heap.size, 3, none⟩ = some (.string dUp) := blk_cellx ((B2.out.block _ (by rw [World.size_alloc]; omega)).trans HL1.out) 3 _ rfl; have l4 : w2.cell? ⟨w1.heap.size, 4, none⟩ = some (.slice none 0 0) := blk_cellx ((B2.out.block _ (by rw [World.size_alloc]; omega)).trans HL1.out) 4 _ rfl; have l5 : w2.cell? ⟨w1.heap.size, 5, none⟩ = some (.slice none 0 0) := blk_cellx ((B2.out.block _ (by rw [World.size_alloc]; omega)).trans HL1.out) 5 _ rfl; have BW := BW2) | (go_at_call 11; (first | ((with_reducible refine (UA.out _ _ (BW2.out) (DA.out.below B2.out)).mono ?_); rintro _ w3 ⟨rfl, B3⟩; have BW3 := Lib.hid (BW2.out.trans (B3.out.mono BW2.out.size)); have B23 := Lib.hid (B2.out.trans (B3.out.mono B2.out.size)); clear x0 x2 l0 l1 l2 l3 l4 l5; have x1 : w3.cell? ⟨w.heap.size, 1, none⟩ = some (.int .i64 f2) := kp BW3.out (X1.out); have x2 : w3.cell? ⟨w.heap.size, 2, none⟩ = some (.int .i64 sep) := kp BW3.out (X2.out); have l0 : w3.cell? ⟨w1.heap.size, 0, none⟩ = some (.string dNm) := blk_cellx ((B23.out.block _ (by rw [World.size_alloc]; omega)).trans HL1.out) 0 _ rfl; have l1 : w3.cell? ⟨w1.heap.size, 1, none⟩ = some (.slice av nv cv1) := blk_cellx ((B23.out.block _ (by rw [World.size_alloc]; omega)).trans HL1.out) 1 _ rfl; have l2 : w3.cell? ⟨w1.heap.size, 2, none⟩ = some (.string dLo) := blk_cellx ((B23.out.block _ (by rw [World.size_alloc]; omega)).trans HL1.out) 2 _ rfl; have l3 : w3.cell? ⟨w1.heap.size, 3, none⟩ = some (.string dUp) := blk_cellx ((B23.out.block _ (by rw [World.size_alloc]; omega)).trans HL1.out) 3 _ rfl; have l4 : w3.cell? ⟨w1.heap.size, 4, none⟩ = some (.slice none 0 0) := blk_cellx ((B23.out.block _ (by rw [World.size_alloc]; omega)).trans HL1.out) 4 _ rfl; have l5 : w3.cell? ⟨w1.heap.size, 5, none⟩ = some (.slice none 0 0) := blk_cellx ((B23.out.block _ (by rw [World.size_alloc]; omega)).trans HL1.out) 5 _ rfl; have BW := BW3) | ((with_reducible refine (UC.out _ _ (BW3.out) (DA.out.below B23.out)).mono ?_); rintro _ w4 ⟨rfl, B4⟩; have BW4 := Lib.hid (BW3.out.trans (B4.out.mono BW3.out.size)); have B24 := Lib.hid (B23.out.trans (B4.out.mono B23.out.size)); clear x1 x2 l0 l1 l2 l3 l4 l5; have BW := BW4))))
  clear t7 t8 CK FA FC UA UC
  have B4W := Lib.hid (B0.out.trans (BW4.out.mono B0.out.size))
  have CHK : headB (jP f1 f2 sep false false false) = true := by
    have h := HCK.out
    unfold chkJ at h
    by_cases h1 : headB (jP f1 f2 sep false false false) = false
    · rw [if_pos h1] at h; exact absurd h (by decide)
    · simpa using h1
  have HF : Hid ((1 ≤ f1 ∧ f1 ≤ 1024) ∧ (1 ≤ f2 ∧ f2 ≤ 1024) ∧ (-1 ≤ sep ∧ sep ≤ 255)) := by
    unfold headB fldB at CHK
    simp only [Bool.and_eq_true, decide_eq_true_eq] at CHK
    exact Lib.hid ⟨⟨CHK.1.1.1.1.1, CHK.1.1.1.1.2⟩, ⟨CHK.1.1.1.2.1, CHK.1.1.1.2.2⟩, CHK.1.1.2, CHK.1.2⟩
  clear CHK
  obtain ⟨pJ, hpJ⟩ : ∃ p, jP f1 f2 sep false false true = p := ⟨_, rfl⟩
  have HPJ := Lib.hid hpJ
  clear hpJ
  obtain ⟨aa, ca, hva, ha1, ha2, hac⟩ := HA.out
  obtain ⟨ac, cc, hvc, hc1, hc2, hcc⟩ := HC.out
  obtain ⟨na, hna⟩ : ∃ na, A.length = na := ⟨_, rfl⟩
  obtain ⟨nc, hnc⟩ : ∃ nc, C.length = nc := ⟨_, rfl⟩
  rw [hna] at hva
  rw [hnc] at hvc
  have HNA := Lib.hid hna
  have HNC := Lib.hid hnc
  have HAC := Lib.hid hac
  have HCC := Lib.hid hcc
  have nca : na ≤ ca := by rw [← hna]; exact ha1
  have ncc : nc ≤ cc := by rw [← hnc]; exact hc1
  have na12 : na ≤ 12 := by rw [← hna]; exact FA2.out.1
  have nc12 : nc ≤ 12 := by rw [← hnc]; exact FC2.out.1
  unfold maxLen at ha2 hc2
  subst hva hvc
  clear hna hnc hac hcc ha1 hc1
  go_loopw [9, 10, 12] (fun vp vl i wr => ∃ (j : Nat) (P L : List (List UInt8)), i = .int .i64 j ∧ j ≤ na ∧ Hid (P = allP pJ ((A.map (·.data.toList)).take j) (C.map (·.data.toList)) ∧ P.length ≤ 12 * j) ∧ Hid (L = allL pJ ((A.map (·.data.toList)).take j) (C.map (·.data.toList)) ∧ L.length ≤ j) ∧ Hid (P3 w4 vp vl (.slice none 0 0) P L [] wr)) (fun _ _ i _ => na - (intOf i).toNat)
  case atStart => exact ⟨0, [], [], rfl, Nat.zero_le _, Lib.hid ⟨rfl, Nat.le_refl _⟩, Lib.hid ⟨rfl, Nat.le_refl _⟩, Lib.hid (P3.start w4)⟩
  case round =>
    obtain ⟨j, P, L, rfl, hj, HP, HL, HS⟩ := hrel
    by_cases hlt : j < na
    · have l1 : j < A.length := by rw [HNA.out]; exact hlt
      rcases HAC.out with h0 | ⟨g1, o1, rfl, hg1, hca⟩
      · rw [h0] at l1; exact absurd l1 (Nat.not_lt_zero _)
      obtain ⟨x, hx⟩ : ∃ x, A[j]? = some x := ⟨_, List.getElem?_eq_getElem l1⟩
      have C1 := Lib.hid (hca j x hx)
      have SX := Lib.hid (FA2.out.2 x (List.mem_of_getElem? hx))
      have TX : Hid ((A.map (·.data.toList)).take (j + 1) = (A.map (·.data.toList)).take j ++ [x.data.toList]) := Lib.hid (by rw [List.take_add_one, List.getElem?_map, hx]; rfl)
      clear l1 hg1 hca hx
      go_wp2_with fail
      go_loopw [9, 13, 14] (fun vp al kk wr => ∃ (k : Nat) (P2 : List (List UInt8)) (b : Bool), kk = .int .i64 k ∧ k ≤ nc ∧ al = .bool b ∧ Hid (b = ((C.map (·.data.toList)).take k).all fun y => !eqK pJ x.data.toList y) ∧ Hid (P2 = P ++ ((((C.map (·.data.toList)).take k).filter fun y => eqK pJ x.data.toList y).map fun y => putL pJ (some x.data.toList) (some y)) ∧ P2.length ≤ 12 * j + k) ∧ Hid (P3 w4 vp u10 (.slice none 0 0) P2 L [] wr)) (fun _ _ kk _ => nc - (intOf kk).toNat)
      case atStart => exact ⟨0, P, true, rfl, Nat.zero_le _, rfl, Lib.hid rfl, Lib.hid ⟨by simp, HP.out.2⟩, HS⟩
      case round =>
        obtain ⟨k, P2, b, rfl, hk, rfl, HB, HP2, HS2⟩ := hrel
        by_cases hlt2 : k < nc
        · have l2 : k < C.length := by rw [HNC.out]; exact hlt2
          rcases HCC.out with h0 | ⟨g2, o2, rfl, hg2, hcc⟩
          · rw [h0] at l2; exact absurd l2 (Nat.not_lt_zero _)
          obtain ⟨y, hy⟩ : ∃ y, C[k]? = some y := ⟨_, List.getElem?_eq_getElem l2⟩
          have C2 := Lib.hid (hcc k y hy)
          have SY := Lib.hid (FC2.out.2 y (List.mem_of_getElem? hy))
          have TY : Hid ((C.map (·.data.toList)).take (k + 1) = (C.map (·.data.toList)).take k ++ [y.data.toList]) := Lib.hid (by rw [List.take_add_one, List.getElem?_map, hy]; rfl)
          clear l2 hg2 hcc hy
          have BR := Lib.hid HS2.out.bel
          have BRW := Lib.hid (B4W.out.trans (BR.out.mono B4W.out.size))
          have x0 : wr.cell? ⟨w.heap.size, 0, none⟩ = some (.int .i64 f1) := kp (BW4.out.trans (BR.out.mono BW4.out.size)) X0.out
          have x1 : wr.cell? ⟨w.heap.size, 1, none⟩ = some (.int .i64 f2) := kp (BW4.out.trans (BR.out.mono BW4.out.size)) X1.out
          have x2 : wr.cell? ⟨w.heap.size, 2, none⟩ = some (.int .i64 sep) := kp (BW4.out.trans (BR.out.mono BW4.out.size)) X2.out
          have d1 := kp BRW.out C1.out
          have d2 := kp BRW.out C2.out
          have XS := Lib.hid (And.intro x0 (And.intro x1 (And.intro x2 (And.intro d1 d2))))
          have CE : Hid (∀ w', Below wr.heap.size wr w' → Below wr.heap.size wr w' ∧ w'.cell? ⟨w.heap.size, 0, none⟩ = some (.int .i64 f1) ∧ w'.cell? ⟨w.heap.size, 1, none⟩ = some (.int .i64 f2) ∧ w'.cell? ⟨w.heap.size, 2, none⟩ = some (.int .i64 sep) ∧ w'.cell? ⟨g1, o1 + j, none⟩ = some (.string x) ∧ w'.cell? ⟨g2, o2 + k, none⟩ = some (.string y)) := Lib.hid (fun w' h => ⟨h, kp h XS.out.1, kp h XS.out.2.1, kp h XS.out.2.2.1, kp h XS.out.2.2.2.1, kp h XS.out.2.2.2.2⟩)
          have S0 := CE.out _ (Below.refl wr.heap.size wr).drew
          have KX := Lib.hid (fun W (hb : Below w.heap.size w W) => lkey_any x f1 sep m W (kp hb HM.out) (Nat.le_trans SX.out (by omega)))
          have KY := Lib.hid (fun W (hb : Below w.heap.size w W) => lkey_any y f2 sep m W (kp hb HM.out) (Nat.le_trans SY.out (by omega)))
          have p0 : (0 : Int) ≤ (j : Int) := by omega
          have p1 : (j : Int) < (na : Int) := by omega
          have p2 : (0 : Int) ≤ (k : Int) := by omega
          have p3 : (k : Int) < (nc : Int) := by omega
          have p4 : IntKind.i64.wrap (j : Int) = (j : Int) := IntWalk.i64_in _ (by omega)
          have p5 : IntKind.i64.wrap (k : Int) = (k : Int) := IntWalk.i64_in _ (by omega)
          by_cases he : keyL sep f1 x.data.toList = keyL sep f2 y.data.toList
          · have EK : Hid (eqK pJ x.data.toList y.data.toList = true) := Lib.hid (by rw [← HPJ.out]; exact decide_eq_true he)
            obtain ⟨u, hu⟩ : ∃ u, bA (keyL sep f2 y.data.toList) = u := ⟨_, rfl⟩
            rw [he, hu] at KX
            rw [hu] at KY
            clear he hu
            clear d1 d2 x0 x1 x2
            go_wp2_with fail
            go_region_held3 (fun w' => Below wr.heap.size wr w' ∧ w'.cell? ⟨w.heap.size, 0, none⟩ = some (.int .i64 f1) ∧ w'.cell? ⟨w.heap.size, 1, none⟩ = some (.int .i64 f2) ∧ w'.cell? ⟨w.heap.size, 2, none⟩ = some (.int .i64 sep) ∧ w'.cell? ⟨g1, o1 + j, none⟩ = some (.string x) ∧ w'.cell? ⟨g2, o2 + k, none⟩ = some (.string y)) (first | exact S0)
              (first | (go_at_call 20; (first | (with_reducible refine (KX.out _ (BRW.out.trans (S0.1.mono BRW.out.size))).mono ?_) | (with_reducible refine (KY.out _ (BRW.out.trans (S0.1.mono BRW.out.size))).mono ?_)); rintro _ w7 ⟨rfl, B7⟩; have BB := Lib.hid (S0.1.trans (B7.out.mono S0.1.size)); have S0 := CE.out _ BB.out))
            obtain ⟨S1, x0, x1, x2, d1, d2⟩ := S0
            have SB := Lib.hid S1
            clear S1 d1 d2
            have qa1 : IntKind.i64.wrap ((j : Int) + 1) = (j : Int) + 1 := IntWalk.i64_in _ (by omega)
            have qa2 : ¬ ca = j := by omega
            have qa3 : (j : Int) + 1 ≤ (ca : Int) := by omega
            have qa4 : 0 ≤ (j : Int) + 1 := by omega
            have qb1 : IntKind.i64.wrap ((k : Int) + 1) = (k : Int) + 1 := IntWalk.i64_in _ (by omega)
            have qb2 : ¬ cc = k := by omega
            have qb3 : (k : Int) + 1 ≤ (cc : Int) := by omega
            have qb4 : 0 ≤ (k : Int) + 1 := by omega
            obtain ⟨u, hu⟩ : ∃ u, bA (putL pJ (some x.data.toList) (some y.data.toList)) = u := ⟨_, rfl⟩
            have HU := Lib.hid hu
            have RW := Lib.hid (fun W' (hb : Below wr.heap.size wr W') => rowab_any x g1 (o1 + j) (ca - j) y g2 (o2 + k) (cc - k) f1 f2 sep m W' (kp (BRW.out.trans (hb.mono BRW.out.size)) HM.out) (kp hb XS.out.2.2.2.1) SX.out (kp hb XS.out.2.2.2.2) SY.out HF.out.1 HF.out.2.1 HF.out.2.2)
            have RE : Hid (bA (putL pJ (some x.data.toList) (some y.data.toList)) = bA (rowS sep f1 f2 (some x.data.toList) (some y.data.toList))) := Lib.hid (by rw [putL_row pJ _ _ (by rw [← HPJ.out]), ← HPJ.out])
            rw [← RE.out, hu] at RW
            obtain ⟨PL, hPL⟩ : ∃ PL, P2.map bA = PL := ⟨_, rfl⟩
            have HPL := Lib.hid hPL
            have PLN : Hid (PL.length ≤ 1048576) := Lib.hid (by rw [← hPL, List.length_map]; have := HP2.out.2; omega)
            have Q0 := Lib.hid (HS2.out)
            clear hu hPL
            go_wp2_with fail
            go_region_law (first | (go_simp; (go_at_call 21; refine (RW.out _ ((SB.out).trans ((Below.refl w7.heap.size w7).drew.mono (SB.out).size))).mono ?_; rintro _ w8 ⟨rfl, B8⟩; have Q8 := Lib.hid (Q0.out.below (((SB.out).trans ((Below.refl w7.heap.size w7).drew.mono (SB.out).size)).trans (B8.out.mono ((SB.out).trans ((Below.refl w7.heap.size w7).drew.mono (SB.out).size)).size))))) | (refine step_outS rfl (.tmp 95) (.tmp 113) rfl u9 PL u w4.heap.size w8 (by have := Q8.out.o1; rw [HPL.out] at this; exact this) Q8.out.bel.size PLN.out (by simp [Act.eval]) (by simp [Act.eval]) ?_; intro g9 c9 w9 own9 gr9 hX9 lt9; have O9 := Lib.hid own9; have G9 := Lib.hid gr9; have X9 := Lib.hid hX9; clear own9 gr9 hX9 lt9))
            all_goals go_wp2_with fail
            all_goals
              go_roundw
              case rel => exact ⟨k + 1, P2 ++ [putL pJ (some x.data.toList) (some y.data.toList)], false, by go_num, by omega, rfl, Lib.hid (by rw [TY.out, al_snoc, EK.out]; simp), Lib.hid ⟨by rw [TY.out, fl_snoc, EK.out, if_pos rfl, HP2.out.1, List.append_assoc], by have := HP2.out.2; rw [List.length_append, List.length_singleton]; omega⟩, Lib.hid (P3.add Q8.out (by rw [HPL.out, HU.out]; exact O9.out) G9.out X9.out)⟩
              case measure => simp [intOf]; omega
          · have EK : Hid (eqK pJ x.data.toList y.data.toList = false) := Lib.hid (by rw [← HPJ.out]; exact decide_eq_false he)
            have hne := bA_ne he
            obtain ⟨u, hu⟩ : ∃ u, bA (keyL sep f2 y.data.toList) = u := ⟨_, rfl⟩
            obtain ⟨t, ht⟩ : ∃ t, bA (keyL sep f1 x.data.toList) = t := ⟨_, rfl⟩
            rw [hu] at KY hne
            rw [ht] at KX hne
            have ne := strs_ne hne
            clear he hu ht hne
            clear d1 d2 x0 x1 x2
            go_wp2_with fail
            go_region_held3 (fun w' => Below wr.heap.size wr w' ∧ w'.cell? ⟨w.heap.size, 0, none⟩ = some (.int .i64 f1) ∧ w'.cell? ⟨w.heap.size, 1, none⟩ = some (.int .i64 f2) ∧ w'.cell? ⟨w.heap.size, 2, none⟩ = some (.int .i64 sep) ∧ w'.cell? ⟨g1, o1 + j, none⟩ = some (.string x) ∧ w'.cell? ⟨g2, o2 + k, none⟩ = some (.string y)) (first | exact S0)
              (first | (go_at_call 20; (first | (with_reducible refine (KX.out _ (BRW.out.trans (S0.1.mono BRW.out.size))).mono ?_) | (with_reducible refine (KY.out _ (BRW.out.trans (S0.1.mono BRW.out.size))).mono ?_)); rintro _ w7 ⟨rfl, B7⟩; have BB := Lib.hid (S0.1.trans (B7.out.mono S0.1.size)); have S0 := CE.out _ BB.out))
            go_wp2_with fail
            go_roundw
            case rel => exact ⟨k + 1, P2, b, by go_num, by omega, rfl, Lib.hid (by rw [TY.out, al_snoc, EK.out, HB.out]; simp), Lib.hid ⟨by rw [TY.out, fl_snoc, EK.out, HP2.out.1]; simp, by have := HP2.out.2; omega⟩, Lib.hid (HS2.out.below S0.1)⟩
            case measure => simp [intOf]; omega
        · obtain rfl : k = nc := by omega
          have TC : Hid ((C.map (·.data.toList)).take k = C.map (·.data.toList)) := Lib.hid (List.take_of_length_le (by rw [List.length_map, HNC.out]; exact Nat.le_refl _))
          have HP3 : Hid (P2 = allP pJ ((A.map (·.data.toList)).take (j + 1)) (C.map (·.data.toList)) ∧ P2.length ≤ 12 * (j + 1)) := Lib.hid ⟨by rw [TX.out, allP_snoc, ← HP.out.1, HP2.out.1, TC.out], by have := HP2.out.2; omega⟩
          have BR := Lib.hid HS2.out.bel
          have BRW := Lib.hid (B4W.out.trans (BR.out.mono B4W.out.size))
          cases b with
          | true =>
            have HL3 : Hid (L ++ [putL pJ (some x.data.toList) none] = allL pJ ((A.map (·.data.toList)).take (j + 1)) (C.map (·.data.toList)) ∧ (L ++ [putL pJ (some x.data.toList) none]).length ≤ j + 1) := Lib.hid ⟨by rw [TX.out, allL_snoc, ← HL.out.1, ← TC.out, ← HB.out, if_pos rfl], by have := HL.out.2; rw [List.length_append, List.length_singleton]; omega⟩
            have x0 : wr.cell? ⟨w.heap.size, 0, none⟩ = some (.int .i64 f1) := kp (BW4.out.trans (BR.out.mono BW4.out.size)) X0.out
            have x1 : wr.cell? ⟨w.heap.size, 1, none⟩ = some (.int .i64 f2) := kp (BW4.out.trans (BR.out.mono BW4.out.size)) X1.out
            have x2 : wr.cell? ⟨w.heap.size, 2, none⟩ = some (.int .i64 sep) := kp (BW4.out.trans (BR.out.mono BW4.out.size)) X2.out
            have d1 := kp BRW.out C1.out
            have XS := Lib.hid d1
            clear d1
            have qa1 : IntKind.i64.wrap ((j : Int) + 1) = (j : Int) + 1 := IntWalk.i64_in _ (by omega)
            have qa2 : ¬ ca = j := by omega
            have qa3 : (j : Int) + 1 ≤ (ca : Int) := by omega
            have qa4 : 0 ≤ (j : Int) + 1 := by omega
            obtain ⟨u, hu⟩ : ∃ u, bA (putL pJ (some x.data.toList) none) = u := ⟨_, rfl⟩
            have HU := Lib.hid hu
            have RW := Lib.hid (fun W' (hb : Below wr.heap.size wr W') => rowa_any x g1 (o1 + j) (ca - j) f1 f2 sep m W' (kp (BRW.out.trans (hb.mono BRW.out.size)) HM.out) (kp hb XS.out) SX.out HF.out.1 HF.out.2.1 HF.out.2.2)
            have RE : Hid (bA (putL pJ (some x.data.toList) none) = bA (rowS sep f1 f2 (some x.data.toList) none)) := Lib.hid (by rw [putL_row pJ _ _ (by rw [← HPJ.out]), ← HPJ.out])
            rw [← RE.out, hu] at RW
            obtain ⟨PL, hPL⟩ : ∃ PL, L.map bA = PL := ⟨_, rfl⟩
            have HPL := Lib.hid hPL
            have PLN : Hid (PL.length ≤ 1048576) := Lib.hid (by rw [← hPL, List.length_map]; have := HL.out.2; omega)
            have Q0 := Lib.hid (HS2.out.rot)
            clear hu hPL
            go_wp2_with fail
            go_region_law (first | (go_simp; (go_at_call 21; refine (RW.out _ (((Below.refl wr.heap.size wr)).trans ((Below.refl wr.heap.size wr).drew.mono ((Below.refl wr.heap.size wr)).size))).mono ?_; rintro _ w8 ⟨rfl, B8⟩; have Q8 := Lib.hid (Q0.out.below ((((Below.refl wr.heap.size wr)).trans ((Below.refl wr.heap.size wr).drew.mono ((Below.refl wr.heap.size wr)).size)).trans (B8.out.mono (((Below.refl wr.heap.size wr)).trans ((Below.refl wr.heap.size wr).drew.mono ((Below.refl wr.heap.size wr)).size)).size))))) | (refine step_outS rfl (.tmp 116) (.tmp 129) rfl u10 PL u w4.heap.size w8 (by have := Q8.out.o1; rw [HPL.out] at this; exact this) Q8.out.bel.size PLN.out (by simp [Act.eval]) (by simp [Act.eval]) ?_; intro g9 c9 w9 own9 gr9 hX9 lt9; have O9 := Lib.hid own9; have G9 := Lib.hid gr9; have X9 := Lib.hid hX9; clear own9 gr9 hX9 lt9))
            all_goals go_wp2_with fail
            all_goals
              go_roundw
              case rel => exact ⟨j + 1, P2, L ++ [putL pJ (some x.data.toList) none], by go_num, by omega, HP3, HL3, Lib.hid ((P3.add Q8.out (by rw [HPL.out, HU.out]; exact O9.out) G9.out X9.out).rot.rot)⟩
              case measure => simp [intOf]; omega
          | false =>
            have HL3 : Hid (L = allL pJ ((A.map (·.data.toList)).take (j + 1)) (C.map (·.data.toList)) ∧ L.length ≤ j + 1) := Lib.hid ⟨by rw [TX.out, allL_snoc, ← HL.out.1, ← TC.out, ← HB.out]; simp, by have := HL.out.2; omega⟩
            go_wp2_with fail
            go_roundw
            case rel => exact ⟨j + 1, P2, L, by go_num, by omega, HP3, HL3, HS2⟩
            case measure => simp [intOf]; omega
    · obtain rfl : j = na := by omega
      have TA : Hid ((A.map (·.data.toList)).take j = A.map (·.data.toList)) := Lib.hid (List.take_of_length_le (by rw [List.length_map, HNA.out]; exact Nat.le_refl _))
      rw [TA.out] at HP HL
      go_wp2_with fail
      go_loopw [11, 15] (fun vr i wr => ∃ (k : Nat) (R : List (List UInt8)), i = .int .i64 k ∧ k ≤ nc ∧ Hid (R = allR pJ (A.map (·.data.toList)) ((C.map (·.data.toList)).take k) ∧ R.length ≤ k) ∧ Hid (P3 w4 u9 u10 vr P L R wr)) (fun _ i _ => nc - (intOf i).toNat)
      case atStart => exact ⟨0, [], rfl, Nat.zero_le _, Lib.hid ⟨by simp [allR], Nat.le_refl _⟩, HS⟩
      case round =>
        obtain ⟨k, R, rfl, hk, HR, HS3⟩ := hrel
        by_cases hlt3 : k < nc
        · have l2 : k < C.length := by rw [HNC.out]; exact hlt3
          rcases HCC.out with h0 | ⟨g2, o2, rfl, hg2, hcc⟩
          · rw [h0] at l2; exact absurd l2 (Nat.not_lt_zero _)
          obtain ⟨y, hy⟩ : ∃ y, C[k]? = some y := ⟨_, List.getElem?_eq_getElem l2⟩
          have C2 := Lib.hid (hcc k y hy)
          have SY := Lib.hid (FC2.out.2 y (List.mem_of_getElem? hy))
          have TY : Hid ((C.map (·.data.toList)).take (k + 1) = (C.map (·.data.toList)).take k ++ [y.data.toList]) := Lib.hid (by rw [List.take_add_one, List.getElem?_map, hy]; rfl)
          clear l2 hg2 hcc hy
          go_wp2_with fail
          go_loopw [16, 17] (fun al ii wr => ∃ (i : Nat) (b : Bool), ii = .int .i64 i ∧ i ≤ j ∧ al = .bool b ∧ Hid (b = ((A.map (·.data.toList)).take i).all fun x => !eqK pJ x y.data.toList) ∧ Hid (P3 w4 u9 u10 u11 P L R wr)) (fun _ ii _ => j - (intOf ii).toNat)
          case atStart => exact ⟨0, true, rfl, Nat.zero_le _, rfl, Lib.hid rfl, HS3⟩
          case round =>
            obtain ⟨i, b, rfl, hi, rfl, HB, HS2⟩ := hrel
            by_cases hlt4 : i < j
            · have l1 : i < A.length := by rw [HNA.out]; exact hlt4
              rcases HAC.out with h0 | ⟨g1, o1, rfl, hg1, hca⟩
              · rw [h0] at l1; exact absurd l1 (Nat.not_lt_zero _)
              obtain ⟨x, hx⟩ : ∃ x, A[i]? = some x := ⟨_, List.getElem?_eq_getElem l1⟩
              have C1 := Lib.hid (hca i x hx)
              have SX := Lib.hid (FA2.out.2 x (List.mem_of_getElem? hx))
              have TX : Hid ((A.map (·.data.toList)).take (i + 1) = (A.map (·.data.toList)).take i ++ [x.data.toList]) := Lib.hid (by rw [List.take_add_one, List.getElem?_map, hx]; rfl)
              clear l1 hg1 hca hx
              have BR := Lib.hid HS2.out.bel
              have BRW := Lib.hid (B4W.out.trans (BR.out.mono B4W.out.size))
              have x0 : wr.cell? ⟨w.heap.size, 0, none⟩ = some (.int .i64 f1) := kp (BW4.out.trans (BR.out.mono BW4.out.size)) X0.out
              have x1 : wr.cell? ⟨w.heap.size, 1, none⟩ = some (.int .i64 f2) := kp (BW4.out.trans (BR.out.mono BW4.out.size)) X1.out
              have x2 : wr.cell? ⟨w.heap.size, 2, none⟩ = some (.int .i64 sep) := kp (BW4.out.trans (BR.out.mono BW4.out.size)) X2.out
              have d1 := kp BRW.out C1.out
              have d2 := kp BRW.out C2.out
              have XS := Lib.hid (And.intro x0 (And.intro x1 (And.intro x2 (And.intro d1 d2))))
              have CE : Hid (∀ w', Below wr.heap.size wr w' → Below wr.heap.size wr w' ∧ w'.cell? ⟨w.heap.size, 0, none⟩ = some (.int .i64 f1) ∧ w'.cell? ⟨w.heap.size, 1, none⟩ = some (.int .i64 f2) ∧ w'.cell? ⟨w.heap.size, 2, none⟩ = some (.int .i64 sep) ∧ w'.cell? ⟨g1, o1 + i, none⟩ = some (.string x) ∧ w'.cell? ⟨g2, o2 + k, none⟩ = some (.string y)) := Lib.hid (fun w' h => ⟨h, kp h XS.out.1, kp h XS.out.2.1, kp h XS.out.2.2.1, kp h XS.out.2.2.2.1, kp h XS.out.2.2.2.2⟩)
              have S0 := CE.out _ (Below.refl wr.heap.size wr).drew
              have KX := Lib.hid (fun W (hb : Below w.heap.size w W) => lkey_any x f1 sep m W (kp hb HM.out) (Nat.le_trans SX.out (by omega)))
              have KY := Lib.hid (fun W (hb : Below w.heap.size w W) => lkey_any y f2 sep m W (kp hb HM.out) (Nat.le_trans SY.out (by omega)))
              have p0 : (0 : Int) ≤ (i : Int) := by omega
              have p1 : (i : Int) < (j : Int) := by omega
              have p2 : (0 : Int) ≤ (k : Int) := by omega
              have p3 : (k : Int) < (nc : Int) := by omega
              have p4 : IntKind.i64.wrap (i : Int) = (i : Int) := IntWalk.i64_in _ (by omega)
              have p5 : IntKind.i64.wrap (k : Int) = (k : Int) := IntWalk.i64_in _ (by omega)
              by_cases he : keyL sep f1 x.data.toList = keyL sep f2 y.data.toList
              · have EK : Hid (eqK pJ x.data.toList y.data.toList = true) := Lib.hid (by rw [← HPJ.out]; exact decide_eq_true he)
                obtain ⟨u, hu⟩ : ∃ u, bA (keyL sep f2 y.data.toList) = u := ⟨_, rfl⟩
                rw [he, hu] at KX
                rw [hu] at KY
                clear he hu
                clear d1 d2 x0 x1 x2
                go_wp2_with fail
                go_region_held3 (fun w' => Below wr.heap.size wr w' ∧ w'.cell? ⟨w.heap.size, 0, none⟩ = some (.int .i64 f1) ∧ w'.cell? ⟨w.heap.size, 1, none⟩ = some (.int .i64 f2) ∧ w'.cell? ⟨w.heap.size, 2, none⟩ = some (.int .i64 sep) ∧ w'.cell? ⟨g1, o1 + i, none⟩ = some (.string x) ∧ w'.cell? ⟨g2, o2 + k, none⟩ = some (.string y)) (first | exact S0)
                  (first | (go_at_call 20; (first | (with_reducible refine (KX.out _ (BRW.out.trans (S0.1.mono BRW.out.size))).mono ?_) | (with_reducible refine (KY.out _ (BRW.out.trans (S0.1.mono BRW.out.size))).mono ?_)); rintro _ w7 ⟨rfl, B7⟩; have BB := Lib.hid (S0.1.trans (B7.out.mono S0.1.size)); have S0 := CE.out _ BB.out))
                go_wp2_with fail
                go_roundw
                case rel => exact ⟨i + 1, false, by go_num, by omega, rfl, Lib.hid (by rw [TX.out, ar_snoc, EK.out]; simp), Lib.hid (HS2.out.below S0.1)⟩
                case measure => simp [intOf]; omega
              · have EK : Hid (eqK pJ x.data.toList y.data.toList = false) := Lib.hid (by rw [← HPJ.out]; exact decide_eq_false he)
                have hne := bA_ne he
                obtain ⟨u, hu⟩ : ∃ u, bA (keyL sep f2 y.data.toList) = u := ⟨_, rfl⟩
                obtain ⟨t, ht⟩ : ∃ t, bA (keyL sep f1 x.data.toList) = t := ⟨_, rfl⟩
                rw [hu] at KY hne
                rw [ht] at KX hne
                have ne := strs_ne hne
                clear he hu ht hne
                clear d1 d2 x0 x1 x2
                go_wp2_with fail
                go_region_held3 (fun w' => Below wr.heap.size wr w' ∧ w'.cell? ⟨w.heap.size, 0, none⟩ = some (.int .i64 f1) ∧ w'.cell? ⟨w.heap.size, 1, none⟩ = some (.int .i64 f2) ∧ w'.cell? ⟨w.heap.size, 2, none⟩ = some (.int .i64 sep) ∧ w'.cell? ⟨g1, o1 + i, none⟩ = some (.string x) ∧ w'.cell? ⟨g2, o2 + k, none⟩ = some (.string y)) (first | exact S0)
                  (first | (go_at_call 20; (first | (with_reducible refine (KX.out _ (BRW.out.trans (S0.1.mono BRW.out.size))).mono ?_) | (with_reducible refine (KY.out _ (BRW.out.trans (S0.1.mono BRW.out.size))).mono ?_)); rintro _ w7 ⟨rfl, B7⟩; have BB := Lib.hid (S0.1.trans (B7.out.mono S0.1.size)); have S0 := CE.out _ BB.out))
                go_wp2_with fail
                go_roundw
                case rel => exact ⟨i + 1, b, by go_num, by omega, rfl, Lib.hid (by rw [TX.out, ar_snoc, EK.out, HB.out]; simp), Lib.hid (HS2.out.below S0.1)⟩
                case measure => simp [intOf]; omega
            · obtain rfl : i = j := by omega
              have BR := Lib.hid HS2.out.bel
              have BRW := Lib.hid (B4W.out.trans (BR.out.mono B4W.out.size))
              cases b with
              | true =>
                have HR3 : Hid (R ++ [putL pJ none (some y.data.toList)] = allR pJ (A.map (·.data.toList)) ((C.map (·.data.toList)).take (k + 1)) ∧ (R ++ [putL pJ none (some y.data.toList)]).length ≤ k + 1) := Lib.hid ⟨by rw [TY.out, allR_snoc, ← HR.out.1, ← TA.out, ← HB.out, if_pos rfl], by have := HR.out.2; rw [List.length_append, List.length_singleton]; omega⟩
                have x0 : wr.cell? ⟨w.heap.size, 0, none⟩ = some (.int .i64 f1) := kp (BW4.out.trans (BR.out.mono BW4.out.size)) X0.out
                have x1 : wr.cell? ⟨w.heap.size, 1, none⟩ = some (.int .i64 f2) := kp (BW4.out.trans (BR.out.mono BW4.out.size)) X1.out
                have x2 : wr.cell? ⟨w.heap.size, 2, none⟩ = some (.int .i64 sep) := kp (BW4.out.trans (BR.out.mono BW4.out.size)) X2.out
                have d2 := kp BRW.out C2.out
                have XS := Lib.hid d2
                clear d2
                have qb1 : IntKind.i64.wrap ((k : Int) + 1) = (k : Int) + 1 := IntWalk.i64_in _ (by omega)
                have qb2 : ¬ cc = k := by omega
                have qb3 : (k : Int) + 1 ≤ (cc : Int) := by omega
                have qb4 : 0 ≤ (k : Int) + 1 := by omega
                obtain ⟨u, hu⟩ : ∃ u, bA (putL pJ none (some y.data.toList)) = u := ⟨_, rfl⟩
                have HU := Lib.hid hu
                have RW := Lib.hid (fun W' (hb : Below wr.heap.size wr W') => rowb_any y g2 (o2 + k) (cc - k) f1 f2 sep m W' (kp (BRW.out.trans (hb.mono BRW.out.size)) HM.out) (kp hb XS.out) SY.out HF.out.1 HF.out.2.1 HF.out.2.2)
                have RE : Hid (bA (putL pJ none (some y.data.toList)) = bA (rowS sep f1 f2 none (some y.data.toList))) := Lib.hid (by rw [putL_row pJ _ _ (by rw [← HPJ.out]), ← HPJ.out])
                rw [← RE.out, hu] at RW
                obtain ⟨PL, hPL⟩ : ∃ PL, R.map bA = PL := ⟨_, rfl⟩
                have HPL := Lib.hid hPL
                have PLN : Hid (PL.length ≤ 1048576) := Lib.hid (by rw [← hPL, List.length_map]; have := HR.out.2; omega)
                have Q0 := Lib.hid (HS2.out.rot.rot)
                clear hu hPL
                go_wp2_with fail
                go_region_law (first | (go_simp; (go_at_call 21; refine (RW.out _ (((Below.refl wr.heap.size wr)).trans ((Below.refl wr.heap.size wr).drew.mono ((Below.refl wr.heap.size wr)).size))).mono ?_; rintro _ w8 ⟨rfl, B8⟩; have Q8 := Lib.hid (Q0.out.below ((((Below.refl wr.heap.size wr)).trans ((Below.refl wr.heap.size wr).drew.mono ((Below.refl wr.heap.size wr)).size)).trans (B8.out.mono (((Below.refl wr.heap.size wr)).trans ((Below.refl wr.heap.size wr).drew.mono ((Below.refl wr.heap.size wr)).size)).size))))) | (refine step_outS rfl (.tmp 163) (.tmp 176) rfl u11 PL u w4.heap.size w8 (by have := Q8.out.o1; rw [HPL.out] at this; exact this) Q8.out.bel.size PLN.out (by simp [Act.eval]) (by simp [Act.eval]) ?_; intro g9 c9 w9 own9 gr9 hX9 lt9; have O9 := Lib.hid own9; have G9 := Lib.hid gr9; have X9 := Lib.hid hX9; clear own9 gr9 hX9 lt9))
                all_goals go_wp2_with fail
                all_goals
                  go_roundw
                  case rel => exact ⟨k + 1, R ++ [putL pJ none (some y.data.toList)], by go_num, by omega, HR3, Lib.hid ((P3.add Q8.out (by rw [HPL.out, HU.out]; exact O9.out) G9.out X9.out).rot)⟩
                  case measure => simp [intOf]; omega
              | false =>
                have HR3 : Hid (R = allR pJ (A.map (·.data.toList)) ((C.map (·.data.toList)).take (k + 1)) ∧ R.length ≤ k + 1) := Lib.hid ⟨by rw [TY.out, allR_snoc, ← HR.out.1, ← TA.out, ← HB.out]; simp, by have := HR.out.2; omega⟩
                go_wp2_with fail
                go_roundw
                case rel => exact ⟨k + 1, R, by go_num, by omega, HR3, HS2⟩
                case measure => simp [intOf]; omega
        · obtain rfl : k = nc := by omega
          have TC : Hid ((C.map (·.data.toList)).take k = C.map (·.data.toList)) := Lib.hid (List.take_of_length_le (by rw [List.length_map, HNC.out]; exact Nat.le_refl _))
          rw [TC.out] at HR
          have SRA : Srt cmpD (keyL sep f1) (A.map (·.data.toList)) := uns_srt sep f1 _ 1 (unsL_vals sep f1 _ 1 (by show unsL sep f1 _ < 0; rw [HUA.out]; omega))
          have SRC : Srt cmpD (keyL sep f2) (C.map (·.data.toList)) := uns_srt sep f2 _ 1 (unsL_vals sep f2 _ 1 (by show unsL sep f2 _ < 0; rw [HUC.out]; omega))
          obtain ⟨j1, j2, j3, j4⟩ := join_four f1 f2 sep _ _ SRA SRC false false true
          rw [HPJ.out, ← HP.out.1] at j1
          replace j1 : joinL (jP f1 f2 sep false false true) cmpD (A.map (·.data.toList)) (C.map (·.data.toList)) = P := by rw [HPJ.out]; exact j1
          rw [HPJ.out, ← HL.out.1] at j2
          rw [HPJ.out, ← HR.out.1] at j3
          rw [HPJ.out, ← HP.out.1, ← HL.out.1, ← HR.out.1] at j4
          obtain ⟨M, hM⟩ : ∃ M, joinL (jP f1 f2 sep true true true) cmpD (A.map (·.data.toList)) (C.map (·.data.toList)) = M := ⟨_, rfl⟩
          rw [hM] at j4
          have e1 : chkJ (jP f1 f2 sep false false true) = 0 := HCK.out
          have J1 := fun W (h : PS w (w.heap.size + 1) w1.heap.size f1 f2 sep #[.string dNm, .slice av nv cv1, .string dLo, .string dUp, .slice none 0 0, .slice none 0 0] (lval dNm (.slice av nv cv1) dLo dUp (.slice none 0 0) (.slice none 0 0)) false false true W) => join_any (jP f1 f2 sep false false true) A C _ _ (lval dNm (.slice av nv cv1) dLo dUp (.slice none 0 0) (.slice none 0 0)) f1 f2 sep m false false true ⟨#[]⟩ none 0 0 W rfl (kp h.bel HM.out) h.dl (rows_nil2 W) rfl (Strs.below HA.out h.bel) (Strs.below HC.out h.bel) FA2.out.1 FC2.out.1 FA2.out.2 FC2.out.2 (by decide) (by decide)
          simp only [e1, j1, if_true] at J1
          replace J1 := Lib.hid J1
          have e2 : chkJ (jP f1 f2 sep true false false) = 0 := HCK.out
          have J2 := fun W (h : PS w (w.heap.size + 1) w1.heap.size f1 f2 sep #[.string dNm, .slice av nv cv1, .string dLo, .string dUp, .slice none 0 0, .slice none 0 0] (lval dNm (.slice av nv cv1) dLo dUp (.slice none 0 0) (.slice none 0 0)) true false false W) => join_any (jP f1 f2 sep true false false) A C _ _ (lval dNm (.slice av nv cv1) dLo dUp (.slice none 0 0) (.slice none 0 0)) f1 f2 sep m true false false ⟨#[]⟩ none 0 0 W rfl (kp h.bel HM.out) h.dl (rows_nil2 W) rfl (Strs.below HA.out h.bel) (Strs.below HC.out h.bel) FA2.out.1 FC2.out.1 FA2.out.2 FC2.out.2 (by decide) (by decide)
          simp only [e2, j2, if_true] at J2
          replace J2 := Lib.hid J2
          have e3 : chkJ (jP f1 f2 sep false true false) = 0 := HCK.out
          have J3 := fun W (h : PS w (w.heap.size + 1) w1.heap.size f1 f2 sep #[.string dNm, .slice av nv cv1, .string dLo, .string dUp, .slice none 0 0, .slice none 0 0] (lval dNm (.slice av nv cv1) dLo dUp (.slice none 0 0) (.slice none 0 0)) false true false W) => join_any (jP f1 f2 sep false true false) A C _ _ (lval dNm (.slice av nv cv1) dLo dUp (.slice none 0 0) (.slice none 0 0)) f1 f2 sep m false true false ⟨#[]⟩ none 0 0 W rfl (kp h.bel HM.out) h.dl (rows_nil2 W) rfl (Strs.below HA.out h.bel) (Strs.below HC.out h.bel) FA2.out.1 FC2.out.1 FA2.out.2 FC2.out.2 (by decide) (by decide)
          simp only [e3, j3, if_true] at J3
          replace J3 := Lib.hid J3
          have e4 : chkJ (jP f1 f2 sep true true true) = 0 := HCK.out
          have J4 := fun W (h : PS w (w.heap.size + 1) w1.heap.size f1 f2 sep #[.string dNm, .slice av nv cv1, .string dLo, .string dUp, .slice none 0 0, .slice none 0 0] (lval dNm (.slice av nv cv1) dLo dUp (.slice none 0 0) (.slice none 0 0)) true true true W) => join_any (jP f1 f2 sep true true true) A C _ _ (lval dNm (.slice av nv cv1) dLo dUp (.slice none 0 0) (.slice none 0 0)) f1 f2 sep m true true true ⟨#[]⟩ none 0 0 W rfl (kp h.bel HM.out) h.dl (rows_nil2 W) rfl (Strs.below HA.out h.bel) (Strs.below HC.out h.bel) FA2.out.1 FC2.out.1 FA2.out.2 FC2.out.2 (by decide) (by decide)
          simp only [e4, hM, if_true] at J4
          replace J4 := Lib.hid J4
          have NP : Hid ((P.map bA).length ≤ 144) := Lib.hid (by rw [List.length_map]; have := HP.out.2; omega)
          have NL : Hid ((L.map bA).length ≤ 12) := Lib.hid (by rw [List.length_map]; have := HL.out.2; omega)
          have NR : Hid ((R.map bA).length ≤ 12) := Lib.hid (by rw [List.length_map]; have := HR.out.2; omega)
          have NM : Hid ((M.map bA).length = (P.map bA).length + (L.map bA).length + (R.map bA).length) := Lib.hid (by simp only [List.length_map]; exact j4)
          have hn : w.heap.size + 1 ≠ w1.heap.size := by have := B1.out.size; rw [World.size_alloc, World.size_alloc] at this; omega
          have HNN := Lib.hid hn
          have PS0 : Hid (PS w (w.heap.size + 1) w1.heap.size f1 f2 sep #[.string dNm, .slice av nv cv1, .string dLo, .string dUp, .slice none 0 0, .slice none 0 0] (lval dNm (.slice av nv cv1) dLo dUp (.slice none 0 0) (.slice none 0 0)) false false false wr) := Lib.hid ⟨(((BW4.out.trans (HS3.out.bel.mono BW4.out.size)).block _ (Array.getElem?_eq_some_iff.1 HN0.out).1).trans HN0.out), (((B24.out.trans (HS3.out.bel.mono B24.out.size)).block _ (Array.getElem?_eq_some_iff.1 HL1.out).1).trans HL1.out), DA.out.below (B24.out.trans (HS3.out.bel.mono B24.out.size)), B4W.out.trans (HS3.out.bel.mono B4W.out.size)⟩
          obtain ⟨MP, hMP⟩ : ∃ Q, P.map bA = Q := ⟨_, rfl⟩
          obtain ⟨ML, hML⟩ : ∃ Q, L.map bA = Q := ⟨_, rfl⟩
          obtain ⟨MR, hMR⟩ : ∃ Q, R.map bA = Q := ⟨_, rfl⟩
          obtain ⟨MM, hMM⟩ : ∃ Q, M.map bA = Q := ⟨_, rfl⟩
          have U1 := Lib.hid (HS3.out.o1.strs)
          have U2 := Lib.hid (HS3.out.o2.strs)
          have U3 := Lib.hid (HS3.out.o3.strs)
          rw [hMP] at U1 J1 NP NM
          rw [hML] at U2 J2 NL NM
          rw [hMR] at U3 J3 NR NM
          rw [hMM] at J4 NM
          clear hMP hML hMR hMM j1 j2 j3 j4 hM e1 e2 e3 e4 SRA SRC hn HP HL HR HS HS3
          have fd : wr.frozen? ⟨w.heap.size + 1, 5, none⟩ = false := PS0.out.b3.2.2.2.2.2
          have cb : wr.cell? ⟨w.heap.size + 1, 5, none⟩ = some (.bool false) := PS0.out.b3.2.2.1
          go_upto_region 30 with (fail)
          have PS1 := Lib.hid (PS0.out.set5 (by omega) HNN.out true)
          replace U1 := Lib.hid (Strs.setb (u := .bool true) U1.out cb)
          replace U2 := Lib.hid (Strs.setb (u := .bool true) U2.out cb)
          replace U3 := Lib.hid (Strs.setb (u := .bool true) U3.out cb)
          obtain ⟨wa1, hwa⟩ : ∃ W', wr.setCell ⟨w.heap.size + 1, 5, none⟩ (.bool true) = W' := ⟨_, rfl⟩
          rw [hwa] at PS1 U1 U2 U3 ⊢
          clear hwa fd cb PS0
          have l0 : wa1.cell? ⟨w1.heap.size, 0, none⟩ = some (.string dNm) := blk_cellx PS1.out.lo 0 _ rfl
          have l1 : wa1.cell? ⟨w1.heap.size, 1, none⟩ = some (.slice av nv cv1) := blk_cellx PS1.out.lo 1 _ rfl
          have l2 : wa1.cell? ⟨w1.heap.size, 2, none⟩ = some (.string dLo) := blk_cellx PS1.out.lo 2 _ rfl
          have l3 : wa1.cell? ⟨w1.heap.size, 3, none⟩ = some (.string dUp) := blk_cellx PS1.out.lo 3 _ rfl
          have l4 : wa1.cell? ⟨w1.heap.size, 4, none⟩ = some (.slice none 0 0) := blk_cellx PS1.out.lo 4 _ rfl
          have l5 : wa1.cell? ⟨w1.heap.size, 5, none⟩ = some (.slice none 0 0) := blk_cellx PS1.out.lo 5 _ rfl
          have y0 : wa1.cell? ⟨w.heap.size + 1, 0, none⟩ = some (.int .i64 f1) := blk_cellx PS1.out.pc 0 _ rfl
          have y1 : wa1.cell? ⟨w.heap.size + 1, 1, none⟩ = some (.int .i64 f2) := blk_cellx PS1.out.pc 1 _ rfl
          have y2 : wa1.cell? ⟨w.heap.size + 1, 2, none⟩ = some (.int .i64 sep) := blk_cellx PS1.out.pc 2 _ rfl
          have y3 : wa1.cell? ⟨w.heap.size + 1, 3, none⟩ = some (.bool false) := blk_cellx PS1.out.pc 3 _ rfl
          have y4 : wa1.cell? ⟨w.heap.size + 1, 4, none⟩ = some (.bool false) := blk_cellx PS1.out.pc 4 _ rfl
          have y5 : wa1.cell? ⟨w.heap.size + 1, 5, none⟩ = some (.bool true) := blk_cellx PS1.out.pc 5 _ rfl
          have y6 : wa1.cell? ⟨w.heap.size + 1, 6, none⟩ = some (.string ⟨#[]⟩) := blk_cellx PS1.out.pc 6 _ rfl
          have y7 : wa1.cell? ⟨w.heap.size + 1, 7, none⟩ = some (.slice none 0 0) := blk_cellx PS1.out.pc 7 _ rfl
          go_upto_region 31 with (go_at_call 18; (with_reducible refine (J1.out _ PS1.out).mono ?_); rintro _ wa2 ⟨x1, rfl, X1, Bj⟩)
          have PS2 := Lib.hid (PS1.out.below Bj.out)
          replace U1 := Lib.hid (Strs.below U1.out Bj.out)
          replace U2 := Lib.hid (Strs.below U2.out Bj.out)
          replace U3 := Lib.hid (Strs.below U3.out Bj.out)
          clear l0 l1 l2 l3 l4 l5 y0 y1 y2 y3 y4 y5 y6 y7 Bj PS1 J1
          have fd : wa2.frozen? ⟨w.heap.size + 1, 5, none⟩ = false := PS2.out.b3.2.2.2.2.2
          have cb : wa2.cell? ⟨w.heap.size + 1, 5, none⟩ = some (.bool true) := PS2.out.b3.2.2.1
          go_upto_region 32 with (fail)
          have PS3 := Lib.hid (PS2.out.set5 (by omega) HNN.out false)
          replace U1 := Lib.hid (Strs.setb (u := .bool false) U1.out cb)
          replace U2 := Lib.hid (Strs.setb (u := .bool false) U2.out cb)
          replace U3 := Lib.hid (Strs.setb (u := .bool false) U3.out cb)
          replace X1 := Lib.hid (Strs.setb (u := .bool false) X1.out cb)
          obtain ⟨wa3, hwa⟩ : ∃ W', wa2.setCell ⟨w.heap.size + 1, 5, none⟩ (.bool false) = W' := ⟨_, rfl⟩
          rw [hwa] at PS3 U1 U2 U3 X1 ⊢
          clear hwa fd cb PS2
          have fd : wa3.frozen? ⟨w.heap.size + 1, 3, none⟩ = false := PS3.out.b3.2.2.2.1
          have cb : wa3.cell? ⟨w.heap.size + 1, 3, none⟩ = some (.bool false) := PS3.out.b3.1
          go_upto_region 33 with (fail)
          have PS4 := Lib.hid (PS3.out.set3 (by omega) HNN.out true)
          replace U1 := Lib.hid (Strs.setb (u := .bool true) U1.out cb)
          replace U2 := Lib.hid (Strs.setb (u := .bool true) U2.out cb)
          replace U3 := Lib.hid (Strs.setb (u := .bool true) U3.out cb)
          replace X1 := Lib.hid (Strs.setb (u := .bool true) X1.out cb)
          obtain ⟨wa4, hwa⟩ : ∃ W', wa3.setCell ⟨w.heap.size + 1, 3, none⟩ (.bool true) = W' := ⟨_, rfl⟩
          rw [hwa] at PS4 U1 U2 U3 X1 ⊢
          clear hwa fd cb PS3
          have l0 : wa4.cell? ⟨w1.heap.size, 0, none⟩ = some (.string dNm) := blk_cellx PS4.out.lo 0 _ rfl
          have l1 : wa4.cell? ⟨w1.heap.size, 1, none⟩ = some (.slice av nv cv1) := blk_cellx PS4.out.lo 1 _ rfl
          have l2 : wa4.cell? ⟨w1.heap.size, 2, none⟩ = some (.string dLo) := blk_cellx PS4.out.lo 2 _ rfl
          have l3 : wa4.cell? ⟨w1.heap.size, 3, none⟩ = some (.string dUp) := blk_cellx PS4.out.lo 3 _ rfl
          have l4 : wa4.cell? ⟨w1.heap.size, 4, none⟩ = some (.slice none 0 0) := blk_cellx PS4.out.lo 4 _ rfl
          have l5 : wa4.cell? ⟨w1.heap.size, 5, none⟩ = some (.slice none 0 0) := blk_cellx PS4.out.lo 5 _ rfl
          have y0 : wa4.cell? ⟨w.heap.size + 1, 0, none⟩ = some (.int .i64 f1) := blk_cellx PS4.out.pc 0 _ rfl
          have y1 : wa4.cell? ⟨w.heap.size + 1, 1, none⟩ = some (.int .i64 f2) := blk_cellx PS4.out.pc 1 _ rfl
          have y2 : wa4.cell? ⟨w.heap.size + 1, 2, none⟩ = some (.int .i64 sep) := blk_cellx PS4.out.pc 2 _ rfl
          have y3 : wa4.cell? ⟨w.heap.size + 1, 3, none⟩ = some (.bool true) := blk_cellx PS4.out.pc 3 _ rfl
          have y4 : wa4.cell? ⟨w.heap.size + 1, 4, none⟩ = some (.bool false) := blk_cellx PS4.out.pc 4 _ rfl
          have y5 : wa4.cell? ⟨w.heap.size + 1, 5, none⟩ = some (.bool false) := blk_cellx PS4.out.pc 5 _ rfl
          have y6 : wa4.cell? ⟨w.heap.size + 1, 6, none⟩ = some (.string ⟨#[]⟩) := blk_cellx PS4.out.pc 6 _ rfl
          have y7 : wa4.cell? ⟨w.heap.size + 1, 7, none⟩ = some (.slice none 0 0) := blk_cellx PS4.out.pc 7 _ rfl
          go_upto_region 34 with (go_at_call 18; (with_reducible refine (J2.out _ PS4.out).mono ?_); rintro _ wa5 ⟨x2, rfl, X2, Bj⟩)
          have PS5 := Lib.hid (PS4.out.below Bj.out)
          replace U1 := Lib.hid (Strs.below U1.out Bj.out)
          replace U2 := Lib.hid (Strs.below U2.out Bj.out)
          replace U3 := Lib.hid (Strs.below U3.out Bj.out)
          replace X1 := Lib.hid (Strs.below X1.out Bj.out)
          clear l0 l1 l2 l3 l4 l5 y0 y1 y2 y3 y4 y5 y6 y7 Bj PS4 J2
          have fd : wa5.frozen? ⟨w.heap.size + 1, 3, none⟩ = false := PS5.out.b3.2.2.2.1
          have cb : wa5.cell? ⟨w.heap.size + 1, 3, none⟩ = some (.bool true) := PS5.out.b3.1
          go_upto_region 35 with (fail)
          have PS6 := Lib.hid (PS5.out.set3 (by omega) HNN.out false)
          replace U1 := Lib.hid (Strs.setb (u := .bool false) U1.out cb)
          replace U2 := Lib.hid (Strs.setb (u := .bool false) U2.out cb)
          replace U3 := Lib.hid (Strs.setb (u := .bool false) U3.out cb)
          replace X1 := Lib.hid (Strs.setb (u := .bool false) X1.out cb)
          replace X2 := Lib.hid (Strs.setb (u := .bool false) X2.out cb)
          obtain ⟨wa6, hwa⟩ : ∃ W', wa5.setCell ⟨w.heap.size + 1, 3, none⟩ (.bool false) = W' := ⟨_, rfl⟩
          rw [hwa] at PS6 U1 U2 U3 X1 X2 ⊢
          clear hwa fd cb PS5
          have fd : wa6.frozen? ⟨w.heap.size + 1, 4, none⟩ = false := PS6.out.b3.2.2.2.2.1
          have cb : wa6.cell? ⟨w.heap.size + 1, 4, none⟩ = some (.bool false) := PS6.out.b3.2.1
          go_upto_region 36 with (fail)
          have PS7 := Lib.hid (PS6.out.set4 (by omega) HNN.out true)
          replace U1 := Lib.hid (Strs.setb (u := .bool true) U1.out cb)
          replace U2 := Lib.hid (Strs.setb (u := .bool true) U2.out cb)
          replace U3 := Lib.hid (Strs.setb (u := .bool true) U3.out cb)
          replace X1 := Lib.hid (Strs.setb (u := .bool true) X1.out cb)
          replace X2 := Lib.hid (Strs.setb (u := .bool true) X2.out cb)
          obtain ⟨wa7, hwa⟩ : ∃ W', wa6.setCell ⟨w.heap.size + 1, 4, none⟩ (.bool true) = W' := ⟨_, rfl⟩
          rw [hwa] at PS7 U1 U2 U3 X1 X2 ⊢
          clear hwa fd cb PS6
          have l0 : wa7.cell? ⟨w1.heap.size, 0, none⟩ = some (.string dNm) := blk_cellx PS7.out.lo 0 _ rfl
          have l1 : wa7.cell? ⟨w1.heap.size, 1, none⟩ = some (.slice av nv cv1) := blk_cellx PS7.out.lo 1 _ rfl
          have l2 : wa7.cell? ⟨w1.heap.size, 2, none⟩ = some (.string dLo) := blk_cellx PS7.out.lo 2 _ rfl
          have l3 : wa7.cell? ⟨w1.heap.size, 3, none⟩ = some (.string dUp) := blk_cellx PS7.out.lo 3 _ rfl
          have l4 : wa7.cell? ⟨w1.heap.size, 4, none⟩ = some (.slice none 0 0) := blk_cellx PS7.out.lo 4 _ rfl
          have l5 : wa7.cell? ⟨w1.heap.size, 5, none⟩ = some (.slice none 0 0) := blk_cellx PS7.out.lo 5 _ rfl
          have y0 : wa7.cell? ⟨w.heap.size + 1, 0, none⟩ = some (.int .i64 f1) := blk_cellx PS7.out.pc 0 _ rfl
          have y1 : wa7.cell? ⟨w.heap.size + 1, 1, none⟩ = some (.int .i64 f2) := blk_cellx PS7.out.pc 1 _ rfl
          have y2 : wa7.cell? ⟨w.heap.size + 1, 2, none⟩ = some (.int .i64 sep) := blk_cellx PS7.out.pc 2 _ rfl
          have y3 : wa7.cell? ⟨w.heap.size + 1, 3, none⟩ = some (.bool false) := blk_cellx PS7.out.pc 3 _ rfl
          have y4 : wa7.cell? ⟨w.heap.size + 1, 4, none⟩ = some (.bool true) := blk_cellx PS7.out.pc 4 _ rfl
          have y5 : wa7.cell? ⟨w.heap.size + 1, 5, none⟩ = some (.bool false) := blk_cellx PS7.out.pc 5 _ rfl
          have y6 : wa7.cell? ⟨w.heap.size + 1, 6, none⟩ = some (.string ⟨#[]⟩) := blk_cellx PS7.out.pc 6 _ rfl
          have y7 : wa7.cell? ⟨w.heap.size + 1, 7, none⟩ = some (.slice none 0 0) := blk_cellx PS7.out.pc 7 _ rfl
          go_upto_region 37 with (go_at_call 18; (with_reducible refine (J3.out _ PS7.out).mono ?_); rintro _ wa8 ⟨x3, rfl, X3, Bj⟩)
          have PS8 := Lib.hid (PS7.out.below Bj.out)
          replace U1 := Lib.hid (Strs.below U1.out Bj.out)
          replace U2 := Lib.hid (Strs.below U2.out Bj.out)
          replace U3 := Lib.hid (Strs.below U3.out Bj.out)
          replace X1 := Lib.hid (Strs.below X1.out Bj.out)
          replace X2 := Lib.hid (Strs.below X2.out Bj.out)
          clear l0 l1 l2 l3 l4 l5 y0 y1 y2 y3 y4 y5 y6 y7 Bj PS7 J3
          have fd : wa8.frozen? ⟨w.heap.size + 1, 3, none⟩ = false := PS8.out.b3.2.2.2.1
          have cb : wa8.cell? ⟨w.heap.size + 1, 3, none⟩ = some (.bool false) := PS8.out.b3.1
          go_upto_region 38 with (fail)
          have PS9 := Lib.hid (PS8.out.set3 (by omega) HNN.out true)
          replace U1 := Lib.hid (Strs.setb (u := .bool true) U1.out cb)
          replace U2 := Lib.hid (Strs.setb (u := .bool true) U2.out cb)
          replace U3 := Lib.hid (Strs.setb (u := .bool true) U3.out cb)
          replace X1 := Lib.hid (Strs.setb (u := .bool true) X1.out cb)
          replace X2 := Lib.hid (Strs.setb (u := .bool true) X2.out cb)
          replace X3 := Lib.hid (Strs.setb (u := .bool true) X3.out cb)
          obtain ⟨wa9, hwa⟩ : ∃ W', wa8.setCell ⟨w.heap.size + 1, 3, none⟩ (.bool true) = W' := ⟨_, rfl⟩
          rw [hwa] at PS9 U1 U2 U3 X1 X2 X3 ⊢
          clear hwa fd cb PS8
          have fd : wa9.frozen? ⟨w.heap.size + 1, 5, none⟩ = false := PS9.out.b3.2.2.2.2.2
          have cb : wa9.cell? ⟨w.heap.size + 1, 5, none⟩ = some (.bool false) := PS9.out.b3.2.2.1
          go_upto_region 39 with (fail)
          have PS10 := Lib.hid (PS9.out.set5 (by omega) HNN.out true)
          replace U1 := Lib.hid (Strs.setb (u := .bool true) U1.out cb)
          replace U2 := Lib.hid (Strs.setb (u := .bool true) U2.out cb)
          replace U3 := Lib.hid (Strs.setb (u := .bool true) U3.out cb)
          replace X1 := Lib.hid (Strs.setb (u := .bool true) X1.out cb)
          replace X2 := Lib.hid (Strs.setb (u := .bool true) X2.out cb)
          replace X3 := Lib.hid (Strs.setb (u := .bool true) X3.out cb)
          obtain ⟨wa10, hwa⟩ : ∃ W', wa9.setCell ⟨w.heap.size + 1, 5, none⟩ (.bool true) = W' := ⟨_, rfl⟩
          rw [hwa] at PS10 U1 U2 U3 X1 X2 X3 ⊢
          clear hwa fd cb PS9
          have l0 : wa10.cell? ⟨w1.heap.size, 0, none⟩ = some (.string dNm) := blk_cellx PS10.out.lo 0 _ rfl
          have l1 : wa10.cell? ⟨w1.heap.size, 1, none⟩ = some (.slice av nv cv1) := blk_cellx PS10.out.lo 1 _ rfl
          have l2 : wa10.cell? ⟨w1.heap.size, 2, none⟩ = some (.string dLo) := blk_cellx PS10.out.lo 2 _ rfl
          have l3 : wa10.cell? ⟨w1.heap.size, 3, none⟩ = some (.string dUp) := blk_cellx PS10.out.lo 3 _ rfl
          have l4 : wa10.cell? ⟨w1.heap.size, 4, none⟩ = some (.slice none 0 0) := blk_cellx PS10.out.lo 4 _ rfl
          have l5 : wa10.cell? ⟨w1.heap.size, 5, none⟩ = some (.slice none 0 0) := blk_cellx PS10.out.lo 5 _ rfl
          have y0 : wa10.cell? ⟨w.heap.size + 1, 0, none⟩ = some (.int .i64 f1) := blk_cellx PS10.out.pc 0 _ rfl
          have y1 : wa10.cell? ⟨w.heap.size + 1, 1, none⟩ = some (.int .i64 f2) := blk_cellx PS10.out.pc 1 _ rfl
          have y2 : wa10.cell? ⟨w.heap.size + 1, 2, none⟩ = some (.int .i64 sep) := blk_cellx PS10.out.pc 2 _ rfl
          have y3 : wa10.cell? ⟨w.heap.size + 1, 3, none⟩ = some (.bool true) := blk_cellx PS10.out.pc 3 _ rfl
          have y4 : wa10.cell? ⟨w.heap.size + 1, 4, none⟩ = some (.bool true) := blk_cellx PS10.out.pc 4 _ rfl
          have y5 : wa10.cell? ⟨w.heap.size + 1, 5, none⟩ = some (.bool true) := blk_cellx PS10.out.pc 5 _ rfl
          have y6 : wa10.cell? ⟨w.heap.size + 1, 6, none⟩ = some (.string ⟨#[]⟩) := blk_cellx PS10.out.pc 6 _ rfl
          have y7 : wa10.cell? ⟨w.heap.size + 1, 7, none⟩ = some (.slice none 0 0) := blk_cellx PS10.out.pc 7 _ rfl
          go_upto_region 40 with (go_at_call 18; (with_reducible refine (J4.out _ PS10.out).mono ?_); rintro _ wa11 ⟨x4, rfl, X4, Bj⟩)
          have PS11 := Lib.hid (PS10.out.below Bj.out)
          replace U1 := Lib.hid (Strs.below U1.out Bj.out)
          replace U2 := Lib.hid (Strs.below U2.out Bj.out)
          replace U3 := Lib.hid (Strs.below U3.out Bj.out)
          replace X1 := Lib.hid (Strs.below X1.out Bj.out)
          replace X2 := Lib.hid (Strs.below X2.out Bj.out)
          replace X3 := Lib.hid (Strs.below X3.out Bj.out)
          clear l0 l1 l2 l3 l4 l5 y0 y1 y2 y3 y4 y5 y6 y7 Bj PS10 J4
          obtain ⟨a1, k1, ev1, -, -, -⟩ := X1.out
          obtain ⟨n1, hn1⟩ : ∃ n, MP.length = n := ⟨_, rfl⟩
          rw [hn1] at ev1
          subst ev1
          obtain ⟨a2, k2, ev2, -, -, -⟩ := X2.out
          obtain ⟨n2, hn2⟩ : ∃ n, ML.length = n := ⟨_, rfl⟩
          rw [hn2] at ev2
          subst ev2
          obtain ⟨a3, k3, ev3, -, -, -⟩ := X3.out
          obtain ⟨n3, hn3⟩ : ∃ n, MR.length = n := ⟨_, rfl⟩
          rw [hn3] at ev3
          subst ev3
          obtain ⟨a4, k4, ev4, -, -, -⟩ := X4.out
          obtain ⟨n4, hn4⟩ : ∃ n, MM.length = n := ⟨_, rfl⟩
          rw [hn4] at ev4
          subst ev4
          have z1 := NP.out
          have z2 := NL.out
          have z3 := NR.out
          have z4 := NM.out
          rw [hn1] at z1
          rw [hn2] at z2
          rw [hn3] at z3
          rw [hn1, hn2, hn3, hn4] at z4
          have z5 : ((n4 : Int) == (n1 : Int) + (n2 : Int) + (n3 : Int)) = true := beq_iff_eq.2 (by omega)
          have z6 : IntKind.i64.wrap ((n1 : Int) + (n2 : Int)) = (n1 : Int) + (n2 : Int) := IntWalk.i64_in _ (by omega)
          have z7 : IntKind.i64.wrap ((n1 : Int) + (n2 : Int) + (n3 : Int)) = (n1 : Int) + (n2 : Int) + (n3 : Int) := IntWalk.i64_in _ (by omega)
          have E1 := Lib.hid (fun W (hb : Below wa11.heap.size wa11 W) => same_eq _ _ MP W (Strs.below X1.out hb) (Strs.below U1.out hb))
          have E2 := Lib.hid (fun W (hb : Below wa11.heap.size wa11 W) => same_eq _ _ ML W (Strs.below X2.out hb) (Strs.below U2.out hb))
          have E3 := Lib.hid (fun W (hb : Below wa11.heap.size wa11 W) => same_eq _ _ MR W (Strs.below X3.out hb) (Strs.below U3.out hb))
          have BQ := Lib.hid (Below.refl wa11.heap.size wa11)
          clear hn1 hn2 hn3 hn4 z1 z2 z3 z4 NP NL NR NM X1 X2 X3 X4 U1 U2 U3
          go_wp2_with (first
            | (go_at_call 8; (first | (with_reducible refine (E1.out _ BQ.out).mono ?_) | (with_reducible refine (E2.out _ BQ.out).mono ?_) | (with_reducible refine (E3.out _ BQ.out).mono ?_)); rintro _ ws ⟨rfl, Bs⟩; have BQ := Lib.hid (BQ.out.trans (Bs.out.mono BQ.out.size)))
            | (go_at_call 14; (with_reducible refine (awake_any m _ (kp (PS11.out.bel.trans (BQ.out.mono PS11.out.bel.size)) HM.out)).mono ?_); rintro _ wz ⟨rfl, BZ⟩; have BQ := Lib.hid (BQ.out.trans (BZ.out.mono BQ.out.size))))
          go_ret
          exact ⟨rfl, PS11.out.bel.trans (BQ.out.mono PS11.out.bel.size)⟩
end Go.Proofs.YtbhdhcnbagjmcaaDoor
