/- walks: the first example's patch; awake -/
import Derived.Test.YtnkpigibjicmaaaDoorVcd
namespace Go.Proofs.YtnkpigibjicmaaaDoor
open Go.RowKit Go.Maps
open Pt
/-- the hunk of the first example -/
def hk0 : Hk := ⟨2, 1, 2, 1, [(2, ⟨#[98]⟩, false), (3, ⟨#[120]⟩, false)]⟩
theorem aw1 : applyP ⟨#[97, 10, 98, 10, 99, 10]⟩ [hk0] 0 = ([97, 10, 120, 10, 99, 10], [(2, 0, 0)], []) := by kernel_rfl
theorem aw2 : applyP ⟨#[122, 10, 97, 10, 98, 10, 99, 10]⟩ [hk0] 0 = ([122, 10, 97, 10, 120, 10, 99, 10], [(3, 1, 0)], []) := by kernel_rfl
theorem aw3 : applyP ⟨#[97, 10, 99, 10]⟩ [hk0] 0 = ([97, 10, 99, 10], [(0, 0, 0)], [hk0]) := by kernel_rfl
set_option maxRecDepth 100000 in
set_option maxHeartbeats 4000000 in
theorem change_any (w : World) : Calls Tryd.prog 25 #[] w fun e w' => ∃ v u, e = .returned (.agg #[.string ⟨#[102]⟩, .string ⟨#[102]⟩, v]) ∧ Hid (HksAt w' v [(hk0, u)]) ∧ Hid (Below w.heap.size w w') := by
  go_enter Tryd.func25, Tryd.ntmps25
  go_wp2_with fail
  obtain ⟨cp, hcp⟩ : ∃ c, (Obj.cells #[Value.string ⟨#[102]⟩, Value.string ⟨#[102]⟩, Value.slice (some ⟨w.heap.size + 1 + 1, 0, none⟩) 1 1] 24 (0, 0)) = c := ⟨_, rfl⟩
  obtain ⟨cd, hcd⟩ : ∃ c, (Obj.cells #[Value.int .i64 2, Value.string ⟨#[98]⟩, Value.bool false, Value.int .i64 3, Value.string ⟨#[120]⟩, Value.bool false] 59 (0, 0)) = c := ⟨_, rfl⟩
  obtain ⟨ch, hch⟩ : ∃ c, (Obj.cells #[Value.int .i64 2, Value.int .i64 1, Value.int .i64 2, Value.int .i64 1, Value.slice (some ⟨w.heap.size + 1, 0, none⟩) 2 2] 38 (0, 0)) = c := ⟨_, rfl⟩
  rw [hcp, hcd, hch]
  have s1 : (w.alloc cp).heap.size = w.heap.size + 1 := World.size_alloc _ _
  have s2 : ((w.alloc cp).alloc cd).heap.size = w.heap.size + 1 + 1 := by rw [World.size_alloc, s1]
  have n0 : (((w.alloc cp).alloc cd).alloc ch).heap[w.heap.size]? = some cp := (heap_alloc_old _ _ (by rw [s2]; omega)).trans ((heap_alloc_old _ _ (by rw [s1]; omega)).trans (heap_alloc_new w cp))
  have n1 : (((w.alloc cp).alloc cd).alloc ch).heap[w.heap.size + 1]? = some cd := (heap_alloc_old _ _ (by rw [s2]; omega)).trans (by have := heap_alloc_new (w.alloc cp) cd; rw [s1] at this; exact this)
  have n2 : (((w.alloc cp).alloc cd).alloc ch).heap[w.heap.size + 1 + 1]? = some ch := by have := heap_alloc_new ((w.alloc cp).alloc cd) ch; rw [s2] at this; exact this
  have BL : Below w.heap.size w (((w.alloc cp).alloc cd).alloc ch) := (((Below.refl _ _).alloc (Nat.le_refl _) cp).alloc (by rw [s1]; omega) cd).alloc (by rw [s2]; omega) ch
  obtain ⟨W, hW⟩ : ∃ W, ((w.alloc cp).alloc cd).alloc ch = W := ⟨_, rfl⟩
  rw [hW] at n0 n1 n2 BL ⊢
  subst hcp hcd hch
  have r0 := blk_cellx n0 0 _ rfl
  have r1 := blk_cellx n0 1 _ rfl
  have r2 := blk_cellx n0 2 _ rfl
  refine bodyPost_ret (v := .agg #[.string ⟨#[102]⟩, .string ⟨#[102]⟩, .slice (some ⟨w.heap.size + 1 + 1, 0, none⟩) 1 1]) (by simp [results, Tryd.results25, go_sem, r0, r1, r2]) rfl ⟨_, .slice (some ⟨w.heap.size + 1, 0, none⟩) 2 2, rfl, Lib.hid ⟨row_blk n2, fun p hp => ?_⟩, Lib.hid BL⟩
  rw [List.mem_singleton] at hp
  subst hp
  refine .inr ⟨w.heap.size + 1, 0, 2, rfl, Nat.le_refl 2, by unfold maxLen; omega, (Array.getElem?_eq_some_iff.1 n1).1, fun j x hj i y hi => ?_⟩
  match j, hj with
  | 0, hj =>
    have e : x = rowD (2, ⟨#[98]⟩, false) := (Option.some.inj hj).symm
    subst e
    match i, hi with
    | 0, hi => exact (Option.some.inj hi) ▸ blk_cellx n1 0 _ rfl
    | 1, hi => exact (Option.some.inj hi) ▸ blk_cellx n1 1 _ rfl
    | 2, hi => exact (Option.some.inj hi) ▸ blk_cellx n1 2 _ rfl
    | i + 3, hi => simp at hi
  | 1, hj =>
    have e : x = rowD (3, ⟨#[120]⟩, false) := (Option.some.inj hj).symm
    subst e
    match i, hi with
    | 0, hi => exact (Option.some.inj hi) ▸ blk_cellx n1 3 _ rfl
    | 1, hi => exact (Option.some.inj hi) ▸ blk_cellx n1 4 _ rfl
    | 2, hi => exact (Option.some.inj hi) ▸ blk_cellx n1 5 _ rfl
    | i + 3, hi => simp at hi
  | j + 2, hj => simp [hk0] at hj
theorem sm0 {u : Value} : smallA [(hk0, u)] := ⟨by show 1 ≤ 100; omega, fun p hp => by
  rw [List.mem_singleton] at hp
  subst hp
  refine ⟨by show 2 ≤ 100; omega, fun x hx => ?_⟩
  simp [hk0] at hx
  rcases hx with rfl | rfl <;> decide⟩
/-- Apply on one hunk, its results as slices -/
theorem aw_apply (s : ByteArray) (t : List UInt8) (pl : List (Int × Int × Int)) (bd : List Hk) (hap : applyP s [hk0] 0 = (t, pl, bd)) (hs : s.size ≤ 100000) {tx : ByteArray} (ht : bA t = tx) {np nb : Nat} (hp : pl.length = np) (hb : bd.length = nb) (v u : Value) (m : Int) (w : World) (hm : w.cell? ⟨0, 0, none⟩ = some (.int .i64 m)) (hv : HksAt w v [(hk0, u)]) :
    Calls Tryd.prog 11 #[.string s, .agg #[.string ⟨#[102]⟩, .string ⟨#[102]⟩, v], .int .i64 0] w fun e w' => ∃ pa pc ba bc, e = .returned (.tuple #[.string tx, .slice pa np pc, .slice ba nb bc]) ∧ Hid (RowsAt w' (.slice pa np pc) 3 (pl.map rowG)) ∧ Hid (Below w.heap.size w w') := by
  subst ht
  refine (apply_any s ⟨#[102]⟩ ⟨#[102]⟩ [(hk0, u)] v 0 m w hm hv sm0 hs (Lib.hid hap)).mono ?_
  rintro e w' ⟨vp, vh, M, rfl, H1, H2, H3, -, -, H4⟩
  obtain ⟨pa, pc, e1, -⟩ := H1.out.sl (n := np) (by rw [List.length_map]; exact hp)
  obtain ⟨ba, bc, e2, -⟩ := H3.out.rows.sl (n := nb) (by rw [List.length_map, ← hb, ← H2.out, List.length_map])
  subst e1 e2
  exact ⟨pa, pc, ba, bc, rfl, H1, H4⟩
theorem row1 {w : World} {pa : Option Addr} {pc : Nat} {x : Int × Int × Int} (h : RowsAt w (.slice pa 1 pc) 3 ([x].map rowG)) : ∃ g o, pa = some ⟨g, o, none⟩ ∧ w.cell? ⟨g, o, none⟩ = some (.int .i64 x.1) ∧ w.cell? ⟨g, o + 1, none⟩ = some (.int .i64 x.2.1) ∧ w.cell? ⟨g, o + 2, none⟩ = some (.int .i64 x.2.2) := by
  obtain ⟨g, o, e, -, -, -, hc⟩ := h.at rfl (show ([x].map rowG)[0]? = some (rowG x) from rfl)
  exact ⟨g, o, e, by simpa using hc 0 _ rfl, by simpa using hc 1 _ rfl, by simpa using hc 2 _ rfl⟩
set_option maxRecDepth 100000 in
set_option maxHeartbeats 4000000 in
theorem awake_any (m : Int) (w : World) (hm : w.cell? ⟨0, 0, none⟩ = some (.int .i64 m)) : Calls Tryd.prog 10 #[] w fun e w' => e = .returned (.bool true) ∧ Hid (Below w.heap.size w w') := by
  have HM := Lib.hid hm
  clear hm
  go_enter Tryd.func10, Tryd.ntmps10
  go_upto_region 2 with (first | (go_at_call 25; (with_reducible refine (change_any _).mono ?_); rintro _ w1 ⟨v1, t1, rfl, H1, B1⟩) | (go_at_call 11; (refine (aw_apply _ _ _ _ aw1 (by decide) rfl rfl rfl v1 t1 m _ (kp B1.out HM.out) H1.out).mono ?_); rintro _ w2 ⟨pa1, pc1, ba1, bc1, rfl, R1, B2⟩))
  have C2 := Lib.hid (B1.out.trans (B2.out.mono B1.out.size))
  go_upto_region 3 with (first | (go_at_call 25; (with_reducible refine (change_any _).mono ?_); rintro _ w3 ⟨v3, t3, rfl, H3, B3⟩) | (go_at_call 11; (refine (aw_apply _ _ _ _ aw2 (by decide) rfl rfl rfl v3 t3 m _ (kp (C2.out.trans (B3.out.mono C2.out.size)) HM.out) H3.out).mono ?_); rintro _ w4 ⟨pa2, pc2, ba2, bc2, rfl, R2, B4⟩))
  have C4 := Lib.hid ((C2.out.trans (B3.out.mono C2.out.size)).trans (B4.out.mono (C2.out.trans (B3.out.mono C2.out.size)).size))
  have R14 := Lib.hid (R1.out.below (B3.out.trans (B4.out.mono B3.out.size)))
  go_upto_region 4 with (first | (go_at_call 25; (with_reducible refine (change_any _).mono ?_); rintro _ w5 ⟨v5, t5, rfl, H5, B5⟩) | (go_at_call 11; (refine (aw_apply _ _ _ _ aw3 (by decide) rfl rfl rfl v5 t5 m _ (kp (C4.out.trans (B5.out.mono C4.out.size)) HM.out) H5.out).mono ?_); rintro _ w6 ⟨pa3, pc3, ba3, bc3, rfl, R3, B6⟩))
  have B56 := Lib.hid (B5.out.trans (B6.out.mono B5.out.size))
  have C6 := Lib.hid (C4.out.trans (B56.out.mono C4.out.size))
  obtain ⟨g1, o1, rfl, a0, a1, a2⟩ := row1 (R14.out.below B56.out)
  obtain ⟨g2, o2, rfl, b0, b1, b2⟩ := row1 (R2.out.below B56.out)
  go_wp2_with fail
  go_ret
  exact ⟨rfl, C6⟩
end Go.Proofs.YtnkpigibjicmaaaDoor
