/- walks: the program's Reverse (written by gen_vk.py) -/
import Derived.Test.YtnkpigibjicmaaaDoorVj
namespace Go.Proofs.YtnkpigibjicmaaaDoor
open Go.RowKit Go.Maps
open Pt
/-- a row is kept by all that leaves the blocks of its type alone -/
theorem OwnR.ty {w w' : World} {B k : Nat} {T : TypeId} {v : Value} {l : List (List Value)} (h : OwnR w B T k v l) (hk : ∀ (i : Nat) (cs : Array Value) (z : Nat × Nat), w.heap[i]? = some (Obj.cells cs T z) → w'.heap[i]? = w.heap[i]?) : OwnR w' B T k v l := by
  obtain ⟨h1, h2⟩ := h
  refine ⟨h1, ?_⟩
  rcases h2 with h2 | ⟨g, cap, cur, rfl, hB, hg, r⟩
  · exact .inl h2
  · exact .inr ⟨g, cap, cur, rfl, hB, by rw [hk g _ _ hg]; exact hg, r⟩
/-- the patch that is built: its block, its hunks, their lines -/
structure RV (ob b0 : Nat) (new old : ByteArray) (vv : Value) (M : List HV) (w0 w : World) : Prop where
  blk : w.heap[ob]? = some (.cells #[.string new, .string old, vv] 24 (0, 0))
  own : OwnR w b0 38 5 vv (M.map rowH)
  each : ∀ p ∈ M, OwnR w b0 59 3 p.2 (p.1.ls.map rowD)
  bel : Below w0.heap.size w0 w
  lo : w0.heap.size ≤ ob ∧ ob < b0 ∧ w0.heap.size ≤ b0
theorem RV.below {ob b0 : Nat} {new old : ByteArray} {vv : Value} {M : List HV} {w0 w w' : World} (h : RV ob b0 new old vv M w0 w) (hb : Below w.heap.size w w') : RV ob b0 new old vv M w0 w' :=
  ⟨(hb.block _ (Array.getElem?_eq_some_iff.1 h.blk).1).trans h.blk, h.own.below hb, fun p hp => (h.each p hp).below hb, h.bel.trans (hb.mono h.bel.size), h.lo⟩
theorem three_set {w' : World} {n : Nat} {x y z : Value} (a b c : Value) (c0 : w'.cell? ⟨n, 0, none⟩ = some x) (c1 : w'.cell? ⟨n, 1, none⟩ = some y) (c2 : w'.cell? ⟨n, 2, none⟩ = some z) :
    (((w'.setCell ⟨n, 0, none⟩ a).setCell ⟨n, 1, none⟩ b).setCell ⟨n, 2, none⟩ c).cell? ⟨n, 0, none⟩ = some a ∧
      (((w'.setCell ⟨n, 0, none⟩ a).setCell ⟨n, 1, none⟩ b).setCell ⟨n, 2, none⟩ c).cell? ⟨n, 1, none⟩ = some b ∧
      (((w'.setCell ⟨n, 0, none⟩ a).setCell ⟨n, 1, none⟩ b).setCell ⟨n, 2, none⟩ c).cell? ⟨n, 2, none⟩ = some c := by
  have n01 : (⟨n, 0, none⟩ : Addr) ≠ ⟨n, 1, none⟩ := by simp
  have n02 : (⟨n, 0, none⟩ : Addr) ≠ ⟨n, 2, none⟩ := by simp
  have n12 : (⟨n, 1, none⟩ : Addr) ≠ ⟨n, 2, none⟩ := by simp
  refine ⟨?_, ?_, ?_⟩
  · rw [World.cell?_setCell_other _ _ _ _ n02.symm, World.cell?_setCell_other _ _ _ _ n01.symm]; exact World.cell?_setCell_same _ _ _ c0
  · rw [World.cell?_setCell_other _ _ _ _ n12.symm]; exact World.cell?_setCell_same _ _ _ (u := y) (by rw [World.cell?_setCell_other _ _ _ _ n01]; exact c1)
  · exact World.cell?_setCell_same _ _ _ (u := z) (by rw [World.cell?_setCell_other _ _ _ _ n12, World.cell?_setCell_other _ _ _ _ n02]; exact c2)
theorem below_sets {B n : Nat} {w w' : World} (h : Below B w w') (hn : B ≤ n) (a b c : Value) : Below B w (((w'.setCell ⟨n, 0, none⟩ a).setCell ⟨n, 1, none⟩ b).setCell ⟨n, 2, none⟩ c) :=
  ((h.setCell hn a).setCell hn b).setCell hn c
theorem sets_keep {w' : World} {n : Nat} (a b c : Value) {i : Nat} (h : i ≠ n) : (((w'.setCell ⟨n, 0, none⟩ a).setCell ⟨n, 1, none⟩ b).setCell ⟨n, 2, none⟩ c).heap[i]? = w'.heap[i]? := by
  simp only [World.setCell, Array.getElem?_modify, if_neg (Ne.symm h)]
theorem rowH_len {M : List HV} : ∀ x ∈ M.map rowH, x.length = 5 := by intro x hx; obtain ⟨y, -, rfl⟩ := List.mem_map.1 hx; rfl
theorem OwnR.blk {w : World} {B k : Nat} {T : TypeId} {v : Value} {l : List (List Value)} (h : OwnR w B T k v l) {b : Nat} (hb : v.ownBlock = some b) : ∃ cs, w.heap[b]? = some (Obj.cells cs T (0, 0)) := by
  rcases h.2 with ⟨rfl, _⟩ | ⟨g, cap, cur, rfl, _, hg, _⟩
  · cases hb
  · cases hb; exact ⟨_, hg⟩
/-- one hunk more -/
theorem RV.push {ob b0 : Nat} {new old : ByteArray} {vv v9 v5 : Value} {M : List HV} {w0 w5 w9 : World} {h : Hk} {row : Obj} (r : RV ob b0 new old vv M w0 w5) (o5 : OwnR w5 b0 59 3 v5 (h.ls.map rowD)) (gr : (w5.alloc row).grownBy w9 vv.ownBlock) (own9 : OwnR w9 b0 38 5 v9 ((M ++ [(h, v5)]).map rowH)) (bel9 : Below w0.heap.size w0 w9) :
    RV ob b0 new old v9 (M ++ [(h, v5)]) w0 (w9.setCell ⟨ob, 2, none⟩ v9) ∧ w9.frozen? ⟨ob, 2, none⟩ = false ∧ w9.cell? ⟨ob, 2, none⟩ = some vv := by
  have kb : ∀ i, i < w5.heap.size → vv.ownBlock ≠ some i → w9.heap[i]? = w5.heap[i]? := fun i hi hn => (gr.block i (by rw [World.size_alloc]; omega) (fun e => hn e.symm)).trans (heap_alloc_old w5 row hi)
  have ob9 : w9.heap[ob]? = some (.cells #[.string new, .string old, vv] 24 (0, 0)) := (kb ob (Array.getElem?_eq_some_iff.1 r.blk).1 (fun e => by have := (r.own.lt ob e).1; have := r.lo.2.1; omega)).trans r.blk
  have dk : ∀ (i : Nat) (cs : Array Value) (z : Nat × Nat), w5.heap[i]? = some (Obj.cells cs 59 z) → w9.heap[i]? = w5.heap[i]? := fun i cs z hi => kb i (Array.getElem?_eq_some_iff.1 hi).1 (fun e => by
    obtain ⟨cs2, h2⟩ := r.own.blk e
    rw [hi] at h2
    cases h2)
  have se : ∀ i, i ≠ ob → (w9.setCell ⟨ob, 2, none⟩ v9).heap[i]? = w9.heap[i]? := fun i hi => by simp only [World.setCell, Array.getElem?_modify, if_neg (Ne.symm hi)]
  refine ⟨⟨by simp only [World.setCell, Array.getElem?_modify, ob9, if_pos, Option.map_some]; rfl, own9.ty (fun i cs z hi => se i (fun e => by subst e; rw [ob9] at hi; cases hi)), ?_, bel9.setCell r.lo.1 _, r.lo⟩, by simp [World.frozen?, ob9], blk_cellx ob9 2 _ rfl⟩
  intro p hp
  have ds : ∀ (i : Nat) (cs : Array Value) (z : Nat × Nat), w5.heap[i]? = some (Obj.cells cs 59 z) → (w9.setCell ⟨ob, 2, none⟩ v9).heap[i]? = w5.heap[i]? := fun i cs z hi => (se i (fun e => by subst e; rw [r.blk] at hi; cases hi)).trans (dk i cs z hi)
  rcases List.mem_append.1 hp with hp | hp
  · exact (r.each p hp).ty ds
  · rw [List.mem_singleton] at hp; subst hp; exact o5.ty ds
def smallR (L : List HV) : Prop := L.length ≤ 1000 ∧ ∀ p ∈ L, p.1.ls.length ≤ 1000
set_option maxRecDepth 100000 in
set_option maxHeartbeats 8000000 in
theorem reverse_any (old new : ByteArray) (L : List HV) (v : Value) (w : World) (hv : HksAt w v L) (hs : smallR L) :
    Calls Tryd.prog 23 #[.agg #[.string old, .string new, v]] w fun e w' => ∃ v' M, e = .returned (.agg #[.string new, .string old, v']) ∧ Hid (M.map (·.1) = L.map (fun p => revH p.1)) ∧ Hid (HksAt w' v' M) ∧ Hid (Below w.heap.size w w') := by
  obtain ⟨n, hn⟩ : ∃ n, L.length = n := ⟨_, rfl⟩
  have HN := Lib.hid hn
  have HVH := Lib.hid hv
  have HS := Lib.hid hs
  obtain ⟨a, cap, rfl, c1, c2, hc⟩ := hv.rows.sl (n := n) (by rw [List.length_map]; exact hn)
  have HC := Lib.hid hc
  have hl1 := hs.1
  rw [hn] at hl1
  unfold maxLen at c2
  have s1 : (w.alloc (.cells #[.string old, .string new, .slice a n cap] 24)).heap.size = w.heap.size + 1 := World.size_alloc _ _
  have s2 : ((w.alloc (.cells #[.string old, .string new, .slice a n cap] 24)).alloc (.cells #[.string ⟨#[]⟩, .string ⟨#[]⟩, .slice none 0 0] 24)).heap.size = w.heap.size + 2 := by rw [World.size_alloc, s1]
  have B0 : Hid (Below w.heap.size w (((w.alloc (.cells #[.string old, .string new, .slice a n cap] 24)).alloc (.cells #[.string ⟨#[]⟩, .string ⟨#[]⟩, .slice none 0 0] 24)).alloc (.cells #[.string new, .string old, .slice none 0 0] 24))) := Lib.hid ((((Below.refl _ _).alloc (Nat.le_refl _) _).alloc (by rw [s1]; omega) _).alloc (by rw [s2]; omega) _)
  have NA : Hid ((((w.alloc (.cells #[.string old, .string new, .slice a n cap] 24)).alloc (.cells #[.string ⟨#[]⟩, .string ⟨#[]⟩, .slice none 0 0] 24)).alloc (.cells #[.string new, .string old, .slice none 0 0] 24)).heap[w.heap.size]? = some (.cells #[.string old, .string new, .slice a n cap] 24 (0, 0))) := Lib.hid ((Below.heap_alloc ((w.alloc (.cells #[.string old, .string new, .slice a n cap] 24)).alloc (.cells #[.string ⟨#[]⟩, .string ⟨#[]⟩, .slice none 0 0] 24)) (.cells #[.string new, .string old, .slice none 0 0] 24) w.heap.size (by rw [s2]; omega)).trans ((Below.heap_alloc (w.alloc (.cells #[.string old, .string new, .slice a n cap] 24)) (.cells #[.string ⟨#[]⟩, .string ⟨#[]⟩, .slice none 0 0] 24) w.heap.size (by rw [s1]; omega)).trans (heap_alloc_new w (.cells #[.string old, .string new, .slice a n cap] 24))))
  have RV0 : Hid (RV (w.heap.size + 2) (w.heap.size + 3) new old (.slice none 0 0) [] w (((w.alloc (.cells #[.string old, .string new, .slice a n cap] 24)).alloc (.cells #[.string ⟨#[]⟩, .string ⟨#[]⟩, .slice none 0 0] 24)).alloc (.cells #[.string new, .string old, .slice none 0 0] 24))) := Lib.hid ⟨by have := heap_alloc_new ((w.alloc (.cells #[.string old, .string new, .slice a n cap] 24)).alloc (.cells #[.string ⟨#[]⟩, .string ⟨#[]⟩, .slice none 0 0] 24)) (.cells #[.string new, .string old, .slice none 0 0] 24); rw [s2] at this; exact this, OwnR.nil _ _ _ _, (fun p hp => by cases hp), B0.out, by omega⟩
  have ZR0 : Hid ((((w.alloc (.cells #[.string old, .string new, .slice a n cap] 24)).alloc (.cells #[.string ⟨#[]⟩, .string ⟨#[]⟩, .slice none 0 0] 24)).alloc (.cells #[.string new, .string old, .slice none 0 0] 24)).heap[w.heap.size + 1]? = some (.cells #[.string ⟨#[]⟩, .string ⟨#[]⟩, .slice none 0 0] 24 (0, 0))) := Lib.hid (by have := heap_alloc_new (w.alloc (.cells #[.string old, .string new, .slice a n cap] 24)) (.cells #[.string ⟨#[]⟩, .string ⟨#[]⟩, .slice none 0 0] 24); rw [s1] at this; exact (Below.heap_alloc ((w.alloc (.cells #[.string old, .string new, .slice a n cap] 24)).alloc (.cells #[.string ⟨#[]⟩, .string ⟨#[]⟩, .slice none 0 0] 24)) (.cells #[.string new, .string old, .slice none 0 0] 24) (w.heap.size + 1) (by rw [s2]; omega)).trans this)
  have Y0 := Lib.hid (blk_cellx NA.out 0 _ rfl)
  have Y1 := Lib.hid (blk_cellx NA.out 1 _ rfl)
  have Y2 := Lib.hid (blk_cellx NA.out 2 _ rfl)
  have y2 := Y2.out
  clear hv hs hn hc s1 s2
  go_enter Tryd.func23, Tryd.ntmps23
  go_wp2_with fail
  clear y2
  go_loopw [14] (fun i wr => ∃ (j : Nat) (vv : Value) (M : List HV), i = .int .i64 j ∧ j ≤ n ∧ Hid (M.map (·.1) = (L.take j).map (fun p => revH p.1)) ∧ Hid (RV (w.heap.size + 2) (w.heap.size + 3) new old vv M w wr) ∧ Hid (wr.heap[w.heap.size + 1]? = some (.cells #[.string ⟨#[]⟩, .string ⟨#[]⟩, .slice none 0 0] 24 (0, 0)))) (fun i _ => n - (intOf i).toNat)
  case atStart => exact ⟨0, _, [], rfl, Nat.zero_le _, Lib.hid rfl, RV0, ZR0⟩
  case round =>
    obtain ⟨j, vv, M, rfl, hj, HM, HR, HZ⟩ := hrel
    have BW := Lib.hid HR.out.bel
    by_cases hlt : j < n
    · obtain ⟨x, hx⟩ : ∃ x, L[j]? = some x := ⟨_, List.getElem?_eq_getElem (by rw [HN.out]; exact hlt)⟩
      have hmem := List.mem_of_getElem? hx
      rcases HC.out with h0 | ⟨g, o, rfl, -, hcc⟩
      · omega
      have m1 : (L.map rowH)[j]? = some (rowH x) := by rw [List.getElem?_map, hx]; rfl
      have d0 := kp BW.out (hcc j _ m1 0 _ rfl)
      have d1 := kp BW.out (hcc j _ m1 1 _ rfl)
      have d2 := kp BW.out (hcc j _ m1 2 _ rfl)
      have d3 := kp BW.out (hcc j _ m1 3 _ rfl)
      have d4 := kp BW.out (hcc j _ m1 4 _ rfl)
      rw [Nat.add_zero] at d0
      have HX := Lib.hid ((HVH.out.each x hmem).below BW.out)
      have SX := Lib.hid (HS.out.2 x hmem)
      have TK : Hid ((L.take (j + 1)).map (fun p => revH p.1) = (L.take j).map (fun p => revH p.1) ++ [revH x.1]) := Lib.hid (by rw [take_get hx, List.map_append]; rfl)
      have p0 : (0 : Int) ≤ (j : Int) := by omega
      have p1 : (j : Int) < (n : Int) := by omega
      have p2 : IntKind.i64.wrap (j : Int) = (j : Int) := IntWalk.i64_in _ (by omega)
      obtain ⟨⟨fa, la, fb, lb, ls⟩, u⟩ := x
      simp only at d0 d1 d2 d3 d4 HX SX TK
      clear hcc m1 hx hmem
      obtain ⟨un, hun⟩ : ∃ n, ls.length = n := ⟨_, rfl⟩
      obtain ⟨ua, uc, rfl, -, -, -⟩ := HX.out.sl (n := un) (by rw [List.length_map]; exact hun)
      clear hun
      have LM : Hid ((M.map rowH).length ≤ 1048000) := Lib.hid (by
        have := congrArg List.length HM.out
        rw [List.length_map, List.length_map, List.length_take] at this
        rw [List.length_map]; omega)
      obtain ⟨wb, hwb⟩ : ∃ W, wr.alloc (.cells #[.int .i64 fa, .int .i64 la, .int .i64 fb, .int .i64 lb, .slice ua un uc] 38) = W := ⟨_, rfl⟩
      have BX : Hid (Below wr.heap.size wr wb) := Lib.hid (by rw [← hwb]; exact (Below.refl wr.heap.size wr).alloc (Nat.le_refl _) _)
      have XB : Hid (wb.heap[wr.heap.size]? = some (.cells #[.int .i64 fa, .int .i64 la, .int .i64 fb, .int .i64 lb, .slice ua un uc] 38 (0, 0))) := Lib.hid (by rw [← hwb]; exact heap_alloc_new wr _)
      have RB := Lib.hid (HR.out.below BX.out)
      have RC := Lib.hid (fun W (hb : Below wb.heap.size wb W) => reversed_any ls (.slice ua un uc) W (HX.out.below (BX.out.trans (hb.mono BX.out.size))) SX.out)
      have z0 : wb.cell? ⟨wr.heap.size, 0, none⟩ = some (.int .i64 fa) := blk_cellx XB.out 0 _ rfl
      have z1 : wb.cell? ⟨wr.heap.size, 1, none⟩ = some (.int .i64 la) := blk_cellx XB.out 1 _ rfl
      have z2 : wb.cell? ⟨wr.heap.size, 2, none⟩ = some (.int .i64 fb) := blk_cellx XB.out 2 _ rfl
      have z3 : wb.cell? ⟨wr.heap.size, 3, none⟩ = some (.int .i64 lb) := blk_cellx XB.out 3 _ rfl
      have z4 : wb.cell? ⟨wr.heap.size, 4, none⟩ = some (.slice ua un uc) := blk_cellx XB.out 4 _ rfl
      have o2 : wb.cell? ⟨w.heap.size + 2, 2, none⟩ = some vv := blk_cellx RB.out.blk 2 _ rfl
      go_upto_region 5 with (fail)
      (try rw [hwb])
      clear hwb d0 d1 d2 d3 d4
      have CE : Hid (∀ W : World, W.heap[wr.heap.size]? = some (.cells #[.int .i64 fa, .int .i64 la, .int .i64 fb, .int .i64 lb, .slice ua un uc] 38 (0, 0)) → W.cell? ⟨wr.heap.size, 0, none⟩ = some (.int .i64 fa) ∧ W.cell? ⟨wr.heap.size, 1, none⟩ = some (.int .i64 la) ∧ W.cell? ⟨wr.heap.size, 2, none⟩ = some (.int .i64 fb) ∧ W.cell? ⟨wr.heap.size, 3, none⟩ = some (.int .i64 lb) ∧ W.cell? ⟨wr.heap.size, 4, none⟩ = some (.slice ua un uc)) := Lib.hid (fun W h => ⟨blk_cellx h 0 _ rfl, blk_cellx h 1 _ rfl, blk_cellx h 2 _ rfl, blk_cellx h 3 _ rfl, blk_cellx h 4 _ rfl⟩)
      have S0 := CE.out wb.drew XB.out
      have OBL : Hid (w.heap.size + 2 < wr.heap.size) := Lib.hid (Array.getElem?_eq_some_iff.1 HR.out.blk).1
      clear z0 z1 z2 z3 z4
      refine wp_region_held_drew (S := (fun w' => w'.cell? ⟨wr.heap.size, 0, none⟩ = some (.int .i64 fa) ∧ w'.cell? ⟨wr.heap.size, 1, none⟩ = some (.int .i64 la) ∧ w'.cell? ⟨wr.heap.size, 2, none⟩ = some (.int .i64 fb) ∧ w'.cell? ⟨wr.heap.size, 3, none⟩ = some (.int .i64 lb) ∧ w'.cell? ⟨wr.heap.size, 4, none⟩ = some (.slice ua un uc))) (by kernel_rfl) ?_ (fun hHeld => ?_)
      · exact S0
      refine wpAnyH_take (i := 0) (oi := ⟨some 18, _, _, _, _, _⟩) (v := ?v1) rfl (by kernel_rfl) (by kernel_rfl) (by kernel_rfl) (fun _ _ _ h => h) (Or.inl ⟨by rfl, ?hy1⟩) (by assumption) ?rest1
      case hy1 => (intro w hSw; (try dsimp only at hSw); (go_simp <;> (with_reducible rfl)))
      try simp only [Act.put, List.setIfInBounds_toArray, List.set_cons_zero, List.set_cons_succ]
      refine wpAnyH_take (i := 2) (oi := ⟨some 20, _, _, _, _, _⟩) (v := ?v2) rfl (by kernel_rfl) (by kernel_rfl) (by kernel_rfl) (fun _ _ _ h => h) (Or.inl ⟨by rfl, ?hy2⟩) (by assumption) ?rest2
      case hy2 => (intro w hSw; (try dsimp only at hSw); (go_simp <;> (with_reducible rfl)))
      try simp only [Act.put, List.setIfInBounds_toArray, List.set_cons_zero, List.set_cons_succ]
      refine wpAnyH_take (i := 3) (oi := ⟨some 21, _, _, _, _, _⟩) (v := ?v3) rfl (by kernel_rfl) (by kernel_rfl) (by kernel_rfl) (fun _ _ _ h => h) (Or.inl ⟨by rfl, ?hy3⟩) (by assumption) ?rest3
      case hy3 => (intro w hSw; (try dsimp only at hSw); (go_simp <;> (with_reducible rfl)))
      try simp only [Act.put, List.setIfInBounds_toArray, List.set_cons_zero, List.set_cons_succ]
      refine wpAnyH_take (i := 4) (oi := ⟨some 22, _, _, _, _, _⟩) (v := ?v4) rfl (by kernel_rfl) (by kernel_rfl) (by kernel_rfl) (fun _ _ _ h => h) (Or.inl ⟨by rfl, ?hy4⟩) (by assumption) ?rest4
      case hy4 => (intro w hSw; (try dsimp only at hSw); (go_simp <;> (with_reducible rfl)))
      try simp only [Act.put, List.setIfInBounds_toArray, List.set_cons_zero, List.set_cons_succ]
      refine wpAnyH_take (i := 5) (oi := ⟨some 23, _, _, _, _, _⟩) (v := ?v5) rfl (by kernel_rfl) (by kernel_rfl) (by kernel_rfl) (fun _ _ _ h => h) (Or.inl ⟨by rfl, ?hy5⟩) (by assumption) ?rest5
      case hy5 => (intro w hSw; (try dsimp only at hSw); (go_simp <;> (with_reducible rfl)))
      try simp only [Act.put, List.setIfInBounds_toArray, List.set_cons_zero, List.set_cons_succ]
      refine wpAnyH_take (i := 6) (oi := ⟨some 24, _, _, _, _, _⟩) (v := ?v6) rfl (by kernel_rfl) (by kernel_rfl) (by kernel_rfl) (fun _ _ _ h => h) (Or.inl ⟨by rfl, ?hy6⟩) (by assumption) ?rest6
      case hy6 => (intro w hSw; (try dsimp only at hSw); (go_simp <;> (with_reducible rfl)))
      try simp only [Act.put, List.setIfInBounds_toArray, List.set_cons_zero, List.set_cons_succ]
      refine wpAnyH_take (i := 7) (oi := ⟨some 25, _, _, _, _, _⟩) (v := ?v7) rfl (by kernel_rfl) (by kernel_rfl) (by kernel_rfl) (fun _ _ _ h => h) (Or.inl ⟨by rfl, ?hy7⟩) (by assumption) ?rest7
      case hy7 => (intro w hSw; (try dsimp only at hSw); (go_simp <;> (with_reducible rfl)))
      try simp only [Act.put, List.setIfInBounds_toArray, List.set_cons_zero, List.set_cons_succ]
      refine wpAnyH_take (i := 8) (oi := ⟨some 26, _, _, _, _, _⟩) (v := ?v8) rfl (by kernel_rfl) (by kernel_rfl) (by kernel_rfl) (fun _ _ _ h => h) (Or.inl ⟨by rfl, ?hy8⟩) (by assumption) ?rest8
      case hy8 => (intro w hSw; (try dsimp only at hSw); (go_simp <;> (with_reducible rfl)))
      try simp only [Act.put, List.setIfInBounds_toArray, List.set_cons_zero, List.set_cons_succ]
      refine wpAnyH_take (i := 9) (oi := ⟨some 27, _, _, _, _, _⟩) (v := ?v9) rfl (by kernel_rfl) (by kernel_rfl) (by kernel_rfl) (fun _ _ _ h => h) (Or.inl ⟨by rfl, ?hy9⟩) (by assumption) ?rest9
      case hy9 => (intro w hSw; (try dsimp only at hSw); (go_simp <;> (with_reducible rfl)))
      try simp only [Act.put, List.setIfInBounds_toArray, List.set_cons_zero, List.set_cons_succ]
      refine wpAnyH_take (i := 10) (oi := ⟨some 28, _, _, _, _, _⟩) (v := ?v10) rfl (by kernel_rfl) (by kernel_rfl) (by kernel_rfl) (fun _ _ _ h => h) (Or.inl ⟨by rfl, ?hy10⟩) (by assumption) ?rest10
      case hy10 => (intro w hSw; (try dsimp only at hSw); (go_simp <;> (with_reducible rfl)))
      try simp only [Act.put, List.setIfInBounds_toArray, List.set_cons_zero, List.set_cons_succ]
      refine wpAnyH_take (i := 11) (oi := ⟨some 29, _, _, _, _, _⟩) (v := ?v11) rfl (by kernel_rfl) (by kernel_rfl) (by kernel_rfl) (fun _ _ _ h => h) (Or.inl ⟨by rfl, ?hy11⟩) (by assumption) ?rest11
      case hy11 => (intro w hSw; (try dsimp only at hSw); (go_simp <;> (with_reducible rfl)))
      try simp only [Act.put, List.setIfInBounds_toArray, List.set_cons_zero, List.set_cons_succ]
      refine wpAnyH_ready (rs := [1, 12]) (by kernel_rfl) (by simp) ?_
      refine AllReadyH.cons (o := ⟨some 19, _, _, _, _, _⟩) rfl (fun K hK => ?_) ?_
      · go_simp
        refine hK.out _ _ ?_ (fun hHeld => ?_)
        · exact S0
        clear hK K
        try simp only [Act.put, List.setIfInBounds_toArray, List.set_cons_zero, List.set_cons_succ]
        refine wpAnyH_ready (rs := [12]) (by kernel_rfl) (by simp) ?_
        refine AllReadyH.cons (o := ⟨some 30, _, _, _, _, _⟩) rfl (fun K hK => ?_) ?_
        · go_simp
          (go_at_call 52; refine (RC.out _ (Below.refl wb.heap.size wb).drew).mono ?_; rintro _ w5 ⟨v5, rfl, O5, B5⟩)
          have Q5 := Lib.hid ((Below.refl wb.heap.size wb).drew.trans (B5.out.mono (Below.refl wb.heap.size wb).drew.size))
          obtain ⟨a5, k5, e5⟩ := O5.out.sl
          obtain ⟨n5, hn5⟩ : ∃ n, ((revF [] ls).map rowD).length = n := ⟨_, rfl⟩
          rw [hn5] at e5
          subst e5
          clear hn5
          have R5 := Lib.hid (RB.out.below Q5.out)
          have o2 := kp Q5.out o2
          have S0 := CE.out _ ((Q5.out.block _ (Array.getElem?_eq_some_iff.1 XB.out).1).trans XB.out)
          have LB5 : Hid (w.heap.size + 3 ≤ w5.heap.size) := Lib.hid (by have := (Array.getElem?_eq_some_iff.1 R5.out.blk).1; omega)
          have LB0 : Hid (w.heap.size + 3 ≤ wb.drew.heap.size) := Lib.hid (by have := (Array.getElem?_eq_some_iff.1 RB.out.blk).1; show w.heap.size + 3 ≤ wb.heap.size; omega)
          have OB5 := Lib.hid (O5.out.mono LB0.out)
          have XB5 := Lib.hid ((Q5.out.block _ (Array.getElem?_eq_some_iff.1 XB.out).1).trans XB.out)
          refine hK.out _ _ ?_ (fun hHeld => ?_)
          · exact S0
          clear hK K
          try simp only [Act.put, List.setIfInBounds_toArray, List.set_cons_zero, List.set_cons_succ]
          refine wpAnyH_take (i := 13) (oi := ⟨some 31, _, _, _, _, _⟩) (v := ?v12) rfl (by kernel_rfl) (by kernel_rfl) (by kernel_rfl) (fun _ _ _ h => h) (Or.inl ⟨by rfl, ?hy12⟩) (by assumption) ?rest12
          case hy12 => (intro w hSw; (try dsimp only at hSw); (go_simp <;> (with_reducible rfl)))
          try simp only [Act.put, List.setIfInBounds_toArray, List.set_cons_zero, List.set_cons_succ]
          refine wpAnyH_ready (rs := [14]) (by kernel_rfl) (by simp) ?_
          refine AllReadyH.cons (o := ⟨some 32, _, _, _, _, _⟩) rfl (fun K hK => ?_) ?_
          · go_simp
            have XBA := Lib.hid ((heap_alloc_old w5 (.cells #[.int .i64 fb, .int .i64 lb, .int .i64 fa, .int .i64 la, .slice a5 n5 k5] 38) (Array.getElem?_eq_some_iff.1 XB5.out).1).trans XB5.out)
            have S0 := CE.out _ XBA.out
            have o2 : (w5.alloc (.cells #[.int .i64 fb, .int .i64 lb, .int .i64 fa, .int .i64 la, .slice a5 n5 k5] 38)).cell? ⟨w.heap.size + 2, 2, none⟩ = some vv := kp ((Below.refl w5.heap.size w5).alloc (Nat.le_refl _) _) o2
            refine hK.out _ _ ?_ (fun hHeld => ?_)
            · exact S0
            clear hK K
            try simp only [Act.put, List.setIfInBounds_toArray, List.set_cons_zero, List.set_cons_succ]
            refine wpAnyH_ready (rs := [15]) (by kernel_rfl) (by simp) ?_
            refine AllReadyH.cons (o := ⟨some 33, _, _, _, _, _⟩) rfl (fun K hK => ?_) ?_
            · refine step_own2 rtH rfl (.tmp 19) (.tmp 32) rfl vv _ (M.map rowH) [rowH (⟨fb, lb, fa, la, revF [] ls⟩, .slice a5 n5 k5)] (w.heap.size + 3) w5 _ (World.ownsRow.alloc R5.out.own _) (row_blk (heap_alloc_new w5 (.cells #[.int .i64 fb, .int .i64 lb, .int .i64 fa, .int .i64 la, .slice a5 n5 k5] 38))) (fun e => by cases e) (by intro x hx; simp at hx; subst hx; rfl) (by intro x hx; rw [List.mem_singleton] at hx; subst hx; exact one_H rfl) ((Below.refl _ _).alloc LB5.out _) (by rw [World.size_alloc]; have := LB5.out; omega) (by have := LM.out; show _ + 1 ≤ 1048577; omega) (by first | rfl | (simp [Act.eval]; done) | (simp [Act.eval, Act.put]; done)) (by first | rfl | (simp [Act.eval]; done) | (simp [Act.eval, Act.put]; done)) ?_
              intro v9 w9 own9 bel9 gr9 pu9
              obtain ⟨a9, k9, e9⟩ := own9.out.sl
              obtain ⟨n9, hn9⟩ : ∃ n, (M.map rowH ++ [rowH (⟨fb, lb, fa, la, revF [] ls⟩, .slice a5 n5 k5)]).length = n := ⟨_, rfl⟩
              rw [hn9] at e9
              subst e9
              clear hn9
              have PU := Lib.hid (RV.push (h := ⟨fb, lb, fa, la, revF [] ls⟩) R5.out OB5.out gr9.out (by rw [List.map_append]; exact own9.out) (R5.out.bel.trans (bel9.out.mono (by omega))))
              have fz := PU.out.2.1
              have cz := PU.out.2.2
              have XB9 : Hid (w9.heap[wr.heap.size]? = some (.cells #[.int .i64 fa, .int .i64 la, .int .i64 fb, .int .i64 lb, .slice ua un uc] 38 (0, 0))) := Lib.hid ((gr9.out.block _ (by rw [World.size_alloc]; have := (Array.getElem?_eq_some_iff.1 XB5.out).1; omega) (fun e => by have := (HR.out.own.lt _ e.symm).2; omega)).trans ((heap_alloc_old w5 (.cells #[.int .i64 fb, .int .i64 lb, .int .i64 fa, .int .i64 la, .slice a5 n5 k5] 38) (Array.getElem?_eq_some_iff.1 XB5.out).1).trans XB5.out))
              have S0 := CE.out _ XB9.out
              have HZ9 : Hid ((w9.setCell ⟨w.heap.size + 2, 2, none⟩ (.slice a9 n9 k9)).heap[w.heap.size + 1]? = some (.cells #[.string ⟨#[]⟩, .string ⟨#[]⟩, .slice none 0 0] 24 (0, 0))) := Lib.hid (by have hlt := (Array.getElem?_eq_some_iff.1 HZ.out).1; have e5 := (Q5.out.block _ (Nat.lt_of_lt_of_le hlt BX.out.size)).trans ((BX.out.block _ hlt).trans HZ.out); have e9 := (gr9.out.block _ (by rw [World.size_alloc]; have := (Array.getElem?_eq_some_iff.1 e5).1; omega) (fun e => by have := (HR.out.own.lt _ e.symm).1; omega)).trans ((heap_alloc_old w5 (.cells #[.int .i64 fb, .int .i64 lb, .int .i64 fa, .int .i64 la, .slice a5 n5 k5] 38) (Array.getElem?_eq_some_iff.1 e5).1).trans e5); simp only [World.setCell, Array.getElem?_modify]; rw [if_neg (by omega)]; exact e9)
              refine hK.out _ _ ?_ (fun hHeld => ?_)
              · exact S0
              clear hK K
              try simp only [Act.put, List.setIfInBounds_toArray, List.set_cons_zero, List.set_cons_succ]
              refine wpAnyH_take (i := 16) (oi := ⟨some 34, _, _, _, _, _⟩) (v := ?v13) rfl (by kernel_rfl) (by kernel_rfl) (by kernel_rfl) (fun _ _ _ h => h) (Or.inl ⟨by rfl, ?hy13⟩) (by assumption) ?rest13
              case hy13 => (intro w hSw; (try dsimp only at hSw); (go_simp <;> (with_reducible rfl)))
              try simp only [Act.put, List.setIfInBounds_toArray, List.set_cons_zero, List.set_cons_succ]
              refine wpAnyH_ready (rs := [17]) (by kernel_rfl) (by simp) ?_
              refine AllReadyH.cons (o := ⟨none, _, _, _, _, _⟩) rfl (fun K hK => ?_) ?_
              · go_simp
                refine hK.out _ _ ?_ (fun hHeld => ?_)
                · exact CE.out _ (by simp only [World.setCell, Array.getElem?_modify]; rw [if_neg (by have := OBL.out; omega)]; exact XB9.out)
                clear hK K
                try simp only [Act.put, List.setIfInBounds_toArray, List.set_cons_zero, List.set_cons_succ]
                refine wpAnyH_done (by kernel_rfl) ?_ _
                go_wp2_with fail
                go_roundw
                case rel => exact ⟨j + 1, _, M ++ [(⟨fb, lb, fa, la, revF [] ls⟩, .slice a5 n5 k5)], by go_num, by omega, Lib.hid (by rw [TK.out, List.map_append, HM.out]; rfl), Lib.hid PU.out.1, HZ9⟩
                case measure => simp [intOf]; omega
              exact AllReadyH.nil
            exact AllReadyH.nil
          exact AllReadyH.nil
        exact AllReadyH.nil
      refine AllReadyH.cons (o := ⟨some 30, _, _, _, _, _⟩) rfl (fun K hK => ?_) ?_
      · go_simp
        (go_at_call 52; refine (RC.out _ (Below.refl wb.heap.size wb).drew).mono ?_; rintro _ w5 ⟨v5, rfl, O5, B5⟩)
        have Q5 := Lib.hid ((Below.refl wb.heap.size wb).drew.trans (B5.out.mono (Below.refl wb.heap.size wb).drew.size))
        obtain ⟨a5, k5, e5⟩ := O5.out.sl
        obtain ⟨n5, hn5⟩ : ∃ n, ((revF [] ls).map rowD).length = n := ⟨_, rfl⟩
        rw [hn5] at e5
        subst e5
        clear hn5
        have R5 := Lib.hid (RB.out.below Q5.out)
        have o2 := kp Q5.out o2
        have S0 := CE.out _ ((Q5.out.block _ (Array.getElem?_eq_some_iff.1 XB.out).1).trans XB.out)
        have LB5 : Hid (w.heap.size + 3 ≤ w5.heap.size) := Lib.hid (by have := (Array.getElem?_eq_some_iff.1 R5.out.blk).1; omega)
        have LB0 : Hid (w.heap.size + 3 ≤ wb.drew.heap.size) := Lib.hid (by have := (Array.getElem?_eq_some_iff.1 RB.out.blk).1; show w.heap.size + 3 ≤ wb.heap.size; omega)
        have OB5 := Lib.hid (O5.out.mono LB0.out)
        have XB5 := Lib.hid ((Q5.out.block _ (Array.getElem?_eq_some_iff.1 XB.out).1).trans XB.out)
        refine hK.out _ _ ?_ (fun hHeld => ?_)
        · exact S0
        clear hK K
        try simp only [Act.put, List.setIfInBounds_toArray, List.set_cons_zero, List.set_cons_succ]
        refine wpAnyH_take (i := 13) (oi := ⟨some 31, _, _, _, _, _⟩) (v := ?v14) rfl (by kernel_rfl) (by kernel_rfl) (by kernel_rfl) (fun _ _ _ h => h) (Or.inl ⟨by rfl, ?hy14⟩) (by assumption) ?rest14
        case hy14 => (intro w hSw; (try dsimp only at hSw); (go_simp <;> (with_reducible rfl)))
        try simp only [Act.put, List.setIfInBounds_toArray, List.set_cons_zero, List.set_cons_succ]
        refine wpAnyH_ready (rs := [1, 14]) (by kernel_rfl) (by simp) ?_
        refine AllReadyH.cons (o := ⟨some 19, _, _, _, _, _⟩) rfl (fun K hK => ?_) ?_
        · go_simp
          refine hK.out _ _ ?_ (fun hHeld => ?_)
          · exact S0
          clear hK K
          try simp only [Act.put, List.setIfInBounds_toArray, List.set_cons_zero, List.set_cons_succ]
          refine wpAnyH_ready (rs := [14]) (by kernel_rfl) (by simp) ?_
          refine AllReadyH.cons (o := ⟨some 32, _, _, _, _, _⟩) rfl (fun K hK => ?_) ?_
          · go_simp
            have XBA := Lib.hid ((heap_alloc_old w5 (.cells #[.int .i64 fb, .int .i64 lb, .int .i64 fa, .int .i64 la, .slice a5 n5 k5] 38) (Array.getElem?_eq_some_iff.1 XB5.out).1).trans XB5.out)
            have S0 := CE.out _ XBA.out
            have o2 : (w5.alloc (.cells #[.int .i64 fb, .int .i64 lb, .int .i64 fa, .int .i64 la, .slice a5 n5 k5] 38)).cell? ⟨w.heap.size + 2, 2, none⟩ = some vv := kp ((Below.refl w5.heap.size w5).alloc (Nat.le_refl _) _) o2
            refine hK.out _ _ ?_ (fun hHeld => ?_)
            · exact S0
            clear hK K
            try simp only [Act.put, List.setIfInBounds_toArray, List.set_cons_zero, List.set_cons_succ]
            refine wpAnyH_ready (rs := [15]) (by kernel_rfl) (by simp) ?_
            refine AllReadyH.cons (o := ⟨some 33, _, _, _, _, _⟩) rfl (fun K hK => ?_) ?_
            · refine step_own2 rtH rfl (.tmp 19) (.tmp 32) rfl vv _ (M.map rowH) [rowH (⟨fb, lb, fa, la, revF [] ls⟩, .slice a5 n5 k5)] (w.heap.size + 3) w5 _ (World.ownsRow.alloc R5.out.own _) (row_blk (heap_alloc_new w5 (.cells #[.int .i64 fb, .int .i64 lb, .int .i64 fa, .int .i64 la, .slice a5 n5 k5] 38))) (fun e => by cases e) (by intro x hx; simp at hx; subst hx; rfl) (by intro x hx; rw [List.mem_singleton] at hx; subst hx; exact one_H rfl) ((Below.refl _ _).alloc LB5.out _) (by rw [World.size_alloc]; have := LB5.out; omega) (by have := LM.out; show _ + 1 ≤ 1048577; omega) (by first | rfl | (simp [Act.eval]; done) | (simp [Act.eval, Act.put]; done)) (by first | rfl | (simp [Act.eval]; done) | (simp [Act.eval, Act.put]; done)) ?_
              intro v9 w9 own9 bel9 gr9 pu9
              obtain ⟨a9, k9, e9⟩ := own9.out.sl
              obtain ⟨n9, hn9⟩ : ∃ n, (M.map rowH ++ [rowH (⟨fb, lb, fa, la, revF [] ls⟩, .slice a5 n5 k5)]).length = n := ⟨_, rfl⟩
              rw [hn9] at e9
              subst e9
              clear hn9
              have PU := Lib.hid (RV.push (h := ⟨fb, lb, fa, la, revF [] ls⟩) R5.out OB5.out gr9.out (by rw [List.map_append]; exact own9.out) (R5.out.bel.trans (bel9.out.mono (by omega))))
              have fz := PU.out.2.1
              have cz := PU.out.2.2
              have XB9 : Hid (w9.heap[wr.heap.size]? = some (.cells #[.int .i64 fa, .int .i64 la, .int .i64 fb, .int .i64 lb, .slice ua un uc] 38 (0, 0))) := Lib.hid ((gr9.out.block _ (by rw [World.size_alloc]; have := (Array.getElem?_eq_some_iff.1 XB5.out).1; omega) (fun e => by have := (HR.out.own.lt _ e.symm).2; omega)).trans ((heap_alloc_old w5 (.cells #[.int .i64 fb, .int .i64 lb, .int .i64 fa, .int .i64 la, .slice a5 n5 k5] 38) (Array.getElem?_eq_some_iff.1 XB5.out).1).trans XB5.out))
              have S0 := CE.out _ XB9.out
              have HZ9 : Hid ((w9.setCell ⟨w.heap.size + 2, 2, none⟩ (.slice a9 n9 k9)).heap[w.heap.size + 1]? = some (.cells #[.string ⟨#[]⟩, .string ⟨#[]⟩, .slice none 0 0] 24 (0, 0))) := Lib.hid (by have hlt := (Array.getElem?_eq_some_iff.1 HZ.out).1; have e5 := (Q5.out.block _ (Nat.lt_of_lt_of_le hlt BX.out.size)).trans ((BX.out.block _ hlt).trans HZ.out); have e9 := (gr9.out.block _ (by rw [World.size_alloc]; have := (Array.getElem?_eq_some_iff.1 e5).1; omega) (fun e => by have := (HR.out.own.lt _ e.symm).1; omega)).trans ((heap_alloc_old w5 (.cells #[.int .i64 fb, .int .i64 lb, .int .i64 fa, .int .i64 la, .slice a5 n5 k5] 38) (Array.getElem?_eq_some_iff.1 e5).1).trans e5); simp only [World.setCell, Array.getElem?_modify]; rw [if_neg (by omega)]; exact e9)
              refine hK.out _ _ ?_ (fun hHeld => ?_)
              · exact S0
              clear hK K
              try simp only [Act.put, List.setIfInBounds_toArray, List.set_cons_zero, List.set_cons_succ]
              refine wpAnyH_take (i := 16) (oi := ⟨some 34, _, _, _, _, _⟩) (v := ?v15) rfl (by kernel_rfl) (by kernel_rfl) (by kernel_rfl) (fun _ _ _ h => h) (Or.inl ⟨by rfl, ?hy15⟩) (by assumption) ?rest15
              case hy15 => (intro w hSw; (try dsimp only at hSw); (go_simp <;> (with_reducible rfl)))
              try simp only [Act.put, List.setIfInBounds_toArray, List.set_cons_zero, List.set_cons_succ]
              refine wpAnyH_ready (rs := [17]) (by kernel_rfl) (by simp) ?_
              refine AllReadyH.cons (o := ⟨none, _, _, _, _, _⟩) rfl (fun K hK => ?_) ?_
              · go_simp
                refine hK.out _ _ ?_ (fun hHeld => ?_)
                · exact CE.out _ (by simp only [World.setCell, Array.getElem?_modify]; rw [if_neg (by have := OBL.out; omega)]; exact XB9.out)
                clear hK K
                try simp only [Act.put, List.setIfInBounds_toArray, List.set_cons_zero, List.set_cons_succ]
                refine wpAnyH_done (by kernel_rfl) ?_ _
                go_wp2_with fail
                go_roundw
                case rel => exact ⟨j + 1, _, M ++ [(⟨fb, lb, fa, la, revF [] ls⟩, .slice a5 n5 k5)], by go_num, by omega, Lib.hid (by rw [TK.out, List.map_append, HM.out]; rfl), Lib.hid PU.out.1, HZ9⟩
                case measure => simp [intOf]; omega
              exact AllReadyH.nil
            exact AllReadyH.nil
          exact AllReadyH.nil
        refine AllReadyH.cons (o := ⟨some 32, _, _, _, _, _⟩) rfl (fun K hK => ?_) ?_
        · go_simp
          have XBA := Lib.hid ((heap_alloc_old w5 (.cells #[.int .i64 fb, .int .i64 lb, .int .i64 fa, .int .i64 la, .slice a5 n5 k5] 38) (Array.getElem?_eq_some_iff.1 XB5.out).1).trans XB5.out)
          have S0 := CE.out _ XBA.out
          have o2 : (w5.alloc (.cells #[.int .i64 fb, .int .i64 lb, .int .i64 fa, .int .i64 la, .slice a5 n5 k5] 38)).cell? ⟨w.heap.size + 2, 2, none⟩ = some vv := kp ((Below.refl w5.heap.size w5).alloc (Nat.le_refl _) _) o2
          refine hK.out _ _ ?_ (fun hHeld => ?_)
          · exact S0
          clear hK K
          try simp only [Act.put, List.setIfInBounds_toArray, List.set_cons_zero, List.set_cons_succ]
          refine wpAnyH_ready (rs := [1]) (by kernel_rfl) (by simp) ?_
          refine AllReadyH.cons (o := ⟨some 19, _, _, _, _, _⟩) rfl (fun K hK => ?_) ?_
          · go_simp
            refine hK.out _ _ ?_ (fun hHeld => ?_)
            · exact S0
            clear hK K
            try simp only [Act.put, List.setIfInBounds_toArray, List.set_cons_zero, List.set_cons_succ]
            refine wpAnyH_ready (rs := [15]) (by kernel_rfl) (by simp) ?_
            refine AllReadyH.cons (o := ⟨some 33, _, _, _, _, _⟩) rfl (fun K hK => ?_) ?_
            · refine step_own2 rtH rfl (.tmp 19) (.tmp 32) rfl vv _ (M.map rowH) [rowH (⟨fb, lb, fa, la, revF [] ls⟩, .slice a5 n5 k5)] (w.heap.size + 3) w5 _ (World.ownsRow.alloc R5.out.own _) (row_blk (heap_alloc_new w5 (.cells #[.int .i64 fb, .int .i64 lb, .int .i64 fa, .int .i64 la, .slice a5 n5 k5] 38))) (fun e => by cases e) (by intro x hx; simp at hx; subst hx; rfl) (by intro x hx; rw [List.mem_singleton] at hx; subst hx; exact one_H rfl) ((Below.refl _ _).alloc LB5.out _) (by rw [World.size_alloc]; have := LB5.out; omega) (by have := LM.out; show _ + 1 ≤ 1048577; omega) (by first | rfl | (simp [Act.eval]; done) | (simp [Act.eval, Act.put]; done)) (by first | rfl | (simp [Act.eval]; done) | (simp [Act.eval, Act.put]; done)) ?_
              intro v9 w9 own9 bel9 gr9 pu9
              obtain ⟨a9, k9, e9⟩ := own9.out.sl
              obtain ⟨n9, hn9⟩ : ∃ n, (M.map rowH ++ [rowH (⟨fb, lb, fa, la, revF [] ls⟩, .slice a5 n5 k5)]).length = n := ⟨_, rfl⟩
              rw [hn9] at e9
              subst e9
              clear hn9
              have PU := Lib.hid (RV.push (h := ⟨fb, lb, fa, la, revF [] ls⟩) R5.out OB5.out gr9.out (by rw [List.map_append]; exact own9.out) (R5.out.bel.trans (bel9.out.mono (by omega))))
              have fz := PU.out.2.1
              have cz := PU.out.2.2
              have XB9 : Hid (w9.heap[wr.heap.size]? = some (.cells #[.int .i64 fa, .int .i64 la, .int .i64 fb, .int .i64 lb, .slice ua un uc] 38 (0, 0))) := Lib.hid ((gr9.out.block _ (by rw [World.size_alloc]; have := (Array.getElem?_eq_some_iff.1 XB5.out).1; omega) (fun e => by have := (HR.out.own.lt _ e.symm).2; omega)).trans ((heap_alloc_old w5 (.cells #[.int .i64 fb, .int .i64 lb, .int .i64 fa, .int .i64 la, .slice a5 n5 k5] 38) (Array.getElem?_eq_some_iff.1 XB5.out).1).trans XB5.out))
              have S0 := CE.out _ XB9.out
              have HZ9 : Hid ((w9.setCell ⟨w.heap.size + 2, 2, none⟩ (.slice a9 n9 k9)).heap[w.heap.size + 1]? = some (.cells #[.string ⟨#[]⟩, .string ⟨#[]⟩, .slice none 0 0] 24 (0, 0))) := Lib.hid (by have hlt := (Array.getElem?_eq_some_iff.1 HZ.out).1; have e5 := (Q5.out.block _ (Nat.lt_of_lt_of_le hlt BX.out.size)).trans ((BX.out.block _ hlt).trans HZ.out); have e9 := (gr9.out.block _ (by rw [World.size_alloc]; have := (Array.getElem?_eq_some_iff.1 e5).1; omega) (fun e => by have := (HR.out.own.lt _ e.symm).1; omega)).trans ((heap_alloc_old w5 (.cells #[.int .i64 fb, .int .i64 lb, .int .i64 fa, .int .i64 la, .slice a5 n5 k5] 38) (Array.getElem?_eq_some_iff.1 e5).1).trans e5); simp only [World.setCell, Array.getElem?_modify]; rw [if_neg (by omega)]; exact e9)
              refine hK.out _ _ ?_ (fun hHeld => ?_)
              · exact S0
              clear hK K
              try simp only [Act.put, List.setIfInBounds_toArray, List.set_cons_zero, List.set_cons_succ]
              refine wpAnyH_take (i := 16) (oi := ⟨some 34, _, _, _, _, _⟩) (v := ?v16) rfl (by kernel_rfl) (by kernel_rfl) (by kernel_rfl) (fun _ _ _ h => h) (Or.inl ⟨by rfl, ?hy16⟩) (by assumption) ?rest16
              case hy16 => (intro w hSw; (try dsimp only at hSw); (go_simp <;> (with_reducible rfl)))
              try simp only [Act.put, List.setIfInBounds_toArray, List.set_cons_zero, List.set_cons_succ]
              refine wpAnyH_ready (rs := [17]) (by kernel_rfl) (by simp) ?_
              refine AllReadyH.cons (o := ⟨none, _, _, _, _, _⟩) rfl (fun K hK => ?_) ?_
              · go_simp
                refine hK.out _ _ ?_ (fun hHeld => ?_)
                · exact CE.out _ (by simp only [World.setCell, Array.getElem?_modify]; rw [if_neg (by have := OBL.out; omega)]; exact XB9.out)
                clear hK K
                try simp only [Act.put, List.setIfInBounds_toArray, List.set_cons_zero, List.set_cons_succ]
                refine wpAnyH_done (by kernel_rfl) ?_ _
                go_wp2_with fail
                go_roundw
                case rel => exact ⟨j + 1, _, M ++ [(⟨fb, lb, fa, la, revF [] ls⟩, .slice a5 n5 k5)], by go_num, by omega, Lib.hid (by rw [TK.out, List.map_append, HM.out]; rfl), Lib.hid PU.out.1, HZ9⟩
                case measure => simp [intOf]; omega
              exact AllReadyH.nil
            exact AllReadyH.nil
          exact AllReadyH.nil
        exact AllReadyH.nil
      exact AllReadyH.nil
    · obtain rfl : j = n := by omega
      have MM : Hid (M.map (·.1) = L.map (fun p => revH p.1)) := Lib.hid (by rw [HM.out, List.take_of_length_le (by rw [HN.out]; exact Nat.le_refl _)])
      have o0 : wr.cell? ⟨w.heap.size + 2, 0, none⟩ = some (.string new) := blk_cellx HR.out.blk 0 _ rfl
      have o1 : wr.cell? ⟨w.heap.size + 2, 1, none⟩ = some (.string old) := blk_cellx HR.out.blk 1 _ rfl
      have o2 : wr.cell? ⟨w.heap.size + 2, 2, none⟩ = some vv := blk_cellx HR.out.blk 2 _ rfl
      obtain ⟨va, vc, evv⟩ := HR.out.own.sl
      obtain ⟨vn, hvn⟩ : ∃ n, (M.map rowH).length = n := ⟨_, rfl⟩
      rw [hvn] at evv
      subst evv
      clear hvn
      have c0 : wr.cell? ⟨w.heap.size + 1, 0, none⟩ = some (.string ⟨#[]⟩) := blk_cellx HZ.out 0 _ rfl
      have c1 : wr.cell? ⟨w.heap.size + 1, 1, none⟩ = some (.string ⟨#[]⟩) := blk_cellx HZ.out 1 _ rfl
      have c2 : wr.cell? ⟨w.heap.size + 1, 2, none⟩ = some (.slice none 0 0) := blk_cellx HZ.out 2 _ rfl
      have f0 : wr.frozen? ⟨w.heap.size + 1, 0, none⟩ = false := by have := HZ.out; simp [World.frozen?, this]
      have f1 : wr.frozen? ⟨w.heap.size + 1, 1, none⟩ = false := by have := HZ.out; simp [World.frozen?, this]
      have f2 : wr.frozen? ⟨w.heap.size + 1, 2, none⟩ = false := by have := HZ.out; simp [World.frozen?, this]
      go_wp2_with fail
      obtain ⟨r0, r1, r2⟩ := three_set (.string new) (.string old) (.slice va vn vc) c0 c1 c2
      have HK : Hid (HksAt (((wr.setCell ⟨w.heap.size + 1, 0, none⟩ (.string new)).setCell ⟨w.heap.size + 1, 1, none⟩ (.string old)).setCell ⟨w.heap.size + 1, 2, none⟩ (.slice va vn vc)) (.slice va vn vc) M) := Lib.hid ⟨(HR.out.own.ty (fun i cs z hi => sets_keep _ _ _ (fun e => by subst e; rw [HZ.out] at hi; cases hi))).rows rowH_len, fun p hp => ((HR.out.each p hp).ty (fun i cs z hi => sets_keep _ _ _ (fun e => by subst e; rw [HZ.out] at hi; cases hi))).rows rowD_len⟩
      refine bodyPost_ret (v := .agg #[.string new, .string old, .slice va vn vc]) (by simp [results, Tryd.results23, go_sem, r0, r1, r2]) rfl ⟨_, M, rfl, MM, HK, Lib.hid (below_sets HR.out.bel (by omega) _ _ _)⟩
end Go.Proofs.YtnkpigibjicmaaaDoor
