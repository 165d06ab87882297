/- walks: the reference's Next (written by gen_kd.py) -/
import Derived.Test.YtlhagpfpcdedpaaDoorKc
namespace Go.Proofs.YtlhagpfpcdedpaaDoor
open Go.RowKit
open Shp
/-- what Next returns -/
def nextV (s : ByteArray) (a : Nat) : Value :=
  match at? s (skS s a) with
  | none => .tuple #[.agg #[.int .i64 0, .string ⟨#[]⟩, .bool false, .int .i64 s.size], .int .i64 s.size, .agg #[.int .i64 0, .int .i64 0]]
  | some c => match opT s (skS s a) with
    | some o => .tuple #[.agg #[.int .i64 2, .string ⟨o.toArray⟩, .bool false, .int .i64 (skS s a : Nat)], .int .i64 (skS s a + o.length : Nat), .agg #[.int .i64 0, .int .i64 0]]
    | none => if c = 38 then .tuple #[.agg #[.int .i64 0, .string ⟨#[]⟩, .bool false, .int .i64 0], .int .i64 (skS s a : Nat), .agg #[.int .i64 1, .int .i64 (skS s a : Nat)]] else wordV s (skS s a)
theorem nextV_is (s : ByteArray) (a : Nat) : ∃ (q0 : Int) (q1 : ByteArray) (q2 : Bool) (q3 af er po : Int), nextV s a = .tuple #[.agg #[.int .i64 q0, .string q1, .bool q2, .int .i64 q3], .int .i64 af, .agg #[.int .i64 er, .int .i64 po]] ∧ NxR (nx s a) #[.int .i64 q0, .string q1, .bool q2, .int .i64 q3] af er po := by
  unfold nextV nx tokS
  generalize skS s a = j
  cases at? s j with
  | none => exact ⟨_, _, _, _, _, _, _, rfl, rfl, rfl, rfl, rfl⟩
  | some c =>
    simp only
    cases opT s j with
    | some o => exact ⟨_, _, _, _, _, _, _, rfl, rfl, rfl, rfl, rfl⟩
    | none =>
      simp only
      split
      · exact ⟨_, _, _, _, _, _, _, rfl, ⟨_, _, _, _, rfl⟩, rfl, rfl⟩
      · exact wordV_is s j
theorem rskip_is (s : ByteArray) (a j : Nat) (w : World) (hs : s.size ≤ 8192) (ha : a ≤ s.size) (h : Hid (skS s a = j)) :
    Calls Tryd.prog 61 #[.string s, .int .i64 (a : Int)] w fun e w' => e = .returned (.int .i64 (j : Int)) ∧ w = w' := by
  rw [← h.out]; exact rskip_any s a w hs ha
theorem roper_is (s : ByteArray) (j : Nat) (w : World) {o : ByteArray} (hs : s.size ≤ 8192) (hlt : j < s.size) (h : Hid (opS s j = o)) :
    Calls Tryd.prog 62 #[.string s, .int .i64 (j : Int)] w fun e w' => e = .returned (.string o) ∧ w = w' := by
  rw [← h.out]; exact roper_any s j w hs hlt
/-- the blocks of the two results -/
structure WR2 (w wr : World) : Prop where
  r : wr.heap[w.heap.size]? = some (.cells #[.int .i64 0, .string ⟨#[]⟩, .bool false, .int .i64 0] 54 (0, 0))
  f : wr.heap[w.heap.size + 1]? = some (.cells #[.int .i64 0, .int .i64 0] 56 (0, 0))
  b : Below w.heap.size w wr
section
variable {w wr w2 : World}
theorem WR2.rcells (h : WR2 w wr) : wr.cell? ⟨w.heap.size, 0, none⟩ = some (.int .i64 0) ∧ wr.cell? ⟨w.heap.size, 1, none⟩ = some (.string ⟨#[]⟩) ∧ wr.cell? ⟨w.heap.size, 2, none⟩ = some (.bool false) ∧ wr.cell? ⟨w.heap.size, 3, none⟩ = some (.int .i64 0) ∧ wr.cell? ⟨w.heap.size + 1, 0, none⟩ = some (.int .i64 0) ∧ wr.cell? ⟨w.heap.size + 1, 1, none⟩ = some (.int .i64 0) :=
  ⟨blk_cell h.r 0, blk_cell h.r 1, blk_cell h.r 2, blk_cell h.r 3, blk_cell h.f 0, blk_cell h.f 1⟩
theorem WR2.frr (h : WR2 w wr) (i : Nat) : wr.frozen? ⟨w.heap.size, i, none⟩ = false := blk_frozen h.r i
theorem WR2.frf (h : WR2 w wr) (i : Nat) : wr.frozen? ⟨w.heap.size + 1, i, none⟩ = false := blk_frozen h.f i
theorem WR2.below (h : WR2 w wr) (hb : Below wr.heap.size wr w2) : WR2 w w2 := by
  have l1 := (Array.getElem?_eq_some_iff.1 h.f).1
  exact ⟨(hb.block _ (by omega)).trans h.r, (hb.block _ l1).trans h.f, h.b.trans (hb.mono h.b.size)⟩
theorem WR2.new (w : World) : WR2 w ((w.alloc (.cells #[.int .i64 0, .string ⟨#[]⟩, .bool false, .int .i64 0] 54)).alloc (.cells #[.int .i64 0, .int .i64 0] 56)) := by
  have b1 := (Below.refl w.heap.size w).alloc (Nat.le_refl _) (.cells #[.int .i64 0, .string ⟨#[]⟩, .bool false, .int .i64 0] 54)
  have b2 := b1.alloc (by simp) (.cells #[.int .i64 0, .int .i64 0] 56)
  have h2 := heap_alloc_new (w.alloc (.cells #[.int .i64 0, .string ⟨#[]⟩, .bool false, .int .i64 0] 54)) (.cells #[.int .i64 0, .int .i64 0] 56)
  rw [show (w.alloc (.cells #[.int .i64 0, .string ⟨#[]⟩, .bool false, .int .i64 0] 54)).heap.size = w.heap.size + 1 by simp] at h2
  exact ⟨(heap_alloc_old _ _ (by simp)).trans (heap_alloc_new w _), h2, b2⟩
theorem wres_cells2 (h : WR2 w wr) (x0 x1 x2 x3 x4 x5 : Value) :
    (wresW w.heap.size wr x0 x1 x2 x3 x4 x5).cell? ⟨w.heap.size, 0, none⟩ = some x0 ∧ (wresW w.heap.size wr x0 x1 x2 x3 x4 x5).cell? ⟨w.heap.size, 1, none⟩ = some x1 ∧ (wresW w.heap.size wr x0 x1 x2 x3 x4 x5).cell? ⟨w.heap.size, 2, none⟩ = some x2 ∧ (wresW w.heap.size wr x0 x1 x2 x3 x4 x5).cell? ⟨w.heap.size, 3, none⟩ = some x3 ∧
    (wresW w.heap.size wr x0 x1 x2 x3 x4 x5).cell? ⟨w.heap.size + 1, 0, none⟩ = some x4 ∧ (wresW w.heap.size wr x0 x1 x2 x3 x4 x5).cell? ⟨w.heap.size + 1, 1, none⟩ = some x5 := by
  have hr : (resW w.heap.size wr x0 x1 x2 x3).heap[w.heap.size]? = some (.cells #[x0, x1, x2, x3] 54 (0, 0)) := set_at (set_at (set_at (set_at h.r)))
  have hr2 : (wresW w.heap.size wr x0 x1 x2 x3 x4 x5).heap[w.heap.size]? = some (.cells #[x0, x1, x2, x3] 54 (0, 0)) := (set_other (by omega)).trans ((set_other (by omega)).trans hr)
  have hf : (resW w.heap.size wr x0 x1 x2 x3).heap[w.heap.size + 1]? = some (.cells #[.int .i64 0, .int .i64 0] 56 (0, 0)) := (resW_other (by omega)).trans h.f
  have hf2 : (wresW w.heap.size wr x0 x1 x2 x3 x4 x5).heap[w.heap.size + 1]? = some (.cells #[x4, x5] 56 (0, 0)) := set_at (set_at hf)
  exact ⟨blk_cell hr2 0, blk_cell hr2 1, blk_cell hr2 2, blk_cell hr2 3, blk_cell hf2 0, blk_cell hf2 1⟩
theorem wres_bel2 (h : WR2 w wr) (x0 x1 x2 x3 x4 x5 : Value) : Below w.heap.size w (wresW w.heap.size wr x0 x1 x2 x3 x4 x5) :=
  (((((h.b.setCell (Nat.le_refl _) _).setCell (Nat.le_refl _) _).setCell (Nat.le_refl _) _).setCell (Nat.le_refl _) _).setCell (by simp) _).setCell (by simp) _
end
set_option maxRecDepth 100000 in
set_option maxHeartbeats 8000000 in
theorem rnext_any (s : ByteArray) (a : Nat) (w : World) (hs : s.size ≤ 8192) (ha : a ≤ s.size) :
    Calls Tryd.prog 49 #[.string s, .int .i64 (a : Int)] w fun e w' => e = .returned (nextV s a) ∧ Hid (Below w.heap.size w w') := by
  obtain ⟨j, hj⟩ : ∃ j, skS s a = j := ⟨_, rfl⟩
  have JS := Lib.hid hj
  have jl : j ≤ s.size := by rw [← hj]; exact (skS_le s a ha).2
  have HJ := Lib.hid hj
  clear hj
  by_cases hlt : j < s.size
  · obtain ⟨c, hc⟩ : ∃ c, s[j] = c := ⟨_, rfl⟩
    have AC : Hid (at? s j = some c) := Lib.hid (by rw [at_lt hlt, hc])
    cases ho : opT s j with
    | some o =>
      have OO : Hid (opS s j = ⟨o.toArray⟩) := Lib.hid (by unfold opS; rw [ho]; rfl)
      have NV : Hid (nextV s a = .tuple #[.agg #[.int .i64 2, .string ⟨o.toArray⟩, .bool false, .int .i64 (j : Nat)], .int .i64 (j + o.length : Nat), .agg #[.int .i64 0, .int .i64 0]]) := Lib.hid (by unfold nextV; rw [HJ.out]; simp only [AC.out, ho])
      have L := opT_len ho
      have k1 : (ByteArray.mk o.toArray).size = o.length := by simp [ByteArray.size]
      obtain ⟨u, hu⟩ : ∃ u, ByteArray.mk o.toArray = u := ⟨_, rfl⟩
      rw [hu] at OO k1
      have UE := Lib.hid hu
      have NE : u.toList = [] → False := fun h => by
        rw [Lib.toList_data] at h
        have : u.size = u.data.toList.length := rfl
        rw [h] at this
        simp only [List.length_nil] at this
        omega
      have ne1 : (u.toList == []) = false := by rw [beq_eq_false_iff_ne]; exact NE
      have ne2 : (u.toList != []) = true := by rw [bne, ne1]; rfl
      have ne3 : (!u.toList.isEmpty) = true := by cases h : u.toList with
        | nil => exact absurd h NE
        | cons x l => rfl
      have us : j + u.size ≤ s.size := by omega
      have KK := Lib.hid k1
      clear ho hu NE L k1 ne1
      go_enter Tryd.func49, Tryd.ntmps49; go_upto_region 1 with (fail); have X0 := WR2.new w; generalize ((w.alloc (.cells #[.int .i64 0, .string ⟨#[]⟩, .bool false, .int .i64 0] 54)).alloc (.cells #[.int .i64 0, .int .i64 0] 56)) = wr at X0 ⊢; have X0 := Lib.hid X0; obtain ⟨r0, r1, r2, r3, r4, r5⟩ := X0.out.rcells; have g0 := X0.out.frr 0; have g1 := X0.out.frr 1; have g2 := X0.out.frr 2; have g3 := X0.out.frr 3; have g4 := X0.out.frf 0; have g5 := X0.out.frf 1
      go_wp2_with (first | (go_at_call 61; with_reducible refine (rskip_is s a _ _ hs ha JS).mono ?_; rintro _ _ ⟨rfl, rfl⟩) | (go_at_call 62; with_reducible refine (roper_is s j _ hs hlt OO).mono ?_; rintro _ _ ⟨rfl, rfl⟩))
      repeat (go_region; go_wp2_with (first | (go_at_call 61; with_reducible refine (rskip_is s a _ _ hs ha JS).mono ?_; rintro _ _ ⟨rfl, rfl⟩) | (go_at_call 62; with_reducible refine (roper_is s j _ hs hlt OO).mono ?_; rintro _ _ ⟨rfl, rfl⟩)))
      (try simp only [Exit.inBlock, Exit.then])
      obtain ⟨z0, z1, z2, z3, z4, z5⟩ := wres_cells2 X0.out (.int .i64 2) (.string u) (.bool false) (.int .i64 (j : Int)) (.int .i64 0) (.int .i64 0)
      refine bodyPost_ret (v := .tuple #[.agg #[.int .i64 2, .string u, .bool false, .int .i64 (j : Int)], .int .i64 ((j : Int) + u.size), .agg #[.int .i64 0, .int .i64 0]]) (by simp [results, Tryd.results49, go_sem, z0, z1, z2, z3, z4, z5]) rfl ⟨by rw [NV.out]; rw [UE.out, KK.out]; simp, Lib.hid (wres_bel2 X0.out _ _ _ _ _ _)⟩
    | none =>
      have OO : Hid (opS s j = ⟨#[]⟩) := Lib.hid (by unfold opS; rw [ho]; rfl)
      by_cases h38 : c = 38
      · subst h38
        have NV : Hid (nextV s a = .tuple #[.agg #[.int .i64 0, .string ⟨#[]⟩, .bool false, .int .i64 0], .int .i64 (j : Nat), .agg #[.int .i64 1, .int .i64 (j : Nat)]]) := Lib.hid (by unfold nextV; rw [HJ.out]; simp only [AC.out, ho]; rw [if_pos trivial])
        clear ho
        go_enter Tryd.func49, Tryd.ntmps49; go_upto_region 1 with (fail); have X0 := WR2.new w; generalize ((w.alloc (.cells #[.int .i64 0, .string ⟨#[]⟩, .bool false, .int .i64 0] 54)).alloc (.cells #[.int .i64 0, .int .i64 0] 56)) = wr at X0 ⊢; have X0 := Lib.hid X0; obtain ⟨r0, r1, r2, r3, r4, r5⟩ := X0.out.rcells; have g0 := X0.out.frr 0; have g1 := X0.out.frr 1; have g2 := X0.out.frr 2; have g3 := X0.out.frr 3; have g4 := X0.out.frf 0; have g5 := X0.out.frf 1
        go_wp2_with (first | (go_at_call 61; with_reducible refine (rskip_is s a _ _ hs ha JS).mono ?_; rintro _ _ ⟨rfl, rfl⟩) | (go_at_call 62; with_reducible refine (roper_is s j _ hs hlt OO).mono ?_; rintro _ _ ⟨rfl, rfl⟩))
        repeat (go_region; go_wp2_with (first | (go_at_call 61; with_reducible refine (rskip_is s a _ _ hs ha JS).mono ?_; rintro _ _ ⟨rfl, rfl⟩) | (go_at_call 62; with_reducible refine (roper_is s j _ hs hlt OO).mono ?_; rintro _ _ ⟨rfl, rfl⟩)))
        (try simp only [Exit.inBlock, Exit.then])
        obtain ⟨z0, z1, z2, z3, z4, z5⟩ := wres_cells2 X0.out (.int .i64 0) (.string ⟨#[]⟩) (.bool false) (.int .i64 0) (.int .i64 1) (.int .i64 (j : Int))
        refine bodyPost_ret (v := .tuple #[.agg #[.int .i64 0, .string ⟨#[]⟩, .bool false, .int .i64 0], .int .i64 (j : Int), .agg #[.int .i64 1, .int .i64 (j : Int)]]) (by simp [results, Tryd.results49, go_sem, z0, z1, z2, z3, z4, z5]) rfl ⟨by rw [NV.out], Lib.hid (wres_bel2 X0.out _ _ _ _ _ _)⟩
      · have t38 : ((c.toNat : Int) == 38) = false := by rw [beq_eq_false_iff_ne]; exact fun e => h38 (UInt8.toNat_inj.mp (by show _ = 38; omega))
        obtain ⟨q0, q1, q2, q3, af, er, po, hv, -⟩ := wordV_is s j
        have WVH := Lib.hid hv
        have NV : Hid (nextV s a = .tuple #[.agg #[.int .i64 q0, .string q1, .bool q2, .int .i64 q3], .int .i64 af, .agg #[.int .i64 er, .int .i64 po]]) := Lib.hid (by unfold nextV; rw [HJ.out]; simp only [AC.out, ho]; rw [if_neg h38, hv])
        clear hv
        clear ho h38
        go_enter Tryd.func49, Tryd.ntmps49; go_upto_region 1 with (fail); have X0 := WR2.new w; generalize ((w.alloc (.cells #[.int .i64 0, .string ⟨#[]⟩, .bool false, .int .i64 0] 54)).alloc (.cells #[.int .i64 0, .int .i64 0] 56)) = wr at X0 ⊢; have X0 := Lib.hid X0; obtain ⟨r0, r1, r2, r3, r4, r5⟩ := X0.out.rcells; have g0 := X0.out.frr 0; have g1 := X0.out.frr 1; have g2 := X0.out.frr 2; have g3 := X0.out.frr 3; have g4 := X0.out.frf 0; have g5 := X0.out.frf 1
        go_wp2_with (first | (go_at_call 61; with_reducible refine (rskip_is s a _ _ hs ha JS).mono ?_; rintro _ _ ⟨rfl, rfl⟩) | (go_at_call 62; with_reducible refine (roper_is s j _ hs hlt OO).mono ?_; rintro _ _ ⟨rfl, rfl⟩) | (go_at_call 63; with_reducible refine (rword_any s j _ hs hlt).mono ?_; rw [WVH.out]; rintro _ w1 ⟨rfl, B1⟩; have X1 := Lib.hid (X0.out.below (bel_sw B1.out rfl)); obtain ⟨r0, r1, r2, r3, r4, r5⟩ := X1.out.rcells; have g0 := X1.out.frr 0; have g1 := X1.out.frr 1; have g2 := X1.out.frr 2; have g3 := X1.out.frr 3; have g4 := X1.out.frf 0; have g5 := X1.out.frf 1))
        repeat (go_region; go_wp2_with (first | (go_at_call 61; with_reducible refine (rskip_is s a _ _ hs ha JS).mono ?_; rintro _ _ ⟨rfl, rfl⟩) | (go_at_call 62; with_reducible refine (roper_is s j _ hs hlt OO).mono ?_; rintro _ _ ⟨rfl, rfl⟩) | (go_at_call 63; with_reducible refine (rword_any s j _ hs hlt).mono ?_; rw [WVH.out]; rintro _ w1 ⟨rfl, B1⟩; have X1 := Lib.hid (X0.out.below (bel_sw B1.out rfl)); obtain ⟨r0, r1, r2, r3, r4, r5⟩ := X1.out.rcells; have g0 := X1.out.frr 0; have g1 := X1.out.frr 1; have g2 := X1.out.frr 2; have g3 := X1.out.frr 3; have g4 := X1.out.frf 0; have g5 := X1.out.frf 1)))
        (try simp only [Exit.inBlock, Exit.then])
        obtain ⟨z0, z1, z2, z3, z4, z5⟩ := wres_cells2 X1.out (.int .i64 q0) (.string q1) (.bool q2) (.int .i64 q3) (.int .i64 er) (.int .i64 po)
        refine bodyPost_ret (v := .tuple #[.agg #[.int .i64 q0, .string q1, .bool q2, .int .i64 q3], .int .i64 af, .agg #[.int .i64 er, .int .i64 po]]) (by simp [results, Tryd.results49, go_sem, z0, z1, z2, z3, z4, z5]) rfl ⟨by rw [NV.out], Lib.hid (wres_bel2 X1.out _ _ _ _ _ _)⟩
  · obtain rfl : j = s.size := by omega
    have NV : Hid (nextV s a = .tuple #[.agg #[.int .i64 0, .string ⟨#[]⟩, .bool false, .int .i64 s.size], .int .i64 s.size, .agg #[.int .i64 0, .int .i64 0]]) := Lib.hid (by unfold nextV; rw [JS.out, at_ge (Nat.le_refl _)])
    go_enter Tryd.func49, Tryd.ntmps49; go_upto_region 1 with (fail); have X0 := WR2.new w; generalize ((w.alloc (.cells #[.int .i64 0, .string ⟨#[]⟩, .bool false, .int .i64 0] 54)).alloc (.cells #[.int .i64 0, .int .i64 0] 56)) = wr at X0 ⊢; have X0 := Lib.hid X0; obtain ⟨r0, r1, r2, r3, r4, r5⟩ := X0.out.rcells; have g0 := X0.out.frr 0; have g1 := X0.out.frr 1; have g2 := X0.out.frr 2; have g3 := X0.out.frr 3; have g4 := X0.out.frf 0; have g5 := X0.out.frf 1
    go_wp2_with (first | (go_at_call 61; with_reducible refine (rskip_is s a _ _ hs ha JS).mono ?_; rintro _ _ ⟨rfl, rfl⟩))
    repeat (go_region; go_wp2_with (first | (go_at_call 61; with_reducible refine (rskip_is s a _ _ hs ha JS).mono ?_; rintro _ _ ⟨rfl, rfl⟩)))
    (try simp only [Exit.inBlock, Exit.then])
    obtain ⟨z0, z1, z2, z3, z4, z5⟩ := wres_cells2 X0.out (.int .i64 0) (.string ⟨#[]⟩) (.bool false) (.int .i64 (s.size : Int)) (.int .i64 0) (.int .i64 0)
    refine bodyPost_ret (v := .tuple #[.agg #[.int .i64 0, .string ⟨#[]⟩, .bool false, .int .i64 (s.size : Int)], .int .i64 (s.size : Int), .agg #[.int .i64 0, .int .i64 0]]) (by simp [results, Tryd.results49, go_sem, z0, z1, z2, z3, z4, z5]) rfl ⟨by rw [NV.out], Lib.hid (wres_bel2 X0.out _ _ _ _ _ _)⟩
end Go.Proofs.YtlhagpfpcdedpaaDoor
