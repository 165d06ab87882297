/- walks: the worker's place (written by gen_vcb.py) -/
import Derived.Test.YtnkpigibjicmaaaDoorVx
import Derived.Test.YtnkpigibjicmaaaDoorVk
import Derived.Test.YtnkpigibjicmaaaDoorVca
namespace Go.Proofs.YtnkpigibjicmaaaDoor
open Go.RowKit Go.Maps
open Pt
/-- but for block pb and blocks of lines, from pb on, all is as it was -/
structure KW (pb : Nat) (w w' : World) : Prop where
  below : Below pb w w'
  other : ∀ (g : Nat) (cs : Array Value) (T : TypeId) (z : Nat × Nat), T ≠ 95 → g ≠ pb → w.heap[g]? = some (.cells cs T z) → w'.heap[g]? = some (.cells cs T z)
theorem KW.refl (pb : Nat) (w : World) : KW pb w w := ⟨Below.refl _ _, fun _ _ _ _ _ _ h => h⟩
theorem KW.trans {pb : Nat} {w w1 w2 : World} (h1 : KW pb w w1) (h2 : KW pb w1 w2) : KW pb w w2 := ⟨h1.below.trans h2.below, fun g cs T z hT hg hc => h2.other g cs T z hT hg (h1.other g cs T z hT hg hc)⟩
theorem KW.of {pb : Nat} {w w' : World} (hb : pb ≤ w.heap.size) (h : Below w.heap.size w w') : KW pb w w' := ⟨h.mono hb, fun g _ _ _ _ _ hc => (h.block g (Array.getElem?_eq_some_iff.1 hc).1).trans hc⟩
theorem KW.set (pb : Nat) (w : World) (i : Nat) (v : Value) : KW pb w (w.setCell ⟨pb, i, none⟩ v) := ⟨(Below.refl _ _).setCell (p := ⟨pb, i, none⟩) (Nat.le_refl _) v, fun g _ _ _ _ hg hc => by simp only [World.setCell, Array.getElem?_modify]; rw [if_neg (Ne.symm hg)]; exact hc⟩
theorem KW.grown {pb : Nat} {w w' : World} {row : Option Nat} (g : w.grownBy w' row) (hr : ∀ k, row = some k → pb ≤ k ∧ ∃ cs, w.heap[k]? = some (Obj.cells cs 95 (0, 0))) (hb : pb ≤ w.heap.size) : KW pb w w' := by
  refine ⟨(Below.refl _ _).grown g hb (fun k hk => (hr k hk).1), fun a cs T z hT hg hc => ?_⟩
  refine (g.block a (Array.getElem?_eq_some_iff.1 hc).1 (fun e => ?_)).trans hc
  obtain ⟨-, cs2, h2⟩ := hr a e.symm
  rw [hc] at h2
  cases h2
  exact hT rfl
/-- rows that lay there ahead of block pb -/
def OldR (pb : Nat) (w : World) (v : Value) (k : Nat) (l : List (List Value)) : Prop := ∃ w0 : World, RowsAt w0 v k l ∧ w0.heap.size ≤ pb ∧ Below w0.heap.size w0 w
theorem OldR.rows {pb : Nat} {w : World} {v : Value} {k : Nat} {l : List (List Value)} (h : OldR pb w v k l) : RowsAt w v k l := by
  obtain ⟨w0, h1, -, h2⟩ := h
  exact h1.below h2
theorem OldR.kw {pb : Nat} {w w' : World} {v : Value} {k : Nat} {l : List (List Value)} (h : OldR pb w v k l) (hk : KW pb w w') : OldR pb w' v k l := by
  obtain ⟨w0, h1, h2, h3⟩ := h
  exact ⟨w0, h1, h2, h3.trans (hk.below.mono h2)⟩
/-- the worker: the old lines, what is out, the place, the shift -/
structure WK (pb : Nat) (vo vv : Value) (old out : List Ln) (low : Nat) (mv : Int) (w : World) : Prop where
  blk : w.heap[pb]? = some (.cells #[vo, vv, .int .i64 low, .int .i64 mv] 66 (0, 0))
  old : OldR pb w vo 2 (old.map rowL)
  own : OwnR w (pb + 1) 95 2 vv (out.map rowL)
theorem WK.lt {pb : Nat} {vo vv : Value} {old out : List Ln} {low : Nat} {mv : Int} {w : World} (h : WK pb vo vv old out low mv w) : pb < w.heap.size := (Array.getElem?_eq_some_iff.1 h.blk).1
theorem WK.rows {pb : Nat} {vo vv : Value} {old out : List Ln} {low : Nat} {mv : Int} {w : World} (h : WK pb vo vv old out low mv w) : RowsAt w vo 2 (old.map rowL) := h.old.rows
theorem WK.keep {pb : Nat} {vo vv : Value} {old out : List Ln} {low : Nat} {mv : Int} {w w' : World} (h : WK pb vo vv old out low mv w) (hb : Below w.heap.size w w') : WK pb vo vv old out low mv w' := by
  refine ⟨(hb.block pb h.lt).trans h.blk, ?_, h.own.below hb⟩
  obtain ⟨w0, h1, h2, h3⟩ := h.old
  exact ⟨w0, h1, h2, h3.trans (hb.mono h3.size)⟩
/-- more lines are out -/
theorem WK.push {pb : Nat} {vo vv v5 : Value} {old out more : List Ln} {low : Nat} {mv : Int} {w w5 : World} (h : WK pb vo vv old out low mv w) (o : OwnR w5 (pb + 1) 95 2 v5 (out.map rowL ++ more.map rowL)) (g : w.grownBy w5 vv.ownBlock) :
    WK pb vo v5 old (out ++ more) low mv (w5.setCell ⟨pb, 1, none⟩ v5) ∧ KW pb w (w5.setCell ⟨pb, 1, none⟩ v5) ∧ w5.cell? ⟨pb, 1, none⟩ = some vv ∧ w5.frozen? ⟨pb, 1, none⟩ = false := by
  have hk : KW pb w w5 := KW.grown g (fun k hk => ⟨by have := (h.own.lt k hk).1; omega, h.own.blk hk⟩) (Nat.le_of_lt h.lt)
  have hb5 : w5.heap[pb]? = some (.cells #[vo, vv, .int .i64 low, .int .i64 mv] 66 (0, 0)) := (g.block pb h.lt (fun e => by have := (h.own.lt pb e.symm).1; omega)).trans h.blk
  have hks := KW.set pb w5 1 v5
  refine ⟨⟨?_, ?_, ?_⟩, hk.trans hks, blk_cellx hb5 1 _ rfl, by simp [World.frozen?, hb5]⟩
  · simp only [World.setCell, Array.getElem?_modify, hb5, if_pos, Option.map_some]; rfl
  · obtain ⟨w0, h1, h2, h3⟩ := h.old
    exact ⟨w0, h1, h2, (h3.trans (hk.below.mono h2)).trans (hks.below.mono h2)⟩
  · rw [List.map_append]
    exact o.ty (fun i cs z hi => by
      have : i ≠ pb := fun e => by subst e; rw [hb5] at hi; cases hi
      simp only [World.setCell, Array.getElem?_modify, if_neg (Ne.symm this)])
theorem WK.place {pb : Nat} {vo vv : Value} {old out : List Ln} {low : Nat} {mv : Int} {w : World} (h : WK pb vo vv old out low mv w) (x y : Int) (n : Nat) (hx : x = (n : Int)) :
    WK pb vo vv old out n y ((w.setCell ⟨pb, 2, none⟩ (.int .i64 x)).setCell ⟨pb, 3, none⟩ (.int .i64 y)) ∧ KW pb w ((w.setCell ⟨pb, 2, none⟩ (.int .i64 x)).setCell ⟨pb, 3, none⟩ (.int .i64 y)) := by
  subst hx
  have hk := (KW.set pb w 2 (.int .i64 (n : Int))).trans (KW.set pb _ 3 (.int .i64 y))
  refine ⟨⟨?_, ?_, ?_⟩, hk⟩
  · simp only [World.setCell, Array.getElem?_modify, h.blk, if_pos, Option.map_some]; rfl
  · obtain ⟨w0, h1, h2, h3⟩ := h.old
    exact ⟨w0, h1, h2, h3.trans (hk.below.mono h2)⟩
  · exact h.own.ty (fun i cs z hi => by
      have : i ≠ pb := fun e => by subst e; rw [h.blk] at hi; cases hi
      simp only [World.setCell, Array.getElem?_modify, if_neg (Ne.symm this)])
theorem KW.sets {pb b : Nat} {w w2 : World} (h : KW pb w w2) (hb : w.heap.size ≤ b) (hpb : pb ≤ b) (x y z : Value) : KW pb w (((w2.setCell ⟨b, 0, none⟩ x).setCell ⟨b, 1, none⟩ y).setCell ⟨b, 2, none⟩ z) :=
  ⟨below_sets h.below hpb x y z, fun g cs T zz hT hg hc => (sets_keep x y z (fun e => by have := (Array.getElem?_eq_some_iff.1 hc).1; omega)).trans (h.other g cs T zz hT hg hc)⟩
theorem WK.sets {pb b : Nat} {vo vv : Value} {old out : List Ln} {low : Nat} {mv : Int} {w : World} {cs : Array Value} (h : WK pb vo vv old out low mv w) (hb : w.heap[b]? = some (.cells cs 44 (0, 0))) (hpb : pb < b) (x y z : Value) : WK pb vo vv old out low mv (((w.setCell ⟨b, 0, none⟩ x).setCell ⟨b, 1, none⟩ y).setCell ⟨b, 2, none⟩ z) := by
  refine ⟨(sets_keep x y z (by omega)).trans h.blk, ?_, h.own.ty (fun i cs2 zz hi => sets_keep x y z (fun e => by subst e; rw [hb] at hi; cases hi))⟩
  obtain ⟨w0, h1, h2, h3⟩ := h.old
  exact ⟨w0, h1, h2, below_sets h3 (by omega) x y z⟩
theorem findP_fit {old p : List Ln} {low t : Nat} {want : Int} (h : findP old low want p = some t) : low ≤ t ∧ t + p.length ≤ old.length :=
  fitB_bd (((findL_spec old low want p (old.length + 1 - low)).1 t h).1)
/-- append of rows in a region that draws its order -/
theorem step_own3 {ts T : TypeId} {z : Value} {k bytes : Nat} (rt : RT ts T z k bytes) {ops : Array Oper} {o : Oper} {a : Act} {K : Act → World → Prop} {Q : Exit → Act → World → Prop} {E : Prop} (hgd : o.guard = none) (s x : Operand)
    (ho : o.op = .call { callee := .builtin .append, args := #[s, x], argTypes := #[ts, ts] }) (v v2 : Value) (l l2 : List (List Value)) (B : Nat) (wr : World)
    (own : OwnR wr B T k v l) (h2 : RowsAt wr v2 k l2) (hk : ∀ x ∈ l2, x.length = k) (h1 : ∀ x ∈ l2, ∀ u ∈ x, u.oneCell' = true) (hB : B ≤ wr.heap.size) (len : l.length + l2.length ≤ 1048577) (hs : a.eval s = v) (hx : a.eval x = v2)
    (h : ∀ v' w', Hid (OwnR w' B T k v' (l ++ l2)) → Hid (wr.grownBy w' v.ownBlock) → K (a.put o.dst v') w') :
    if Region.wanted o (yielded ops a.tmps) = true then Oper.wp Tryd.prog o a wr K Q else E := by
  have hw : Region.wanted o (yielded ops a.tmps) = true := by simp [Region.wanted, hgd]
  rw [if_pos hw]
  obtain ⟨i0, hi, hz0, hz1, hz2⟩ := info_parts rt.inf
  have hby := rt.by_
  rcases h2 with ⟨rfl, (_ | ad), rfl⟩ | ⟨g, o2, cap, rfl, c1, c2, hg, hc⟩
  rotate_left
  · refine wp_append_own_wide _ s x ts ho B T i0 z k bytes rt.und hi hz0 hz1 hz2 rt.zk rt.pos v l.length l.flatten hs own ad 0 0 [] hx (by simp) (fun j u hj => by simp at hj) (fun u hu => by simp at hu) (by unfold maxLen; omega) ?_ hB ?_
    · have e : ((l.length + 0) + (l.length + 0) / 4 + 192) ≤ 1400000 := by omega
      exact Nat.le_trans (Nat.mul_le_mul e hby) (by decide)
    · intro v' w' q1 q2 _
      refine h v' w' (Lib.hid ?_) (Lib.hid q2)
      rw [List.append_nil] at q1 ⊢
      exact q1
  rotate_left
  · have hrun := run_append_owned_none (P := Tryd.prog) (w := wr) B ts o.type T i0 k rt.und hi v l.length l.flatten own
    have hf := h v wr (Lib.hid (by rw [List.append_nil]; exact own)) (Lib.hid (grown_refl _ _))
    unfold Oper.wp
    simp [execOp, ho, resolve, invoke, builtin, hs, hx, hrun, Result.andThen]
    exact hf
  · refine wp_append_own_wide _ s x ts ho B T i0 z k bytes rt.und hi hz0 hz1 hz2 rt.zk rt.pos v l.length l.flatten hs own ⟨g, o2, none⟩ l2.length cap l2.flatten hx (flat_len hk) (RowsAt.flat (n := l2.length) (cap := cap) (.inr ⟨g, o2, cap, rfl, c1, c2, hg, hc⟩) rt.pos hk) ?_ ?_ ?_ hB ?_
    · intro u hu
      obtain ⟨xx, hxx, hu⟩ := List.mem_flatten.1 hu
      exact h1 xx hxx u hu
    · unfold maxLen; omega
    · have e : ((l.length + l2.length) + (l.length + l2.length) / 4 + 192) ≤ 1400000 := by omega
      exact Nat.le_trans (Nat.mul_le_mul e hby) (by decide)
    · intro v' w' q1 q2 _
      refine h v' w' (Lib.hid ?_) (Lib.hid q2)
      show w'.ownsRow B T k v' (l ++ l2).length (l ++ l2).flatten
      rw [List.length_append, List.flatten_append]; exact q1
theorem rowL_one {l : List Ln} : ∀ x ∈ l.map rowL, ∀ u ∈ x, u.oneCell' = true := by intro x hx; obtain ⟨y, -, rfl⟩ := List.mem_map.1 hx; exact one_L
set_option maxRecDepth 100000 in
set_option maxHeartbeats 8000000 in
theorem place_any (pb : Nat) (vo vv : Value) (old : List Ln) (s : Wk) (h : Hk) (u : Value) (fuzz : Int) (w : World) (H : WK pb vo vv old s.out s.low s.move w) (hu : OldR pb w u 3 (h.ls.map rowD)) (hs : shapeE h = 0) (hl : h.ls.length ≤ 1000) (ho : old.length ≤ 200000) (hout : s.out.length ≤ 500000) (hlow : s.low ≤ old.length) (hm : -1099511627776 ≤ s.move ∧ s.move ≤ 1099511627776) :
    Calls Tryd.prog 28 #[.pointer (some ⟨pb, 0, none⟩), vH h u, .int .i64 fuzz] w fun e w' => ∃ vv' g ok, e = .returned (.tuple #[.agg #[.int .i64 g.1, .int .i64 g.2.1, .int .i64 g.2.2], .bool ok]) ∧ Hid ((stepP old fuzz s h).placed = s.placed ++ [g] ∧ (stepP old fuzz s h).bad = s.bad ++ if ok = true then [] else [h]) ∧ Hid (WK pb vo vv' old (stepP old fuzz s h).out (stepP old fuzz s h).low (stepP old fuzz s h).move w') ∧ Hid (KW pb w w') := by
  obtain ⟨sout, low, mv, spl, sbad⟩ := s
  obtain ⟨fa, la, fb, lb, ls⟩ := h
  simp only at H hu hl hout hlow hm
  obtain ⟨sh1, -, sh3, sh4, -⟩ := shape_ok hs
  simp only at sh1 sh3 sh4
  have la0 : 0 ≤ la := by omega
  obtain ⟨un, hun⟩ : ∃ n, ls.length = n := ⟨_, rfl⟩
  obtain ⟨n, hn⟩ : ∃ n, old.length = n := ⟨_, rfl⟩
  have HN := Lib.hid (And.intro hun hn)
  have HU := Lib.hid hu
  obtain ⟨ua, uc, rfl, u1, u2, -⟩ := hu.rows.sl (n := un) (by rw [List.length_map]; exact hun)
  have HH := Lib.hid H
  obtain ⟨oa, oc, rfl, o1, o2, -⟩ := H.rows.sl (n := n) (by rw [List.length_map]; exact hn)
  rw [hun] at hl
  rw [hn] at ho hlow
  have hm1 := hm.1
  have hm2 := hm.2
  unfold maxLen at u2 o2
  have PL := Lib.hid H.lt
  have SO := Lib.hid hout
  have B1 : Hid (Below w.heap.size w ((w.alloc (.cells #[.int .i64 fa, .int .i64 la, .int .i64 fb, .int .i64 lb, .slice ua un uc] 38)).alloc (.cells #[.int .i64 0, .int .i64 0, .int .i64 0] 44))) := Lib.hid (((Below.refl _ _).alloc (Nat.le_refl _) _).alloc (by rw [World.size_alloc]; omega) _)
  have X1 : Hid (((w.alloc (.cells #[.int .i64 fa, .int .i64 la, .int .i64 fb, .int .i64 lb, .slice ua un uc] 38)).alloc (.cells #[.int .i64 0, .int .i64 0, .int .i64 0] 44)).heap[w.heap.size]? = some (.cells #[.int .i64 fa, .int .i64 la, .int .i64 fb, .int .i64 lb, .slice ua un uc] 38 (0, 0))) := Lib.hid ((heap_alloc_old _ _ (by rw [World.size_alloc]; omega)).trans (heap_alloc_new w (.cells #[.int .i64 fa, .int .i64 la, .int .i64 fb, .int .i64 lb, .slice ua un uc] 38)))
  have Z1 : Hid (((w.alloc (.cells #[.int .i64 fa, .int .i64 la, .int .i64 fb, .int .i64 lb, .slice ua un uc] 38)).alloc (.cells #[.int .i64 0, .int .i64 0, .int .i64 0] 44)).heap[w.heap.size + 1]? = some (.cells #[.int .i64 0, .int .i64 0, .int .i64 0] 44 (0, 0))) := Lib.hid (by have := heap_alloc_new (w.alloc (.cells #[.int .i64 fa, .int .i64 la, .int .i64 fb, .int .i64 lb, .slice ua un uc] 38)) (.cells #[.int .i64 0, .int .i64 0, .int .i64 0] 44); rw [World.size_alloc] at this; exact this)
  obtain ⟨fz, hfz⟩ : ∃ fz, fuzzN fuzz ls = fz := ⟨_, rfl⟩
  have HF : Hid (fz = min (max fuzz 0).toNat un ∧ placeP old low mv ⟨fa, la, fb, lb, ls⟩ fuzz = placeF old low mv ⟨fa, la, fb, lb, ls⟩ (fz + 1) 0) := Lib.hid ⟨by rw [← hfz, ← hun]; rfl, by unfold placeP; rw [hfz]⟩
  have hfz1 : fz ≤ un := by rw [HF.out.1]; omega
  have a0 : -1 ≤ beginP fa la ∧ beginP fa la ≤ 2147483647 := begin_bd sh3 sh4
  obtain ⟨a0v, ha0⟩ : ∃ x, beginP fa la = x := ⟨_, rfl⟩
  rw [ha0] at a0
  have a01 := a0.1
  have a02 := a0.2
  have HA := Lib.hid ha0
  clear hu H hun hn hout hm hs sh1 hfz a0 ha0
  go_enter Tryd.func28, Tryd.ntmps28
  go_wp2_with fail
  obtain ⟨w1, hw1⟩ : ∃ W, ((w.alloc (.cells #[.int .i64 fa, .int .i64 la, .int .i64 fb, .int .i64 lb, .slice ua un uc] 38)).alloc (.cells #[.int .i64 0, .int .i64 0, .int .i64 0] 44)) = W := ⟨_, rfl⟩
  rw [hw1] at B1 X1 Z1 ⊢
  clear hw1
  go_loopw [8] (fun f wr => ∃ F : Nat, f = .int .i64 F ∧ F ≤ fz + 1 ∧ Hid (placeP old low mv ⟨fa, la, fb, lb, ls⟩ fuzz = placeF old low mv ⟨fa, la, fb, lb, ls⟩ (fz + 1 - F) F) ∧ Hid (Below w1.heap.size w1 wr)) (fun f _ => fz + 1 - (intOf f).toNat)
  case atStart => exact ⟨0, rfl, by omega, Lib.hid HF.out.2, Lib.hid (Below.refl _ _)⟩
  case round =>
    obtain ⟨F, rfl, hF, HP, BK⟩ := hrel
    have d4 := kp BK.out (blk_cellx X1.out 4 _ rfl)
    have d0 := kp BK.out (blk_cellx X1.out 0 _ rfl)
    have d1 := kp BK.out (blk_cellx X1.out 1 _ rfl)
    go_upto_region 2 with (fail)
    go_cut [22] from 15 to 23 (fun x w' => ∃ b : Bool, x = .bool b ∧ Hid (b = true ↔ F ≤ fz) ∧ wr = w')
    · go_wp2_with fail
      all_goals (go_meet; case rel => exact ⟨_, rfl, Lib.hid (by have := HF.out.1; rw [decide_eq_true_iff]; omega), rfl⟩)
    obtain ⟨b, rfl, HB, rfl⟩ := hcut
    cases b with
    | false =>
      have E : Hid (placeP old low mv ⟨fa, la, fb, lb, ls⟩ fuzz = none) := Lib.hid (by
        rw [HP.out, show fz + 1 - F = 0 by have := mt HB.out.2 (by simp); omega]; rfl)
      have ZW := Lib.hid ((BK.out.block _ (Array.getElem?_eq_some_iff.1 Z1.out).1).trans Z1.out)
      have c0 := blk_cellx ZW.out 0 _ rfl
      have c1 := blk_cellx ZW.out 1 _ rfl
      have c2 := blk_cellx ZW.out 2 _ rfl
      have f0 : wr.frozen? ⟨w.heap.size + 1, 0, none⟩ = false := by have := ZW.out; simp [World.frozen?, this]
      have f1 : wr.frozen? ⟨w.heap.size + 1, 1, none⟩ = false := by have := ZW.out; simp [World.frozen?, this]
      have f2 : wr.frozen? ⟨w.heap.size + 1, 2, none⟩ = false := by have := ZW.out; simp [World.frozen?, this]
      clear d4 d0 d1
      go_wp2_with fail
      obtain ⟨r0, r1, r2⟩ := three_set (.int .i64 0) (.int .i64 0) (.int .i64 0) c0 c1 c2
      have BF := Lib.hid (below_sets (n := w.heap.size + 1) (B1.out.trans (BK.out.mono B1.out.size)) (by omega) (.int .i64 0) (.int .i64 0) (.int .i64 0))
      refine bodyPost_ret (v := .tuple #[.agg #[.int .i64 0, .int .i64 0, .int .i64 0], .bool false]) (by simp [results, Tryd.results28, go_sem, r0, r1, r2]) rfl ⟨vv, (0, 0, 0), false, rfl, Lib.hid ?_, Lib.hid ?_, Lib.hid (KW.of (Nat.le_of_lt PL.out) BF.out)⟩
      · unfold stepP; rw [E.out]; exact ⟨rfl, rfl⟩
      · unfold stepP; rw [E.out]; exact HH.out.keep BF.out
    | true =>
      have hF2 : F ≤ fz := HB.out.1 rfl
      have hFu : F ≤ un := by omega
      have TR := Lib.hid (fun W (hbl : Below w.heap.size w W) => trimmed_any ls (.slice ua un uc) F W (HU.out.rows.below hbl) (by rw [HN.out.1]; omega) (by omega))
      have XL := Lib.hid (ctx_le ls F)
      obtain ⟨x, hx⟩ : ∃ x, ctx ls F = x := ⟨_, rfl⟩
      rw [hx] at TR XL
      have hx2 : x ≤ un := by have := XL.out.1; rw [HN.out.1] at this; exact this
      obtain ⟨T, hT⟩ : ∃ T, trimP ls F = T := ⟨_, rfl⟩
      have TLN : Hid (T.length ≤ 1000) := Lib.hid (by rw [← hT]; unfold trimP; rw [List.length_take, List.length_drop]; have := HN.out.1; omega)
      rw [hT] at TR
      have PF : Hid (placeP old low mv ⟨fa, la, fb, lb, ls⟩ fuzz = match findP old low (a0v + x + mv) (sideP 2 T) with | some t => some (t, t - (a0v + x), F) | none => placeF old low mv ⟨fa, la, fb, lb, ls⟩ (fz + 1 - (F + 1)) (F + 1)) := Lib.hid (by
        rw [HP.out, show fz + 1 - F = (fz + 1 - (F + 1)) + 1 by omega]
        simp only [placeF, hx, hT, HA.out]
        rfl)
      have HX := Lib.hid (And.intro hx hT)
      clear hx hT
      obtain ⟨P2, hP2⟩ : ∃ P, sideP 2 T = P := ⟨_, rfl⟩
      have PLN : Hid (P2.length ≤ 1000) := Lib.hid (by rw [← hP2]; exact Nat.le_trans (side_len 2 T) TLN.out)
      have SD2 := Lib.hid (fun v W (hv : RowsAt W v 3 (T.map rowD)) => side_any T v 2 W hv (by have := TLN.out; omega))
      have SD3 := Lib.hid (fun v W (hv : RowsAt W v 3 (T.map rowD)) => side_any T v 3 W hv (by have := TLN.out; omega))
      rw [hP2] at SD2 PF
      have HP2 := Lib.hid hP2
      clear hP2
      obtain ⟨P3, hP3⟩ : ∃ P, sideP 3 T = P := ⟨_, rfl⟩
      have PLM : Hid (P3.length ≤ 1000) := Lib.hid (by rw [← hP3]; exact Nat.le_trans (side_len 3 T) TLN.out)
      rw [hP3] at SD3
      have HP3 := Lib.hid hP3
      clear hP3
      have BG := Lib.hid (fun W => begin_any fa la W la0 sh3 (by omega))
      rw [HA.out] at BG
      have BW := Lib.hid (B1.out.trans (BK.out.mono B1.out.size))
      have e3 := kp BW.out (blk_cellx HH.out.blk 3 _ rfl)
      cases hfi : findP old low (a0v + x + mv) P2 with
      | none =>
        have PF2 : Hid (placeP old low mv ⟨fa, la, fb, lb, ls⟩ fuzz = placeF old low mv ⟨fa, la, fb, lb, ls⟩ (fz + 1 - (F + 1)) (F + 1)) := Lib.hid (by rw [PF.out, hfi])
        have FD := Lib.hid (fun v W (hbl : Below w.heap.size w W) (hv : RowsAt W v 2 (P2.map rowL)) => find_any pb old P2 low mv (a0v + x + mv) (.slice oa n oc) vv v W ((hbl.block pb PL.out).trans HH.out.blk) (HH.out.rows.below hbl) hv (by rw [HN.out.2]; omega) (by have := PLN.out; omega) (by omega) (by omega))
        rw [hfi] at FD
        clear hfi
        go_wp2_with (first | (go_at_call 56; (with_reducible refine (TR.out _ BW.out).mono ?_); rintro _ _ ⟨v1, rfl, R1, rfl⟩; obtain ⟨a1, k1, e1, -⟩ := (R1.out _ HU.out.rows).sl rfl; obtain ⟨m1, hm1⟩ : ∃ m, (T.map rowD).length = m := ⟨_, rfl⟩; rw [hm1] at e1; clear hm1; subst e1) | (go_at_call 49; (with_reducible refine (SD2.out _ _ (R1.out _ (HU.out.rows.below BW.out))).mono ?_); rintro _ w3 ⟨v3, rfl, O3, B3⟩; have W3 := Lib.hid (BW.out.trans (B3.out.mono BW.out.size)); have d0 := kp B3.out d0; have d1 := kp B3.out d1; have e3 := kp B3.out e3; obtain ⟨a3, k3, e5⟩ := O3.out.sl; obtain ⟨m3, hm3⟩ : ∃ m, (P2.map rowL).length = m := ⟨_, rfl⟩; rw [hm3] at e5; have HM3 := Lib.hid hm3; clear hm3; subst e5) | (go_at_call 47; (with_reducible refine (BG.out _).mono ?_); rintro _ _ ⟨rfl, rfl⟩) | (go_at_call 57; (with_reducible refine (FD.out _ _ W3.out (O3.out.rows rowL_len)).mono ?_); rintro _ w4 ⟨rfl, B5⟩; have B4 := Lib.hid (B3.out.trans (B5.out.mono B3.out.size))))
        go_roundw
        case rel => exact ⟨F + 1, by go_num, by omega, PF2, Lib.hid (BK.out.trans (B4.out.mono BK.out.size))⟩
        case measure => simp [intOf]; omega
      | some t =>
        have ht := findP_fit hfi
        have PF2 : Hid (placeP old low mv ⟨fa, la, fb, lb, ls⟩ fuzz = some (t, t - (a0v + x), F)) := Lib.hid (by rw [PF.out, hfi])
        have FD : Hid (∀ v W (hbl : Below w.heap.size w W) (hv : RowsAt W v 2 (P2.map rowL)), Calls Tryd.prog 57 #[.pointer (some ⟨pb, 0, none⟩), v, .int .i64 (a0v + x + mv)] W fun e w' => e = .returned (.tuple #[.int .i64 (t : Int), .bool true]) ∧ Hid (Below W.heap.size W w')) := Lib.hid (fun v W hbl hv => (find_any pb old P2 low mv (a0v + x + mv) (.slice oa n oc) vv v W ((hbl.block pb PL.out).trans HH.out.blk) (HH.out.rows.below hbl) hv (by rw [HN.out.2]; omega) (by have := PLN.out; omega) (by omega) (by omega)).mono (fun e w' ⟨q1, q2⟩ => ⟨by rw [q1, hfi]; show _ = Ending.returned (.tuple #[.int .i64 (t : Int), .bool true]); rw [show decide (0 ≤ optI (some t)) = true from decide_eq_true (by show (0 : Int) ≤ (t : Int); omega)]; rfl, q2⟩))
        clear hfi
        rw [HN.out.2] at ht
        have ht1 := ht.1
        have ht2 := ht.2
        clear ht
        go_upto_region 9 with (first | (go_at_call 56; (with_reducible refine (TR.out _ BW.out).mono ?_); rintro _ _ ⟨v1, rfl, R1, rfl⟩; obtain ⟨a1, k1, e1, -⟩ := (R1.out _ HU.out.rows).sl rfl; obtain ⟨m1, hm1⟩ : ∃ m, (T.map rowD).length = m := ⟨_, rfl⟩; rw [hm1] at e1; clear hm1; subst e1) | (go_at_call 49; (with_reducible refine (SD2.out _ _ (R1.out _ (HU.out.rows.below BW.out))).mono ?_); rintro _ w3 ⟨v3, rfl, O3, B3⟩; have W3 := Lib.hid (BW.out.trans (B3.out.mono BW.out.size)); have d0 := kp B3.out d0; have d1 := kp B3.out d1; have e3 := kp B3.out e3; obtain ⟨a3, k3, e5⟩ := O3.out.sl; obtain ⟨m3, hm3⟩ : ∃ m, (P2.map rowL).length = m := ⟨_, rfl⟩; rw [hm3] at e5; have HM3 := Lib.hid hm3; clear hm3; subst e5) | (go_at_call 47; (with_reducible refine (BG.out _).mono ?_); rintro _ _ ⟨rfl, rfl⟩) | (go_at_call 57; (with_reducible refine (FD.out _ _ W3.out (O3.out.rows rowL_len)).mono ?_); rintro _ w4 ⟨rfl, B5⟩; have B4 := Lib.hid (B3.out.trans (B5.out.mono B3.out.size))))
        have B6 := Lib.hid (W3.out.trans (B5.out.mono W3.out.size))
        have H4 := Lib.hid (HH.out.keep B6.out)
        have H4D := Lib.hid (H4.out.keep (Below.refl w4.heap.size w4).drew)
        have KD := Lib.hid (KW.of (pb := pb) (Nat.le_of_lt H4.out.lt) (Below.refl w4.heap.size w4).drew)
        have PB4 : Hid (pb + 1 ≤ w4.heap.size) := Lib.hid H4.out.lt
        have c0 := blk_cellx H4.out.blk 0 _ rfl
        have c1 := blk_cellx H4.out.blk 1 _ rfl
        have c2 := blk_cellx H4.out.blk 2 _ rfl
        have q1 : (0 : Int) ≤ (low : Int) := by omega
        have q2 : (low : Int) ≤ (t : Int) := by omega
        have q3 : (t : Int) ≤ (oc : Int) := by omega
        obtain ⟨MO, hMO⟩ : ∃ M, (old.drop low).take (t - low) = M := ⟨_, rfl⟩
        have HMO := Lib.hid hMO
        have ML : Hid (MO.length ≤ 200000) := Lib.hid (by rw [← hMO, List.length_take, List.length_drop, HN.out.2]; omega)
        clear hMO e3 d0 d1 d4
        go_cut [] from 55 to 73 (fun w' => ∃ v5, Hid (WK pb (.slice oa n oc) v5 old (sout ++ MO) low mv w' ∧ KW pb w4 w'))
        · rcases (show (n = 0 ∧ oc = 0) ∨ ∃ g o, oa = some ⟨g, o, none⟩ from by
            rcases H4.out.rows with ⟨-, a2, h⟩ | ⟨g, o, c3, e, -⟩
            · cases h; exact .inl ⟨rfl, rfl⟩
            · cases e; exact .inr ⟨g, o, rfl⟩) with ⟨rfl, rfl⟩ | ⟨g, o, rfl⟩
          · obtain rfl : low = 0 := by omega
            obtain rfl : t = 0 := by omega
            have HS : Hid (RowsAt w4 (.slice oa 0 0) 2 (MO.map rowL)) := Lib.hid (.inl ⟨by rw [← HMO.out]; simp, _, rfl⟩)
            clear q1 q2 q3 ht1 ht2
            rcases oa with _ | b
            · go_region_law (first | (refine step_own3 rtP rfl (.tmp 59) (.tmp 69) rfl _ _ (sout.map rowL) (MO.map rowL) (pb + 1) _ H4.out.own HS.out rowL_len rowL_one PB4.out (by rw [List.length_map, List.length_map]; have h1 := SO.out; have h2 := ML.out; omega) (by first | rfl | (simp [Act.eval]; done) | (simp [Act.eval, Act.put]; done)) (by first | rfl | (simp [Act.eval]; done) | (simp [Act.eval, Act.put]; done)) ?_; intro v5 w5 own5 gr5; have PU := Lib.hid (WK.push (more := MO) H4D.out own5.out gr5.out); obtain ⟨a5, k5, e5⟩ := own5.out.sl; obtain ⟨m5, hm5⟩ : ∃ m, (sout.map rowL ++ MO.map rowL).length = m := ⟨_, rfl⟩; rw [hm5] at e5; clear hm5; subst e5; have cz := PU.out.2.2.1; have fz := PU.out.2.2.2))
              all_goals (go_wp2_with fail; go_meet; case rel => exact ⟨_, Lib.hid ⟨PU.out.1, KD.out.trans PU.out.2.1⟩⟩)
            · go_region_law (first | (refine step_own3 rtP rfl (.tmp 59) (.tmp 69) rfl _ _ (sout.map rowL) (MO.map rowL) (pb + 1) _ H4.out.own HS.out rowL_len rowL_one PB4.out (by rw [List.length_map, List.length_map]; have h1 := SO.out; have h2 := ML.out; omega) (by first | rfl | (simp [Act.eval]; done) | (simp [Act.eval, Act.put]; done)) (by first | rfl | (simp [Act.eval]; done) | (simp [Act.eval, Act.put]; done)) ?_; intro v5 w5 own5 gr5; have PU := Lib.hid (WK.push (more := MO) H4D.out own5.out gr5.out); obtain ⟨a5, k5, e5⟩ := own5.out.sl; obtain ⟨m5, hm5⟩ : ∃ m, (sout.map rowL ++ MO.map rowL).length = m := ⟨_, rfl⟩; rw [hm5] at e5; clear hm5; subst e5; have cz := PU.out.2.2.1; have fz := PU.out.2.2.2))
              all_goals (go_wp2_with fail; go_meet; case rel => exact ⟨_, Lib.hid ⟨PU.out.1, KD.out.trans PU.out.2.1⟩⟩)
          · by_cases hcx : oc = low
            · have HS := Lib.hid (RowsAt.upto (RowsAt.from H4.out.rows (by rw [List.length_map]; exact HN.out.2) low hlow _ (.inl ⟨hcx, rfl⟩)) (by rw [List.length_drop, List.length_map, HN.out.2]) (t - low) (by omega))
              rw [← List.map_drop, ← List.map_take, HMO.out] at HS
              obtain rfl : t = low := by omega
              rw [show oc - t = 0 by omega, Nat.sub_self] at HS
              go_region_law (first | (refine step_own3 rtP rfl (.tmp 59) (.tmp 69) rfl _ _ (sout.map rowL) (MO.map rowL) (pb + 1) _ H4.out.own HS.out rowL_len rowL_one PB4.out (by rw [List.length_map, List.length_map]; have h1 := SO.out; have h2 := ML.out; omega) (by first | rfl | (simp [Act.eval]; done) | (simp [Act.eval, Act.put]; done)) (by first | rfl | (simp [Act.eval]; done) | (simp [Act.eval, Act.put]; done)) ?_; intro v5 w5 own5 gr5; have PU := Lib.hid (WK.push (more := MO) H4D.out own5.out gr5.out); obtain ⟨a5, k5, e5⟩ := own5.out.sl; obtain ⟨m5, hm5⟩ : ∃ m, (sout.map rowL ++ MO.map rowL).length = m := ⟨_, rfl⟩; rw [hm5] at e5; clear hm5; subst e5; have cz := PU.out.2.2.1; have fz := PU.out.2.2.2))
              all_goals (go_wp2_with fail; go_meet; case rel => exact ⟨_, Lib.hid ⟨PU.out.1, KD.out.trans PU.out.2.1⟩⟩)
            · have HS := Lib.hid (RowsAt.upto (RowsAt.from H4.out.rows (by rw [List.length_map]; exact HN.out.2) low hlow _ (.inr rfl)) (by rw [List.length_drop, List.length_map, HN.out.2]) (t - low) (by omega))
              rw [← List.map_drop, ← List.map_take, HMO.out] at HS
              go_region_law (first | (refine step_own3 rtP rfl (.tmp 59) (.tmp 69) rfl _ _ (sout.map rowL) (MO.map rowL) (pb + 1) _ H4.out.own HS.out rowL_len rowL_one PB4.out (by rw [List.length_map, List.length_map]; have h1 := SO.out; have h2 := ML.out; omega) (by first | rfl | (simp [Act.eval]; done) | (simp [Act.eval, Act.put]; done)) (by first | rfl | (simp [Act.eval]; done) | (simp [Act.eval, Act.put]; done)) ?_; intro v5 w5 own5 gr5; have PU := Lib.hid (WK.push (more := MO) H4D.out own5.out gr5.out); obtain ⟨a5, k5, e5⟩ := own5.out.sl; obtain ⟨m5, hm5⟩ : ∃ m, (sout.map rowL ++ MO.map rowL).length = m := ⟨_, rfl⟩; rw [hm5] at e5; clear hm5; subst e5; have cz := PU.out.2.2.1; have fz := PU.out.2.2.2))
              all_goals (go_wp2_with fail; go_meet; case rel => exact ⟨_, Lib.hid ⟨PU.out.1, KD.out.trans PU.out.2.1⟩⟩)
        obtain ⟨v5, H5⟩ := hcut
        have H6 := Lib.hid H5.out.1
        have K46 : Hid (KW pb w wc) := Lib.hid ((KW.of (Nat.le_of_lt PL.out) B6.out).trans H5.out.2)
        have O6 := Lib.hid (HU.out.kw K46.out)
        have ZB : Hid (wc.heap[w.heap.size + 1]? = some (.cells #[.int .i64 0, .int .i64 0, .int .i64 0] 44 (0, 0))) := Lib.hid (H5.out.2.other _ _ _ _ (by decide) (by have := PL.out; omega) ((B4.out.block _ (by have := (BK.out.block _ (Array.getElem?_eq_some_iff.1 Z1.out).1).trans Z1.out; exact (Array.getElem?_eq_some_iff.1 this).1)).trans ((BK.out.block _ (Array.getElem?_eq_some_iff.1 Z1.out).1).trans Z1.out)))
        clear c0 c1 c2
        go_upto_region 10 with (fail)
        go_cut [] from 73 to 83 (fun w' => ∃ v8, Hid (WK pb (.slice oa n oc) v8 old (sout ++ MO ++ P3) low mv w' ∧ KW pb wc w'))
        · have c1 := blk_cellx H6.out.blk 1 _ rfl
          go_region_law (first | (go_simp; go_at_call 49; refine (SD3.out _ _ (R1.out _ (O6.out.rows.below (Below.refl _ _).drew))).mono ?_; rintro _ w7 ⟨v7, rfl, O7, B7⟩; have B67 := Lib.hid ((Below.refl wc.heap.size wc).drew.trans (B7.out.mono (Below.refl wc.heap.size wc).drew.size)); have H7 := Lib.hid (H6.out.keep B67.out); have K67 := Lib.hid (KW.of (pb := pb) (Nat.le_of_lt H6.out.lt) B67.out); have PB7 : Hid (pb + 1 ≤ w7.heap.size) := Lib.hid H7.out.lt; have c1 := blk_cellx H7.out.blk 1 _ rfl; obtain ⟨a7, k7, e7⟩ := O7.out.sl; obtain ⟨m7, hm7⟩ : ∃ m, (P3.map rowL).length = m := ⟨_, rfl⟩; rw [hm7] at e7; clear hm7; subst e7) | (refine step_own3 rtP rfl (.tmp 77) (.tmp 79) rfl _ _ ((sout ++ MO).map rowL) (P3.map rowL) (pb + 1) _ H7.out.own (O7.out.rows rowL_len) rowL_len rowL_one PB7.out (by rw [List.length_map, List.length_map, List.length_append]; have h1 := SO.out; have h2 := ML.out; have h3 := PLM.out; omega) (by first | rfl | (simp [Act.eval]; done) | (simp [Act.eval, Act.put]; done)) (by first | rfl | (simp [Act.eval]; done) | (simp [Act.eval, Act.put]; done)) ?_; intro v8 w8 own8 gr8; have PU := Lib.hid (WK.push (more := P3) H7.out own8.out gr8.out); obtain ⟨a8, k8, e8⟩ := own8.out.sl; obtain ⟨m8, hm8⟩ : ∃ m, ((sout ++ MO).map rowL ++ P3.map rowL).length = m := ⟨_, rfl⟩; rw [hm8] at e8; clear hm8; subst e8; have cz := PU.out.2.2.1; have fz := PU.out.2.2.2))
          all_goals (go_wp2_with fail; go_meet; case rel => exact ⟨_, Lib.hid ⟨PU.out.1, K67.out.trans PU.out.2.1⟩⟩)
        obtain ⟨v8, H8⟩ := hcut
        have ZB8 := Lib.hid (H8.out.2.other _ _ _ _ (by decide) (by have := PL.out; omega) ZB.out)
        have K8 := Lib.hid (K46.out.trans H8.out.2)
        have m3le : m3 ≤ 1000 := by have := HM3.out; rw [List.length_map] at this; have := PLN.out; omega
        go_upto_region 11 with (fail)
        go_cut [] from 83 to 96 (fun w' => Hid (WK pb (.slice oa n oc) v8 old (sout ++ MO ++ P3) (t + m3) (t - (a0v + x)) w' ∧ KW pb wc w'))
        · have c2 := blk_cellx H8.out.1.blk 2 _ rfl
          have c3 := blk_cellx H8.out.1.blk 3 _ rfl
          have f2 : wc.frozen? ⟨pb, 2, none⟩ = false := by have := H8.out.1.blk; simp [World.frozen?, this]
          have f3 : wc.frozen? ⟨pb, 3, none⟩ = false := by have := H8.out.1.blk; simp [World.frozen?, this]
          have N := Lib.hid (H8.out.1.place ((t : Int) + (m3 : Int)) ((t : Int) - (a0v + (x : Int))) (t + m3) (by omega))
          go_wp2_with fail
          go_meet
          case rel => exact N
        have H9 := hcut
        have ZB9 := Lib.hid (H9.out.2.other _ _ _ _ (by decide) (by have := PL.out; omega) ZB8.out)
        have K9 := Lib.hid (K8.out.trans H9.out.2)
        clear hcut
        have c0 := blk_cellx ZB9.out 0 _ rfl
        have c1 := blk_cellx ZB9.out 1 _ rfl
        have c2 := blk_cellx ZB9.out 2 _ rfl
        have f0 : wc.frozen? ⟨w.heap.size + 1, 0, none⟩ = false := by have := ZB9.out; simp [World.frozen?, this]
        have f1 : wc.frozen? ⟨w.heap.size + 1, 1, none⟩ = false := by have := ZB9.out; simp [World.frozen?, this]
        have f2 : wc.frozen? ⟨w.heap.size + 1, 2, none⟩ = false := by have := ZB9.out; simp [World.frozen?, this]
        go_wp2_with fail
        obtain ⟨r0, r1, r2⟩ := three_set (.int .i64 ((t : Int) + 1)) (.int .i64 ((t : Int) - (a0v + (x : Int)))) (.int .i64 (F : Int)) c0 c1 c2
        have ES : Hid (stepP old fuzz ⟨sout, low, mv, spl, sbad⟩ ⟨fa, la, fb, lb, ls⟩ = ⟨sout ++ MO ++ P3, t + m3, t - (a0v + x), spl ++ [((t : Int) + 1, (t : Int) - (a0v + (x : Int)), (F : Int))], sbad⟩) := Lib.hid (by
          unfold stepP
          rw [PF2.out]
          simp only [HX.out.2, HP2.out, HP3.out, HMO.out]
          rw [← HM3.out, List.length_map])
        refine bodyPost_ret (v := .tuple #[.agg #[.int .i64 ((t : Int) + 1), .int .i64 ((t : Int) - (a0v + (x : Int))), .int .i64 (F : Int)], .bool true]) (by simp [results, Tryd.results28, go_sem, r0, r1, r2]) rfl ⟨v8, ((t : Int) + 1, (t : Int) - (a0v + (x : Int)), (F : Int)), true, rfl, Lib.hid ?_, Lib.hid ?_, Lib.hid (K9.out.sets (by omega) (by have := PL.out; omega) _ _ _)⟩
        · rw [ES.out]; exact ⟨rfl, by simp⟩
        · rw [ES.out]; exact H9.out.1.sets ZB9.out (by have := PL.out; omega) _ _ _
end Go.Proofs.YtnkpigibjicmaaaDoor
