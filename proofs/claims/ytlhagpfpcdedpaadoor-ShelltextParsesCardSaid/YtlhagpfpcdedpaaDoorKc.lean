/- walks: the reference's word, Next (written by gen_kc.py) -/
import Derived.Test.YtlhagpfpcdedpaaDoorKb
import Derived.Test.YtlhagpfpcdedpaaDoorHj
namespace Go.Proofs.YtlhagpfpcdedpaaDoor
open Go.RowKit
open Shp
/-- what Next returns, for a state: the token's cells, the offset behind it, the fault -/
def NxR : St → Array Value → Int → Int → Int → Prop
  | .run t a, tk, af, er, po => tk = #[.int .i64 t.k, .string ⟨t.t.toArray⟩, .bool t.b, .int .i64 t.a] ∧ af = a ∧ er = 0 ∧ po = 0
  | .bad e q, tk, _, er, po => (∃ k x b a, tk = #[.int .i64 k, .string x, .bool b, .int .i64 a]) ∧ er = e ∧ po = q
/-- what word returns -/
def wordV (s : ByteArray) (a : Nat) : Value :=
  match wordS s a with
  | .run t n => .tuple #[.agg #[.int .i64 t.k, .string ⟨t.t.toArray⟩, .bool t.b, .int .i64 t.a], .int .i64 n, .agg #[.int .i64 0, .int .i64 0]]
  | .bad e q => .tuple #[.agg #[.int .i64 1, .string ⟨(wdS s (a, [])).2.toArray⟩, .bool false, .int .i64 (a : Int)], .int .i64 q, .agg #[.int .i64 e, .int .i64 q]]
theorem wordV_is (s : ByteArray) (a : Nat) : ∃ (q0 : Int) (q1 : ByteArray) (q2 : Bool) (q3 af er po : Int), wordV s a = .tuple #[.agg #[.int .i64 q0, .string q1, .bool q2, .int .i64 q3], .int .i64 af, .agg #[.int .i64 er, .int .i64 po]] ∧ NxR (wordS s a) #[.int .i64 q0, .string q1, .bool q2, .int .i64 q3] af er po := by
  unfold wordV
  cases h : wordS s a with
  | run t n => exact ⟨_, _, _, _, _, _, _, rfl, rfl, rfl, rfl, rfl⟩
  | bad e q => exact ⟨_, _, _, _, _, _, _, rfl, ⟨_, _, _, _, rfl⟩, rfl, rfl⟩
theorem bel_sw {w w' w2 : World} (h : Below w.heap.size w w2) (e : w.heap = w'.heap) (e1 : w.os = w'.os := by rfl) (e2 : w.tape = w'.tape := by rfl) (e3 : w.output = w'.output := by rfl) : Below w'.heap.size w' w2 := by
  obtain ⟨q1, q2, q3, q4, q5⟩ := h
  exact ⟨q1.trans e1, q2.trans e2, q3.trans e3, by rw [← e]; exact q4, fun i hi => by rw [← e]; exact q5 i (by rw [e]; exact hi)⟩
theorem bytes_app (l m : List UInt8) : (ByteArray.mk l.toArray ++ ByteArray.mk m.toArray) = ByteArray.mk (l ++ m).toArray := by
  have h : (ByteArray.mk l.toArray ++ ByteArray.mk m.toArray).data.toList = l ++ m := by simp
  generalize ByteArray.mk l.toArray ++ ByteArray.mk m.toArray = t at h
  obtain ⟨⟨k⟩⟩ := t
  simp only at h
  rw [h]
/-- the blocks of word: the two results', and the token -/
structure WB (w : World) (tx : ByteArray) (mk : Bool) (a : Nat) (wr : World) : Prop where
  r : wr.heap[w.heap.size]? = some (.cells #[.int .i64 0, .string ⟨#[]⟩, .bool false, .int .i64 0] 54 (0, 0))
  f : wr.heap[w.heap.size + 1]? = some (.cells #[.int .i64 0, .int .i64 0] 56 (0, 0))
  t : wr.heap[w.heap.size + 1 + 1]? = some (.cells #[.int .i64 1, .string tx, .bool mk, .int .i64 (a : Int)] 54 (0, 0))
  b : Below w.heap.size w wr
section
variable {w wr w2 : World} {tx : ByteArray} {mk : Bool} {a : Nat}
theorem WB.cells (h : WB w tx mk a wr) : wr.cell? ⟨w.heap.size + 1 + 1, 0, none⟩ = some (.int .i64 1) ∧ wr.cell? ⟨w.heap.size + 1 + 1, 1, none⟩ = some (.string tx) ∧ wr.cell? ⟨w.heap.size + 1 + 1, 2, none⟩ = some (.bool mk) ∧ wr.cell? ⟨w.heap.size + 1 + 1, 3, none⟩ = some (.int .i64 (a : Int)) :=
  ⟨blk_cell h.t 0, blk_cell h.t 1, blk_cell h.t 2, blk_cell h.t 3⟩
theorem WB.rcells (h : WB w tx mk a wr) : wr.cell? ⟨w.heap.size, 0, none⟩ = some (.int .i64 0) ∧ wr.cell? ⟨w.heap.size, 1, none⟩ = some (.string ⟨#[]⟩) ∧ wr.cell? ⟨w.heap.size, 2, none⟩ = some (.bool false) ∧ wr.cell? ⟨w.heap.size, 3, none⟩ = some (.int .i64 0) ∧ wr.cell? ⟨w.heap.size + 1, 0, none⟩ = some (.int .i64 0) ∧ wr.cell? ⟨w.heap.size + 1, 1, none⟩ = some (.int .i64 0) :=
  ⟨blk_cell h.r 0, blk_cell h.r 1, blk_cell h.r 2, blk_cell h.r 3, blk_cell h.f 0, blk_cell h.f 1⟩
theorem WB.fr (h : WB w tx mk a wr) (i : Nat) : wr.frozen? ⟨w.heap.size + 1 + 1, i, none⟩ = false := blk_frozen h.t i
theorem WB.frr (h : WB w tx mk a wr) (i : Nat) : wr.frozen? ⟨w.heap.size, i, none⟩ = false := blk_frozen h.r i
theorem WB.frf (h : WB w tx mk a wr) (i : Nat) : wr.frozen? ⟨w.heap.size + 1, i, none⟩ = false := blk_frozen h.f i
theorem WB.below (h : WB w tx mk a wr) (hb : Below wr.heap.size wr w2) : WB w tx mk a w2 := by
  have l1 := (Array.getElem?_eq_some_iff.1 h.t).1
  exact ⟨(hb.block _ (by omega)).trans h.r, (hb.block _ (by omega)).trans h.f, (hb.block _ l1).trans h.t, h.b.trans (hb.mono h.b.size)⟩
theorem WB.drew (h : WB w tx mk a wr) : WB w tx mk a wr.drew := ⟨h.r, h.f, h.t, h.b.drew⟩
theorem WB.text (h : WB w tx mk a wr) (u : ByteArray) : WB w u mk a (wr.setCell ⟨w.heap.size + 1 + 1, 1, none⟩ (.string u)) :=
  ⟨(Below.heap_setCell _ _ _ _ (by simp; omega)).trans h.r, (Below.heap_setCell _ _ _ _ (by simp)).trans h.f, by rw [set_at h.t]; rfl, h.b.setCell (by simp; omega) _⟩
theorem WB.mark (h : WB w tx mk a wr) (m : Bool) : WB w tx m a (wr.setCell ⟨w.heap.size + 1 + 1, 2, none⟩ (.bool m)) :=
  ⟨(Below.heap_setCell _ _ _ _ (by simp; omega)).trans h.r, (Below.heap_setCell _ _ _ _ (by simp)).trans h.f, by rw [set_at h.t]; rfl, h.b.setCell (by simp; omega) _⟩
/-- the world with the two results laid -/
abbrev wresW (g : Nat) (w : World) (a b c d e f : Value) : World := ((resW g w a b c d).setCell ⟨g + 1, 0, none⟩ e).setCell ⟨g + 1, 1, none⟩ f
theorem wres_cells (h : WB w tx mk a wr) (x0 x1 x2 x3 x4 x5 : Value) :
    (wresW w.heap.size wr x0 x1 x2 x3 x4 x5).cell? ⟨w.heap.size, 0, none⟩ = some x0 ∧ (wresW w.heap.size wr x0 x1 x2 x3 x4 x5).cell? ⟨w.heap.size, 1, none⟩ = some x1 ∧ (wresW w.heap.size wr x0 x1 x2 x3 x4 x5).cell? ⟨w.heap.size, 2, none⟩ = some x2 ∧ (wresW w.heap.size wr x0 x1 x2 x3 x4 x5).cell? ⟨w.heap.size, 3, none⟩ = some x3 ∧
    (wresW w.heap.size wr x0 x1 x2 x3 x4 x5).cell? ⟨w.heap.size + 1, 0, none⟩ = some x4 ∧ (wresW w.heap.size wr x0 x1 x2 x3 x4 x5).cell? ⟨w.heap.size + 1, 1, none⟩ = some x5 := by
  have hr : (resW w.heap.size wr x0 x1 x2 x3).heap[w.heap.size]? = some (.cells #[x0, x1, x2, x3] 54 (0, 0)) := set_at (set_at (set_at (set_at h.r)))
  have hr2 : (wresW w.heap.size wr x0 x1 x2 x3 x4 x5).heap[w.heap.size]? = some (.cells #[x0, x1, x2, x3] 54 (0, 0)) := (set_other (by omega)).trans ((set_other (by omega)).trans hr)
  have hf : (resW w.heap.size wr x0 x1 x2 x3).heap[w.heap.size + 1]? = some (.cells #[.int .i64 0, .int .i64 0] 56 (0, 0)) := (resW_other (by omega)).trans h.f
  have hf2 : (wresW w.heap.size wr x0 x1 x2 x3 x4 x5).heap[w.heap.size + 1]? = some (.cells #[x4, x5] 56 (0, 0)) := set_at (set_at hf)
  exact ⟨blk_cell hr2 0, blk_cell hr2 1, blk_cell hr2 2, blk_cell hr2 3, blk_cell hf2 0, blk_cell hf2 1⟩
theorem wres_bel (h : WB w tx mk a wr) (x0 x1 x2 x3 x4 x5 : Value) : Below w.heap.size w (wresW w.heap.size wr x0 x1 x2 x3 x4 x5) :=
  (((((h.b.setCell (Nat.le_refl _) _).setCell (Nat.le_refl _) _).setCell (Nat.le_refl _) _).setCell (Nat.le_refl _) _).setCell (by simp) _).setCell (by simp) _
end
set_option maxRecDepth 100000 in
set_option maxHeartbeats 8000000 in
theorem rword_any (s : ByteArray) (a : Nat) (w : World) (hs : s.size ≤ 8192) (ha : a < s.size) :
    Calls Tryd.prog 63 #[.string s, .int .i64 (a : Int)] w fun e w' => e = .returned (wordV s a) ∧ Hid (Below w.heap.size w w') := by
  have X0 : Hid (WB w ⟨#[]⟩ false a (((w.alloc (.cells #[.int .i64 0, .string ⟨#[]⟩, .bool false, .int .i64 0] 54)).alloc (.cells #[.int .i64 0, .int .i64 0] 56)).alloc (.cells #[.int .i64 1, .string ⟨#[]⟩, .bool false, .int .i64 (a : Int)] 54))) := Lib.hid (by
    have b1 := (Below.refl w.heap.size w).alloc (Nat.le_refl _) (.cells #[.int .i64 0, .string ⟨#[]⟩, .bool false, .int .i64 0] 54)
    have b2 := b1.alloc (by simp) (.cells #[.int .i64 0, .int .i64 0] 56)
    have b3 := b2.alloc (by simp; omega) (.cells #[.int .i64 1, .string ⟨#[]⟩, .bool false, .int .i64 (a : Int)] 54)
    have h2 := heap_alloc_new (w.alloc (.cells #[.int .i64 0, .string ⟨#[]⟩, .bool false, .int .i64 0] 54)) (.cells #[.int .i64 0, .int .i64 0] 56)
    have h3 := heap_alloc_new ((w.alloc (.cells #[.int .i64 0, .string ⟨#[]⟩, .bool false, .int .i64 0] 54)).alloc (.cells #[.int .i64 0, .int .i64 0] 56)) (.cells #[.int .i64 1, .string ⟨#[]⟩, .bool false, .int .i64 (a : Int)] 54)
    rw [show (w.alloc (.cells #[.int .i64 0, .string ⟨#[]⟩, .bool false, .int .i64 0] 54)).heap.size = w.heap.size + 1 by simp] at h2
    rw [show ((w.alloc (.cells #[.int .i64 0, .string ⟨#[]⟩, .bool false, .int .i64 0] 54)).alloc (.cells #[.int .i64 0, .int .i64 0] 56)).heap.size = w.heap.size + 1 + 1 by simp] at h3
    exact ⟨(heap_alloc_old _ _ (by simp; omega)).trans ((heap_alloc_old _ _ (by simp)).trans (heap_alloc_new w _)), (heap_alloc_old _ _ (by simp)).trans h2, h3, b3⟩)
  go_enter Tryd.func63, Tryd.ntmps63
  go_wp2_with (fail)
  repeat (go_region; go_wp2_with (fail))
  go_loopw [8] (fun v wr => ∃ (i : Nat) (l : List UInt8), v = .int .i64 i ∧ a ≤ i ∧ i ≤ s.size ∧ Hid (wdS s (i, l) = wdS s (a, [])) ∧ Hid (l.length ≤ i) ∧ Hid (WB w ⟨l.toArray⟩ false a wr)) (fun v _ => s.size - (intOf v).toNat)
  case atStart => exact ⟨a, [], rfl, Nat.le_refl _, Nat.le_of_lt ha, Lib.hid rfl, Lib.hid (Nat.zero_le _), X0⟩
  case round =>
    obtain ⟨i, l, rfl, ai, is, WD, LL, X⟩ := hrel
    clear X0
    obtain ⟨c0, c1, c2, c3⟩ := X.out.cells
    obtain ⟨r0, r1, r2, r3, r4, r5⟩ := X.out.rcells
    have f1 := X.out.fr 1
    have f2 := X.out.fr 2
    have g0 := X.out.frr 0
    have g1 := X.out.frr 1
    have g2 := X.out.frr 2
    have g3 := X.out.frr 3
    have g4 := X.out.frf 0
    have g5 := X.out.frf 1
    by_cases hlt : i < s.size
    · obtain ⟨c, hc⟩ : ∃ c, s[i] = c := ⟨_, rfl⟩
      have AC : Hid (at? s i = some c) := Lib.hid (by rw [at_lt hlt, hc])
      obtain ⟨sp, hsp⟩ : ∃ b, spB c = b := ⟨_, rfl⟩
      have SPH := Lib.hid hsp
      clear hsp
      cases sp with
      | true =>
        obtain ⟨u, hu⟩ : ∃ u, s.extract a i = u := ⟨_, rfl⟩
        obtain ⟨B, hB⟩ : ∃ B, (u.toList == [33]) = B := ⟨_, rfl⟩
        have WR : Hid (wordS s a = .run ⟨1, l, B, a⟩ i) := Lib.hid (by
          have e := wdS_none (s := s) (x := (i, l)) (by unfold wd1; simp only [AC.out]; rw [if_pos SPH.out])
          rw [WD.out] at e
          unfold wordS
          rw [e]; simp only [AC.out]; rw [if_pos SPH.out, ← hB, ← hu, bang_ext])
        go_wp2_with ((go_at_call 71; with_reducible refine (rspecial_any c _ (by first | rfl | simp) _ SPH).mono ?_; rintro _ _ ⟨rfl, rfl⟩))
        repeat (go_region; go_wp2_with ((go_at_call 71; with_reducible refine (rspecial_any c _ (by first | rfl | simp) _ SPH).mono ?_; rintro _ _ ⟨rfl, rfl⟩)))
        have XM := Lib.hid (X.out.mark B)
        (try simp only [Exit.inBlock, Exit.then])
        obtain ⟨z0, z1, z2, z3, z4, z5⟩ := wres_cells XM.out (.int .i64 1) (.string ⟨l.toArray⟩) (.bool B) (.int .i64 (a : Int)) (.int .i64 0) (.int .i64 0)
        refine bodyPost_ret (v := .tuple #[.agg #[.int .i64 1, .string ⟨l.toArray⟩, (.bool B), .int .i64 (a : Int)], .int .i64 (i : Int), .agg #[.int .i64 0, .int .i64 0]]) (by simp [results, Tryd.results63, go_sem, z0, z1, z2, z3, z4, z5]) rfl ⟨by rw [show wordV s a = _ from by unfold wordV; rw [WR.out]]; rfl, Lib.hid (wres_bel XM.out _ _ _ _ _ _)⟩
      | false =>
        cases hp : Shp.part s i with
        | none =>
          have PH : Hid (retP (Shp.part s i) = .tuple #[.string ⟨#[]⟩, .int .i64 (-1)]) := Lib.hid (by rw [hp]; rfl)
          have WR : Hid (wordS s a = .bad 1 i) := Lib.hid (by
            have e := wdS_none (s := s) (x := (i, l)) (by unfold wd1; simp only [AC.out]; rw [if_neg (by rw [SPH.out]; decide), hp]; rfl)
            rw [WD.out] at e
            unfold wordS
            rw [e]; simp only [AC.out]; rw [if_neg (by rw [SPH.out]; decide)])
          have WX : Hid ((wdS s (a, [])).2 = l) := Lib.hid (by
            have e := wdS_none (s := s) (x := (i, l)) (by unfold wd1; simp only [AC.out]; rw [if_neg (by rw [SPH.out]; decide), hp]; rfl)
            rw [WD.out] at e
            rw [e])
          clear hp
          go_wp2_with ((first | (go_at_call 71; with_reducible refine (rspecial_any c _ (by first | rfl | simp) _ SPH).mono ?_; rintro _ _ ⟨rfl, rfl⟩) | (go_at_call 72; with_reducible refine (rpart_any s i _ hs hlt PH).mono ?_; rintro _ w1 ⟨rfl, B1⟩; have X1 := Lib.hid (X.out.below (bel_sw B1.out rfl)); obtain ⟨c0, c1, c2, c3⟩ := X1.out.cells; have f1 := X1.out.fr 1; obtain ⟨r0, r1, r2, r3, r4, r5⟩ := X1.out.rcells; have g0 := X1.out.frr 0; have g1 := X1.out.frr 1; have g2 := X1.out.frr 2; have g3 := X1.out.frr 3; have g4 := X1.out.frf 0; have g5 := X1.out.frf 1)))
          repeat (go_region; go_wp2_with ((first | (go_at_call 71; with_reducible refine (rspecial_any c _ (by first | rfl | simp) _ SPH).mono ?_; rintro _ _ ⟨rfl, rfl⟩) | (go_at_call 72; with_reducible refine (rpart_any s i _ hs hlt PH).mono ?_; rintro _ w1 ⟨rfl, B1⟩; have X1 := Lib.hid (X.out.below (bel_sw B1.out rfl)); obtain ⟨c0, c1, c2, c3⟩ := X1.out.cells; have f1 := X1.out.fr 1; obtain ⟨r0, r1, r2, r3, r4, r5⟩ := X1.out.rcells; have g0 := X1.out.frr 0; have g1 := X1.out.frr 1; have g2 := X1.out.frr 2; have g3 := X1.out.frr 3; have g4 := X1.out.frf 0; have g5 := X1.out.frf 1))))
          (try simp only [Exit.inBlock, Exit.then])
          obtain ⟨z0, z1, z2, z3, z4, z5⟩ := wres_cells X1.out (.int .i64 1) (.string ⟨l.toArray⟩) (.bool false) (.int .i64 (a : Int)) (.int .i64 1) (.int .i64 (i : Int))
          refine bodyPost_ret (v := .tuple #[.agg #[.int .i64 1, .string ⟨l.toArray⟩, (.bool false), .int .i64 (a : Int)], .int .i64 (i : Int), .agg #[.int .i64 1, .int .i64 (i : Int)]]) (by simp [results, Tryd.results63, go_sem, z0, z1, z2, z3, z4, z5]) rfl ⟨by rw [show wordV s a = _ from by unfold wordV; rw [WR.out]]; simp only; rw [WX.out], Lib.hid (wres_bel X1.out _ _ _ _ _ _)⟩
        | some x =>
          obtain ⟨x1, x2⟩ := x
          have PH : Hid (retP (Shp.part s i) = .tuple #[.string ⟨x1.toArray⟩, .int .i64 (x2 : Int)]) := Lib.hid (by rw [hp]; rfl)
          have ST : Hid (wd1 s (i, l) = some (x2, l ++ x1)) := Lib.hid (by unfold wd1; simp only [AC.out]; rw [if_neg (by rw [SPH.out]; decide), hp]; rfl)
          have LT := part_lt hp
          simp only at LT
          have LN := Lib.hid (wd1_len (x := (i, l)) LL.out ST.out)
          have L1 := LL.out
          have L2 := LN.out
          simp only [List.length_append] at L1 L2
          have k1 : (ByteArray.mk l.toArray).size = l.length := by simp [ByteArray.size]
          have k2 : (ByteArray.mk x1.toArray).size = x1.length := by simp [ByteArray.size]
          have k3 : (ByteArray.mk l.toArray).size + (ByteArray.mk x1.toArray).size ≤ 8192 := by omega
          clear hp L1 L2 k1 k2
          go_wp2_with ((first | (go_at_call 71; with_reducible refine (rspecial_any c _ (by first | rfl | simp) _ SPH).mono ?_; rintro _ _ ⟨rfl, rfl⟩) | (go_at_call 72; with_reducible refine (rpart_any s i _ hs hlt PH).mono ?_; rintro _ w1 ⟨rfl, B1⟩; have X1 := Lib.hid (X.out.below (bel_sw B1.out rfl)); obtain ⟨c0, c1, c2, c3⟩ := X1.out.cells; have f1 := X1.out.fr 1; obtain ⟨r0, r1, r2, r3, r4, r5⟩ := X1.out.rcells; have g0 := X1.out.frr 0; have g1 := X1.out.frr 1; have g2 := X1.out.frr 2; have g3 := X1.out.frr 3; have g4 := X1.out.frf 0; have g5 := X1.out.frf 1)))
          repeat (go_region; go_wp2_with ((first | (go_at_call 71; with_reducible refine (rspecial_any c _ (by first | rfl | simp) _ SPH).mono ?_; rintro _ _ ⟨rfl, rfl⟩) | (go_at_call 72; with_reducible refine (rpart_any s i _ hs hlt PH).mono ?_; rintro _ w1 ⟨rfl, B1⟩; have X1 := Lib.hid (X.out.below (bel_sw B1.out rfl)); obtain ⟨c0, c1, c2, c3⟩ := X1.out.cells; have f1 := X1.out.fr 1; obtain ⟨r0, r1, r2, r3, r4, r5⟩ := X1.out.rcells; have g0 := X1.out.frr 0; have g1 := X1.out.frr 1; have g2 := X1.out.frr 2; have g3 := X1.out.frr 3; have g4 := X1.out.frf 0; have g5 := X1.out.frf 1))))
          go_roundw
          case rel => exact ⟨x2, l ++ x1, by go_num, by omega, by omega, Lib.hid (by rw [← WD.out]; exact (wdS_step ST.out).symm), LN, Lib.hid (by have h := X1.out.text (⟨l.toArray⟩ ++ ⟨x1.toArray⟩); have e : (ByteArray.mk l.toArray ++ ByteArray.mk x1.toArray) = ByteArray.mk (l ++ x1).toArray := bytes_app l x1; rw [e] at h ⊢; exact h)⟩
          case measure => simp [intOf]; omega
    · obtain rfl : i = s.size := by omega
      obtain ⟨u, hu⟩ : ∃ u, s.extract a s.size = u := ⟨_, rfl⟩
      obtain ⟨B, hB⟩ : ∃ B, (u.toList == [33]) = B := ⟨_, rfl⟩
      have WR : Hid (wordS s a = .run ⟨1, l, B, a⟩ s.size) := Lib.hid (by
        have e := wdS_none (s := s) (x := (s.size, l)) (by unfold wd1; simp only [at_ge (Nat.le_refl _)])
        rw [WD.out] at e
        unfold wordS
        rw [e]; simp only [at_ge (Nat.le_refl _)]; rw [← hB, ← hu, bang_ext])
      go_wp2_with (fail)
      repeat (go_region; go_wp2_with (fail))
      have XM := Lib.hid (X.out.mark B)
      (try simp only [Exit.inBlock, Exit.then])
      obtain ⟨z0, z1, z2, z3, z4, z5⟩ := wres_cells XM.out (.int .i64 1) (.string ⟨l.toArray⟩) (.bool B) (.int .i64 (a : Int)) (.int .i64 0) (.int .i64 0)
      refine bodyPost_ret (v := .tuple #[.agg #[.int .i64 1, .string ⟨l.toArray⟩, (.bool B), .int .i64 (a : Int)], .int .i64 (s.size : Int), .agg #[.int .i64 0, .int .i64 0]]) (by simp [results, Tryd.results63, go_sem, z0, z1, z2, z3, z4, z5]) rfl ⟨by rw [show wordV s a = _ from by unfold wordV; rw [WR.out]]; rfl, Lib.hid (wres_bel XM.out _ _ _ _ _ _)⟩
end Go.Proofs.YtlhagpfpcdedpaaDoor
