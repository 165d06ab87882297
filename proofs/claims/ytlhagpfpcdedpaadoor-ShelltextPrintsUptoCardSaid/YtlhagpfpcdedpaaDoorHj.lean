/- walks: the parser's command (written by gen_hj.py) -/
import Derived.Test.YtlhagpfpcdedpaaDoorHi
namespace Go.Proofs.YtlhagpfpcdedpaaDoor
open Go.RowKit
open Shp
theorem CO.cells {g B : Nat} {c : Cm} {va vr : Value} {w : World} (h : CO g B c va vr w) : w.cell? ⟨g, 0, none⟩ = some (.string ⟨c.name.toArray⟩) ∧ w.cell? ⟨g, 1, none⟩ = some va ∧ w.cell? ⟨g, 2, none⟩ = some vr ∧ w.cell? ⟨g, 3, none⟩ = some (.int .i64 c.at_) :=
  ⟨blk_cell h.blk 0, blk_cell h.blk 1, blk_cell h.blk 2, blk_cell h.blk 3⟩
theorem own_slice {w : World} {B : Nat} {e : TypeId} {k : Nat} {v : Value} {n : Nat} {xs : List Value} (h : w.ownsRow B e k v n xs) : ∃ a n m, v = .slice a n m := by
  obtain ⟨_, h2⟩ := h
  rcases h2 with ⟨rfl, _⟩ | ⟨g, cap, cur, rfl, _⟩
  · exact ⟨_, _, _, rfl⟩
  · exact ⟨_, _, _, rfl⟩
/-- the block of the result -/
def RB (g : Nat) (w : World) : Prop := w.heap[g]? = some (.cells #[.string ⟨#[]⟩, .slice none 0 0, .slice none 0 0, .int .i64 0] 40 (0, 0))
theorem RB.same {g : Nat} {w w' : World} (h : RB g w) (e : w'.heap = w.heap) : RB g w' := by unfold RB at *; rw [e]; exact h
theorem RB.gr {g p : Nat} {w w' : World} (h : RB g w) (hg : Gr p w w') (hne : g ≠ p) : RB g w' := by
  obtain ⟨q1, q2, q3, q4, q5⟩ := hg
  unfold RB at *
  rw [q5 g (Array.getElem?_eq_some_iff.1 h).1 (fun e => hne (by cases e; rfl))]; exact h
theorem RB.set {g : Nat} {w : World} (h : RB g w) (a b c d : Value) : ((((w.setCell ⟨g, 0, none⟩ a).setCell ⟨g, 1, none⟩ b).setCell ⟨g, 2, none⟩ c).setCell ⟨g, 3, none⟩ d).heap[g]? = some (.cells #[a, b, c, d] 40 (0, 0)) :=
  set_at (set_at (set_at (set_at h)))
/-- the world with the result laid in block g -/
abbrev resW (g : Nat) (w : World) (a b c d : Value) : World := (((w.setCell ⟨g, 0, none⟩ a).setCell ⟨g, 1, none⟩ b).setCell ⟨g, 2, none⟩ c).setCell ⟨g, 3, none⟩ d
theorem resW_other {g i : Nat} {w : World} {a b c d : Value} (h : i ≠ g) : (resW g w a b c d).heap[i]? = w.heap[i]? :=
  (set_other h).trans ((set_other h).trans ((set_other h).trans (set_other h)))
theorem cw_four {p g : Nat} {s : ByteArray} {w wr : World} {c : Cm} {va vr : Value} {y : St} (L : SM p s wr y) (R : RB w.heap.size wr) (C : CO g w.heap.size c va vr wr) (G : Gr p w wr) (PL : p < w.heap.size) (a b c' d : Value) :
    SM p s (resW w.heap.size wr a b c' d) y ∧ Gr p w (resW w.heap.size wr a b c' d) ∧ CmR w.heap.size c va vr (resW w.heap.size wr a b c' d) :=
  ⟨L.same (resW_other (by omega)), gr_setc (gr_setc (gr_setc (gr_setc G (Nat.le_refl _)) (Nat.le_refl _)) (Nat.le_refl _)) (Nat.le_refl _),
    own_ty C.args (fun i cs z hi => resW_other (fun e => by subst e; rw [R] at hi; cases hi)), own_ty C.red (fun i cs z hi => resW_other (fun e => by subst e; rw [R] at hi; cases hi))⟩
/-- on the way: what is still to come of the command -/
structure CW (p : Nat) (s : ByteArray) (x : St) (w wr : World) (y : St) (c : Cm) (n : Bool) (va vr : Value) : Prop where
  L : SM p s wr y
  R : RB w.heap.size wr
  C : CO (w.heap.size + 1) w.heap.size c va vr wr
  G : Gr p w wr
  len : c.args.length + c.red.length + mu s y ≤ 20000
  run : okB y = true → cmI s (y, c, n) = cmI s (x, ⟨[], [], [], tokAt x⟩, false)
  bad : okB y = false → (cmS s x).1 = y
theorem grown_drew {w w' : World} {ob : Option Nat} (h : w.drew.grownBy w' ob) : w.grownBy w' ob := by
  obtain ⟨q1, q2, q3, q4, q5⟩ := h
  exact ⟨q1, q2, q3, q4, q5⟩
theorem RB.grown {g B : Nat} {w w' : World} {e : TypeId} {k : Nat} {v : Value} {n : Nat} {xs : List Value} (h : RB g w) (gw : w.grownBy w' v.ownBlock) (own : w.ownsRow B e k v n xs) (hne : 40 ≠ e) : RB g w' := by
  unfold RB at *; rw [grown_keep gw own h hne]; exact h
theorem RB.setc {g g2 j : Nat} {w : World} {y : Value} (h : RB g w) (hne : g ≠ g2) : RB g (w.setCell ⟨g2, j, none⟩ y) := by unfold RB at *; rw [set_other hne]; exact h
theorem cw_next {p : Nat} {s : ByteArray} {x : St} {w wr w' : World} {t : Tk} {a : Nat} {c c' c2 : Cm} {n n' n2 : Bool} {va vr va' vr' : Value} {y' : St} (X : CW p s x w wr (.run t a) c n va vr) (hstep : cm1 s (.run t a, c, n) = some (y', c', n')) (hc : okB y' = true → c2 = c' ∧ n2 = n')
    (L : SM p s w' y') (R : RB w.heap.size w') (C : CO (w.heap.size + 1) w.heap.size c2 va' vr' w') (G : Gr p w w') (hl : c2.args.length + c2.red.length ≤ c.args.length + c.red.length + 1) : CW p s x w w' y' c2 n2 va' vr' := by
  have m := (cm1_mu (z := (.run t a, c, n)) X.L.2 hstep).2
  have e := (X.run rfl).symm.trans (cm_step (z := (.run t a, c, n)) X.L.2 hstep)
  refine ⟨L, R, C, G, ?_, ?_, ?_⟩
  · have := X.len; simp only at m; omega
  · intro ho
    obtain ⟨rfl, rfl⟩ := hc ho
    exact e.symm
  · intro ho
    unfold cmS
    rw [e]
    cases y' with
    | run t1 a1 => cases ho
    | bad er q => rw [cm_bad]; unfold cmF; simp only; split <;> rfl
set_option maxRecDepth 100000 in
set_option maxHeartbeats 8000000 in
theorem command_st (p : Nat) (s : ByteArray) (x : St) (w : World) (h : SM p s w x) (hs : s.size ≤ 8192) :
    Calls Tryd.prog 48 #[.pointer (some ⟨p, 0, none⟩)] w fun e w' => ∃ (c : Cm) (va vr : Value),
      e = .returned (.agg #[.string ⟨c.name.toArray⟩, va, vr, .int .i64 c.at_]) ∧ Hid (CmR w.heap.size c va vr w') ∧ Hid (SM p s w' (cmS s x).1) ∧ Hid (Gr p w w') ∧ Hid (okB (cmS s x).1 = true → c = (cmS s x).2) := by
  have H := Lib.hid h
  clear h
  obtain ⟨q, c5, Q⟩ := failS_q H.out
  have Q := Lib.hid Q
  have PL := Lib.hid H.out.lt
  have Ba := Lib.hid ((Below.refl w.heap.size w).alloc (Nat.le_refl _) (.cells #[.string ⟨#[]⟩, .slice none 0 0, .slice none 0 0, .int .i64 0] 40))
  have c5' : (w.alloc (.cells #[.string ⟨#[]⟩, .slice none 0 0, .slice none 0 0, .int .i64 0] 40)).cell? ⟨p, 5, none⟩ = some (.int .i64 q) := (Ba.out.cell (p := ⟨p, 5, none⟩) PL.out).trans c5
  have Bb := Lib.hid (Ba.out.alloc (by simp) (.cells #[.string ⟨#[]⟩, .slice none 0 0, .slice none 0 0, .int .i64 q] 40))
  have X0 : Hid (∃ c va vr, CW p s x w ((w.alloc (.cells #[.string ⟨#[]⟩, .slice none 0 0, .slice none 0 0, .int .i64 0] 40)).alloc (.cells #[.string ⟨#[]⟩, .slice none 0 0, .slice none 0 0, .int .i64 q] 40)) x c false va vr) := Lib.hid (by
    have hb := heap_alloc_new (w.alloc (.cells #[.string ⟨#[]⟩, .slice none 0 0, .slice none 0 0, .int .i64 0] 40)) (.cells #[.string ⟨#[]⟩, .slice none 0 0, .slice none 0 0, .int .i64 q] 40)
    rw [show (w.alloc (.cells #[.string ⟨#[]⟩, .slice none 0 0, .slice none 0 0, .int .i64 0] 40)).heap.size = w.heap.size + 1 by simp] at hb
    refine ⟨⟨[], [], [], q⟩, .slice none 0 0, .slice none 0 0, H.out.same (Bb.out.block p PL.out), ?_, ⟨hb, ⟨rfl, .inl ⟨rfl, rfl⟩⟩, ⟨rfl, .inl ⟨rfl, rfl⟩⟩⟩, gr_below Bb.out, ?_, ?_, ?_⟩
    · exact (heap_alloc_old _ _ (by simp)).trans (heap_alloc_new w _)
    · have := H.out.2
      cases x with
      | run t a => simp only [List.length_nil, mu]; have := this.1; split <;> omega
      | bad e q => simp only [List.length_nil, mu]; omega
    · intro ho
      cases x with
      | run t a => rw [Q.out t a rfl]; rfl
      | bad e q => cases ho
    · intro ho
      cases x with
      | run t a => cases ho
      | bad e q => unfold cmS; rw [cm_bad]; rfl)
  clear c5 Q
  go_enter Tryd.func48, Tryd.ntmps48
  go_wp2_with (fail)
  repeat (go_region; go_wp2_with (fail))
  go_loopw [4] (fun nv wr => ∃ (y : St) (c : Cm) (n : Bool) (va vr : Value), nv = .bool n ∧ Hid (CW p s x w wr y c n va vr)) (fun _ wr => muW s p wr)
  case atStart => obtain ⟨c, va, vr, h⟩ := X0.out; exact ⟨x, c, false, va, vr, rfl, Lib.hid h⟩
  case round =>
    obtain ⟨y, c, n, va, vr, rfl, X⟩ := hrel
    have L := Lib.hid X.out.L
    have CC := Lib.hid X.out.C
    obtain ⟨a1, n1, m1, rfl⟩ := own_slice CC.out.args
    obtain ⟨a2, n2, m2, rfl⟩ := own_slice CC.out.red
    cases y with
    | bad er qq =>
      obtain ⟨⟨a, tx, wd, bg, ta, h1⟩, h2⟩ := L.out
      obtain ⟨-, -, -, c3, -, -, c6, -⟩ := h1.cells
      have t : (er == 0) = false := by rw [beq_eq_false_iff_ne]; have := h2.1; omega
      clear h1 h2
      obtain ⟨d0, d1, d2, d3⟩ := CC.out.cells
      have RR := Lib.hid X.out.R
      have r0 := blk_cell RR.out 0
      have r1 := blk_cell RR.out 1
      have r2 := blk_cell RR.out 2
      have r3 := blk_cell RR.out 3
      have g0 := blk_frozen RR.out 0
      have g1 := blk_frozen RR.out 1
      have g2 := blk_frozen RR.out 2
      have g3 := blk_frozen RR.out 3
      simp only [List.getElem?_toArray, List.getElem?_cons_zero, List.getElem?_cons_succ] at r0 r1 r2 r3
      go_wp2_with (fail)
      repeat (go_region; go_wp2_with (fail))
      (try simp only [Exit.inBlock, Exit.then])
      have FB := RR.out.set (.string ⟨c.name.toArray⟩) (.slice a1 n1 m1) (.slice a2 n2 m2) (.int .i64 c.at_)
      have z0 := blk_cell FB 0
      have z1 := blk_cell FB 1
      have z2 := blk_cell FB 2
      have z3 := blk_cell FB 3
      simp only [List.getElem?_toArray, List.getElem?_cons_zero, List.getElem?_cons_succ] at z0 z1 z2 z3
      have Z4 := Lib.hid (cw_four L.out RR.out CC.out X.out.G PL.out (.string ⟨c.name.toArray⟩) (.slice a1 n1 m1) (.slice a2 n2 m2) (.int .i64 c.at_))
      have BD := Lib.hid (X.out.bad rfl)
      refine bodyPost_ret (v := .agg #[.string ⟨c.name.toArray⟩, .slice a1 n1 m1, .slice a2 n2 m2, .int .i64 c.at_]) (by simp [results, Tryd.results48, go_sem, z0, z1, z2, z3]) rfl ⟨c, _, _, rfl, Lib.hid Z4.out.2.2, Lib.hid (by rw [BD.out]; exact Z4.out.1), Lib.hid Z4.out.2.1, Lib.hid (fun ho => by rw [BD.out] at ho; cases ho)⟩
    | run t a =>
      have GP : Hid (w.heap.size + 1 ≠ p) := Lib.hid (by have := PL.out; omega)
      have RP : Hid (w.heap.size ≠ p) := Lib.hid (by have := PL.out; omega)
      obtain ⟨k, hk⟩ : ∃ k, knd (.run t a) = k := ⟨_, rfl⟩
      have KK := Lib.hid hk
      have k0 : 0 ≤ k := by rw [← hk]; exact knd_ge _
      obtain ⟨-, -, -, -, -, -, c6, -⟩ := RX.cells L.out.1
      by_cases kp : 0 < k
      · have k2 : t.k = 2 := by
          obtain ⟨t1, q1, e, h⟩ := knd_pos (x := .run t a) (by rw [hk]; exact kp)
          cases e; exact h
        have WDC : Hid (decide (t.k = 1) = false) := Lib.hid (decide_eq_false (by omega))
        have KZ : (k == 0) = false := by rw [beq_eq_false_iff_ne]; omega
        have KP : Hid (0 < knd (.run t a)) := Lib.hid (by rw [hk]; exact kp)
        have MU := Lib.hid L.out.mu
        have MD := Lib.hid (rd_mu L.out.2 (show t.k ≠ 0 by omega))
        have MP : Hid (0 < mu s (.run t a)) := Lib.hid (Nat.lt_of_le_of_lt (Nat.zero_le _) MD.out)
        have LEN := Lib.hid X.out.len
        have AL : Hid (c.red.length ≤ 1048576) := Lib.hid (by have := LEN.out; omega)
        obtain ⟨y1, hy⟩ : ∃ y1, rd s (.run t a) = y1 := ⟨_, rfl⟩
        have HY := Lib.hid hy
        have W1 := Lib.hid (rd_wf L.out.2)
        rw [hy] at MD W1
        clear hk hy k2
        cases y1 with
        | run t' a' =>
          by_cases h1 : t'.k = 1
          · have WD2 : Hid (decide (t'.k = 1) = true) := Lib.hid (decide_eq_true h1)
            have M2 := Lib.hid (Nat.lt_trans (rd_mu W1.out (show t'.k ≠ 0 by omega)) MD.out)
            have ST : Hid (cm1 s (.run t a, c, n) = some (rd s (.run t' a'), { c with red := c.red ++ [(k, t'.t)] }, n)) := Lib.hid (by
              have e : rdq s (.run t a) = .run t' a' := by unfold rdq; rw [HY.out]; simp only; rw [if_pos h1]
              unfold cm1; simp only; rw [if_pos KP.out, e, KK.out])
            go_wp2_with (first | (go_at_call 60; refine (kind_st p s (.run t a) wr _ L.out (by exact ⟨rfl, rfl, rfl, rfl⟩) KK).mono ?_; rintro e w1 ⟨rfl, S1⟩; have L1 := Lib.hid (L.out.sameW S1); have C1 := Lib.hid (CC.out.same S1.1); obtain ⟨-, -, c2, c3, -, -, c6, -⟩ := RX.cells L1.out.1; rw [WDC.out] at c3; obtain ⟨d0, d1, d2, d3⟩ := C1.out.cells; have fd0 := blk_frozen C1.out.blk 0; have fd1 := blk_frozen C1.out.blk 1; have fd2 := blk_frozen C1.out.blk 2; have R1 := Lib.hid (RB.same X.out.R S1.1); have r0 := blk_cell R1.out 0; have r1 := blk_cell R1.out 1; have r2 := blk_cell R1.out 2; have r3 := blk_cell R1.out 3; have g0 := blk_frozen R1.out 0; have g1 := blk_frozen R1.out 1; have g2 := blk_frozen R1.out 2; have g3 := blk_frozen R1.out 3; simp only [List.getElem?_toArray, List.getElem?_cons_zero, List.getElem?_cons_succ] at r0 r1 r2 r3; have G1 := Lib.hid (gr_same' X.out.G S1); clear S1) | (go_at_call 19; refine (next_st p s (.run t a) w1 _ L1.out (by exact ⟨rfl, rfl, rfl, rfl⟩) hs).mono ?_; rintro e w2 ⟨rfl, L2, G2⟩; rw [HY.out] at L2; have C2 := Lib.hid (C1.out.gr L1.out G2.out GP.out); have R2 := Lib.hid (RB.gr R1.out G2.out RP.out); have G22 := Lib.hid (gr_trans G1.out G2.out); obtain ⟨-, -, d2, -⟩ := C2.out.cells; have fd2 := blk_frozen C2.out.blk 2; obtain ⟨-, -, c2, c3, -, -, c6, -⟩ := RX.cells L2.out.1; rw [WD2.out] at c3))
            have SZ : Hid (w.heap.size ≤ w2.heap.size) := Lib.hid G22.out.size
            have d2a : (w2.alloc (.cells #[.int .i64 k, .string ⟨t'.t.toArray⟩] 77)).cell? ⟨w.heap.size + 1, 2, none⟩ = some (.slice a2 n2 m2) := (((Below.refl w2.heap.size w2).alloc (Nat.le_refl _) _).cell (p := ⟨w.heap.size + 1, 2, none⟩) (Array.getElem?_eq_some_iff.1 C2.out.blk).1).trans d2
            go_region_law (refine step_red rfl (.tmp 49) (.tmp 57) rfl (.slice a2 n2 m2) c.red.length (redC c.red) k ⟨t'.t.toArray⟩ w.heap.size w2.drew (own_ty C2.out.red (fun _ _ _ _ => rfl)) SZ.out AL.out (by simp [Act.eval]) (by simp [Act.eval]) ?_; intro h2 cap w4 hown hgr; have e0 := (grown_keep hgr (own_ty C2.out.red (fun _ _ _ _ => rfl)) (show w2.drew.heap[w.heap.size + 1]? = _ from C2.out.blk) (by decide)).trans C2.out.blk; have d2 := blk_cell e0 2; have fd2 := blk_frozen e0 2; simp only [List.getElem?_toArray, List.getElem?_cons_zero, List.getElem?_cons_succ] at d2; have hgr := grown_drew hgr)
            all_goals go_wp2_with ((go_at_call 19; refine (next_st p s (.run t' a') (w4.setCell ⟨w.heap.size + 1, 2, none⟩ (.slice (some ⟨h2, 0, none⟩) (c.red.length + 1) cap)) _ ((L2.out.grown hgr C2.out.red (by decide)).setc GP.out) (by exact ⟨rfl, rfl, rfl, rfl⟩) hs).mono ?_; rintro e w5 ⟨rfl, L5, G5⟩))
            all_goals go_roundw
            all_goals first
              | exact ⟨_, _, n, _, _, rfl, Lib.hid (cw_next X.out ST.out (fun _ => ⟨rfl, rfl⟩) L5.out (((R2.out.grown hgr C2.out.red (by decide)).setc (by omega)).gr G5.out RP.out) ((C2.out.red1 hown hgr).gr ((L2.out.grown hgr C2.out.red (by decide)).setc GP.out) G5.out GP.out) (gr_trans (gr_setc (gr_grown G22.out hgr C2.out.red (Nat.le_refl _)) (by omega)) G5.out) (by simp only [List.length_append, List.length_singleton]; omega))⟩
              | (rw [MU.out, L5.out.mu]; exact M2.out)
          · have WD2 : Hid (decide (t'.k = 1) = false) := Lib.hid (decide_eq_false h1)
            have ST : Hid (cm1 s (.run t a, c, n) = some (.bad 1 t'.a, c, n)) := Lib.hid (by
              have e : rdq s (.run t a) = .bad 1 t'.a := by unfold rdq; rw [HY.out]; simp only; rw [if_neg h1]
              unfold cm1; simp only; rw [if_pos KP.out, e])
            go_wp2_with (first | (go_at_call 60; refine (kind_st p s (.run t a) wr _ L.out (by exact ⟨rfl, rfl, rfl, rfl⟩) KK).mono ?_; rintro e w1 ⟨rfl, S1⟩; have L1 := Lib.hid (L.out.sameW S1); have C1 := Lib.hid (CC.out.same S1.1); obtain ⟨-, -, c2, c3, -, -, c6, -⟩ := RX.cells L1.out.1; rw [WDC.out] at c3; obtain ⟨d0, d1, d2, d3⟩ := C1.out.cells; have fd0 := blk_frozen C1.out.blk 0; have fd1 := blk_frozen C1.out.blk 1; have fd2 := blk_frozen C1.out.blk 2; have R1 := Lib.hid (RB.same X.out.R S1.1); have r0 := blk_cell R1.out 0; have r1 := blk_cell R1.out 1; have r2 := blk_cell R1.out 2; have r3 := blk_cell R1.out 3; have g0 := blk_frozen R1.out 0; have g1 := blk_frozen R1.out 1; have g2 := blk_frozen R1.out 2; have g3 := blk_frozen R1.out 3; simp only [List.getElem?_toArray, List.getElem?_cons_zero, List.getElem?_cons_succ] at r0 r1 r2 r3; have G1 := Lib.hid (gr_same' X.out.G S1); clear S1) | (go_at_call 19; refine (next_st p s (.run t a) w1 _ L1.out (by exact ⟨rfl, rfl, rfl, rfl⟩) hs).mono ?_; rintro e w2 ⟨rfl, L2, G2⟩; rw [HY.out] at L2; have C2 := Lib.hid (C1.out.gr L1.out G2.out GP.out); have R2 := Lib.hid (RB.gr R1.out G2.out RP.out); have G22 := Lib.hid (gr_trans G1.out G2.out); obtain ⟨-, -, d2, -⟩ := C2.out.cells; have fd2 := blk_frozen C2.out.blk 2; obtain ⟨-, -, c2, c3, -, -, c6, -⟩ := RX.cells L2.out.1; rw [WD2.out] at c3) | (go_at_call 23; refine (unexp_st p s (.run t' a') w2 _ L2.out (by exact ⟨rfl, rfl, rfl, rfl⟩)).mono ?_; rintro e w3 ⟨rfl, L3, G3⟩; have C3 := Lib.hid (C2.out.gr L2.out G3.out GP.out); have R3 := Lib.hid (RB.gr R2.out G3.out RP.out); have G33 := Lib.hid (gr_trans G22.out G3.out); obtain ⟨-, -, d2, -⟩ := C3.out.cells; have fd2 := blk_frozen C3.out.blk 2; obtain ⟨⟨b1, b2, b3, b4, b5, bb⟩, -⟩ := L3.out; obtain ⟨u, rfl⟩ : ∃ u : List UInt8, b2 = ⟨u.toArray⟩ := ⟨b2.data.toList, by cases b2; simp⟩; obtain ⟨-, -, c2, c3, -, -, c6, -⟩ := bb.cells; clear bb))
            have SZ : Hid (w.heap.size ≤ w3.heap.size) := Lib.hid G33.out.size
            have d2a : (w3.alloc (.cells #[.int .i64 k, .string ⟨u.toArray⟩] 77)).cell? ⟨w.heap.size + 1, 2, none⟩ = some (.slice a2 n2 m2) := (((Below.refl w3.heap.size w3).alloc (Nat.le_refl _) _).cell (p := ⟨w.heap.size + 1, 2, none⟩) (Array.getElem?_eq_some_iff.1 C3.out.blk).1).trans d2
            go_region_law (refine step_red rfl (.tmp 49) (.tmp 57) rfl (.slice a2 n2 m2) c.red.length (redC c.red) k ⟨u.toArray⟩ w.heap.size w3.drew (own_ty C3.out.red (fun _ _ _ _ => rfl)) SZ.out AL.out (by simp [Act.eval]) (by simp [Act.eval]) ?_; intro h2 cap w4 hown hgr; have e0 := (grown_keep hgr (own_ty C3.out.red (fun _ _ _ _ => rfl)) (show w3.drew.heap[w.heap.size + 1]? = _ from C3.out.blk) (by decide)).trans C3.out.blk; have d2 := blk_cell e0 2; have fd2 := blk_frozen e0 2; simp only [List.getElem?_toArray, List.getElem?_cons_zero, List.getElem?_cons_succ] at d2; have hgr := grown_drew hgr)
            all_goals go_wp2_with ((go_at_call 19; refine (next_st p s (.bad 1 t'.a) (w4.setCell ⟨w.heap.size + 1, 2, none⟩ (.slice (some ⟨h2, 0, none⟩) (c.red.length + 1) cap)) _ ((L3.out.grown hgr C3.out.red (by decide)).setc GP.out) (by exact ⟨rfl, rfl, rfl, rfl⟩) hs).mono ?_; rintro e w5 ⟨rfl, L5, G5⟩))
            all_goals go_roundw
            all_goals first
              | exact ⟨_, _, n, _, _, rfl, Lib.hid (cw_next X.out ST.out (fun ho => by cases ho) L5.out (((R3.out.grown hgr C3.out.red (by decide)).setc (by omega)).gr G5.out RP.out) ((C3.out.red1 hown hgr).gr ((L3.out.grown hgr C3.out.red (by decide)).setc GP.out) G5.out GP.out) (gr_trans (gr_setc (gr_grown G33.out hgr C3.out.red (Nat.le_refl _)) (by omega)) G5.out) (by simp only [List.length_append, List.length_singleton]; omega))⟩
              | (rw [MU.out, L5.out.mu]; exact MP.out)
        | bad er qe =>
          have te : (er == 0) = false := by rw [beq_eq_false_iff_ne]; have := W1.out.1; omega
          have ST : Hid (cm1 s (.run t a, c, n) = some (.bad er qe, c, n)) := Lib.hid (by
            have e : rdq s (.run t a) = .bad er qe := by unfold rdq; rw [HY.out]
            unfold cm1; simp only; rw [if_pos KP.out, e])
          go_wp2_with (first | (go_at_call 60; refine (kind_st p s (.run t a) wr _ L.out (by exact ⟨rfl, rfl, rfl, rfl⟩) KK).mono ?_; rintro e w1 ⟨rfl, S1⟩; have L1 := Lib.hid (L.out.sameW S1); have C1 := Lib.hid (CC.out.same S1.1); obtain ⟨-, -, c2, c3, -, -, c6, -⟩ := RX.cells L1.out.1; rw [WDC.out] at c3; obtain ⟨d0, d1, d2, d3⟩ := C1.out.cells; have fd0 := blk_frozen C1.out.blk 0; have fd1 := blk_frozen C1.out.blk 1; have fd2 := blk_frozen C1.out.blk 2; have R1 := Lib.hid (RB.same X.out.R S1.1); have r0 := blk_cell R1.out 0; have r1 := blk_cell R1.out 1; have r2 := blk_cell R1.out 2; have r3 := blk_cell R1.out 3; have g0 := blk_frozen R1.out 0; have g1 := blk_frozen R1.out 1; have g2 := blk_frozen R1.out 2; have g3 := blk_frozen R1.out 3; simp only [List.getElem?_toArray, List.getElem?_cons_zero, List.getElem?_cons_succ] at r0 r1 r2 r3; have G1 := Lib.hid (gr_same' X.out.G S1); clear S1) | (go_at_call 19; refine (next_st p s (.run t a) w1 _ L1.out (by exact ⟨rfl, rfl, rfl, rfl⟩) hs).mono ?_; rintro e w2 ⟨rfl, L2, G2⟩; rw [HY.out] at L2; have C2 := Lib.hid (C1.out.gr L1.out G2.out GP.out); have R2 := Lib.hid (RB.gr R1.out G2.out RP.out); have G22 := Lib.hid (gr_trans G1.out G2.out); obtain ⟨-, -, d2, -⟩ := C2.out.cells; have fd2 := blk_frozen C2.out.blk 2; obtain ⟨⟨b1, b2, b3, b4, b5, bb⟩, -⟩ := L2.out; obtain ⟨u, rfl⟩ : ∃ u : List UInt8, b2 = ⟨u.toArray⟩ := ⟨b2.data.toList, by cases b2; simp⟩; obtain ⟨-, -, c2, c3, -, -, c6, -⟩ := bb.cells; clear bb; have L3 := L2; have C3 := C2; have R3 := R2; have G33 := G22))
          have SZ : Hid (w.heap.size ≤ w2.heap.size) := Lib.hid G22.out.size
          have d2a : (w2.alloc (.cells #[.int .i64 k, .string ⟨u.toArray⟩] 77)).cell? ⟨w.heap.size + 1, 2, none⟩ = some (.slice a2 n2 m2) := (((Below.refl w2.heap.size w2).alloc (Nat.le_refl _) _).cell (p := ⟨w.heap.size + 1, 2, none⟩) (Array.getElem?_eq_some_iff.1 C2.out.blk).1).trans d2
          go_region_law (refine step_red rfl (.tmp 49) (.tmp 57) rfl (.slice a2 n2 m2) c.red.length (redC c.red) k ⟨u.toArray⟩ w.heap.size w2.drew (own_ty C2.out.red (fun _ _ _ _ => rfl)) SZ.out AL.out (by simp [Act.eval]) (by simp [Act.eval]) ?_; intro h2 cap w4 hown hgr; have e0 := (grown_keep hgr (own_ty C2.out.red (fun _ _ _ _ => rfl)) (show w2.drew.heap[w.heap.size + 1]? = _ from C2.out.blk) (by decide)).trans C2.out.blk; have d2 := blk_cell e0 2; have fd2 := blk_frozen e0 2; simp only [List.getElem?_toArray, List.getElem?_cons_zero, List.getElem?_cons_succ] at d2; have hgr := grown_drew hgr)
          all_goals go_wp2_with ((go_at_call 19; refine (next_st p s (.bad er qe) (w4.setCell ⟨w.heap.size + 1, 2, none⟩ (.slice (some ⟨h2, 0, none⟩) (c.red.length + 1) cap)) _ ((L2.out.grown hgr C2.out.red (by decide)).setc GP.out) (by exact ⟨rfl, rfl, rfl, rfl⟩) hs).mono ?_; rintro e w5 ⟨rfl, L5, G5⟩))
          all_goals go_roundw
          all_goals first
            | exact ⟨_, _, n, _, _, rfl, Lib.hid (cw_next X.out ST.out (fun ho => by cases ho) L5.out (((R2.out.grown hgr C2.out.red (by decide)).setc (by omega)).gr G5.out RP.out) ((C2.out.red1 hown hgr).gr ((L2.out.grown hgr C2.out.red (by decide)).setc GP.out) G5.out GP.out) (gr_trans (gr_setc (gr_grown G22.out hgr C2.out.red (Nat.le_refl _)) (by omega)) G5.out) (by simp only [List.length_append, List.length_singleton]; omega))⟩
            | (rw [MU.out, L5.out.mu]; exact MP.out)
      obtain rfl : k = 0 := by omega
      have kn : ¬ 0 < knd (.run t a) := by rw [hk]; decide
      have KN := Lib.hid kn
      clear hk kp k0 kn
      by_cases h1 : t.k = 1
      · have WDC : Hid (decide (t.k = 1) = true) := Lib.hid (decide_eq_true h1)
        have MU := Lib.hid L.out.mu
        have MD := Lib.hid (rd_mu L.out.2 (show t.k ≠ 0 by omega))
        have LEN := Lib.hid X.out.len
        cases n with
        | false =>
          have ST : Hid (cm1 s (.run t a, c, false) = some (rd s (.run t a), { c with name := t.t }, true)) := Lib.hid (by unfold cm1; simp only; rw [if_neg KN.out, if_pos h1]; rfl)
          go_wp2_with ((first | (go_at_call 60; refine (kind_st p s (.run t a) wr _ L.out (by exact ⟨rfl, rfl, rfl, rfl⟩) KK).mono ?_; rintro e w1 ⟨rfl, S1⟩; have L1 := Lib.hid (L.out.sameW S1); have C1 := Lib.hid (CC.out.same S1.1); obtain ⟨-, -, c2, c3, -, -, c6, -⟩ := RX.cells L1.out.1; rw [WDC.out] at c3; obtain ⟨d0, d1, d2, d3⟩ := C1.out.cells; have fd0 := blk_frozen C1.out.blk 0; have fd1 := blk_frozen C1.out.blk 1; have fd2 := blk_frozen C1.out.blk 2; have R1 := Lib.hid (RB.same X.out.R S1.1); have r0 := blk_cell R1.out 0; have r1 := blk_cell R1.out 1; have r2 := blk_cell R1.out 2; have r3 := blk_cell R1.out 3; have g0 := blk_frozen R1.out 0; have g1 := blk_frozen R1.out 1; have g2 := blk_frozen R1.out 2; have g3 := blk_frozen R1.out 3; simp only [List.getElem?_toArray, List.getElem?_cons_zero, List.getElem?_cons_succ] at r0 r1 r2 r3; have G1 := Lib.hid (gr_same' X.out.G S1); clear S1) | (go_at_call 19; refine (next_st p s (.run t a) (w1.setCell ⟨w.heap.size + 1, 0, none⟩ (.string ⟨t.t.toArray⟩)) _ (L1.out.setc GP.out) (by exact ⟨rfl, rfl, rfl, rfl⟩) hs).mono ?_; rintro e w2 ⟨rfl, L2, G2⟩)))
          repeat (go_region; go_wp2_with ((first | (go_at_call 60; refine (kind_st p s (.run t a) wr _ L.out (by exact ⟨rfl, rfl, rfl, rfl⟩) KK).mono ?_; rintro e w1 ⟨rfl, S1⟩; have L1 := Lib.hid (L.out.sameW S1); have C1 := Lib.hid (CC.out.same S1.1); obtain ⟨-, -, c2, c3, -, -, c6, -⟩ := RX.cells L1.out.1; rw [WDC.out] at c3; obtain ⟨d0, d1, d2, d3⟩ := C1.out.cells; have fd0 := blk_frozen C1.out.blk 0; have fd1 := blk_frozen C1.out.blk 1; have fd2 := blk_frozen C1.out.blk 2; have R1 := Lib.hid (RB.same X.out.R S1.1); have r0 := blk_cell R1.out 0; have r1 := blk_cell R1.out 1; have r2 := blk_cell R1.out 2; have r3 := blk_cell R1.out 3; have g0 := blk_frozen R1.out 0; have g1 := blk_frozen R1.out 1; have g2 := blk_frozen R1.out 2; have g3 := blk_frozen R1.out 3; simp only [List.getElem?_toArray, List.getElem?_cons_zero, List.getElem?_cons_succ] at r0 r1 r2 r3; have G1 := Lib.hid (gr_same' X.out.G S1); clear S1) | (go_at_call 19; refine (next_st p s (.run t a) (w1.setCell ⟨w.heap.size + 1, 0, none⟩ (.string ⟨t.t.toArray⟩)) _ (L1.out.setc GP.out) (by exact ⟨rfl, rfl, rfl, rfl⟩) hs).mono ?_; rintro e w2 ⟨rfl, L2, G2⟩))))
          go_roundw
          case rel => exact ⟨_, _, true, _, _, rfl, Lib.hid (cw_next X.out ST.out (fun _ => ⟨rfl, rfl⟩) L2.out ((R1.out.setc (by omega)).gr G2.out RP.out) ((C1.out.name1 t.t).gr (L1.out.setc GP.out) G2.out GP.out) (gr_trans (gr_setc G1.out (by omega)) G2.out) (by simp only; omega))⟩
          case measure => rw [MU.out, L2.out.mu]; exact MD.out
        | true =>
          have ST : Hid (cm1 s (.run t a, c, true) = some (rd s (.run t a), { c with args := c.args ++ [t.t] }, true)) := Lib.hid (by unfold cm1; simp only; rw [if_neg KN.out, if_pos h1]; rfl)
          have AL : Hid (c.args.length ≤ 1048576) := Lib.hid (by have := LEN.out; omega)
          go_wp2_with ((go_at_call 60; refine (kind_st p s (.run t a) wr _ L.out (by exact ⟨rfl, rfl, rfl, rfl⟩) KK).mono ?_; rintro e w1 ⟨rfl, S1⟩; have L1 := Lib.hid (L.out.sameW S1); have C1 := Lib.hid (CC.out.same S1.1); obtain ⟨-, -, c2, c3, -, -, c6, -⟩ := RX.cells L1.out.1; rw [WDC.out] at c3; obtain ⟨d0, d1, d2, d3⟩ := C1.out.cells; have fd0 := blk_frozen C1.out.blk 0; have fd1 := blk_frozen C1.out.blk 1; have fd2 := blk_frozen C1.out.blk 2; have R1 := Lib.hid (RB.same X.out.R S1.1); have r0 := blk_cell R1.out 0; have r1 := blk_cell R1.out 1; have r2 := blk_cell R1.out 2; have r3 := blk_cell R1.out 3; have g0 := blk_frozen R1.out 0; have g1 := blk_frozen R1.out 1; have g2 := blk_frozen R1.out 2; have g3 := blk_frozen R1.out 3; simp only [List.getElem?_toArray, List.getElem?_cons_zero, List.getElem?_cons_succ] at r0 r1 r2 r3; have G1 := Lib.hid (gr_same' X.out.G S1); clear S1))
          have SZ : Hid (w.heap.size ≤ w1.heap.size) := Lib.hid G1.out.size
          have d1a : (w1.alloc (.cells #[.string ⟨t.t.toArray⟩] 9)).cell? ⟨w.heap.size + 1, 1, none⟩ = some (.slice a1 n1 m1) := (((Below.refl w1.heap.size w1).alloc (Nat.le_refl _) _).cell (p := ⟨w.heap.size + 1, 1, none⟩) (Array.getElem?_eq_some_iff.1 C1.out.blk).1).trans d1
          go_region_law (refine step_str rfl (.tmp 63) (.tmp 69) rfl (.slice a1 n1 m1) c.args.length (strC c.args) ⟨t.t.toArray⟩ w.heap.size w1.drew (own_ty C1.out.args (fun _ _ _ _ => rfl)) SZ.out AL.out (by simp [Act.eval]) (by simp [Act.eval]) ?_; intro h2 cap w2 hown hgr; have e0 := (grown_keep hgr (own_ty C1.out.args (fun _ _ _ _ => rfl)) (show w1.drew.heap[w.heap.size + 1]? = _ from C1.out.blk) (by decide)).trans C1.out.blk; have d1 := blk_cell e0 1; have fd1 := blk_frozen e0 1; simp only [List.getElem?_toArray, List.getElem?_cons_zero, List.getElem?_cons_succ] at d1; have hgr := grown_drew hgr)
          all_goals go_wp2_with ((go_at_call 19; refine (next_st p s (.run t a) (w2.setCell ⟨w.heap.size + 1, 1, none⟩ (.slice (some ⟨h2, 0, none⟩) (c.args.length + 1) cap)) _ ((L1.out.grown hgr C1.out.args (by decide)).setc GP.out) (by exact ⟨rfl, rfl, rfl, rfl⟩) hs).mono ?_; rintro e w3 ⟨rfl, L3, G3⟩))
          all_goals go_roundw
          all_goals first
            | exact ⟨_, _, true, _, _, rfl, Lib.hid (cw_next X.out ST.out (fun _ => ⟨rfl, rfl⟩) L3.out (((R1.out.grown hgr C1.out.args (by decide)).setc (by omega)).gr G3.out RP.out) ((C1.out.arg1 hown hgr).gr ((L1.out.grown hgr C1.out.args (by decide)).setc GP.out) G3.out GP.out) (gr_trans (gr_setc (gr_grown G1.out hgr C1.out.args (Nat.le_refl _)) (by omega)) G3.out) (by simp only [List.length_append, List.length_singleton]; omega))⟩
            | (rw [MU.out, L3.out.mu]; exact MD.out)
      · have WDC : Hid (decide (t.k = 1) = false) := Lib.hid (decide_eq_false h1)
        have CN : Hid (cmI s (x, ⟨[], [], [], tokAt x⟩, false) = (.run t a, c, n)) := Lib.hid (by rw [← X.out.run rfl]; exact cm_none (by unfold cm1; simp only; rw [if_neg KN.out, if_neg h1]))
        cases n with
        | true =>
          have BD : Hid (cmS s x = (.run t a, c)) := Lib.hid (by unfold cmS; rw [CN.out]; rfl)
          go_wp2_with ((go_at_call 60; refine (kind_st p s (.run t a) wr _ L.out (by exact ⟨rfl, rfl, rfl, rfl⟩) KK).mono ?_; rintro e w1 ⟨rfl, S1⟩; have L1 := Lib.hid (L.out.sameW S1); have C1 := Lib.hid (CC.out.same S1.1); obtain ⟨-, -, c2, c3, -, -, c6, -⟩ := RX.cells L1.out.1; rw [WDC.out] at c3; obtain ⟨d0, d1, d2, d3⟩ := C1.out.cells; have fd0 := blk_frozen C1.out.blk 0; have fd1 := blk_frozen C1.out.blk 1; have fd2 := blk_frozen C1.out.blk 2; have R1 := Lib.hid (RB.same X.out.R S1.1); have r0 := blk_cell R1.out 0; have r1 := blk_cell R1.out 1; have r2 := blk_cell R1.out 2; have r3 := blk_cell R1.out 3; have g0 := blk_frozen R1.out 0; have g1 := blk_frozen R1.out 1; have g2 := blk_frozen R1.out 2; have g3 := blk_frozen R1.out 3; simp only [List.getElem?_toArray, List.getElem?_cons_zero, List.getElem?_cons_succ] at r0 r1 r2 r3; have G1 := Lib.hid (gr_same' X.out.G S1); clear S1))
          repeat (go_region; go_wp2_with ((go_at_call 60; refine (kind_st p s (.run t a) wr _ L.out (by exact ⟨rfl, rfl, rfl, rfl⟩) KK).mono ?_; rintro e w1 ⟨rfl, S1⟩; have L1 := Lib.hid (L.out.sameW S1); have C1 := Lib.hid (CC.out.same S1.1); obtain ⟨-, -, c2, c3, -, -, c6, -⟩ := RX.cells L1.out.1; rw [WDC.out] at c3; obtain ⟨d0, d1, d2, d3⟩ := C1.out.cells; have fd0 := blk_frozen C1.out.blk 0; have fd1 := blk_frozen C1.out.blk 1; have fd2 := blk_frozen C1.out.blk 2; have R1 := Lib.hid (RB.same X.out.R S1.1); have r0 := blk_cell R1.out 0; have r1 := blk_cell R1.out 1; have r2 := blk_cell R1.out 2; have r3 := blk_cell R1.out 3; have g0 := blk_frozen R1.out 0; have g1 := blk_frozen R1.out 1; have g2 := blk_frozen R1.out 2; have g3 := blk_frozen R1.out 3; simp only [List.getElem?_toArray, List.getElem?_cons_zero, List.getElem?_cons_succ] at r0 r1 r2 r3; have G1 := Lib.hid (gr_same' X.out.G S1); clear S1)))
          (try simp only [Exit.inBlock, Exit.then])
          have FB := R1.out.set (.string ⟨c.name.toArray⟩) (.slice a1 n1 m1) (.slice a2 n2 m2) (.int .i64 c.at_)
          have z0 := blk_cell FB 0
          have z1 := blk_cell FB 1
          have z2 := blk_cell FB 2
          have z3 := blk_cell FB 3
          simp only [List.getElem?_toArray, List.getElem?_cons_zero, List.getElem?_cons_succ] at z0 z1 z2 z3
          have Z4 := Lib.hid (cw_four L1.out R1.out C1.out (G1.out) PL.out (.string ⟨c.name.toArray⟩) (.slice a1 n1 m1) (.slice a2 n2 m2) (.int .i64 c.at_))
          refine bodyPost_ret (v := .agg #[.string ⟨c.name.toArray⟩, .slice a1 n1 m1, .slice a2 n2 m2, .int .i64 c.at_]) (by simp [results, Tryd.results48, go_sem, z0, z1, z2, z3]) rfl ⟨c, _, _, rfl, Lib.hid Z4.out.2.2, Lib.hid (by rw [BD.out]; exact Z4.out.1), Lib.hid Z4.out.2.1, Lib.hid (fun ho => by rw [BD.out])⟩
        | false =>
          have BD : Hid (cmS s x = (failS 1 (.run t a), c)) := Lib.hid (by unfold cmS; rw [CN.out]; rfl)
          go_wp2_with ((first | (go_at_call 60; refine (kind_st p s (.run t a) wr _ L.out (by exact ⟨rfl, rfl, rfl, rfl⟩) KK).mono ?_; rintro e w1 ⟨rfl, S1⟩; have L1 := Lib.hid (L.out.sameW S1); have C1 := Lib.hid (CC.out.same S1.1); obtain ⟨-, -, c2, c3, -, -, c6, -⟩ := RX.cells L1.out.1; rw [WDC.out] at c3; obtain ⟨d0, d1, d2, d3⟩ := C1.out.cells; have fd0 := blk_frozen C1.out.blk 0; have fd1 := blk_frozen C1.out.blk 1; have fd2 := blk_frozen C1.out.blk 2; have R1 := Lib.hid (RB.same X.out.R S1.1); have r0 := blk_cell R1.out 0; have r1 := blk_cell R1.out 1; have r2 := blk_cell R1.out 2; have r3 := blk_cell R1.out 3; have g0 := blk_frozen R1.out 0; have g1 := blk_frozen R1.out 1; have g2 := blk_frozen R1.out 2; have g3 := blk_frozen R1.out 3; simp only [List.getElem?_toArray, List.getElem?_cons_zero, List.getElem?_cons_succ] at r0 r1 r2 r3; have G1 := Lib.hid (gr_same' X.out.G S1); clear S1) | (go_at_call 23; refine (unexp_st p s (.run t a) w1 _ L1.out (by exact ⟨rfl, rfl, rfl, rfl⟩)).mono ?_; rintro e w2 ⟨rfl, L2, G2⟩; have C2 := Lib.hid (C1.out.gr L1.out G2.out GP.out); have R2 := Lib.hid (RB.gr R1.out G2.out RP.out); obtain ⟨d0, d1, d2, d3⟩ := C2.out.cells; have r0 := blk_cell R2.out 0; have r1 := blk_cell R2.out 1; have r2 := blk_cell R2.out 2; have r3 := blk_cell R2.out 3; have g0 := blk_frozen R2.out 0; have g1 := blk_frozen R2.out 1; have g2 := blk_frozen R2.out 2; have g3 := blk_frozen R2.out 3; simp only [List.getElem?_toArray, List.getElem?_cons_zero, List.getElem?_cons_succ] at r0 r1 r2 r3)))
          repeat (go_region; go_wp2_with ((first | (go_at_call 60; refine (kind_st p s (.run t a) wr _ L.out (by exact ⟨rfl, rfl, rfl, rfl⟩) KK).mono ?_; rintro e w1 ⟨rfl, S1⟩; have L1 := Lib.hid (L.out.sameW S1); have C1 := Lib.hid (CC.out.same S1.1); obtain ⟨-, -, c2, c3, -, -, c6, -⟩ := RX.cells L1.out.1; rw [WDC.out] at c3; obtain ⟨d0, d1, d2, d3⟩ := C1.out.cells; have fd0 := blk_frozen C1.out.blk 0; have fd1 := blk_frozen C1.out.blk 1; have fd2 := blk_frozen C1.out.blk 2; have R1 := Lib.hid (RB.same X.out.R S1.1); have r0 := blk_cell R1.out 0; have r1 := blk_cell R1.out 1; have r2 := blk_cell R1.out 2; have r3 := blk_cell R1.out 3; have g0 := blk_frozen R1.out 0; have g1 := blk_frozen R1.out 1; have g2 := blk_frozen R1.out 2; have g3 := blk_frozen R1.out 3; simp only [List.getElem?_toArray, List.getElem?_cons_zero, List.getElem?_cons_succ] at r0 r1 r2 r3; have G1 := Lib.hid (gr_same' X.out.G S1); clear S1) | (go_at_call 23; refine (unexp_st p s (.run t a) w1 _ L1.out (by exact ⟨rfl, rfl, rfl, rfl⟩)).mono ?_; rintro e w2 ⟨rfl, L2, G2⟩; have C2 := Lib.hid (C1.out.gr L1.out G2.out GP.out); have R2 := Lib.hid (RB.gr R1.out G2.out RP.out); obtain ⟨d0, d1, d2, d3⟩ := C2.out.cells; have r0 := blk_cell R2.out 0; have r1 := blk_cell R2.out 1; have r2 := blk_cell R2.out 2; have r3 := blk_cell R2.out 3; have g0 := blk_frozen R2.out 0; have g1 := blk_frozen R2.out 1; have g2 := blk_frozen R2.out 2; have g3 := blk_frozen R2.out 3; simp only [List.getElem?_toArray, List.getElem?_cons_zero, List.getElem?_cons_succ] at r0 r1 r2 r3))))
          (try simp only [Exit.inBlock, Exit.then])
          have FB := R2.out.set (.string ⟨c.name.toArray⟩) (.slice a1 n1 m1) (.slice a2 n2 m2) (.int .i64 c.at_)
          have z0 := blk_cell FB 0
          have z1 := blk_cell FB 1
          have z2 := blk_cell FB 2
          have z3 := blk_cell FB 3
          simp only [List.getElem?_toArray, List.getElem?_cons_zero, List.getElem?_cons_succ] at z0 z1 z2 z3
          have Z4 := Lib.hid (cw_four L2.out R2.out C2.out (gr_trans G1.out G2.out) PL.out (.string ⟨c.name.toArray⟩) (.slice a1 n1 m1) (.slice a2 n2 m2) (.int .i64 c.at_))
          refine bodyPost_ret (v := .agg #[.string ⟨c.name.toArray⟩, .slice a1 n1 m1, .slice a2 n2 m2, .int .i64 c.at_]) (by simp [results, Tryd.results48, go_sem, z0, z1, z2, z3]) rfl ⟨c, _, _, rfl, Lib.hid Z4.out.2.2, Lib.hid (by rw [BD.out]; exact Z4.out.1), Lib.hid Z4.out.2.1, Lib.hid (fun ho => by rw [BD.out])⟩
end Go.Proofs.YtlhagpfpcdedpaaDoor
