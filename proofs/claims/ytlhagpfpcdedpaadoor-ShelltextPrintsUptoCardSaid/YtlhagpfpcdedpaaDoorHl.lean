/- walks: the parser's pipeline (written by gen_hl.py) -/
import Derived.Test.YtlhagpfpcdedpaaDoorHk
import Derived.Deep.CutRange
namespace Go.Proofs.YtlhagpfpcdedpaaDoor
open Go.RowKit
open Shp
/-- the exclamation mark ahead of a pipeline -/
def plC (s : ByteArray) : St → St × Bool
  | .run t a => if t.b = true then (rd s (.run t a), true) else (.run t a, false)
  | .bad e q => (.bad e q, false)
def bangS : St → Bool
  | .run t _ => t.b
  | .bad _ _ => false
theorem plB_eq (s : ByteArray) (x : St) (num : Int) : plB s x num = plC s (if 64 < num then failS 3 (if beg x = true then x else failS 1 x) else if beg x = true then x else failS 1 x) := by
  unfold plB
  generalize (if 64 < num then failS 3 (if beg x = true then x else failS 1 x) else if beg x = true then x else failS 1 x) = y
  cases y <;> rfl
theorem own_slice2 {w : World} {B : Nat} {e : TypeId} {k : Nat} {v : Value} {n : Nat} {xs : List Value} (h : w.ownsRow B e k v n xs) : ∃ a m, v = .slice a n m := by
  obtain ⟨_, h2⟩ := h
  rcases h2 with ⟨rfl, rfl⟩ | ⟨g, cap, cur, rfl, _⟩
  · exact ⟨_, _, rfl⟩
  · exact ⟨_, _, rfl⟩
/-- the block of the result -/
def RBP (g : Nat) (w : World) : Prop := w.heap[g]? = some (.cells #[.slice none 0 0, .bool false, .int .i64 0] 34 (0, 0))
theorem RBP.same {g : Nat} {w w' : World} (h : RBP g w) (e : w'.heap = w.heap) : RBP g w' := by unfold RBP at *; rw [e]; exact h
theorem RBP.gr {g p : Nat} {w w' : World} (h : RBP g w) (hg : Gr p w w') (hne : g ≠ p) : RBP g w' := by
  obtain ⟨q1, q2, q3, q4, q5⟩ := hg
  unfold RBP at *
  rw [q5 g (Array.getElem?_eq_some_iff.1 h).1 (fun e => hne (by cases e; rfl))]; exact h
abbrev res3 (g : Nat) (w : World) (a b c : Value) : World := ((w.setCell ⟨g, 0, none⟩ a).setCell ⟨g, 1, none⟩ b).setCell ⟨g, 2, none⟩ c
theorem RBP.set {g : Nat} {w : World} (h : RBP g w) (a b c : Value) : (res3 g w a b c).heap[g]? = some (.cells #[a, b, c] 34 (0, 0)) := set_at (set_at (set_at h))
theorem res3_other {g i : Nat} {w : World} {a b c : Value} (h : i ≠ g) : (res3 g w a b c).heap[i]? = w.heap[i]? := (set_other h).trans ((set_other h).trans (set_other h))
theorem pw_three {p g : Nat} {s : ByteArray} {w wr : World} {l : List CmV} {vc : Value} {no : Bool} {cn : Int} {y : St} (L : SM p s wr y) (R : RBP w.heap.size wr) (C : PO g w.heap.size l vc no cn wr) (G : Gr p w wr) (PL : p < w.heap.size) (a b c : Value) :
    SM p s (res3 w.heap.size wr a b c) y ∧ Gr p w (res3 w.heap.size wr a b c) ∧ CmdsV w.heap.size vc l (res3 w.heap.size wr a b c) :=
  ⟨L.same (res3_other (by omega)), gr_setc (gr_setc (gr_setc G (Nat.le_refl _)) (Nat.le_refl _)) (Nat.le_refl _),
    own_ty C.cmds.1 (fun i cs z hi => res3_other (fun e => by subst e; rw [R] at hi; cases hi)), fun x hx => (C.cmds.2 x hx).ty (fun i cs e z he hi => res3_other (fun e1 => by subst e1; rw [R] at hi; rcases he with rfl | rfl <;> cases hi))⟩
/-- on the way -/
structure PW (p : Nat) (s : ByteArray) (x1 : St) (no : Bool) (cn : Int) (w wr : World) (y : St) (l : List CmV) (vc : Value) : Prop where
  L : SM p s wr y
  R : RBP w.heap.size wr
  C : PO (w.heap.size + 1) w.heap.size l vc no cn wr
  G : Gr p w wr
  len : l.length ≤ 16
  run : okB y = true → plI s (y, l.map (·.1), false) = plI s (x1, [], false)
  bad : okB y = false → (plI s (x1, [], false)).1 = y
/-- ahead of the commands -/
structure PA (p : Nat) (s : ByteArray) (cn : Int) (no : Bool) (w wr : World) (y : St) : Prop where
  L : SM p s wr y
  R : RBP w.heap.size wr
  C : PO (w.heap.size + 1) w.heap.size [] (.slice none 0 0) no cn wr
  G : Gr p w wr
theorem PA.same {p : Nat} {s : ByteArray} {cn : Int} {no : Bool} {w wr w' : World} {y : St} (h : PA p s cn no w wr y) (e : SameW wr w') : PA p s cn no w w' y := ⟨h.L.sameW e, h.R.same e.1, h.C.same e.1, gr_same' h.G e⟩
theorem PA.next {p : Nat} {s : ByteArray} {cn : Int} {no : Bool} {w wr w' : World} {y y' : St} (h : PA p s cn no w wr y) (hp : p < w.heap.size) (L : SM p s w' y') (g : Gr p wr w') : PA p s cn no w w' y' :=
  ⟨L, h.R.gr g (by omega), h.C.gr h.L g (by omega), gr_trans h.G g⟩
theorem PA.not1 {p : Nat} {s : ByteArray} {cn : Int} {no : Bool} {w wr : World} {y : St} (h : PA p s cn no w wr y) (hp : p < w.heap.size) : PA p s cn true w (wr.setCell ⟨w.heap.size + 1, 1, none⟩ (.bool true)) y := by
  refine ⟨h.L.setc (by omega), ?_, h.C.not1 true, gr_setc h.G (by omega)⟩
  have := h.R
  unfold RBP at *
  rw [set_other (by omega)]; exact this
theorem PA.new {p : Nat} {s : ByteArray} {cn : Int} {w : World} {x : St} (h : SM p s w x) : PA p s cn false w ((w.alloc (.cells #[.slice none 0 0, .bool false, .int .i64 0] 34)).alloc (.cells #[.slice none 0 0, .bool false, .int .i64 cn] 34)) x := by
  have Ba := (Below.refl w.heap.size w).alloc (Nat.le_refl _) (.cells #[.slice none 0 0, .bool false, .int .i64 0] 34)
  have Bb := Ba.alloc (by simp) (.cells #[.slice none 0 0, .bool false, .int .i64 cn] 34)
  have hb := heap_alloc_new (w.alloc (.cells #[.slice none 0 0, .bool false, .int .i64 0] 34)) (.cells #[.slice none 0 0, .bool false, .int .i64 cn] 34)
  rw [show (w.alloc (.cells #[.slice none 0 0, .bool false, .int .i64 0] 34)).heap.size = w.heap.size + 1 by simp] at hb
  exact ⟨h.same (Bb.block p h.lt), (heap_alloc_old _ _ (by simp)).trans (heap_alloc_new w _), ⟨hb, ⟨rfl, .inl ⟨rfl, rfl⟩⟩, fun x hx => by cases hx⟩, gr_below Bb⟩
set_option maxRecDepth 100000 in
set_option maxHeartbeats 8000000 in
theorem pipeline_st (p : Nat) (s : ByteArray) (x : St) (cn num : Int) (w : World) (h : SM p s w x) (hs : s.size ≤ 8192) :
    Calls Tryd.prog 22 #[.pointer (some ⟨p, 0, none⟩), .int .i64 cn, .int .i64 num] w fun e w' => ∃ (l : List CmV) (vc : Value),
      e = .returned (.agg #[vc, .bool (plS s x num cn).2.no, .int .i64 cn]) ∧ Hid (CmdsV w.heap.size vc l w') ∧ Hid (SM p s w' (plS s x num cn).1) ∧ Hid (Gr p w w') ∧ Hid (okB (plS s x num cn).1 = true → l.map (·.1) = (plS s x num cn).2.cmds) := by
  have PL := Lib.hid h.lt
  have A0 := Lib.hid (PA.new (cn := cn) h)
  clear h
  obtain ⟨r, hr⟩ : ∃ r, beg x = r := ⟨_, rfl⟩
  have BG := Lib.hid hr
  go_enter Tryd.func22, Tryd.ntmps22
  go_upto_region 2 with (fail)
  go_cut [12] from 9 (fun u w' => u = .bool (!r) ∧ Hid (PA p s cn false w w' x))
  · clear hr
    go_wp2_with ((go_at_call 47; refine (begins_st p s x _ _ A0.out.L (by exact ⟨rfl, rfl, rfl, rfl⟩) BG).mono ?_; rintro e w1 ⟨rfl, S1⟩))
    repeat (go_region; go_wp2_with ((go_at_call 47; refine (begins_st p s x _ _ A0.out.L (by exact ⟨rfl, rfl, rfl, rfl⟩) BG).mono ?_; rintro e w1 ⟨rfl, S1⟩)))
    go_meet
    case rel => exact ⟨rfl, Lib.hid (A0.out.same S1)⟩
  obtain ⟨rfl, A1⟩ := hcut
  refine ‹∀ (a : Act) (w : World), Code.wp _ _ _ a w → _› _ _ ?_
  go_cut [] from 9 (fun w' => Hid (PA p s cn false w w' (if beg x = true then x else failS 1 x)))
  · clear hr
    cases r with
    | true =>
      go_wp2_with fail
      go_meet
      case rel => exact Lib.hid (by rw [BG.out]; exact A1.out)
    | false =>
      go_wp2_with (go_at_call 23; refine (unexp_st p s x _ _ A1.out.L (by exact ⟨rfl, rfl, rfl, rfl⟩)).mono ?_; rintro e w2 ⟨rfl, L2, G2⟩)
      go_meet
      case rel => exact Lib.hid (by rw [BG.out]; exact A1.out.next PL.out L2.out G2.out)
  obtain ⟨y1, hy1⟩ : ∃ y1, (if beg x = true then x else failS 1 x) = y1 := ⟨_, rfl⟩
  rw [hy1] at hcut
  have A2 := hcut
  have Y1 := Lib.hid hy1
  clear hcut hr hy1
  refine ‹∀ (a : Act) (w : World), Code.wp _ _ _ a w → _› _ _ ?_
  go_upto_region 4 with (fail)
  go_cut [16] from 9 (fun u w' => u = .bool (decide (64 < num)) ∧ Hid (PA p s cn false w w' y1))
  · go_wp2_with fail
    go_meet
    case rel => exact ⟨rfl, A2⟩
  obtain ⟨rfl, A3⟩ := hcut
  refine ‹∀ (a : Act) (w : World), Code.wp _ _ _ a w → _› _ _ ?_
  go_cut [] from 9 (fun w' => Hid (PA p s cn false w w' (if 64 < num then failS 3 y1 else y1)))
  · obtain ⟨q, c5, Q⟩ := failS_q A3.out.L
    have Q := Lib.hid Q
    by_cases hn : 64 < num
    · go_wp2_with (go_at_call 45; refine (fail_st p s y1 3 q _ _ A3.out.L (by exact ⟨rfl, rfl, rfl, rfl⟩) (.inr rfl) Q.out).mono ?_; rintro e w2 ⟨rfl, L2, G2⟩)
      go_meet
      case rel => exact Lib.hid (by rw [if_pos hn]; exact A3.out.next PL.out L2.out G2.out)
    · go_wp2_with fail
      go_meet
      case rel => exact Lib.hid (by rw [if_neg (by omega)]; exact A3.out)
  obtain ⟨y2, hy2⟩ : ∃ y2, (if 64 < num then failS 3 y1 else y1) = y2 := ⟨_, rfl⟩
  rw [hy2] at hcut
  have A4 := hcut
  have PB : Hid (plB s x num = plC s y2) := Lib.hid (by rw [plB_eq, Y1.out, hy2])
  clear hcut hy2 Y1 A3 A2 A1
  refine ‹∀ (a : Act) (w : World), Code.wp _ _ _ a w → _› _ _ ?_
  go_upto_region 6 with (fail)
  go_cut [35] from 9 (fun u w' => u = .bool (bangS y2) ∧ Hid (PA p s cn false w w' y2))
  · cases y2 with
    | run t a =>
      obtain ⟨-, -, -, -, c4, -, c6, -⟩ := RX.cells A4.out.L.1
      go_wp2_with (fail)
      repeat (go_region; go_wp2_with (fail))
      go_meet
      case rel => exact ⟨rfl, Lib.hid (A4.out.same (by exact ⟨rfl, rfl, rfl, rfl⟩))⟩
    | bad er q =>
      obtain ⟨⟨a, tx, wd, bg, ta, h1⟩, h2⟩ := A4.out.L
      obtain ⟨-, -, -, -, c4, -, c6, -⟩ := h1.cells
      have te : (er == 0) = false := by rw [beq_eq_false_iff_ne]; have := h2.1; omega
      clear h1 h2
      go_wp2_with (fail)
      repeat (go_region; go_wp2_with (fail))
      go_meet
      case rel => exact ⟨rfl, Lib.hid (A4.out.same (by exact ⟨rfl, rfl, rfl, rfl⟩))⟩
  obtain ⟨rfl, A5⟩ := hcut
  refine ‹∀ (a : Act) (w : World), Code.wp _ _ _ a w → _› _ _ ?_
  go_cut [] from 9 (fun w' => Hid (PA p s cn (plB s x num).2 w w' (plB s x num).1))
  · cases y2 with
    | run t a =>
      cases hb : t.b with
      | true =>
        rw [show bangS (.run t a) = true from hb]
        have HC : Hid (plC s (.run t a) = (rd s (.run t a), true)) := Lib.hid (if_pos hb)
        obtain ⟨-, d1, -⟩ := A5.out.C.cells
        have fd1 := blk_frozen A5.out.C.blk 1
        go_wp2_with (go_at_call 19; refine (next_st p s (.run t a) _ _ (A5.out.not1 PL.out).L (by exact ⟨rfl, rfl, rfl, rfl⟩) hs).mono ?_; rintro e w2 ⟨rfl, L2, G2⟩)
        go_meet
        case rel => exact Lib.hid (by rw [PB.out, HC.out]; exact (A5.out.not1 PL.out).next PL.out L2.out G2.out)
      | false =>
        rw [show bangS (.run t a) = false from hb]
        have HC : Hid (plC s (.run t a) = (.run t a, false)) := Lib.hid (if_neg (by rw [hb]; decide))
        go_wp2_with fail
        go_meet
        case rel => exact Lib.hid (by rw [PB.out, HC.out]; exact A5.out)
    | bad er q =>
      rw [show bangS (.bad er q) = false from rfl]
      go_wp2_with fail
      go_meet
      case rel => exact Lib.hid (by rw [PB.out]; exact A5.out)
  obtain ⟨x1, hx1⟩ : ∃ x1, (plB s x num).1 = x1 := ⟨_, rfl⟩
  obtain ⟨no, hno⟩ : ∃ no, (plB s x num).2 = no := ⟨_, rfl⟩
  rw [hx1, hno] at hcut
  have PS : Hid (plS s x num cn = ((plI s (x1, [], false)).1, ⟨(plI s (x1, [], false)).2.1, no, cn⟩)) := Lib.hid (by unfold plS; rw [hx1, hno])
  have X0 : Hid (PW p s x1 no cn w wc x1 [] (.slice none 0 0)) := Lib.hid ⟨hcut.out.L, hcut.out.R, hcut.out.C, hcut.out.G, by simp, fun _ => rfl, fun ho => by
    rw [pl_none (by unfold pl1; rw [if_pos (.inr ho)])]⟩
  clear hcut hx1 hno PB A5 A4 A0 BG
  refine ‹∀ (a : Act) (w : World), Code.wp _ _ _ a w → _› _ _ ?_
  go_wp2_with fail
  go_loopw [43] (fun _ wr => ∃ (y : St) (l : List CmV) (vc : Value), Hid (PW p s x1 no cn w wr y l vc)) (fun _ wr => muW s p wr)
  case atStart => exact ⟨x1, [], .slice none 0 0, X0⟩
  case round =>
    obtain ⟨y, l, vc, X⟩ := hrel
    have L := Lib.hid X.out.L
    have CC := Lib.hid X.out.C
    obtain ⟨k1, hk1⟩ : ∃ k1, l.length = k1 := ⟨_, rfl⟩
    have HK1 := Lib.hid hk1
    obtain ⟨b1, j1, rfl⟩ := own_slice2 CC.out.cmds.1
    rw [hk1] at X CC
    clear hk1
    cases y with
    | bad er qq =>
      obtain ⟨⟨a, tx, wd, bg, ta, h1⟩, h2⟩ := L.out
      obtain ⟨-, -, -, -, -, -, c6, -⟩ := h1.cells
      have te : (er == 0) = false := by rw [beq_eq_false_iff_ne]; have := h2.1; omega
      clear h1 h2
      have R1 := Lib.hid X.out.R
      have G1 := Lib.hid X.out.G
      have BD := Lib.hid (X.out.bad rfl)
      obtain ⟨d0, d1, d2⟩ := CC.out.cells
      have r0 := blk_cell R1.out 0
      have r1 := blk_cell R1.out 1
      have r2 := blk_cell R1.out 2
      have g0 := blk_frozen R1.out 0
      have g1 := blk_frozen R1.out 1
      have g2 := blk_frozen R1.out 2
      simp only [List.getElem?_toArray, List.getElem?_cons_zero, List.getElem?_cons_succ] at r0 r1 r2
      go_wp2_with (fail)
      repeat (go_region; go_wp2_with (fail))
      (try simp only [Exit.inBlock, Exit.then])
      have FB := R1.out.set (.slice b1 k1 j1) (.bool no) (.int .i64 cn)
      have z0 := blk_cell FB 0
      have z1 := blk_cell FB 1
      have z2 := blk_cell FB 2
      simp only [List.getElem?_toArray, List.getElem?_cons_zero, List.getElem?_cons_succ] at z0 z1 z2
      have Z4 := Lib.hid (pw_three L.out R1.out CC.out G1.out PL.out (.slice b1 k1 j1) (.bool no) (.int .i64 cn))
      refine bodyPost_ret (v := .agg #[.slice b1 k1 j1, .bool no, .int .i64 cn]) (by simp [results, Tryd.results22, go_sem, z0, z1, z2]) rfl ⟨l, _, by rw [PS.out], Lib.hid Z4.out.2.2, Lib.hid (by rw [PS.out, BD.out]; exact Z4.out.1), Lib.hid Z4.out.2.1, Lib.hid (fun ho => by rw [PS.out, BD.out] at ho; cases ho)⟩
    | run t a =>
      have GP : Hid (w.heap.size + 1 ≠ p) := Lib.hid (by have := PL.out; omega)
      have RP : Hid (w.heap.size ≠ p) := Lib.hid (by have := PL.out; omega)
      have AL : Hid (l.length ≤ 1048576) := Lib.hid (by have := X.out.len; omega)
      have RR := Lib.hid X.out.R
      have GG := Lib.hid X.out.G
      obtain ⟨-, -, -, -, -, -, c6, -⟩ := RX.cells L.out.1
      cases hb : beg (.run t a) with
      | false =>
        have BG := Lib.hid hb
        have ST : Hid (pl1 s (.run t a, l.map (·.1), false) = some (failS 1 (.run t a), l.map (·.1), true)) := Lib.hid (by
          unfold pl1; simp only; rw [if_neg (by simp [okB]), if_pos BG.out])
        have PSt := Lib.hid ((X.out.run rfl).symm.trans ((pl_step (z := (.run t a, l.map (·.1), false)) L.out.2 ST.out).trans pl_done))
        by_cases h16 : k1 = 16
        · subst h16
          go_wp2_with ((first | (go_at_call 47; refine (begins_st p s (.run t a) wr _ L.out (by exact ⟨rfl, rfl, rfl, rfl⟩) BG).mono ?_; rintro e w1 ⟨rfl, S1⟩; have L1 := Lib.hid (L.out.sameW S1); have C1 := Lib.hid (CC.out.same S1.1); have G1 := Lib.hid (gr_same' GG.out S1); have R1 := Lib.hid (RBP.same RR.out S1.1); obtain ⟨d0, -, -⟩ := C1.out.cells; obtain ⟨-, -, -, -, -, -, c6, -⟩ := RX.cells L1.out.1; clear S1) | (go_at_call 23; refine (unexp_st p s (.run t a) w1 _ L1.out (by exact ⟨rfl, rfl, rfl, rfl⟩)).mono ?_; rintro e w2 ⟨rfl, L2, H2⟩; have C2 := Lib.hid (C1.out.gr L1.out H2.out GP.out); have R2 := Lib.hid (RBP.gr R1.out H2.out RP.out); have G2 := Lib.hid (gr_trans G1.out H2.out); obtain ⟨⟨y1, y3, y4, y5, y6, yy⟩, -⟩ := L2.out; obtain ⟨-, -, -, -, -, c5, c6, -⟩ := yy.cells; clear yy; obtain ⟨d0, d1, d2⟩ := C2.out.cells; have r0 := blk_cell R2.out 0; have r1 := blk_cell R2.out 1; have r2 := blk_cell R2.out 2; have g0 := blk_frozen R2.out 0; have g1 := blk_frozen R2.out 1; have g2 := blk_frozen R2.out 2; simp only [List.getElem?_toArray, List.getElem?_cons_zero, List.getElem?_cons_succ] at r0 r1 r2) | (go_at_call 45; refine (fail_st p s (failS 1 (.run t a)) 3 _ w2 _ L2.out (by exact ⟨rfl, rfl, rfl, rfl⟩) (.inr rfl) (fun t' a' e => by cases e)).mono ?_; rintro e w3 ⟨rfl, L3, H3⟩; have C3 := Lib.hid (C2.out.gr L2.out H3.out GP.out); have R3 := Lib.hid (RBP.gr R2.out H3.out RP.out); have G3 := Lib.hid (gr_trans G2.out H3.out); obtain ⟨⟨y1, y3, y4, y5, y6, yy⟩, -⟩ := L3.out; obtain ⟨-, -, -, -, -, c5, c6, -⟩ := yy.cells; clear yy; obtain ⟨d0, d1, d2⟩ := C3.out.cells; have r0 := blk_cell R3.out 0; have r1 := blk_cell R3.out 1; have r2 := blk_cell R3.out 2; have g0 := blk_frozen R3.out 0; have g1 := blk_frozen R3.out 1; have g2 := blk_frozen R3.out 2; simp only [List.getElem?_toArray, List.getElem?_cons_zero, List.getElem?_cons_succ] at r0 r1 r2)))
          repeat (go_region; go_wp2_with ((first | (go_at_call 47; refine (begins_st p s (.run t a) wr _ L.out (by exact ⟨rfl, rfl, rfl, rfl⟩) BG).mono ?_; rintro e w1 ⟨rfl, S1⟩; have L1 := Lib.hid (L.out.sameW S1); have C1 := Lib.hid (CC.out.same S1.1); have G1 := Lib.hid (gr_same' GG.out S1); have R1 := Lib.hid (RBP.same RR.out S1.1); obtain ⟨d0, -, -⟩ := C1.out.cells; obtain ⟨-, -, -, -, -, -, c6, -⟩ := RX.cells L1.out.1; clear S1) | (go_at_call 23; refine (unexp_st p s (.run t a) w1 _ L1.out (by exact ⟨rfl, rfl, rfl, rfl⟩)).mono ?_; rintro e w2 ⟨rfl, L2, H2⟩; have C2 := Lib.hid (C1.out.gr L1.out H2.out GP.out); have R2 := Lib.hid (RBP.gr R1.out H2.out RP.out); have G2 := Lib.hid (gr_trans G1.out H2.out); obtain ⟨⟨y1, y3, y4, y5, y6, yy⟩, -⟩ := L2.out; obtain ⟨-, -, -, -, -, c5, c6, -⟩ := yy.cells; clear yy; obtain ⟨d0, d1, d2⟩ := C2.out.cells; have r0 := blk_cell R2.out 0; have r1 := blk_cell R2.out 1; have r2 := blk_cell R2.out 2; have g0 := blk_frozen R2.out 0; have g1 := blk_frozen R2.out 1; have g2 := blk_frozen R2.out 2; simp only [List.getElem?_toArray, List.getElem?_cons_zero, List.getElem?_cons_succ] at r0 r1 r2) | (go_at_call 45; refine (fail_st p s (failS 1 (.run t a)) 3 _ w2 _ L2.out (by exact ⟨rfl, rfl, rfl, rfl⟩) (.inr rfl) (fun t' a' e => by cases e)).mono ?_; rintro e w3 ⟨rfl, L3, H3⟩; have C3 := Lib.hid (C2.out.gr L2.out H3.out GP.out); have R3 := Lib.hid (RBP.gr R2.out H3.out RP.out); have G3 := Lib.hid (gr_trans G2.out H3.out); obtain ⟨⟨y1, y3, y4, y5, y6, yy⟩, -⟩ := L3.out; obtain ⟨-, -, -, -, -, c5, c6, -⟩ := yy.cells; clear yy; obtain ⟨d0, d1, d2⟩ := C3.out.cells; have r0 := blk_cell R3.out 0; have r1 := blk_cell R3.out 1; have r2 := blk_cell R3.out 2; have g0 := blk_frozen R3.out 0; have g1 := blk_frozen R3.out 1; have g2 := blk_frozen R3.out 2; simp only [List.getElem?_toArray, List.getElem?_cons_zero, List.getElem?_cons_succ] at r0 r1 r2))))
          (try simp only [Exit.inBlock, Exit.then])
          have FB := R3.out.set (.slice b1 16 j1) (.bool no) (.int .i64 cn)
          have z0 := blk_cell FB 0
          have z1 := blk_cell FB 1
          have z2 := blk_cell FB 2
          simp only [List.getElem?_toArray, List.getElem?_cons_zero, List.getElem?_cons_succ] at z0 z1 z2
          have Z4 := Lib.hid (pw_three L3.out R3.out C3.out G3.out PL.out (.slice b1 16 j1) (.bool no) (.int .i64 cn))
          refine bodyPost_ret (v := .agg #[.slice b1 16 j1, .bool no, .int .i64 cn]) (by simp [results, Tryd.results22, go_sem, z0, z1, z2]) rfl ⟨l, _, by rw [PS.out], Lib.hid Z4.out.2.2, Lib.hid (by rw [PS.out, PSt.out]; exact Z4.out.1), Lib.hid Z4.out.2.1, Lib.hid (fun ho => by rw [PS.out, PSt.out] at ho; cases ho)⟩
        have i16 : ((k1 : Int) == 16) = false := by rw [beq_eq_false_iff_ne]; omega
        go_wp2_with ((first | (go_at_call 47; refine (begins_st p s (.run t a) wr _ L.out (by exact ⟨rfl, rfl, rfl, rfl⟩) BG).mono ?_; rintro e w1 ⟨rfl, S1⟩; have L1 := Lib.hid (L.out.sameW S1); have C1 := Lib.hid (CC.out.same S1.1); have G1 := Lib.hid (gr_same' GG.out S1); have R1 := Lib.hid (RBP.same RR.out S1.1); obtain ⟨d0, -, -⟩ := C1.out.cells; obtain ⟨-, -, -, -, -, -, c6, -⟩ := RX.cells L1.out.1; clear S1) | (go_at_call 23; refine (unexp_st p s (.run t a) w1 _ L1.out (by exact ⟨rfl, rfl, rfl, rfl⟩)).mono ?_; rintro e w2 ⟨rfl, L2, H2⟩; have C2 := Lib.hid (C1.out.gr L1.out H2.out GP.out); have R2 := Lib.hid (RBP.gr R1.out H2.out RP.out); have G2 := Lib.hid (gr_trans G1.out H2.out); obtain ⟨⟨y1, y3, y4, y5, y6, yy⟩, -⟩ := L2.out; obtain ⟨-, -, -, -, -, c5, c6, -⟩ := yy.cells; clear yy; obtain ⟨d0, d1, d2⟩ := C2.out.cells; have r0 := blk_cell R2.out 0; have r1 := blk_cell R2.out 1; have r2 := blk_cell R2.out 2; have g0 := blk_frozen R2.out 0; have g1 := blk_frozen R2.out 1; have g2 := blk_frozen R2.out 2; simp only [List.getElem?_toArray, List.getElem?_cons_zero, List.getElem?_cons_succ] at r0 r1 r2)))
        repeat (go_region; go_wp2_with ((first | (go_at_call 47; refine (begins_st p s (.run t a) wr _ L.out (by exact ⟨rfl, rfl, rfl, rfl⟩) BG).mono ?_; rintro e w1 ⟨rfl, S1⟩; have L1 := Lib.hid (L.out.sameW S1); have C1 := Lib.hid (CC.out.same S1.1); have G1 := Lib.hid (gr_same' GG.out S1); have R1 := Lib.hid (RBP.same RR.out S1.1); obtain ⟨d0, -, -⟩ := C1.out.cells; obtain ⟨-, -, -, -, -, -, c6, -⟩ := RX.cells L1.out.1; clear S1) | (go_at_call 23; refine (unexp_st p s (.run t a) w1 _ L1.out (by exact ⟨rfl, rfl, rfl, rfl⟩)).mono ?_; rintro e w2 ⟨rfl, L2, H2⟩; have C2 := Lib.hid (C1.out.gr L1.out H2.out GP.out); have R2 := Lib.hid (RBP.gr R1.out H2.out RP.out); have G2 := Lib.hid (gr_trans G1.out H2.out); obtain ⟨⟨y1, y3, y4, y5, y6, yy⟩, -⟩ := L2.out; obtain ⟨-, -, -, -, -, c5, c6, -⟩ := yy.cells; clear yy; obtain ⟨d0, d1, d2⟩ := C2.out.cells; have r0 := blk_cell R2.out 0; have r1 := blk_cell R2.out 1; have r2 := blk_cell R2.out 2; have g0 := blk_frozen R2.out 0; have g1 := blk_frozen R2.out 1; have g2 := blk_frozen R2.out 2; simp only [List.getElem?_toArray, List.getElem?_cons_zero, List.getElem?_cons_succ] at r0 r1 r2))))
        (try simp only [Exit.inBlock, Exit.then])
        have FB := R2.out.set (.slice b1 k1 j1) (.bool no) (.int .i64 cn)
        have z0 := blk_cell FB 0
        have z1 := blk_cell FB 1
        have z2 := blk_cell FB 2
        simp only [List.getElem?_toArray, List.getElem?_cons_zero, List.getElem?_cons_succ] at z0 z1 z2
        have Z4 := Lib.hid (pw_three L2.out R2.out C2.out G2.out PL.out (.slice b1 k1 j1) (.bool no) (.int .i64 cn))
        refine bodyPost_ret (v := .agg #[.slice b1 k1 j1, .bool no, .int .i64 cn]) (by simp [results, Tryd.results22, go_sem, z0, z1, z2]) rfl ⟨l, _, by rw [PS.out], Lib.hid Z4.out.2.2, Lib.hid (by rw [PS.out, PSt.out]; exact Z4.out.1), Lib.hid Z4.out.2.1, Lib.hid (fun ho => by rw [PS.out, PSt.out] at ho; cases ho)⟩
      | true =>
        have BG := Lib.hid hb
        by_cases h16 : k1 = 16
        · subst h16
          have ST : Hid (pl1 s (.run t a, l.map (·.1), false) = some (failS 3 (.run t a), l.map (·.1), true)) := Lib.hid (by
            unfold pl1; simp only; rw [if_neg (by simp [okB]), if_neg (by rw [BG.out]; decide), if_pos (by rw [List.length_map]; exact HK1.out)])
          have PSt := Lib.hid ((X.out.run rfl).symm.trans ((pl_step (z := (.run t a, l.map (·.1), false)) L.out.2 ST.out).trans pl_done))
          go_wp2_with ((first | (go_at_call 47; refine (begins_st p s (.run t a) wr _ L.out (by exact ⟨rfl, rfl, rfl, rfl⟩) BG).mono ?_; rintro e w1 ⟨rfl, S1⟩; have L1 := Lib.hid (L.out.sameW S1); have C1 := Lib.hid (CC.out.same S1.1); have G1 := Lib.hid (gr_same' GG.out S1); have R1 := Lib.hid (RBP.same RR.out S1.1); obtain ⟨d0, -, -⟩ := C1.out.cells; obtain ⟨-, -, -, -, -, c5, c6, -⟩ := RX.cells L1.out.1; clear S1) | (go_at_call 45; refine (fail_st p s (.run t a) 3 t.a w1 _ L1.out (by exact ⟨rfl, rfl, rfl, rfl⟩) (.inr rfl) (fun t' a' e => by cases e; rfl)).mono ?_; rintro e w2 ⟨rfl, L2, H2⟩; have C2 := Lib.hid (C1.out.gr L1.out H2.out GP.out); have R2 := Lib.hid (RBP.gr R1.out H2.out RP.out); have G2 := Lib.hid (gr_trans G1.out H2.out); obtain ⟨⟨y1, y3, y4, y5, y6, yy⟩, -⟩ := L2.out; obtain ⟨-, -, -, -, -, -, c6, -⟩ := yy.cells; clear yy; obtain ⟨d0, d1, d2⟩ := C2.out.cells; have r0 := blk_cell R2.out 0; have r1 := blk_cell R2.out 1; have r2 := blk_cell R2.out 2; have g0 := blk_frozen R2.out 0; have g1 := blk_frozen R2.out 1; have g2 := blk_frozen R2.out 2; simp only [List.getElem?_toArray, List.getElem?_cons_zero, List.getElem?_cons_succ] at r0 r1 r2)))
          repeat (go_region; go_wp2_with ((first | (go_at_call 47; refine (begins_st p s (.run t a) wr _ L.out (by exact ⟨rfl, rfl, rfl, rfl⟩) BG).mono ?_; rintro e w1 ⟨rfl, S1⟩; have L1 := Lib.hid (L.out.sameW S1); have C1 := Lib.hid (CC.out.same S1.1); have G1 := Lib.hid (gr_same' GG.out S1); have R1 := Lib.hid (RBP.same RR.out S1.1); obtain ⟨d0, -, -⟩ := C1.out.cells; obtain ⟨-, -, -, -, -, c5, c6, -⟩ := RX.cells L1.out.1; clear S1) | (go_at_call 45; refine (fail_st p s (.run t a) 3 t.a w1 _ L1.out (by exact ⟨rfl, rfl, rfl, rfl⟩) (.inr rfl) (fun t' a' e => by cases e; rfl)).mono ?_; rintro e w2 ⟨rfl, L2, H2⟩; have C2 := Lib.hid (C1.out.gr L1.out H2.out GP.out); have R2 := Lib.hid (RBP.gr R1.out H2.out RP.out); have G2 := Lib.hid (gr_trans G1.out H2.out); obtain ⟨⟨y1, y3, y4, y5, y6, yy⟩, -⟩ := L2.out; obtain ⟨-, -, -, -, -, -, c6, -⟩ := yy.cells; clear yy; obtain ⟨d0, d1, d2⟩ := C2.out.cells; have r0 := blk_cell R2.out 0; have r1 := blk_cell R2.out 1; have r2 := blk_cell R2.out 2; have g0 := blk_frozen R2.out 0; have g1 := blk_frozen R2.out 1; have g2 := blk_frozen R2.out 2; simp only [List.getElem?_toArray, List.getElem?_cons_zero, List.getElem?_cons_succ] at r0 r1 r2))))
          (try simp only [Exit.inBlock, Exit.then])
          have FB := R2.out.set (.slice b1 16 j1) (.bool no) (.int .i64 cn)
          have z0 := blk_cell FB 0
          have z1 := blk_cell FB 1
          have z2 := blk_cell FB 2
          simp only [List.getElem?_toArray, List.getElem?_cons_zero, List.getElem?_cons_succ] at z0 z1 z2
          have Z4 := Lib.hid (pw_three L2.out R2.out C2.out G2.out PL.out (.slice b1 16 j1) (.bool no) (.int .i64 cn))
          refine bodyPost_ret (v := .agg #[.slice b1 16 j1, .bool no, .int .i64 cn]) (by simp [results, Tryd.results22, go_sem, z0, z1, z2]) rfl ⟨l, _, by rw [PS.out], Lib.hid Z4.out.2.2, Lib.hid (by rw [PS.out, PSt.out]; exact Z4.out.1), Lib.hid Z4.out.2.1, Lib.hid (fun ho => by rw [PS.out, PSt.out] at ho; cases ho)⟩
        have i16 : ((k1 : Int) == 16) = false := by rw [beq_eq_false_iff_ne]; omega
        go_wp2_with ((go_at_call 47; refine (begins_st p s (.run t a) wr _ L.out (by exact ⟨rfl, rfl, rfl, rfl⟩) BG).mono ?_; rintro e w1 ⟨rfl, S1⟩; have L1 := Lib.hid (L.out.sameW S1); have C1 := Lib.hid (CC.out.same S1.1); have G1 := Lib.hid (gr_same' GG.out S1); have R1 := Lib.hid (RBP.same RR.out S1.1); obtain ⟨d0, -, -⟩ := C1.out.cells; obtain ⟨-, -, -, -, -, -, c6, -⟩ := RX.cells L1.out.1; clear S1))
        repeat (go_region; go_wp2_with ((go_at_call 47; refine (begins_st p s (.run t a) wr _ L.out (by exact ⟨rfl, rfl, rfl, rfl⟩) BG).mono ?_; rintro e w1 ⟨rfl, S1⟩; have L1 := Lib.hid (L.out.sameW S1); have C1 := Lib.hid (CC.out.same S1.1); have G1 := Lib.hid (gr_same' GG.out S1); have R1 := Lib.hid (RBP.same RR.out S1.1); obtain ⟨d0, -, -⟩ := C1.out.cells; obtain ⟨-, -, -, -, -, -, c6, -⟩ := RX.cells L1.out.1; clear S1)))
        go_region_law (first | (go_simp; (go_at_call 48; refine (command_st p s (.run t a) _ (L1.out.same (by rfl)) hs).mono ?_; rintro e w3 ⟨c, va, vr, rfl, M3, L3, G3, E3⟩; obtain ⟨a1, n1, m1, rfl⟩ := own_slice M3.out.1; obtain ⟨a2, n2, m2, rfl⟩ := own_slice M3.out.2; have C3 := Lib.hid (C1.out.gr L1.out (gr_same G3.out (by exact ⟨rfl, rfl, rfl, rfl⟩)) GP.out); obtain ⟨d0, -, -⟩ := C3.out.cells; have G13 := Lib.hid (gr_trans G1.out (gr_same G3.out (by exact ⟨rfl, rfl, rfl, rfl⟩))); have SZ := Lib.hid G13.out.size; have d0a : (w3.alloc (.cells #[.string ⟨c.name.toArray⟩, .slice a1 n1 m1, .slice a2 n2 m2, .int .i64 c.at_] 40)).cell? ⟨w.heap.size + 1, 0, none⟩ = some (.slice b1 k1 j1) := (((Below.refl w3.heap.size w3).alloc (Nat.le_refl _) _).cell (p := ⟨w.heap.size + 1, 0, none⟩) (Array.getElem?_eq_some_iff.1 C3.out.blk).1).trans d0)) | (refine step_cmd rfl (.tmp 66) (.tmp 69) rfl (.slice b1 k1 j1) k1 (cmC l) ⟨c.name.toArray⟩ n1 m1 n2 m2 a1 a2 c.at_ w.heap.size w3 (HK1.out ▸ C3.out.cmds.1) SZ.out (HK1.out ▸ AL.out) (by simp [Act.eval]) (by simp [Act.eval]) ?_; intro h2 cap w4 hown hgr; have e0 := (grown_keep hgr C3.out.cmds.1 C3.out.blk (by decide)).trans C3.out.blk; have d0 := blk_cell e0 0; have fd0 := blk_frozen e0 0; simp only [List.getElem?_toArray, List.getElem?_cons_zero] at d0))
        all_goals (
          obtain rfl := HK1.out
          have M4 := Lib.hid (M3.out.mono (show w.heap.size ≤ _ from G1.out.size))
          have C4 := Lib.hid (C3.out.cmd1 M4.out hgr hown)
          have L4 := Lib.hid ((L3.out.grown hgr C3.out.cmds.1 (by decide)).setc (j := 0) (y := .slice (some ⟨h2, 0, none⟩) (l.length + 1) cap) GP.out)
          have G4 := Lib.hid (gr_setc (j := 0) (y := .slice (some ⟨h2, 0, none⟩) (l.length + 1) cap) (gr_grown G13.out hgr C3.out.cmds.1 (Nat.le_refl _)) (show w.heap.size ≤ w.heap.size + 1 by omega))
          have R4 : Hid (RBP w.heap.size (w4.setCell ⟨w.heap.size + 1, 0, none⟩ (.slice (some ⟨h2, 0, none⟩) (l.length + 1) cap))) := Lib.hid (by
            have r := RBP.gr R1.out (gr_same G3.out (by exact ⟨rfl, rfl, rfl, rfl⟩)) RP.out
            have r2 := (grown_keep hgr C3.out.cmds.1 r (by decide)).trans r
            unfold RBP; rw [set_other (by omega)]; exact r2)
          obtain ⟨y2, hy2⟩ : ∃ y2, (cmS s (.run t a)).1 = y2 := ⟨_, rfl⟩
          rw [hy2] at L4
          have HY := Lib.hid hy2
          have LI := Lib.hid X.out.len
          cases hi : isO [124] y2 with
          | true =>
            have IB : Hid (isB (ByteArray.mk #[124]).data.toList y2 = true) := Lib.hid ((isB_isO L4.out.2 (by decide)).trans hi)
            have ST : Hid (pl1 s (.run t a, l.map (·.1), false) = some (lfS s (rd s y2), l.map (·.1) ++ [(cmS s (.run t a)).2], false)) := Lib.hid (by
              unfold pl1; simp only; rw [if_neg (by simp [okB]), if_neg (by rw [BG.out]; decide), if_neg (by rw [List.length_map]; exact h16), if_pos (by rw [hy2]; exact hi), hy2])
            have PSt := (X.out.run rfl).symm.trans (pl_step (z := (.run t a, l.map (·.1), false)) L.out.2 ST.out)
            have PRUN : Hid (okB (lfS s (rd s y2)) = true → plI s (lfS s (rd s y2), (l ++ [(c, Value.slice a1 n1 m1, Value.slice a2 n2 m2)]).map (·.1), false) = plI s (x1, [], false)) := Lib.hid (fun _ => by
              rw [PSt, List.map_append, List.map_singleton, E3.out (by rw [hy2]; exact isO_ok hi)])
            have PBAD : Hid (okB (lfS s (rd s y2)) = false → (plI s (x1, [], false)).1 = lfS s (rd s y2)) := Lib.hid (fun ho => by
              rw [PSt, pl_none (by unfold pl1; rw [if_pos (.inr ho)])])
            have PM : Hid (mu s (lfS s (rd s y2)) < mu s (.run t a)) := Lib.hid (by
              have m := (pl1_mu (z := (.run t a, l.map (·.1), false)) L.out.2 ST.out).2.1
              unfold plMu at m; simp only at m; omega)
            have MU := Lib.hid L.out.mu
            clear hy2 PSt
            go_wp2_with (first | (go_at_call 21; refine (is_st p s y2 _ _ _ L4.out (by exact ⟨rfl, rfl, rfl, rfl⟩) IB).mono ?_; rintro e w5 ⟨rfl, S5⟩) | (go_at_call 19; refine (next_st p s y2 _ _ L4.out S5 hs).mono ?_; rintro e w6 ⟨rfl, L6, G6⟩) | (go_at_call 20; refine (lines_st p s (rd s y2) _ _ L6.out (by exact ⟨rfl, rfl, rfl, rfl⟩) hs).mono ?_; rintro e w7 ⟨rfl, L7, G7⟩))
            go_roundw
            case rel => exact ⟨_, _, _, Lib.hid ⟨L7.out, (R4.out.gr G6.out RP.out).gr G7.out RP.out, (C4.out.gr L4.out G6.out GP.out).gr L6.out G7.out GP.out, gr_trans (gr_trans G4.out G6.out) G7.out, by have := LI.out; simp only [List.length_append, List.length_singleton]; omega, PRUN.out, PBAD.out⟩⟩
            case measure => rw [MU.out, L7.out.mu]; exact PM.out
          | false =>
            have IB : Hid (isB (ByteArray.mk #[124]).data.toList y2 = false) := Lib.hid ((isB_isO L4.out.2 (by decide)).trans hi)
            have ST : Hid (pl1 s (.run t a, l.map (·.1), false) = some (y2, l.map (·.1) ++ [(cmS s (.run t a)).2], true)) := Lib.hid (by
              unfold pl1; simp only; rw [if_neg (by simp [okB]), if_neg (by rw [BG.out]; decide), if_neg (by rw [List.length_map]; exact h16), if_neg (by rw [hy2, hi]; decide), hy2])
            have PSt := Lib.hid ((X.out.run rfl).symm.trans ((pl_step (z := (.run t a, l.map (·.1), false)) L.out.2 ST.out).trans pl_done))
            have E4 : Hid (okB y2 = true → c = (cmS s (.run t a)).2) := Lib.hid (fun ho => E3.out (by rw [hy2]; exact ho))
            clear hy2
            go_wp2_with (go_at_call 21; refine (is_st p s y2 _ _ _ L4.out (by exact ⟨rfl, rfl, rfl, rfl⟩) IB).mono ?_; rintro e w5 ⟨rfl, S5⟩; have C5 := Lib.hid (C4.out.same S5.1); have R5 := Lib.hid (RBP.same R4.out S5.1); have L5 := Lib.hid (L4.out.sameW S5); have G5 := Lib.hid (gr_same' G4.out S5); obtain ⟨d0, d1, d2⟩ := C5.out.cells; have r0 := blk_cell R5.out 0; have r1 := blk_cell R5.out 1; have r2 := blk_cell R5.out 2; have g0 := blk_frozen R5.out 0; have g1 := blk_frozen R5.out 1; have g2 := blk_frozen R5.out 2; simp only [List.getElem?_toArray, List.getElem?_cons_zero, List.getElem?_cons_succ] at r0 r1 r2; clear S5)
            (try simp only [Exit.inBlock, Exit.then])
            have FB := R5.out.set (.slice (some ⟨h2, 0, none⟩) (l.length + 1) cap) (.bool no) (.int .i64 cn)
            have z0 := blk_cell FB 0
            have z1 := blk_cell FB 1
            have z2 := blk_cell FB 2
            simp only [List.getElem?_toArray, List.getElem?_cons_zero, List.getElem?_cons_succ] at z0 z1 z2
            have Z4 := Lib.hid (pw_three L5.out R5.out C5.out G5.out PL.out (.slice (some ⟨h2, 0, none⟩) (l.length + 1) cap) (.bool no) (.int .i64 cn))
            refine bodyPost_ret (v := .agg #[.slice (some ⟨h2, 0, none⟩) (l.length + 1) cap, .bool no, .int .i64 cn]) (by simp [results, Tryd.results22, go_sem, z0, z1, z2]) rfl ⟨_, _, by rw [PS.out], Lib.hid Z4.out.2.2, Lib.hid (by rw [PS.out, PSt.out]; exact Z4.out.1), Lib.hid Z4.out.2.1, Lib.hid (fun ho => by rw [PS.out, PSt.out] at ho ⊢; rw [List.map_append, List.map_singleton, E4.out ho])⟩)
end Go.Proofs.YtlhagpfpcdedpaaDoor
