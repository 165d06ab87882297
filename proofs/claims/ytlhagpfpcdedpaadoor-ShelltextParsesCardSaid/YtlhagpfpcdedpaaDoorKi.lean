/- walks: the reader's pipeline (written by gen_ki.py) -/
import Derived.Test.YtlhagpfpcdedpaaDoorKg
import Derived.Test.YtlhagpfpcdedpaaDoorKh
namespace Go.Proofs.YtlhagpfpcdedpaaDoor
open Go.RowKit
open Shp
theorem CmdsV.grr {B p : Nat} {v : Value} {l : List CmV} {s : ByteArray} {x : St} {w w' : World} (h : CmdsV B v l w) (m : RM p s w x) (g : Gr p w w') : CmdsV B v l w' := by
  obtain ⟨cs, hb⟩ := m.blk
  exact ⟨own_gr h.1 g hb (by decide), fun x hx => ⟨own_gr (h.2 x hx).1 g hb (by decide), own_gr (h.2 x hx).2 g hb (by decide)⟩⟩
theorem PO.grr {g B p : Nat} {l : List CmV} {vc : Value} {no : Bool} {cn : Int} {w w' : World} {s : ByteArray} {x : St} (h : PO g B l vc no cn w) (m : RM p s w x) (hg : Gr p w w') (hne : g ≠ p) : PO g B l vc no cn w' := by
  refine ⟨?_, h.cmds.grr m hg⟩
  obtain ⟨q1, q2, q3, q4, q5⟩ := hg
  rw [q5 g (Array.getElem?_eq_some_iff.1 h.blk).1 (fun e => hne (by cases e; rfl))]
  exact h.blk
theorem pwr_three {p g : Nat} {s : ByteArray} {w wr : World} {l : List CmV} {vc : Value} {no : Bool} {cn : Int} {y : St} (L : RM p s wr y) (R : RBP w.heap.size wr) (C : PO g w.heap.size l vc no cn wr) (G : Gr p w wr) (PL : p < w.heap.size) (a b c : Value) :
    RM p s (res3 w.heap.size wr a b c) y ∧ Gr p w (res3 w.heap.size wr a b c) ∧ CmdsV w.heap.size vc l (res3 w.heap.size wr a b c) :=
  ⟨L.same (res3_other (by omega)), gr_setc (gr_setc (gr_setc G (Nat.le_refl _)) (Nat.le_refl _)) (Nat.le_refl _),
    own_ty C.cmds.1 (fun i cs z hi => res3_other (fun e => by subst e; rw [R] at hi; cases hi)), fun x hx => (C.cmds.2 x hx).ty (fun i cs e z he hi => res3_other (fun e1 => by subst e1; rw [R] at hi; rcases he with rfl | rfl <;> cases hi))⟩
/-- in memory, on the way -/
structure PAR (p : Nat) (s : ByteArray) (cn : Int) (no : Bool) (w wr : World) (y : St) (l : List CmV) (vc : Value) : Prop where
  L : RM p s wr y
  R : RBP w.heap.size wr
  C : PO (w.heap.size + 1) w.heap.size l vc no cn wr
  G : Gr p w wr
section
variable {p : Nat} {s : ByteArray} {cn : Int} {no : Bool} {w wr w' : World} {y y' : St} {l : List CmV} {vc : Value}
theorem PAR.same (h : PAR p s cn no w wr y l vc) (e : SameW wr w') : PAR p s cn no w w' y l vc := ⟨h.L.sameW e, h.R.same e.1, h.C.same e.1, gr_same' h.G e⟩
theorem PAR.next (h : PAR p s cn no w wr y l vc) (hp : p < w.heap.size) (L : RM p s w' y') (g : Gr p wr w') : PAR p s cn no w w' y' l vc :=
  ⟨L, h.R.gr g (by omega), h.C.grr h.L g (by omega), gr_trans h.G g⟩
theorem PAR.not1 (h : PAR p s cn no w wr y l vc) (hp : p < w.heap.size) : PAR p s cn true w (wr.setCell ⟨w.heap.size + 1, 1, none⟩ (.bool true)) y l vc := by
  refine ⟨h.L.setc (by omega), ?_, h.C.not1 true, gr_setc h.G (by omega)⟩
  have := h.R
  unfold RBP at *
  rw [set_other (by omega)]; exact this
theorem PAR.new {x : St} (h : RM p s w x) : PAR p s cn false w ((w.alloc (.cells #[.slice none 0 0, .bool false, .int .i64 0] 34)).alloc (.cells #[.slice none 0 0, .bool false, .int .i64 cn] 34)) x [] (.slice none 0 0) := by
  have Ba := (Below.refl w.heap.size w).alloc (Nat.le_refl _) (.cells #[.slice none 0 0, .bool false, .int .i64 0] 34)
  have Bb := Ba.alloc (by simp) (.cells #[.slice none 0 0, .bool false, .int .i64 cn] 34)
  have hb := heap_alloc_new (w.alloc (.cells #[.slice none 0 0, .bool false, .int .i64 0] 34)) (.cells #[.slice none 0 0, .bool false, .int .i64 cn] 34)
  rw [show (w.alloc (.cells #[.slice none 0 0, .bool false, .int .i64 0] 34)).heap.size = w.heap.size + 1 by simp] at hb
  exact ⟨h.same (Bb.block p h.lt), (heap_alloc_old _ _ (by simp)).trans (heap_alloc_new w _), ⟨hb, ⟨rfl, .inl ⟨rfl, rfl⟩⟩, fun x hx => by cases hx⟩, gr_below Bb⟩
end
/-- on the way, with what is still to come -/
structure PWR (p : Nat) (s : ByteArray) (x1 : St) (no : Bool) (cn : Int) (w wr : World) (y : St) (l : List CmV) (vc : Value) : Prop where
  A : PAR p s cn no w wr y l vc
  len : l.length ≤ 16
  run : plI s (y, l.map (·.1), false) = plI s (x1, [], false)
set_option maxRecDepth 100000 in
set_option maxHeartbeats 8000000 in
theorem rpipeline_st (p : Nat) (s : ByteArray) (x : St) (cn : Int) (w : World) (h : RM p s w x) (hb : BgW x) (hs : s.size ≤ 8192) :
    Calls Tryd.prog 28 #[.pointer (some ⟨p, 0, none⟩), .int .i64 cn] w fun e w' => ∃ (l : List CmV) (vc : Value),
      e = .returned (.agg #[vc, .bool (plC s x).2, .int .i64 cn]) ∧ Hid (CmdsV w.heap.size vc l w') ∧ Hid (RM p s w' (plI s ((plC s x).1, [], false)).1) ∧ Hid (Gr p w w') ∧ Hid (okB (plI s ((plC s x).1, [], false)).1 = true → l.map (·.1) = (plI s ((plC s x).1, [], false)).2.1) := by
  have PL := Lib.hid h.lt
  have A0 := Lib.hid (PAR.new (cn := cn) h)
  have HB := Lib.hid hb
  clear h hb
  obtain ⟨x1, hx1⟩ : ∃ x1, (plC s x).1 = x1 := ⟨_, rfl⟩
  obtain ⟨no, hno⟩ : ∃ no, (plC s x).2 = no := ⟨_, rfl⟩
  have HX := Lib.hid hx1
  have HN := Lib.hid hno
  rw [hx1, hno]
  clear hx1 hno
  go_enter Tryd.func28, Tryd.ntmps28
  go_upto_region 2 with (fail)
  go_cut [28] from 8 (fun u w' => u = .bool (bangS x) ∧ Hid (PAR p s cn false w w' x [] (.slice none 0 0)))
  · cases x with
    | run t a =>
      obtain ⟨-, c1, -, c3, -, -, c6, -⟩ := RY.cells A0.out.L.1
      cases hb : t.b with
      | true =>
        have k1 := HB.out t a rfl hb
        rw [k1] at c1
        rw [hb] at c3
        clear k1
        go_wp2_with (fail)
        repeat (go_region; go_wp2_with (fail))
        go_meet
        case rel => exact ⟨by show _ = Value.bool t.b; rw [hb], Lib.hid (A0.out.same (by exact ⟨rfl, rfl, rfl, rfl⟩))⟩
      | false =>
        rw [hb] at c3
        by_cases k1 : t.k = 1
        · rw [k1] at c1
          clear k1
          go_wp2_with (fail)
          repeat (go_region; go_wp2_with (fail))
          go_meet
          case rel => exact ⟨by show _ = Value.bool t.b; rw [hb], Lib.hid (A0.out.same (by exact ⟨rfl, rfl, rfl, rfl⟩))⟩
        · have tn : (((t.k : Nat) : Int) == 1) = false := by rw [beq_eq_false_iff_ne]; omega
          clear k1
          go_wp2_with (fail)
          repeat (go_region; go_wp2_with (fail))
          go_meet
          case rel => exact ⟨by show _ = Value.bool t.b; rw [hb], Lib.hid (A0.out.same (by exact ⟨rfl, rfl, rfl, rfl⟩))⟩
    | bad er q =>
      obtain ⟨⟨k, tx, b, ta, af, h1⟩, h2⟩ := A0.out.L
      obtain ⟨-, c1, -, c3, -, -, c6, -⟩ := h1.cells
      have te : (er == 0) = false := by rw [beq_eq_false_iff_ne]; have := h2.1; omega
      clear h1 h2
      go_wp2_with (fail)
      repeat (go_region; go_wp2_with (fail))
      go_meet
      case rel => exact ⟨rfl, Lib.hid (A0.out.same (by exact ⟨rfl, rfl, rfl, rfl⟩))⟩
  obtain ⟨rfl, A5⟩ := hcut
  refine ‹∀ (a : Act) (w : World), Code.wp _ _ _ a w → _› _ _ ?_
  go_cut [] from 8 (fun w' => Hid (PAR p s cn (plC s x).2 w w' (plC s x).1 [] (.slice none 0 0)))
  · cases x with
    | run t a =>
      cases hb : t.b with
      | true =>
        rw [show bangS (.run t a) = true from hb]
        have HC : Hid (plC s (.run t a) = (rd s (.run t a), true)) := Lib.hid (if_pos hb)
        obtain ⟨-, d1, -⟩ := A5.out.C.cells
        have fd1 := blk_frozen A5.out.C.blk 1
        clear hb
        go_wp2_with (go_at_call 24; refine (rread_st p s (.run t a) _ _ (A5.out.not1 PL.out).L (by exact ⟨rfl, rfl, rfl, rfl⟩) hs).mono ?_; rintro e w2 ⟨rfl, L2, G2⟩)
        go_meet
        case rel => exact Lib.hid (by rw [HC.out]; exact (A5.out.not1 PL.out).next PL.out L2.out G2.out)
      | false =>
        rw [show bangS (.run t a) = false from hb]
        have HC : Hid (plC s (.run t a) = (.run t a, false)) := Lib.hid (if_neg (by rw [hb]; decide))
        clear hb
        go_wp2_with fail
        go_meet
        case rel => exact Lib.hid (by rw [HC.out]; exact A5.out)
    | bad er q =>
      rw [show bangS (.bad er q) = false from rfl]
      go_wp2_with fail
      go_meet
      case rel => exact A5
  rw [HX.out, HN.out] at hcut
  have X0 : Hid (PWR p s x1 no cn w wc x1 [] (.slice none 0 0)) := Lib.hid ⟨hcut.out, by simp, rfl⟩
  clear hcut HX HN A5 A0 HB
  refine ‹∀ (a : Act) (w : World), Code.wp _ _ _ a w → _› _ _ ?_
  go_wp2_with fail
  go_loopw [53] (fun _ wr => ∃ (y : St) (l : List CmV) (vc : Value), Hid (PWR p s x1 no cn w wr y l vc)) (fun _ wr => muR s p wr)
  case atStart => exact ⟨x1, [], .slice none 0 0, X0⟩
  case round =>
    obtain ⟨y, l, vc, X⟩ := hrel
    have GP : Hid (w.heap.size + 1 ≠ p) := Lib.hid (by have := PL.out; omega)
    have RP : Hid (w.heap.size ≠ p) := Lib.hid (by have := PL.out; omega)
    have AL : Hid (l.length ≤ 1048576) := Lib.hid (by have := X.out.len; omega)
    obtain ⟨k1, hk1⟩ : ∃ k1, l.length = k1 := ⟨_, rfl⟩
    have HK1 := Lib.hid hk1
    have K16 : k1 ≤ 16 := by rw [← hk1]; exact X.out.len
    obtain ⟨b1, j1, rfl⟩ := own_slice2 X.out.A.C.cmds.1
    rw [hk1] at X
    clear hk1
    obtain ⟨r, hr⟩ : ∃ r, beg y = r := ⟨_, rfl⟩
    have BG := Lib.hid hr
    clear hr
    go_upto_region 5 with (fail)
    go_cut [39] from 32 to 56 (fun u w' => u = .bool (decide (16 ≤ k1) && r) ∧ Hid (PAR p s cn no w w' y l (.slice b1 k1 j1)))
    · obtain ⟨d0, -, -⟩ := X.out.A.C.cells
      by_cases h16 : k1 = 16
      · subst h16
        go_wp2_with ((go_at_call 26; refine (rbegins_st p s y _ _ X.out.A.L (by exact ⟨rfl, rfl, rfl, rfl⟩) BG).mono ?_; rintro e w1 ⟨rfl, S1⟩))
        repeat (go_region; go_wp2_with ((go_at_call 26; refine (rbegins_st p s y _ _ X.out.A.L (by exact ⟨rfl, rfl, rfl, rfl⟩) BG).mono ?_; rintro e w1 ⟨rfl, S1⟩)))
        go_meet
        case rel => exact ⟨rfl, Lib.hid (X.out.A.same S1)⟩
      · have d16 : Hid (decide (16 ≤ k1) = false) := Lib.hid (decide_eq_false (by omega))
        have d17 : k1 < 16 := by omega
        go_wp2_with (fail)
        repeat (go_region; go_wp2_with (fail))
        go_meet
        case rel => exact ⟨by rw [d16.out]; rfl, Lib.hid (X.out.A.same (by exact ⟨rfl, rfl, rfl, rfl⟩))⟩
    obtain ⟨rfl, Y⟩ := hcut
    refine ‹∀ (a : Act) (w : World), Code.wp _ _ _ a w → _› _ _ ?_
    go_cut [] from 32 to 56 (fun w' => Hid (PAR p s cn no w w' (yR y k1) l (.slice b1 k1 j1)))
    · cases hd : (decide (16 ≤ k1) && r) with
      | true =>
        have YR : Hid (yR y k1 = failS 3 y) := Lib.hid (by
          unfold yR
          simp only [Bool.and_eq_true, decide_eq_true_eq] at hd
          rw [if_pos ⟨hd.1, by rw [BG.out]; exact hd.2⟩])
        clear hd
        go_wp2_with (go_at_call 27; refine (rfail_st p s y 3 _ _ Y.out.L (by exact ⟨rfl, rfl, rfl, rfl⟩) (.inr rfl)).mono ?_; rintro e w2 ⟨rfl, L2, G2⟩)
        go_meet
        case rel => exact Lib.hid (by rw [YR.out]; exact Y.out.next PL.out L2.out G2.out)
      | false =>
        have YR : Hid (yR y k1 = y) := Lib.hid (by
          unfold yR
          rw [if_neg (fun h => by
            rw [decide_eq_true h.1, ← BG.out, h.2] at hd
            cases hd)])
        clear hd
        go_wp2_with fail
        go_meet
        case rel => exact Lib.hid (by rw [YR.out]; exact Y.out)
    have Z := hcut
    clear hcut Y BG
    obtain ⟨y', hy'⟩ : ∃ y', yR y k1 = y' := ⟨_, rfl⟩
    have YR : Hid (yR y l.length = y') := Lib.hid (by rw [HK1.out, hy'])
    rw [hy'] at Z
    clear hy' K16
    refine ‹∀ (a : Act) (w : World), Code.wp _ _ _ a w → _› _ _ ?_
    obtain ⟨d0, -, -⟩ := Z.out.C.cells
    go_wp2_with fail
    go_region_law (first | (go_simp; (go_at_call 52; refine (rcommand_st p s y' _ (Z.out.L.same (by rfl)) hs).mono ?_; rintro e w3 ⟨c, va, vr, rfl, M3, L3, G3, E3⟩; obtain ⟨a1, n1, m1, rfl⟩ := own_slice M3.out.1; obtain ⟨a2, n2, m2, rfl⟩ := own_slice M3.out.2; have C3 := Lib.hid (Z.out.C.grr Z.out.L (gr_same G3.out (by exact ⟨rfl, rfl, rfl, rfl⟩)) GP.out); obtain ⟨d0, -, -⟩ := C3.out.cells; have G13 := Lib.hid (gr_trans Z.out.G (gr_same G3.out (by exact ⟨rfl, rfl, rfl, rfl⟩))); have SZ := Lib.hid G13.out.size; have d0a : (w3.alloc (.cells #[.string ⟨c.name.toArray⟩, .slice a1 n1 m1, .slice a2 n2 m2, .int .i64 c.at_] 40)).cell? ⟨w.heap.size + 1, 0, none⟩ = some (.slice b1 k1 j1) := (((Below.refl w3.heap.size w3).alloc (Nat.le_refl _) _).cell (p := ⟨w.heap.size + 1, 0, none⟩) (Array.getElem?_eq_some_iff.1 C3.out.blk).1).trans d0)) | (refine step_cmd rfl (.tmp 43) (.tmp 46) rfl (.slice b1 k1 j1) k1 (cmC l) ⟨c.name.toArray⟩ n1 m1 n2 m2 a1 a2 c.at_ w.heap.size w3 (HK1.out ▸ C3.out.cmds.1) SZ.out (HK1.out ▸ AL.out) (by simp [Act.eval]) (by simp [Act.eval]) ?_; intro h2 cap w4 hown hgr; have e0 := (grown_keep hgr C3.out.cmds.1 C3.out.blk (by decide)).trans C3.out.blk; have d0 := blk_cell e0 0; have fd0 := blk_frozen e0 0; simp only [List.getElem?_toArray, List.getElem?_cons_zero] at d0))
    all_goals (
      obtain rfl := HK1.out
      have M4 := Lib.hid (M3.out.mono (show w.heap.size ≤ _ from Z.out.G.size))
      have C4 := Lib.hid (C3.out.cmd1 M4.out hgr hown)
      have L4 := Lib.hid ((L3.out.grown hgr C3.out.cmds.1 (by decide)).setc (j := 0) (y := .slice (some ⟨h2, 0, none⟩) (l.length + 1) cap) GP.out)
      have G4 := Lib.hid (gr_setc (j := 0) (y := .slice (some ⟨h2, 0, none⟩) (l.length + 1) cap) (gr_grown G13.out hgr C3.out.cmds.1 (Nat.le_refl _)) (show w.heap.size ≤ w.heap.size + 1 by omega))
      have R4 : Hid (RBP w.heap.size (w4.setCell ⟨w.heap.size + 1, 0, none⟩ (.slice (some ⟨h2, 0, none⟩) (l.length + 1) cap))) := Lib.hid (by
        have r := RBP.gr Z.out.R (gr_same G3.out (by exact ⟨rfl, rfl, rfl, rfl⟩)) RP.out
        have r2 := (grown_keep hgr C3.out.cmds.1 r (by decide)).trans r
        unfold RBP; rw [set_other (by omega)]; exact r2)
      have A4 : Hid (PAR p s cn no w (w4.setCell ⟨w.heap.size + 1, 0, none⟩ (.slice (some ⟨h2, 0, none⟩) (l.length + 1) cap)) (cmS s y').1 (l ++ [(c, .slice a1 n1 m1, .slice a2 n2 m2)]) (.slice (some ⟨h2, 0, none⟩) (l.length + 1) cap)) := Lib.hid ⟨L4.out, R4.out, C4.out, G4.out⟩
      obtain ⟨y2, hy2⟩ : ∃ y2, (cmS s y').1 = y2 := ⟨_, rfl⟩
      rw [hy2] at A4
      have HY := Lib.hid hy2
      have LI := Lib.hid X.out.len
      cases hi : isO [124] y2 with
      | true =>
        have IB : Hid (isO (ByteArray.mk #[124]).data.toList y2 = true) := Lib.hid hi
        obtain ⟨ST0, e0, l16⟩ := rp_more (s := s) (y := y) (l := l.map (·.1)) (by rw [List.length_map, YR.out, hy2]; exact hi)
        rw [List.length_map, YR.out] at e0
        subst e0
        have ST := Lib.hid ST0
        have PM : Hid (mu s (lfS s (rd s y2)) < mu s y') := Lib.hid (by
          have m := (pl1_mu (z := (y', l.map (·.1), false)) X.out.A.L.2 ST.out).2.1
          rw [hy2] at m
          unfold plMu at m; simp only at m; omega)
        have PRUN : Hid (plI s (lfS s (rd s y2), (l ++ [(c, Value.slice a1 n1 m1, Value.slice a2 n2 m2)]).map (·.1), false) = plI s (x1, [], false)) := Lib.hid (by
          rw [← X.out.run, pl_step (z := (y', l.map (·.1), false)) X.out.A.L.2 ST.out, List.map_append, List.map_singleton, E3.out (by rw [hy2]; exact isO_ok hi), hy2])
        have L16 : Hid (l.length + 1 ≤ 16) := Lib.hid (by rw [List.length_map] at l16; exact l16)
        clear l16
        have MU := Lib.hid X.out.A.L.mu
        clear hy2 ST0 hi
        go_wp2_with (first | (go_at_call 50; refine (ris_st p s y2 _ _ _ A4.out.L (by exact ⟨rfl, rfl, rfl, rfl⟩) IB).mono ?_; rintro e w5 ⟨rfl, S5⟩) | (go_at_call 24; refine (rread_st p s y2 _ _ A4.out.L S5 hs).mono ?_; rintro e w6 ⟨rfl, L6, G6⟩) | (go_at_call 25; refine (feeds_st p s (rd s y2) _ _ L6.out (by exact ⟨rfl, rfl, rfl, rfl⟩) hs).mono ?_; rintro e w7 ⟨rfl, L7, G7⟩))
        go_roundw
        case rel => exact ⟨_, _, _, Lib.hid ⟨(A4.out.next PL.out L6.out G6.out).next PL.out L7.out G7.out, by rw [List.length_append, List.length_singleton]; exact L16.out, PRUN.out⟩⟩
        case measure => rw [MU.out, L7.out.mu]; exact PM.out
      | false =>
        have IB : Hid (isO (ByteArray.mk #[124]).data.toList y2 = false) := Lib.hid hi
        have RE := Lib.hid (rp_end (s := s) (y := y) (l := l.map (·.1)) X.out.A.L.2 (by rw [List.length_map]; exact LI.out) (by rw [List.length_map, YR.out, hy2]; exact hi))
        have R1 : Hid ((plI s (x1, [], false)).1 = y2) := Lib.hid (by rw [← X.out.run, RE.out.1, List.length_map, YR.out, hy2])
        have R2 : Hid (okB y2 = true → (l ++ [(c, Value.slice a1 n1 m1, Value.slice a2 n2 m2)]).map (·.1) = (plI s (x1, [], false)).2.1) := Lib.hid (fun ho => by
          rw [← X.out.run, RE.out.2 (by rw [List.length_map, YR.out, hy2]; exact ho), List.length_map, YR.out, List.map_append, List.map_singleton, E3.out (by rw [hy2]; exact ho)])
        clear hy2 hi
        go_wp2_with (go_at_call 50; refine (ris_st p s y2 _ _ _ A4.out.L (by exact ⟨rfl, rfl, rfl, rfl⟩) IB).mono ?_; rintro e w5 ⟨rfl, S5⟩; have A5 := Lib.hid (A4.out.same S5); have L5 := Lib.hid A5.out.L; have C5 := Lib.hid A5.out.C; have R5 := Lib.hid A5.out.R; have G5 := Lib.hid A5.out.G; obtain ⟨d0, d1, d2⟩ := C5.out.cells; have r0 := blk_cell R5.out 0; have r1 := blk_cell R5.out 1; have r2 := blk_cell R5.out 2; have g0 := blk_frozen R5.out 0; have g1 := blk_frozen R5.out 1; have g2 := blk_frozen R5.out 2; simp only [List.getElem?_toArray, List.getElem?_cons_zero, List.getElem?_cons_succ] at r0 r1 r2; clear S5)
        (try simp only [Exit.inBlock, Exit.then])
        have FB := R5.out.set (.slice (some ⟨h2, 0, none⟩) (l.length + 1) cap) (.bool no) (.int .i64 cn)
        have z0 := blk_cell FB 0
        have z1 := blk_cell FB 1
        have z2 := blk_cell FB 2
        simp only [List.getElem?_toArray, List.getElem?_cons_zero, List.getElem?_cons_succ] at z0 z1 z2
        have Z4 := Lib.hid (pwr_three L5.out R5.out C5.out G5.out PL.out (.slice (some ⟨h2, 0, none⟩) (l.length + 1) cap) (.bool no) (.int .i64 cn))
        refine bodyPost_ret (v := .agg #[.slice (some ⟨h2, 0, none⟩) (l.length + 1) cap, .bool no, .int .i64 cn]) (by simp [results, Tryd.results28, go_sem, z0, z1, z2]) rfl ⟨_, _, rfl, Lib.hid Z4.out.2.2, Lib.hid (by rw [R1.out]; exact Z4.out.1), Lib.hid Z4.out.2.1, Lib.hid (fun ho => R2.out (by rw [R1.out] at ho; exact ho))⟩)
end Go.Proofs.YtlhagpfpcdedpaaDoor
