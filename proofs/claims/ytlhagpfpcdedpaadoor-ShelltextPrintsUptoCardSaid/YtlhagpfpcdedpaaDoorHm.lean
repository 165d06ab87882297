/- walks: rows of pipelines, Parse (written by gen_hm.py) -/
import Derived.Test.YtlhagpfpcdedpaaDoorHl
import Derived.Test.YtlhagpfpcdedpaaDoorHr
import Derived.Deep.CutBlock
namespace Go.Proofs.YtlhagpfpcdedpaaDoor
open Go.RowKit
open Shp
/-- a pipeline with its commands and its row's value -/
abbrev PlV := List CmV × Value × Bool × Int
def toPl (x : PlV) : Pl := ⟨x.1.map (·.1), x.2.2.1, x.2.2.2⟩
abbrev pipCells (x : PlV) : List Value := [x.2.1, .bool x.2.2.1, .int .i64 x.2.2.2]
abbrev pipC (l : List PlV) : List Value := l.flatMap pipCells
/-- pipelines behind a slice -/
def PipsV (B : Nat) (v : Value) (l : List PlV) (w : World) : Prop := w.ownsRow B 34 3 v l.length (pipC l) ∧ ∀ x ∈ l, CmdsV B x.2.1 x.1 w
theorem CmdsV.mono {B B' : Nat} {v : Value} {l : List CmV} {w : World} (h : CmdsV B v l w) (hb : B' ≤ B) : CmdsV B' v l w := ⟨own_low h.1 hb, fun x hx => (h.2 x hx).mono hb⟩
theorem CmdsV.ty {B : Nat} {v : Value} {l : List CmV} {w w' : World} (h : CmdsV B v l w) (hk : ∀ (i : Nat) (cs : Array Value) (e : TypeId) (z : Nat × Nat), e = 9 ∨ e = 77 ∨ e = 40 → w.heap[i]? = some (Obj.cells cs e z) → w'.heap[i]? = w.heap[i]?) : CmdsV B v l w' :=
  ⟨own_ty h.1 (fun i cs z hi => hk i cs _ z (.inr (.inr rfl)) hi), fun x hx => (h.2 x hx).ty (fun i cs e z he hi => hk i cs e z (he.elim .inl (fun e => .inr (.inl e))) hi)⟩
theorem PipsV.gr {B p : Nat} {v : Value} {l : List PlV} {s : ByteArray} {x : St} {w w' : World} (h : PipsV B v l w) (m : SM p s w x) (g : Gr p w w') : PipsV B v l w' := by
  obtain ⟨cs, hb⟩ := m.blk
  exact ⟨own_gr h.1 g hb (by decide), fun x hx => (h.2 x hx).gr m g⟩
theorem PipsV.same {B : Nat} {v : Value} {l : List PlV} {w w' : World} (h : PipsV B v l w) (e : w'.heap = w.heap) : PipsV B v l w' :=
  ⟨own_ty h.1 (fun i _ _ _ => by rw [e]), fun x hx => (h.2 x hx).same e⟩
theorem PipsV.setc {B g j : Nat} {v : Value} {l : List PlV} {w : World} {y : Value} (h : PipsV B v l w) {cs : Array Value} {T : TypeId} {z : Nat × Nat} (hg : w.heap[g]? = some (.cells cs T z)) (h0 : T ≠ 34) (h1 : T ≠ 40) (h2 : T ≠ 9) (h3 : T ≠ 77) : PipsV B v l (w.setCell ⟨g, j, none⟩ y) :=
  ⟨own_setc h.1 hg h0, fun x hx => (h.2 x hx).setc hg h1 h2 h3⟩
/-- a pipeline more -/
theorem PipsV.app {B : Nat} {v : Value} {l : List PlV} {w w' : World} {lv : List CmV} {vc : Value} {no : Bool} {cn : Int} (h : PipsV B v l w) (hc : CmdsV B vc lv w) (hg : w.grownBy w' v.ownBlock) {g cap : Nat}
    (o : w'.ownsRow B 34 3 (.slice (some ⟨g, 0, none⟩) (l.length + 1) cap) (l.length + 1) (pipC l ++ [vc, .bool no, .int .i64 cn])) : PipsV B (.slice (some ⟨g, 0, none⟩) (l.length + 1) cap) (l ++ [(lv, vc, no, cn)]) w' := by
  refine ⟨?_, fun x hx => ?_⟩
  · have e : pipC (l ++ [(lv, vc, no, cn)]) = pipC l ++ [vc, .bool no, .int .i64 cn] := by simp [pipC]
    rw [e, List.length_append]; exact o
  · have k : ∀ (i : Nat) (cs : Array Value) (e : TypeId) (z : Nat × Nat), e = 9 ∨ e = 77 ∨ e = 40 → w.heap[i]? = some (Obj.cells cs e z) → w'.heap[i]? = w.heap[i]? := fun i cs e z he hi => grown_keep hg h.1 hi (by rcases he with rfl | rfl | rfl <;> decide)
    rcases List.mem_append.1 hx with hx | hx
    · exact (h.2 x hx).ty k
    · rw [List.mem_singleton] at hx
      subst hx
      exact hc.ty k
/-- a script in block g -/
structure SO (g B : Nat) (l : List PlV) (v : Value) (w : World) : Prop where
  blk : w.heap[g]? = some (.cells #[v] 24 (0, 0))
  pips : PipsV B v l w
theorem SO.cells {g B : Nat} {l : List PlV} {v : Value} {w : World} (h : SO g B l v w) : w.cell? ⟨g, 0, none⟩ = some v ∧ w.frozen? ⟨g, 0, none⟩ = false := ⟨blk_cell h.blk 0, blk_frozen h.blk 0⟩
theorem SO.gr {g B p : Nat} {l : List PlV} {v : Value} {w w' : World} {s : ByteArray} {x : St} (h : SO g B l v w) (m : SM p s w x) (hg : Gr p w w') (hne : g ≠ p) : SO g B l v w' := by
  refine ⟨?_, h.pips.gr m hg⟩
  obtain ⟨q1, q2, q3, q4, q5⟩ := hg
  rw [q5 g (Array.getElem?_eq_some_iff.1 h.blk).1 (fun e => hne (by cases e; rfl))]
  exact h.blk
theorem SO.same {g B : Nat} {l : List PlV} {v : Value} {w w' : World} (h : SO g B l v w) (e : w'.heap = w.heap) : SO g B l v w' := ⟨by rw [e]; exact h.blk, h.pips.same e⟩
theorem SO.pip1 {g B : Nat} {l : List PlV} {v : Value} {w w' : World} {lv : List CmV} {vc : Value} {no : Bool} {cn : Int} (h : SO g B l v w) (hc : CmdsV B vc lv w) (hg : w.grownBy w' v.ownBlock) {g2 cap : Nat}
    (o : w'.ownsRow B 34 3 (.slice (some ⟨g2, 0, none⟩) (l.length + 1) cap) (l.length + 1) (pipC l ++ [vc, .bool no, .int .i64 cn])) :
    SO g B (l ++ [(lv, vc, no, cn)]) (.slice (some ⟨g2, 0, none⟩) (l.length + 1) cap) (w'.setCell ⟨g, 0, none⟩ (.slice (some ⟨g2, 0, none⟩) (l.length + 1) cap)) := by
  have b := grown_keep hg h.pips.1 h.blk (by decide)
  rw [h.blk] at b
  exact ⟨by rw [set_at b]; rfl, (h.pips.app hc hg o).setc b (by decide) (by decide) (by decide) (by decide)⟩
/-- the measure with the error -/
def muP (s : ByteArray) (p : Nat) (w : World) : Nat := muW s p w + (if errOf w p = 0 then 1 else 0)
theorem SM.muP {p : Nat} {s : ByteArray} {w : World} {x : St} (h : SM p s w x) : Go.Proofs.YtlhagpfpcdedpaaDoor.muP s p w = Shp.mu s x + (if okB x = true then 1 else 0) := by
  unfold Go.Proofs.YtlhagpfpcdedpaaDoor.muP
  rw [h.mu]
  obtain ⟨h, h2⟩ := h
  cases x with
  | run t a => rw [RX.errOf h]; rfl
  | bad e q =>
    obtain ⟨a, tx, wd, bg, ta, h⟩ := h
    rw [h.errOf, if_neg (by have := h2.1; omega)]; rfl
theorem pipeline_is (p : Nat) (s : ByteArray) (x : St) (cn num : Int) (w : World) (h : SM p s w x) (hs : s.size ≤ 8192) {y2 : St} {pl : List Cm} {no : Bool} (hY : Hid (plS s x num cn = (y2, ⟨pl, no, cn⟩))) :
    Calls Tryd.prog 22 #[.pointer (some ⟨p, 0, none⟩), .int .i64 cn, .int .i64 num] w fun e w' => ∃ (l : List CmV) (vc : Value),
      e = .returned (.agg #[vc, .bool no, .int .i64 cn]) ∧ Hid (CmdsV w.heap.size vc l w') ∧ Hid (SM p s w' y2) ∧ Hid (Gr p w w') ∧ Hid (okB y2 = true → l.map (·.1) = pl) := by
  have e := hY.out
  refine (pipeline_st p s x cn num w h hs).mono ?_
  rw [e]
  exact fun _ _ h => h
/-- the parts of the memory -/
structure PY (s : ByteArray) (w wr : World) (x : St) (l : List PlV) (v : Value) : Prop where
  L : SM (w.heap.size + 1) s wr x
  R : wr.heap[w.heap.size]? = some (.cells #[.slice none 0 0] 24 (0, 0))
  O : SO (w.heap.size + 1 + 1) w.heap.size l v wr
  G : Gr (w.heap.size + 1) w wr
theorem PY.same {s : ByteArray} {w wr w' : World} {x : St} {l : List PlV} {v : Value} (h : PY s w wr x l v) (e : SameW wr w') : PY s w w' x l v := ⟨h.L.sameW e, by rw [e.1]; exact h.R, h.O.same e.1, gr_same' h.G e⟩
theorem PY.next {s : ByteArray} {w wr w' : World} {x y : St} {l : List PlV} {v : Value} (h : PY s w wr x l v) (L : SM (w.heap.size + 1) s w' y) (g : Gr (w.heap.size + 1) wr w') : PY s w w' y l v := by
  refine ⟨L, ?_, h.O.gr h.L g (by omega), gr_trans h.G g⟩
  obtain ⟨q1, q2, q3, q4, q5⟩ := g
  rw [q5 w.heap.size (Array.getElem?_eq_some_iff.1 h.R).1 (fun e => by injection e with e; omega)]; exact h.R
theorem res_set {g : Nat} {w : World} {v : Value} {T : TypeId} (h : w.heap[g]? = some (.cells #[v] T (0, 0))) (a : Value) : (w.setCell ⟨g, 0, none⟩ a).heap[g]? = some (.cells #[a] T (0, 0)) := set_at h
theorem gr_bel {p : Nat} {w w' : World} (h : Gr p w w') (hp : w.heap.size ≤ p) : Below w.heap.size w w' := by
  obtain ⟨q1, q2, q3, q4, q5⟩ := h
  exact ⟨q1, q2, q3, q4, fun i hi => q5 i hi (fun e => by injection e with e; omega)⟩
abbrev PW0 (s : ByteArray) (w : World) : World := ((w.alloc (.cells #[.slice none 0 0] 24)).alloc (.cells #[.string s, .int .i64 0, .string ⟨#[]⟩, .bool false, .bool false, .int .i64 0, .int .i64 0, .int .i64 0] 50)).alloc (.cells #[.slice none 0 0] 24)
theorem PW0.below (s : ByteArray) (w : World) : Below w.heap.size w (PW0 s w) := (((Below.refl w.heap.size w).alloc (Nat.le_refl _) _).alloc (by simp) _).alloc (by simp; omega) _
theorem PW0.res (s : ByteArray) (w : World) : (PW0 s w).heap[w.heap.size]? = some (.cells #[.slice none 0 0] 24 (0, 0)) :=
  (heap_alloc_old _ _ (by simp; omega)).trans ((heap_alloc_old _ _ (by simp)).trans (heap_alloc_new w _))
theorem PW0.rx (s : ByteArray) (w : World) : RX (w.heap.size + 1) s 0 ⟨#[]⟩ false false 0 0 0 (PW0 s w) := by
  have h := heap_alloc_new (w.alloc (.cells #[.slice none 0 0] 24)) (.cells #[.string s, .int .i64 0, .string ⟨#[]⟩, .bool false, .bool false, .int .i64 0, .int .i64 0, .int .i64 0] 50)
  rw [show (w.alloc (.cells #[.slice none 0 0] 24)).heap.size = w.heap.size + 1 by simp] at h
  exact (heap_alloc_old _ _ (by simp)).trans h
theorem PW0.out (s : ByteArray) (w : World) : SO (w.heap.size + 1 + 1) w.heap.size [] (.slice none 0 0) (PW0 s w) := by
  have h := heap_alloc_new ((w.alloc (.cells #[.slice none 0 0] 24)).alloc (.cells #[.string s, .int .i64 0, .string ⟨#[]⟩, .bool false, .bool false, .int .i64 0, .int .i64 0, .int .i64 0] 50)) (.cells #[.slice none 0 0] 24)
  rw [show ((w.alloc (.cells #[.slice none 0 0] 24)).alloc (.cells #[.string s, .int .i64 0, .string ⟨#[]⟩, .bool false, .bool false, .int .i64 0, .int .i64 0, .int .i64 0] 50)).heap.size = w.heap.size + 1 + 1 by simp] at h
  exact ⟨h, ⟨rfl, .inl ⟨rfl, rfl⟩⟩, fun x hx => by cases hx⟩
theorem PW0.first {s : ByteArray} {w w' : World} {x : St} (L : SM (w.heap.size + 1) s w' x) (g : Gr (w.heap.size + 1) (PW0 s w) w') : PY s w w' x [] (.slice none 0 0) := by
  obtain ⟨q1, q2, q3, q4, q5⟩ := g
  have r := PW0.res s w
  have o := PW0.out s w
  refine ⟨L, ?_, ⟨?_, ⟨rfl, .inl ⟨rfl, rfl⟩⟩, fun x hx => by cases hx⟩, gr_trans (gr_below (PW0.below s w)) ⟨q1, q2, q3, q4, q5⟩⟩
  · rw [q5 _ (Array.getElem?_eq_some_iff.1 r).1 (fun e => by injection e with e; omega)]; exact r
  · rw [q5 _ (Array.getElem?_eq_some_iff.1 o.blk).1 (fun e => by injection e with e; omega)]; exact o.blk
/-- on the way -/
structure PX (s : ByteArray) (w wr : World) (x : St) (l : List PlV) (v : Value) (cn : Int) : Prop where
  P : PY s w wr x l v
  len : l.length ≤ 65 ∧ (okB x = true → l.length ≤ 64)
  run : okB x = true → paI s (x, l.map toPl, cn) = paS s
  bad : okB x = false → (paS s).1 = x
set_option maxRecDepth 100000 in
set_option maxHeartbeats 8000000 in
theorem parse_any (s : ByteArray) (w : World) :
    Calls Tryd.prog 9 #[.string s] w fun e w' => ∃ (l : List PlV) (v : Value),
      e = .returned (.tuple #[.agg #[v], .int .i64 (paR s).2.1, .int .i64 (paR s).2.2]) ∧ Hid (PipsV w.heap.size v l w') ∧ Hid (Below w.heap.size w w') ∧ Hid (l.map toPl = (paR s).1) := by
  by_cases hs : s.size ≤ 8192
  · have R0 := PW0.rx s w
    go_enter Tryd.func9, Tryd.ntmps9
    go_wp2_with (first | (go_at_call 19; refine (next_run (w.heap.size + 1) s 0 _ _ _ _ 0 _ R0 hs (Nat.zero_le _)).mono ?_; rintro e w1 ⟨rfl, L1, G1⟩; have N1 : Hid (SM (w.heap.size + 1) s w1 (nx s 0)) := Lib.hid ⟨L1.out, nx_wf (Nat.zero_le _)⟩) | (go_at_call 20; refine (lines_st (w.heap.size + 1) s (nx s 0) w1 _ N1.out (by exact ⟨rfl, rfl, rfl, rfl⟩) hs).mono ?_; rintro e w2 ⟨rfl, L2, G2⟩; have Y0 := Lib.hid (PW0.first L2.out (gr_trans G1.out G2.out)); clear L1 L2 G1 G2 N1 R0))
    go_loopw [7] (fun u wr => ∃ (y : St) (l : List PlV) (v : Value) (cn : Int), u = .int .i64 cn ∧ Hid (PX s w wr y l v cn)) (fun _ wr => muP s (w.heap.size + 1) wr)
    case atStart => exact ⟨_, [], _, 1, rfl, Lib.hid ⟨Y0.out, by simp, fun _ => rfl, fun ho => by unfold paS; rw [pa_none (by unfold pa1; rw [if_pos (.inl ho)])]⟩⟩
    case round =>
      obtain ⟨y, l, v, cn, rfl, X⟩ := hrel
      have P0 := Lib.hid X.out.P
      obtain ⟨k1, hk1⟩ : ∃ k1, l.length = k1 := ⟨_, rfl⟩
      have HK1 := Lib.hid hk1
      obtain ⟨b1, j1, rfl⟩ := own_slice2 P0.out.O.pips.1
      have K65 : k1 ≤ 65 := by have := X.out.len.1; omega
      rw [hk1] at X P0
      clear hk1 Y0
      cases y with
      | bad er qq =>
        obtain ⟨⟨a, tx, wd, bg, ta, h1⟩, h2⟩ := P0.out.L
        obtain ⟨-, -, -, -, -, -, c6, c7⟩ := RX.cells h1
        have te : (er == 0) = false := by rw [beq_eq_false_iff_ne]; have := h2.1; omega
        have RR := Lib.hid P0.out.R
        have g0 := blk_frozen P0.out.R 0
        have r0 := blk_cell P0.out.R 0
        simp only [List.getElem?_toArray, List.getElem?_cons_zero] at r0
        have PR : Hid (paR s = ([], er, qq)) := Lib.hid (by unfold paR; rw [if_neg (by omega), X.out.bad rfl])
        clear h1 h2
        go_wp2_with (fail)
        repeat (go_region; go_wp2_with (fail))
        (try simp only [Exit.inBlock, Exit.then])
        have FB := res_set RR.out (.slice none 0 0)
        have z0 := blk_cell FB 0
        simp only [List.getElem?_toArray, List.getElem?_cons_zero] at z0
        refine bodyPost_ret (v := .tuple #[.agg #[.slice none 0 0], .int .i64 er, .int .i64 qq]) (by simp [results, Tryd.results9, go_sem, z0]) rfl ⟨[], _, by rw [PR.out], Lib.hid (⟨⟨rfl, .inl ⟨rfl, rfl⟩⟩, fun x hx => by cases hx⟩), Lib.hid ((by first | exact ((gr_bel P0.out.G (by omega)).setCell (p := ⟨w.heap.size, 0, none⟩) (Nat.le_refl _) _).drew | exact ((gr_bel P0.out.G (by omega)).setCell (p := ⟨w.heap.size, 0, none⟩) (Nat.le_refl _) _))), Lib.hid (by rw [PR.out]; try rfl)⟩
      | run t a =>
        obtain ⟨-, -, -, -, -, -, c6, c7⟩ := RX.cells P0.out.L.1
        have AL : Hid (l.length ≤ 1048576) := Lib.hid (by have := X.out.len; omega)
        by_cases hend : endB (.run t a) = true ∧ cn = 1
        · obtain ⟨he, rfl⟩ := hend
          have IB : Hid (isB (ByteArray.mk #[]).data.toList (.run t a) = true) := Lib.hid ((isB_end P0.out.L.2).trans he)
          have PR : Hid (paR s = (l.map toPl, 0, 0)) := Lib.hid (by
            have e := X.out.run rfl
            rw [pa_none (by unfold pa1; rw [if_pos (.inr ⟨he, rfl⟩)])] at e
            unfold paR; rw [if_neg (by omega), ← e])
          clear he
          go_wp2_with ((go_at_call 21; refine (is_st (w.heap.size + 1) s (.run t a) _ wr _ P0.out.L (by exact ⟨rfl, rfl, rfl, rfl⟩) IB).mono ?_; rintro e w1 ⟨rfl, S1⟩; have P1 := Lib.hid (P0.out.same S1); have RR := Lib.hid P1.out.R; have g0 := blk_frozen P1.out.R 0; have r0 := blk_cell P1.out.R 0; simp only [List.getElem?_toArray, List.getElem?_cons_zero] at r0; obtain ⟨d0, fd0⟩ := P1.out.O.cells; obtain ⟨-, -, -, -, -, -, c6, c7⟩ := RX.cells P1.out.L.1; clear S1))
          repeat (go_region; go_wp2_with ((go_at_call 21; refine (is_st (w.heap.size + 1) s (.run t a) _ wr _ P0.out.L (by exact ⟨rfl, rfl, rfl, rfl⟩) IB).mono ?_; rintro e w1 ⟨rfl, S1⟩; have P1 := Lib.hid (P0.out.same S1); have RR := Lib.hid P1.out.R; have g0 := blk_frozen P1.out.R 0; have r0 := blk_cell P1.out.R 0; simp only [List.getElem?_toArray, List.getElem?_cons_zero] at r0; obtain ⟨d0, fd0⟩ := P1.out.O.cells; obtain ⟨-, -, -, -, -, -, c6, c7⟩ := RX.cells P1.out.L.1; clear S1)))
          (try simp only [Exit.inBlock, Exit.then])
          have FB := res_set RR.out (.slice b1 k1 j1)
          have z0 := blk_cell FB 0
          simp only [List.getElem?_toArray, List.getElem?_cons_zero] at z0
          refine bodyPost_ret (v := .tuple #[.agg #[.slice b1 k1 j1], .int .i64 0, .int .i64 0]) (by simp [results, Tryd.results9, go_sem, z0]) rfl ⟨l, _, by rw [PR.out], Lib.hid (P1.out.O.pips.setc RR.out (by decide) (by decide) (by decide) (by decide)), Lib.hid ((by first | exact ((gr_bel P1.out.G (by omega)).setCell (p := ⟨w.heap.size, 0, none⟩) (Nat.le_refl _) _).drew | exact ((gr_bel P1.out.G (by omega)).setCell (p := ⟨w.heap.size, 0, none⟩) (Nat.le_refl _) _))), Lib.hid (by rw [PR.out]; try rfl)⟩
        have hne : okB (.run t a) = false ∨ (endB (.run t a) = true ∧ cn = 1) → False := fun h => h.elim (fun h => by cases h) hend
        have HNE := Lib.hid hne
        obtain ⟨r, hr⟩ : ∃ r, endB (.run t a) = r := ⟨_, rfl⟩
        have IB : Hid (isB (ByteArray.mk #[]).data.toList (.run t a) = r) := Lib.hid ((isB_end P0.out.L.2).trans hr)
        have ic : r = true → (cn == 1) = false := fun h => by rw [beq_eq_false_iff_ne]; exact fun h2 => hend ⟨hr.trans h, h2⟩
        obtain ⟨y2, pl, no, hY⟩ : ∃ y2 pl no, plS s (.run t a) ((k1 : Int) + 1) cn = (y2, ⟨pl, no, cn⟩) := ⟨_, _, _, rfl⟩
        have HY := Lib.hid hY
        have K64 : k1 ≤ 64 := by have := X.out.len.2 rfl; have := HK1.out; omega
        have TOP : Hid (pa1 s (.run t a, l.map toPl, cn) = some (sepN s y2, l.map toPl ++ [⟨pl, no, cn⟩], cnO y2)) := Lib.hid (by
          unfold pa1; simp only; rw [if_neg HNE.out]; simp only [List.length_map, HK1.out, HY.out])
        have RUN := Lib.hid ((X.out.run rfl).symm.trans (pa_step (z := (.run t a, l.map toPl, cn)) P0.out.L.2 TOP.out))
        have PMU := Lib.hid (pa1_mu (z := (.run t a, l.map toPl, cn)) P0.out.L.2 TOP.out).2
        have MU := Lib.hid P0.out.L.muP
        have LIM : Hid (okB y2 = true → k1 + 1 ≤ 64) := Lib.hid (fun ho => by
          refine Decidable.byContradiction fun h => ?_
          have := plS_lim (s := s) (x := .run t a) (num := (k1 : Int) + 1) (cn := cn) (by omega)
          rw [HY.out] at this
          rw [this] at ho; cases ho)
        have WR : Hid (IntKind.i64.wrap ((k1 : Int) + 1) = (k1 : Int) + 1) := Lib.hid (IntWalk.i64_in _ (by omega))
        clear hend hne hY hr
        go_upto_region 8 with (fail)
        go_cut [32] from 19 to 73 (fun u w' => u = .bool true ∧ Hid (PY s w w' (.run t a) l (.slice b1 k1 j1)))
        · cases r with
          | true =>
            have icn := ic rfl
            clear ic
            go_wp2_with ((go_at_call 21; refine (is_st (w.heap.size + 1) s (.run t a) _ wr _ P0.out.L (by exact ⟨rfl, rfl, rfl, rfl⟩) IB).mono ?_; rintro e w1 ⟨rfl, S1⟩; have P1 := Lib.hid (P0.out.same S1); clear S1))
            repeat (go_region; go_wp2_with ((go_at_call 21; refine (is_st (w.heap.size + 1) s (.run t a) _ wr _ P0.out.L (by exact ⟨rfl, rfl, rfl, rfl⟩) IB).mono ?_; rintro e w1 ⟨rfl, S1⟩; have P1 := Lib.hid (P0.out.same S1); clear S1)))
            go_meet
            case rel => exact ⟨by rw [bne, icn]; rfl, P1⟩
          | false =>
            clear ic
            go_wp2_with ((go_at_call 21; refine (is_st (w.heap.size + 1) s (.run t a) _ wr _ P0.out.L (by exact ⟨rfl, rfl, rfl, rfl⟩) IB).mono ?_; rintro e w1 ⟨rfl, S1⟩; have P1 := Lib.hid (P0.out.same S1); clear S1))
            repeat (go_region; go_wp2_with ((go_at_call 21; refine (is_st (w.heap.size + 1) s (.run t a) _ wr _ P0.out.L (by exact ⟨rfl, rfl, rfl, rfl⟩) IB).mono ?_; rintro e w1 ⟨rfl, S1⟩; have P1 := Lib.hid (P0.out.same S1); clear S1)))
            go_meet
            case rel => exact ⟨rfl, P1⟩
        obtain ⟨rfl, P1⟩ := hcut
        obtain ⟨d0, fd0⟩ := P1.out.O.cells
        clear ic IB P0 c6 c7
        refine ‹∀ (a : Act) (w : World), Code.wp _ _ _ a w → _› _ _ ?_
        go_upto_region 9 with (fail)
        go_cut [] from 19 to 73 (fun w' => Hid (∃ (lv : List CmV) (a1 : Option Addr) (m1 h2 cap : Nat), PY s w w' y2 (l ++ [(lv, .slice a1 lv.length m1, no, cn)]) (.slice (some ⟨h2, 0, none⟩) (l.length + 1) cap) ∧ (okB y2 = true → lv.map (·.1) = pl)))
        · go_region_law (first | (go_simp; (go_at_call 22; rw [WR.out]; refine (pipeline_is (w.heap.size + 1) s (.run t a) cn _ _ (P1.out.L.same (by rfl)) hs HY).mono ?_; rintro e w3 ⟨lv, vc, rfl, M3, L3, G3, E3⟩; obtain ⟨a1, m1, rfl⟩ := own_slice2 M3.out.1; have P3 := Lib.hid (P1.out.next L3.out (gr_same G3.out (by exact ⟨rfl, rfl, rfl, rfl⟩))); have SZ := Lib.hid P3.out.G.size; obtain ⟨d0, fd0⟩ := P3.out.O.cells; have d0a : (w3.alloc (.cells #[.slice a1 lv.length m1, .bool no, .int .i64 cn] 34)).cell? ⟨w.heap.size + 1 + 1, 0, none⟩ = some (.slice b1 k1 j1) := (((Below.refl w3.heap.size w3).alloc (Nat.le_refl _) _).cell (p := ⟨w.heap.size + 1 + 1, 0, none⟩) (Array.getElem?_eq_some_iff.1 P3.out.O.blk).1).trans d0)) | (refine step_pip rfl (.tmp 34) (.tmp 42) rfl (.slice b1 k1 j1) k1 (pipC l) lv.length m1 a1 no cn w.heap.size w3 (HK1.out ▸ P3.out.O.pips.1) SZ.out (HK1.out ▸ AL.out) (by simp [Act.eval]) (by simp [Act.eval]) ?_; intro h2 cap w4 hown hgr; have e0 := (grown_keep hgr P3.out.O.pips.1 P3.out.O.blk (by decide)).trans P3.out.O.blk; have d0 := blk_cell e0 0; have fd0 := blk_frozen e0 0; simp only [List.getElem?_toArray, List.getElem?_cons_zero] at d0))
          all_goals (
            obtain rfl := HK1.out
            have P4 : Hid (PY s w (w4.setCell ⟨w.heap.size + 1 + 1, 0, none⟩ (.slice (some ⟨h2, 0, none⟩) (l.length + 1) cap)) y2 (l ++ [(lv, .slice a1 lv.length m1, no, cn)]) (.slice (some ⟨h2, 0, none⟩) (l.length + 1) cap)) := Lib.hid (by
              have M4 := M3.out.mono (show w.heap.size ≤ _ from P1.out.G.size)
              have r2 := (grown_keep hgr P3.out.O.pips.1 P3.out.R (by decide)).trans P3.out.R
              exact ⟨(P3.out.L.grown hgr P3.out.O.pips.1 (by decide)).setc (by omega), (set_other (by omega)).trans r2, P3.out.O.pip1 M4 hgr hown, gr_setc (gr_grown P3.out.G hgr P3.out.O.pips.1 (Nat.le_refl _)) (by omega)⟩)
            clear hown hgr e0 d0 fd0
            go_wp2_with fail
            go_meet
            case rel => exact Lib.hid ⟨lv, a1, m1, h2, cap, P4.out.same (by exact ⟨rfl, rfl, rfl, rfl⟩), E3.out⟩)
        obtain ⟨lv, a1, m1, h2, cap, P4, E4⟩ := hcut.out
        have P4 := Lib.hid P4
        have E4 := Lib.hid E4
        clear hcut P1 d0 fd0
        refine ‹∀ (a : Act) (w : World), Code.wp _ _ _ a w → _› _ _ ?_
        go_upto_region 10 with (fail)
        go_cut [7] from 19 to 73 (fun u w' => u = .int .i64 1 ∧ Hid (PY s w w' y2 (l ++ [(lv, .slice a1 lv.length m1, no, cn)]) (.slice (some ⟨h2, 0, none⟩) (l.length + 1) cap)))
        · go_wp2_with fail
          go_meet
          case rel => exact ⟨rfl, P4⟩
        obtain ⟨rfl, PC⟩ := hcut
        clear P4
        refine ‹∀ (a : Act) (w : World), Code.wp _ _ _ a w → _› _ _ ?_
        obtain ⟨r1, h1⟩ : ∃ b, isO [38, 38] y2 = b := ⟨_, rfl⟩
        obtain ⟨r2, h2'⟩ : ∃ b, isO [124, 124] y2 = b := ⟨_, rfl⟩
        obtain ⟨r3, h3⟩ : ∃ b, endB y2 = b := ⟨_, rfl⟩
        obtain ⟨r4, h4⟩ : ∃ b, isO [59] y2 = b := ⟨_, rfl⟩
        obtain ⟨r5, h5⟩ : ∃ b, isO [10] y2 = b := ⟨_, rfl⟩
        have I1 : Hid (isB (ByteArray.mk #[38, 38]).data.toList y2 = r1) := Lib.hid ((isB_isO PC.out.L.2 (by decide)).trans h1)
        have I2 : Hid (isB (ByteArray.mk #[124, 124]).data.toList y2 = r2) := Lib.hid ((isB_isO PC.out.L.2 (by decide)).trans h2')
        have I3 : Hid (isB (ByteArray.mk #[]).data.toList y2 = r3) := Lib.hid ((isB_end PC.out.L.2).trans h3)
        have I4 : Hid (isB (ByteArray.mk #[59]).data.toList y2 = r4) := Lib.hid ((isB_isO PC.out.L.2 (by decide)).trans h4)
        have I5 : Hid (isB (ByteArray.mk #[10]).data.toList y2 = r5) := Lib.hid ((isB_isO PC.out.L.2 (by decide)).trans h5)
        have CN : Hid (cnO y2 = if r1 = true then 2 else if r2 = true then 3 else 1) := Lib.hid (by unfold cnO; rw [h1, h2'])
        have SP : Hid (sepS y2 = if (r1 || r2 || r3 || r4 || r5) = true then y2 else failS 1 y2) := Lib.hid (by unfold sepS sepB; rw [h1, h2', h3, h4, h5])
        clear h1 h2' h3 h4 h5
        go_upto_block 2 with (fail)
        go_cut [7] from 19 to 73 (fun u w' => u = .int .i64 (cnO y2) ∧ Hid (PY s w w' (sepS y2) (l ++ [(lv, .slice a1 lv.length m1, no, cn)]) (.slice (some ⟨h2, 0, none⟩) (l.length + 1) cap)))
        · cases r1 with
            | true =>
              go_wp2_with ((go_at_call 21; (first | (with_reducible refine (is_st (w.heap.size + 1) s y2 _ wc _ PC.out.L (by first | exact S1 | exact same_trans S1 ⟨rfl, rfl, rfl, rfl⟩ | exact ⟨rfl, rfl, rfl, rfl⟩) I1).mono ?_)); rintro e wi ⟨rfl, S1⟩))
              repeat (go_region; go_wp2_with ((go_at_call 21; (first | (with_reducible refine (is_st (w.heap.size + 1) s y2 _ wc _ PC.out.L (by first | exact S1 | exact same_trans S1 ⟨rfl, rfl, rfl, rfl⟩ | exact ⟨rfl, rfl, rfl, rfl⟩) I1).mono ?_)); rintro e wi ⟨rfl, S1⟩)))
              go_meet
              case rel => exact ⟨by rw [CN.out]; rfl, Lib.hid (by rw [SP.out]; exact PC.out.same S1)⟩
            | false =>
              cases r2 with
              | true =>
                go_wp2_with ((go_at_call 21; (first | (with_reducible refine (is_st (w.heap.size + 1) s y2 _ wc _ PC.out.L (by first | exact S1 | exact same_trans S1 ⟨rfl, rfl, rfl, rfl⟩ | exact ⟨rfl, rfl, rfl, rfl⟩) I1).mono ?_) | (with_reducible refine (is_st (w.heap.size + 1) s y2 _ wc _ PC.out.L (by first | exact S1 | exact same_trans S1 ⟨rfl, rfl, rfl, rfl⟩ | exact ⟨rfl, rfl, rfl, rfl⟩) I2).mono ?_)); rintro e wi ⟨rfl, S1⟩))
                repeat (go_region; go_wp2_with ((go_at_call 21; (first | (with_reducible refine (is_st (w.heap.size + 1) s y2 _ wc _ PC.out.L (by first | exact S1 | exact same_trans S1 ⟨rfl, rfl, rfl, rfl⟩ | exact ⟨rfl, rfl, rfl, rfl⟩) I1).mono ?_) | (with_reducible refine (is_st (w.heap.size + 1) s y2 _ wc _ PC.out.L (by first | exact S1 | exact same_trans S1 ⟨rfl, rfl, rfl, rfl⟩ | exact ⟨rfl, rfl, rfl, rfl⟩) I2).mono ?_)); rintro e wi ⟨rfl, S1⟩)))
                go_meet
                case rel => exact ⟨by rw [CN.out]; rfl, Lib.hid (by rw [SP.out]; exact PC.out.same S1)⟩
              | false =>
                cases r3 with
                | true =>
                  go_wp2_with ((go_at_call 21; (first | (with_reducible refine (is_st (w.heap.size + 1) s y2 _ wc _ PC.out.L (by first | exact S1 | exact same_trans S1 ⟨rfl, rfl, rfl, rfl⟩ | exact ⟨rfl, rfl, rfl, rfl⟩) I1).mono ?_) | (with_reducible refine (is_st (w.heap.size + 1) s y2 _ wc _ PC.out.L (by first | exact S1 | exact same_trans S1 ⟨rfl, rfl, rfl, rfl⟩ | exact ⟨rfl, rfl, rfl, rfl⟩) I2).mono ?_) | (with_reducible refine (is_st (w.heap.size + 1) s y2 _ wc _ PC.out.L (by first | exact S1 | exact same_trans S1 ⟨rfl, rfl, rfl, rfl⟩ | exact ⟨rfl, rfl, rfl, rfl⟩) I3).mono ?_)); rintro e wi ⟨rfl, S1⟩))
                  repeat (go_region; go_wp2_with ((go_at_call 21; (first | (with_reducible refine (is_st (w.heap.size + 1) s y2 _ wc _ PC.out.L (by first | exact S1 | exact same_trans S1 ⟨rfl, rfl, rfl, rfl⟩ | exact ⟨rfl, rfl, rfl, rfl⟩) I1).mono ?_) | (with_reducible refine (is_st (w.heap.size + 1) s y2 _ wc _ PC.out.L (by first | exact S1 | exact same_trans S1 ⟨rfl, rfl, rfl, rfl⟩ | exact ⟨rfl, rfl, rfl, rfl⟩) I2).mono ?_) | (with_reducible refine (is_st (w.heap.size + 1) s y2 _ wc _ PC.out.L (by first | exact S1 | exact same_trans S1 ⟨rfl, rfl, rfl, rfl⟩ | exact ⟨rfl, rfl, rfl, rfl⟩) I3).mono ?_)); rintro e wi ⟨rfl, S1⟩)))
                  go_meet
                  case rel => exact ⟨by rw [CN.out]; rfl, Lib.hid (by rw [SP.out]; exact PC.out.same S1)⟩
                | false =>
                  cases r4 with
                  | true =>
                    go_wp2_with ((go_at_call 21; (first | (with_reducible refine (is_st (w.heap.size + 1) s y2 _ wc _ PC.out.L (by first | exact S1 | exact same_trans S1 ⟨rfl, rfl, rfl, rfl⟩ | exact ⟨rfl, rfl, rfl, rfl⟩) I1).mono ?_) | (with_reducible refine (is_st (w.heap.size + 1) s y2 _ wc _ PC.out.L (by first | exact S1 | exact same_trans S1 ⟨rfl, rfl, rfl, rfl⟩ | exact ⟨rfl, rfl, rfl, rfl⟩) I2).mono ?_) | (with_reducible refine (is_st (w.heap.size + 1) s y2 _ wc _ PC.out.L (by first | exact S1 | exact same_trans S1 ⟨rfl, rfl, rfl, rfl⟩ | exact ⟨rfl, rfl, rfl, rfl⟩) I3).mono ?_) | (with_reducible refine (is_st (w.heap.size + 1) s y2 _ wc _ PC.out.L (by first | exact S1 | exact same_trans S1 ⟨rfl, rfl, rfl, rfl⟩ | exact ⟨rfl, rfl, rfl, rfl⟩) I4).mono ?_)); rintro e wi ⟨rfl, S1⟩))
                    repeat (go_region; go_wp2_with ((go_at_call 21; (first | (with_reducible refine (is_st (w.heap.size + 1) s y2 _ wc _ PC.out.L (by first | exact S1 | exact same_trans S1 ⟨rfl, rfl, rfl, rfl⟩ | exact ⟨rfl, rfl, rfl, rfl⟩) I1).mono ?_) | (with_reducible refine (is_st (w.heap.size + 1) s y2 _ wc _ PC.out.L (by first | exact S1 | exact same_trans S1 ⟨rfl, rfl, rfl, rfl⟩ | exact ⟨rfl, rfl, rfl, rfl⟩) I2).mono ?_) | (with_reducible refine (is_st (w.heap.size + 1) s y2 _ wc _ PC.out.L (by first | exact S1 | exact same_trans S1 ⟨rfl, rfl, rfl, rfl⟩ | exact ⟨rfl, rfl, rfl, rfl⟩) I3).mono ?_) | (with_reducible refine (is_st (w.heap.size + 1) s y2 _ wc _ PC.out.L (by first | exact S1 | exact same_trans S1 ⟨rfl, rfl, rfl, rfl⟩ | exact ⟨rfl, rfl, rfl, rfl⟩) I4).mono ?_)); rintro e wi ⟨rfl, S1⟩)))
                    go_meet
                    case rel => exact ⟨by rw [CN.out]; rfl, Lib.hid (by rw [SP.out]; exact PC.out.same S1)⟩
                  | false =>
                    cases r5 with
                    | true =>
                      go_wp2_with ((go_at_call 21; (first | (with_reducible refine (is_st (w.heap.size + 1) s y2 _ wc _ PC.out.L (by first | exact S1 | exact same_trans S1 ⟨rfl, rfl, rfl, rfl⟩ | exact ⟨rfl, rfl, rfl, rfl⟩) I1).mono ?_) | (with_reducible refine (is_st (w.heap.size + 1) s y2 _ wc _ PC.out.L (by first | exact S1 | exact same_trans S1 ⟨rfl, rfl, rfl, rfl⟩ | exact ⟨rfl, rfl, rfl, rfl⟩) I2).mono ?_) | (with_reducible refine (is_st (w.heap.size + 1) s y2 _ wc _ PC.out.L (by first | exact S1 | exact same_trans S1 ⟨rfl, rfl, rfl, rfl⟩ | exact ⟨rfl, rfl, rfl, rfl⟩) I3).mono ?_) | (with_reducible refine (is_st (w.heap.size + 1) s y2 _ wc _ PC.out.L (by first | exact S1 | exact same_trans S1 ⟨rfl, rfl, rfl, rfl⟩ | exact ⟨rfl, rfl, rfl, rfl⟩) I4).mono ?_) | (with_reducible refine (is_st (w.heap.size + 1) s y2 _ wc _ PC.out.L (by first | exact S1 | exact same_trans S1 ⟨rfl, rfl, rfl, rfl⟩ | exact ⟨rfl, rfl, rfl, rfl⟩) I5).mono ?_)); rintro e wi ⟨rfl, S1⟩))
                      repeat (go_region; go_wp2_with ((go_at_call 21; (first | (with_reducible refine (is_st (w.heap.size + 1) s y2 _ wc _ PC.out.L (by first | exact S1 | exact same_trans S1 ⟨rfl, rfl, rfl, rfl⟩ | exact ⟨rfl, rfl, rfl, rfl⟩) I1).mono ?_) | (with_reducible refine (is_st (w.heap.size + 1) s y2 _ wc _ PC.out.L (by first | exact S1 | exact same_trans S1 ⟨rfl, rfl, rfl, rfl⟩ | exact ⟨rfl, rfl, rfl, rfl⟩) I2).mono ?_) | (with_reducible refine (is_st (w.heap.size + 1) s y2 _ wc _ PC.out.L (by first | exact S1 | exact same_trans S1 ⟨rfl, rfl, rfl, rfl⟩ | exact ⟨rfl, rfl, rfl, rfl⟩) I3).mono ?_) | (with_reducible refine (is_st (w.heap.size + 1) s y2 _ wc _ PC.out.L (by first | exact S1 | exact same_trans S1 ⟨rfl, rfl, rfl, rfl⟩ | exact ⟨rfl, rfl, rfl, rfl⟩) I4).mono ?_) | (with_reducible refine (is_st (w.heap.size + 1) s y2 _ wc _ PC.out.L (by first | exact S1 | exact same_trans S1 ⟨rfl, rfl, rfl, rfl⟩ | exact ⟨rfl, rfl, rfl, rfl⟩) I5).mono ?_)); rintro e wi ⟨rfl, S1⟩)))
                      go_meet
                      case rel => exact ⟨by rw [CN.out]; rfl, Lib.hid (by rw [SP.out]; exact PC.out.same S1)⟩
                    | false =>
                      go_wp2_with (first | (go_at_call 21; (first | (with_reducible refine (is_st (w.heap.size + 1) s y2 _ wc _ PC.out.L (by first | exact S1 | exact same_trans S1 ⟨rfl, rfl, rfl, rfl⟩ | exact ⟨rfl, rfl, rfl, rfl⟩) I1).mono ?_) | (with_reducible refine (is_st (w.heap.size + 1) s y2 _ wc _ PC.out.L (by first | exact S1 | exact same_trans S1 ⟨rfl, rfl, rfl, rfl⟩ | exact ⟨rfl, rfl, rfl, rfl⟩) I2).mono ?_) | (with_reducible refine (is_st (w.heap.size + 1) s y2 _ wc _ PC.out.L (by first | exact S1 | exact same_trans S1 ⟨rfl, rfl, rfl, rfl⟩ | exact ⟨rfl, rfl, rfl, rfl⟩) I3).mono ?_) | (with_reducible refine (is_st (w.heap.size + 1) s y2 _ wc _ PC.out.L (by first | exact S1 | exact same_trans S1 ⟨rfl, rfl, rfl, rfl⟩ | exact ⟨rfl, rfl, rfl, rfl⟩) I4).mono ?_) | (with_reducible refine (is_st (w.heap.size + 1) s y2 _ wc _ PC.out.L (by first | exact S1 | exact same_trans S1 ⟨rfl, rfl, rfl, rfl⟩ | exact ⟨rfl, rfl, rfl, rfl⟩) I5).mono ?_)); rintro e wi ⟨rfl, S1⟩) | (go_at_call 23; refine (unexp_st (w.heap.size + 1) s y2 wc _ PC.out.L (by first | exact S1 | exact same_trans S1 ⟨rfl, rfl, rfl, rfl⟩ | exact ⟨rfl, rfl, rfl, rfl⟩)).mono ?_; rintro e w2 ⟨rfl, L2, H2⟩))
                      repeat (go_region; go_wp2_with (first | (go_at_call 21; (first | (with_reducible refine (is_st (w.heap.size + 1) s y2 _ wc _ PC.out.L (by first | exact S1 | exact same_trans S1 ⟨rfl, rfl, rfl, rfl⟩ | exact ⟨rfl, rfl, rfl, rfl⟩) I1).mono ?_) | (with_reducible refine (is_st (w.heap.size + 1) s y2 _ wc _ PC.out.L (by first | exact S1 | exact same_trans S1 ⟨rfl, rfl, rfl, rfl⟩ | exact ⟨rfl, rfl, rfl, rfl⟩) I2).mono ?_) | (with_reducible refine (is_st (w.heap.size + 1) s y2 _ wc _ PC.out.L (by first | exact S1 | exact same_trans S1 ⟨rfl, rfl, rfl, rfl⟩ | exact ⟨rfl, rfl, rfl, rfl⟩) I3).mono ?_) | (with_reducible refine (is_st (w.heap.size + 1) s y2 _ wc _ PC.out.L (by first | exact S1 | exact same_trans S1 ⟨rfl, rfl, rfl, rfl⟩ | exact ⟨rfl, rfl, rfl, rfl⟩) I4).mono ?_) | (with_reducible refine (is_st (w.heap.size + 1) s y2 _ wc _ PC.out.L (by first | exact S1 | exact same_trans S1 ⟨rfl, rfl, rfl, rfl⟩ | exact ⟨rfl, rfl, rfl, rfl⟩) I5).mono ?_)); rintro e wi ⟨rfl, S1⟩) | (go_at_call 23; refine (unexp_st (w.heap.size + 1) s y2 wc _ PC.out.L (by first | exact S1 | exact same_trans S1 ⟨rfl, rfl, rfl, rfl⟩ | exact ⟨rfl, rfl, rfl, rfl⟩)).mono ?_; rintro e w2 ⟨rfl, L2, H2⟩)))
                      go_meet
                      case rel => exact ⟨by rw [CN.out]; rfl, Lib.hid (by rw [SP.out]; exact PC.out.next L2.out H2.out)⟩
        obtain ⟨rfl, PD⟩ := hcut
        clear I1 I2 I3 I4 I5 PC CN SP
        refine ‹∀ (a : Act) (w : World), Code.wp _ _ _ a w → _› _ _ ?_
        obtain ⟨y3, hy3⟩ : ∃ y3, sepS y2 = y3 := ⟨_, rfl⟩
        rw [hy3] at PD
        have YN : Hid (sepN s y2 = lfS s (if endB y3 = true then y3 else rd s y3)) := Lib.hid (by unfold sepN; rw [hy3])
        obtain ⟨r, hr⟩ : ∃ r, endB y3 = r := ⟨_, rfl⟩
        have IB : Hid (isB (ByteArray.mk #[]).data.toList y3 = r) := Lib.hid ((isB_end PD.out.L.2).trans hr)
        rw [hr] at YN
        have FINX : Hid (∀ w', PY s w w' (sepN s y2) (l ++ [(lv, .slice a1 lv.length m1, no, cn)]) (.slice (some ⟨h2, 0, none⟩) (l.length + 1) cap) → PX s w w' (sepN s y2) (l ++ [(lv, .slice a1 lv.length m1, no, cn)]) (.slice (some ⟨h2, 0, none⟩) (l.length + 1) cap) (cnO y2)) := Lib.hid (fun w' hp => by
          have yok : okB (sepN s y2) = true → okB y2 = true := fun h => by
            refine Decidable.byContradiction fun hc => ?_
            have := sepN_bad (s := s) (y := y2) (by simpa using hc)
            rw [this] at h; cases h
          refine ⟨hp, ⟨by rw [List.length_append]; have := HK1.out; simp only [List.length_singleton]; omega, fun ho => ?_⟩, fun ho => ?_, fun ho => ?_⟩
          · have := LIM.out (yok ho)
            have := HK1.out
            rw [List.length_append]; simp only [List.length_singleton]; omega
          · rw [RUN.out, List.map_append, List.map_singleton]
            have := E4.out (yok ho)
            rw [show toPl (lv, Value.slice a1 lv.length m1, no, cn) = ⟨pl, no, cn⟩ by unfold toPl; simp only [this]]
          · rw [RUN.out, pa_none (by unfold pa1; rw [if_pos (.inl ho)])])
        have FINM : Hid (∀ w', PY s w w' (sepN s y2) (l ++ [(lv, .slice a1 lv.length m1, no, cn)]) (.slice (some ⟨h2, 0, none⟩) (l.length + 1) cap) → muP s (w.heap.size + 1) w' < muP s (w.heap.size + 1) wr) := Lib.hid (fun w' hp => by
          rw [MU.out, hp.L.muP]; exact PMU.out)
        clear hy3 hr PMU MU RUN LIM
        cases r with
        | true =>
          go_wp2_with (first | (go_at_call 21; refine (is_st (w.heap.size + 1) s y3 _ _ _ PD.out.L (by exact ⟨rfl, rfl, rfl, rfl⟩) IB).mono ?_; rintro e w5 ⟨rfl, S5⟩) | (go_at_call 20; refine (lines_st (w.heap.size + 1) s y3 _ _ PD.out.L S5 hs).mono ?_; rintro e w7 ⟨rfl, L7, G7⟩))
          go_roundw
          case rel => exact ⟨_, _, _, _, rfl, Lib.hid (FINX.out _ (by rw [YN.out]; exact PD.out.next L7.out G7.out))⟩
          case measure => exact FINM.out _ (by rw [YN.out]; exact PD.out.next L7.out G7.out)
        | false =>
          go_wp2_with (first | (go_at_call 21; refine (is_st (w.heap.size + 1) s y3 _ _ _ PD.out.L (by exact ⟨rfl, rfl, rfl, rfl⟩) IB).mono ?_; rintro e w5 ⟨rfl, S5⟩) | (go_at_call 19; refine (next_st (w.heap.size + 1) s y3 _ _ PD.out.L S5 hs).mono ?_; rintro e w6 ⟨rfl, L6, G6⟩) | (go_at_call 20; refine (lines_st (w.heap.size + 1) s (rd s y3) _ _ L6.out (by exact ⟨rfl, rfl, rfl, rfl⟩) hs).mono ?_; rintro e w7 ⟨rfl, L7, G7⟩))
          go_roundw
          case rel => exact ⟨_, _, _, _, rfl, Lib.hid (FINX.out _ (by rw [YN.out]; exact PD.out.next L7.out (gr_trans G6.out G7.out)))⟩
          case measure => exact FINM.out _ (by rw [YN.out]; exact PD.out.next L7.out (gr_trans G6.out G7.out))
  · have PR : Hid (paR s = ([], 3, 8192)) := Lib.hid (by unfold paR; rw [if_pos (by omega)])
    have hs2 : decide (8192 < (s.size : Int)) = true := decide_eq_true (by omega)
    go_enter Tryd.func9, Tryd.ntmps9
    go_wp2_with (fail)
    repeat (go_region; go_wp2_with (fail))
    have RR := Lib.hid (heap_alloc_new w (.cells #[.slice none 0 0] 24))
    (try simp only [Exit.inBlock, Exit.then])
    have z0 := blk_cell RR.out 0
    simp only [List.getElem?_toArray, List.getElem?_cons_zero] at z0
    refine bodyPost_ret (v := .tuple #[.agg #[.slice none 0 0], .int .i64 3, .int .i64 8192]) (by simp [results, Tryd.results9, go_sem, z0]) rfl ⟨[], _, by rw [PR.out], Lib.hid ⟨⟨rfl, .inl ⟨rfl, rfl⟩⟩, fun x hx => by cases hx⟩, Lib.hid ((Below.refl w.heap.size w).alloc (Nat.le_refl _) _), Lib.hid (by rw [PR.out]; try rfl)⟩
end Go.Proofs.YtlhagpfpcdedpaaDoor
