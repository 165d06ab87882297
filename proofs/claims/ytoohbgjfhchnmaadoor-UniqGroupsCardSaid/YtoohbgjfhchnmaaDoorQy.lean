/- walks: New and Lines of the reference -/
import Derived.Test.YtoohbgjfhchnmaaDoorQx
namespace Go.Proofs.YtoohbgjfhchnmaaDoor
open Go.RowKit Go.Maps
open Lcl
def RNewR (c : Cfg) (v1 v4 v5 : Value) (w : World) (e : Ending) (w' : World) : Prop :=
  ∃ w0 g, e = .returned (.pointer (some ⟨g, 0, none⟩)) ∧ Hid (RF c w0 w' v1 v4 v5 g st0) ∧ Hid (Below w.heap.size w w') ∧ Hid (w.heap.size ≤ g) ∧ Hid (g < w'.heap.size)
set_option maxRecDepth 100000 in
set_option maxHeartbeats 4000000 in
theorem rnew_any (c : Cfg) (v1 v4 v5 : Value) (w : World) (hL : LocAt w v1 v4 v5 c.W c.C c.E) :
    Calls Tryd.prog 14 #[c.sp, c.lv v1 v4 v5] w (RNewR c v1 v4 v5 w) := by
  obtain ⟨a1, cap1, e1, -⟩ := hL.r1
  obtain ⟨a4, cap4, e4, -⟩ := hL.r4
  obtain ⟨a5, cap5, e5, -⟩ := hL.r5
  rw [List.length_map] at e1 e4 e5
  subst e1 e4 e5
  have LO := Lib.hid hL; clear hL
  go_enter Tryd.func14, Tryd.ntmps14
  go_wp2
  have B2 : Below w.heap.size w ((w.alloc (.cells c.cells 23)).alloc (.cells (c.lcells (.slice a1 c.W.length cap1) (.slice a4 c.C.length cap4) (.slice a5 c.E.length cap5)) 28)) := below_step (below_step (Below.refl _ _))
  have s2 : ((w.alloc (.cells c.cells 23)).alloc (.cells (c.lcells (.slice a1 c.W.length cap1) (.slice a4 c.C.length cap4) (.slice a5 c.E.length cap5)) 28)).heap.size = w.heap.size + 1 + 1 := by rw [World.size_alloc, World.size_alloc]
  have hb := heap_alloc_new ((w.alloc (.cells c.cells 23)).alloc (.cells (c.lcells (.slice a1 c.W.length cap1) (.slice a4 c.C.length cap4) (.slice a5 c.E.length cap5)) 28)) (.cells (rfc c (.slice a1 c.W.length cap1) (.slice a4 c.C.length cap4) (.slice a5 c.E.length cap5) ⟨#[]⟩ ⟨#[]⟩ 0) 57)
  rw [s2] at hb
  go_ret
  exact ⟨_, w.heap.size + 1 + 1, rfl, Lib.hid ⟨⟨#[]⟩, ⟨LO.out.below B2, by rw [s2]; exact Nat.le_refl _, (Below.refl _ _).alloc (Nat.le_refl _) _, hb⟩, fun h => absurd h (by decide), by decide⟩, Lib.hid (B2.alloc B2.size _), Lib.hid (by omega), Lib.hid (by rw [World.size_alloc, s2]; omega)⟩
/-- where the loop of the reference stands after k lines -/
structure LRr (c : Cfg) (w0 w wb : World) (v1 v4 v5 : Value) (g B : Nat) (L : List ByteArray) (k : Nat) (v : Value) : Prop where
  pf : RF c w0 wb v1 v4 v5 g (runM c st0 (L.take k)).1
  row : SRow wb B v (runM c st0 (L.take k)).2
  gB : g < B
  bel : Below w.heap.size w wb
  wg : w.heap.size ≤ g
  Bs : B ≤ wb.heap.size
theorem RF.grown {c : Cfg} {w0 w1 w2 : World} {g : Nat} {v1 v4 v5 : Value} {st : St} {r : Option Nat} (h : RF c w0 w1 v1 v4 v5 g st) (hg : w1.grownBy w2 r) (hr : ∀ j, r = some j → g < j) : RF c w0 w2 v1 v4 v5 g st := by
  obtain ⟨last, h1, h2, h3⟩ := h
  refine ⟨last, ⟨h1.loc, h1.le, h1.bel.grown hg h1.bel.size (fun j hj => by have := hr j hj; have := h1.le; omega), ?_⟩, h2, h3⟩
  rw [hg.block g h1.lt (fun ee => by have := hr g ee.symm; omega)]
  exact h1.blk
theorem LRr.step {c : Cfg} {w0 w wr w1 w2 : World} {g B k : Nat} {v1 v4 v5 v v' : Value} {L : List ByteArray} {x : ByteArray} (h : LRr c w0 w wr v1 v4 v5 g B L k v) (hx : L[k]? = some x)
    (hp : RF c w0 w1 v1 v4 v5 g (feedS c (runM c st0 (L.take k)).1 x)) (hg : wr.grownBy w1 (some g)) (hs : SRow w2 B v' ((runM c st0 (L.take k)).2 ++ feedL c (runM c st0 (L.take k)).1 x)) (hg2 : w1.grownBy w2 v.ownBlock) :
    LRr c w0 w w2 v1 v4 v5 g B L (k + 1) v' := by
  have e : runM c st0 (L.take (k + 1)) = stepM c (runM c st0 (L.take k)) x := by
    rw [List.take_add_one, hx]; exact runM_snoc c st0 (L.take k) x
  have hsz := hg.size
  have hsz2 := hg2.size
  have hB := h.Bs
  have hgb := h.gB
  have hwg := h.wg
  have ob : ∀ j, v.ownBlock = some j → B ≤ j := fun j hj => (h.row.lt j hj).1
  have b1 : Below w.heap.size w w1 := grown_outer h.bel hg (fun j hj => by cases hj; exact h.wg)
  refine ⟨?_, by rw [e]; exact hs, h.gB, grown_outer b1 hg2 (fun j hj => by have := ob j hj; omega), h.wg, by omega⟩
  rw [e]
  exact hp.grown hg2 (fun j hj => by have := ob j hj; omega)
theorem LRr.rowNow {c : Cfg} {w0 w wr w1 : World} {g B k : Nat} {v1 v4 v5 v : Value} {L : List ByteArray} (h : LRr c w0 w wr v1 v4 v5 g B L k v) (hg : wr.grownBy w1 (some g)) : SRow w1 B v (runM c st0 (L.take k)).2 := by
  refine h.row.kept hg ?_
  cases e : v.ownBlock with
  | none => exact .inl rfl
  | some j => exact .inr (fun ee => by cases ee; have := (h.row.lt _ e).1; have := h.gB; omega)
set_option maxRecDepth 100000 in
set_option maxHeartbeats 16000000 in
theorem rlines_any (c : Cfg) (hc : c.Ok) (v1 v4 v5 vl : Value) (L : List ByteArray) (w : World) (hL : LocAt w v1 v4 v5 c.W c.C c.E) (hr : RowsAt w vl 1 (strs L)) (hz : ∀ x ∈ L, x.size ≤ 140737488351232) (hl : L.length * 16 ≤ 140737488351232) :
    Calls Tryd.prog 11 #[c.sp, c.lv v1 v4 v5, vl] w (LinesR (linesM c L) w) := by
  have W2 : Hid (Below w.heap.size w ((w.alloc (.cells c.cells 23)).alloc (.cells (c.lcells v1 v4 v5) 28))) := Lib.hid (below_step (below_step (Below.refl _ _)))
  have NA := Lib.hid (rnew_any c v1 v4 v5 _ (hL.below W2.out))
  have RB := Lib.hid (run_b c st0 rfl (by decide) L hz)
  have HC := Lib.hid hc
  have RL := Lib.hid hr
  have HZ := Lib.hid hz
  have HL := Lib.hid hl
  obtain ⟨a0, cap0, e0, -⟩ := hr
  rw [List.length_map] at e0
  subst e0
  clear hc hL hz
  go_enter Tryd.func11, Tryd.ntmps11
  go_wp2_with fail
  refine NA.out.mono ?_
  intro e w1 h1
  obtain ⟨w0, g, rfl, PF1, B1, G1, G2⟩ := h1
  have S0 : Hid (LRr c w0 w w1 v1 v4 v5 g w1.heap.size L 0 (.slice none 0 0)) := Lib.hid ⟨PF1.out, srow_nil _ _, G2.out, W2.out.trans (B1.out.mono W2.out.size), Nat.le_trans W2.out.size G1.out, Nat.le_refl _⟩
  clear PF1 B1 G1 G2 NA W2
  go_wp2_with fail
  go_loopw [7, 9] (fun v i wr => ∃ k : Nat, k ≤ L.length ∧ i = .int .i64 k ∧ Hid (LRr c w0 w wr v1 v4 v5 g w1.heap.size L k v)) (fun _ i _ => L.length - (intOf i).toNat)
  case atStart => exact ⟨0, Nat.zero_le _, rfl, S0⟩
  case round =>
    clear S0
    obtain ⟨k, hk, rfl, RN⟩ := hrel
    by_cases hlt : k < L.length
    · obtain ⟨x, hx⟩ : ∃ x, L[k]? = some x := ⟨L[k], List.getElem?_eq_getElem hlt⟩
      obtain ⟨gl, ol, cl, el, hc1, hc2, hgl, hcell⟩ := (RL.out.below RN.out.bel).cons (by intro e; have h0 := congrArg List.length e; rw [List.length_map, List.length_nil] at h0; omega)
      rw [List.length_map] at el hc1
      have hcx := hcell k [.string x] (by rw [List.getElem?_map, hx]; rfl) 0 _ rfl
      simp only [Value.slice.injEq, true_and] at el
      obtain ⟨rfl, rfl⟩ := el
      rw [Nat.mul_one, Nat.add_zero] at hcx
      have C1 := Lib.hid hc1
      have HX := Lib.hid hx
      have XZ : Hid (x.size ≤ 140737488351232) := Lib.hid (HZ.out x (List.mem_of_getElem? hx))
      have RK := Lib.hid (RB.out k hk)
      have RK1 := Lib.hid (RB.out (k + 1) hlt)
      clear hc1 hc2 hcell hx hgl
      go_wp2_with fail
      refine (rfeed_any c HC.out w0 wr v1 v4 v5 g (runM c st0 (L.take k)).1 x RN.out.pf (by have := RK.out.n; have := HL.out; omega) RK.out.f XZ.out).mono ?_
      intro e w2 h2
      obtain ⟨v2, rfl, OV, P2, G2, NV⟩ := rstepr_is h2
      clear h2
      have LN : Hid (((runM c st0 (L.take k)).2.length + (feedL c (runM c st0 (L.take k)).1 x).length) * 16 ≤ 140737488355328) := Lib.hid (by
        have e : runM c st0 (L.take (k + 1)) = stepM c (runM c st0 (L.take k)) x := by rw [List.take_add_one, HX.out]; exact runM_snoc c st0 (L.take k) x
        have h3 := RK1.out.len
        rw [e] at h3
        have h4 : ((runM c st0 (L.take k)).2 ++ feedL c (runM c st0 (L.take k)).1 x).length ≤ k + 1 := Nat.le_trans (Nat.le_add_right _ _) h3
        rw [List.length_append] at h4
        have := HL.out
        omega)
      have BS := Lib.hid (Nat.le_trans RN.out.Bs G2.out.size)
      go_wp2_with (at_builtin; refine append_out rfl _ _ rfl _ v2 (runM c st0 (L.take k)).2 (feedL c (runM c st0 (L.take k)).1 x) w1.heap.size w2 _ (RN.out.rowNow G2.out) OV.out (Below.refl _ _) BS.out LN.out rfl rfl ?_; intro v' w3 R3 B3 G3)
      have RN2 := Lib.hid (RN.out.step HX.out P2.out G2.out R3.out G3.out)
      go_roundw
      case rel => exact ⟨k + 1, by omega, by go_num, RN2⟩
      case measure => simp [intOf]; omega
    · have ek : k = L.length := by omega
      subst ek
      have RK := Lib.hid (RB.out L.length (Nat.le_refl _))
      obtain ⟨last, hrf, -, -⟩ := RN.out.pf
      have RFL := Lib.hid hrf; clear hrf
      go_wp2_with fail
      refine (rclose_any c w0 wr v1 v4 v5 g _ _ last RFL.out (by have := RK.out.n; have := HL.out; omega) RK.out.f).mono ?_
      intro e w2 h2
      obtain ⟨v2, rfl, OV, P2, G2, NV⟩ := rcloser_is h2
      clear h2
      have LN : Hid (((runM c st0 (L.take L.length)).2.length + (closeL c (runM c st0 (L.take L.length)).1.first (runM c st0 (L.take L.length)).1.n).length) * 16 ≤ 140737488355328) := Lib.hid (by
        have h3 := RK.out.len
        have h4 := closeL_len c (runM c st0 (L.take L.length)).1.first (runM c st0 (L.take L.length)).1.n
        have := HL.out
        omega)
      have BS := Lib.hid (Nat.le_trans RN.out.Bs G2.out.size)
      have EL : Hid ((runM c st0 (L.take L.length)).2 ++ closeL c (runM c st0 (L.take L.length)).1.first (runM c st0 (L.take L.length)).1.n = linesM c L) := Lib.hid (by rw [List.take_length]; rfl)
      go_wp2_with (at_builtin; refine append_out rfl _ _ rfl _ v2 (runM c st0 (L.take L.length)).2 _ w1.heap.size w2 _ (RN.out.rowNow G2.out) OV.out (Below.refl _ _) BS.out LN.out rfl rfl ?_; intro v' w3 R3 B3 G3)
      have BF := Lib.hid (grown_outer (grown_outer RN.out.bel G2.out (fun j hj => by cases hj; exact RN.out.wg)) G3.out (fun j hj => by have := (RN.out.row.lt j hj).1; have := RN.out.wg; have := RN.out.gB; omega))
      go_ret
      exact ⟨v', rfl, Lib.hid (by rw [← EL.out]; exact srow_rows R3.out), BF⟩
end Go.Proofs.YtoohbgjfhchnmaaDoor
