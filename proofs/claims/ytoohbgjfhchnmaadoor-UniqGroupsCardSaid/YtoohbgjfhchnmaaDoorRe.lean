/- walks: all of the law: what a filter of the program returns for lines and for Close, from any state without lines -/
import Derived.Test.YtoohbgjfhchnmaaDoorRc
namespace Go.Proofs.YtoohbgjfhchnmaaDoor
open Go.RowKit Go.Maps
open Lcl
theorem run_from (c : Cfg) (st : St) (h : st.n = 0) (L : List ByteArray) : (runM c st L).2 ++ closeL c (runM c st L).1.first (runM c st L).1.n = linesM c L := by
  unfold linesM
  cases L with
  | nil => show [] ++ closeL c st.first st.n = [] ++ closeL c st0.first st0.n; rw [h]; rfl
  | cons x r =>
    have e : stepM c (st, []) x = stepM c (st0, []) x := by
      unfold stepM feedS feedL same
      show (_, _) = (_, _)
      rw [h]; rfl
    have e2 : runM c st (x :: r) = runM c st0 (x :: r) := by unfold runM; rw [List.foldl_cons, List.foldl_cons, e]
    rw [e2]
/-- where the loop of all stands after k lines -/
structure LA (c : Cfg) (w0 w wb : World) (bp bo bq : Nat) (v1 v4 v5 : Value) (g : Nat) (st : St) (L : List ByteArray) (k : Nat) (v : Value) : Prop where
  pf : PF c w0 wb bp bo bq v1 v4 v5 g (runM c st (L.take k)).1
  row : SRow wb w.heap.size v (runM c st (L.take k)).2
  gB : g < w.heap.size
  gr : w.grownBy wb (some g)
theorem LA.step {c : Cfg} {w0 w wr w1 w2 : World} {bp bo bq g k : Nat} {v1 v4 v5 v v' : Value} {st : St} {L : List ByteArray} {x : ByteArray} (h : LA c w0 w wr bp bo bq v1 v4 v5 g st L k v) (hx : L[k]? = some x)
    (hp : PF c w0 w1 bp bo bq v1 v4 v5 g (feedS c (runM c st (L.take k)).1 x)) (hg : wr.grownBy w1 (some g)) (hs : SRow w2 w.heap.size v' ((runM c st (L.take k)).2 ++ feedL c (runM c st (L.take k)).1 x)) (hg2 : w1.grownBy w2 v.ownBlock) :
    LA c w0 w w2 bp bo bq v1 v4 v5 g st L (k + 1) v' := by
  have e : runM c st (L.take (k + 1)) = stepM c (runM c st (L.take k)) x := by
    rw [List.take_add_one, hx]; exact runM_snoc c st (L.take k) x
  have hgb := h.gB
  have ob : ∀ j, v.ownBlock = some j → w.heap.size ≤ j := fun j hj => (h.row.lt j hj).1
  have g1 := h.gr.trans hg
  refine ⟨?_, by rw [e]; exact hs, h.gB, g1.andThen hg2 (fun j hj => .inl (ob j hj))⟩
  rw [e]
  refine ⟨hp.own, hp.le, hp.bel.grown hg2 hp.bel.size (fun j hj => by have := ob j hj; have := hp.le; omega), ?_⟩
  rw [hg2.block g hp.lt (fun ee => by have := ob g ee.symm; omega)]
  exact hp.blk
theorem LA.ob {c : Cfg} {w0 w wr : World} {bp bo bq g k : Nat} {v1 v4 v5 v : Value} {st : St} {L : List ByteArray} (h : LA c w0 w wr bp bo bq v1 v4 v5 g st L k v) : ∀ j, v.ownBlock = some j → w.heap.size ≤ j := fun j hj => (h.row.lt j hj).1
theorem LA.rowNow {c : Cfg} {w0 w wr w1 : World} {bp bo bq g k : Nat} {v1 v4 v5 v : Value} {st : St} {L : List ByteArray} (h : LA c w0 w wr bp bo bq v1 v4 v5 g st L k v) (hg : wr.grownBy w1 (some g)) : SRow w1 w.heap.size v (runM c st (L.take k)).2 := by
  refine h.row.kept hg ?_
  cases e : v.ownBlock with
  | none => exact .inl rfl
  | some j => exact .inr (fun ee => by cases ee; have := (h.row.lt _ e).1; have := h.gB; omega)
def AllR (c : Cfg) (w0 : World) (bp bo bq : Nat) (v1 v4 v5 : Value) (g : Nat) (L : List ByteArray) (w : World) (e : Ending) (w' : World) : Prop :=
  ∃ v st, e = .returned v ∧ Hid (SRow w' w.heap.size v (linesM c L)) ∧ Hid (PF c w0 w' bp bo bq v1 v4 v5 g st) ∧ Hid (st.n = 0 ∧ st.first.size ≤ 140737488351232) ∧ Hid (w.grownBy w' (some g))
theorem allr_is {c : Cfg} {w0 : World} {bp bo bq : Nat} {v1 v4 v5 : Value} {g : Nat} {L : List ByteArray} {w : World} {e : Ending} {w' : World} (h : AllR c w0 bp bo bq v1 v4 v5 g L w e w') :
  ∃ v st, e = .returned v ∧ Hid (SRow w' w.heap.size v (linesM c L)) ∧ Hid (PF c w0 w' bp bo bq v1 v4 v5 g st) ∧ Hid (st.n = 0 ∧ st.first.size ≤ 140737488351232) ∧ Hid (w.grownBy w' (some g)) := h
set_option maxRecDepth 100000 in
set_option maxHeartbeats 16000000 in
theorem all_any (c : Cfg) (hc : c.Ok) (w0 w : World) (bp bo bq : Nat) (v1 v4 v5 : Value) (g : Nat) (st : St) (vl : Value) (L : List ByteArray) (h : PF c w0 w bp bo bq v1 v4 v5 g st) (hst : st.n = 0) (hf : st.first.size ≤ 140737488351232) (ht : Tab w0) (hr : RowsAt w0 vl 1 (strs L)) (hz : ∀ x ∈ L, x.size ≤ 140737488351232) (hl : L.length * 16 ≤ 140737488351232) :
    Calls Tryd.prog 19 #[.pointer (some ⟨g, 0, none⟩), vl] w (AllR c w0 bp bo bq v1 v4 v5 g L w) := by
  have RB := Lib.hid (run_b c st hst hf L hz)
  have EF := Lib.hid (run_from c st hst L)
  have HC := Lib.hid hc
  have T := Lib.hid ht
  have RL := Lib.hid hr
  have HZ := Lib.hid hz
  have HL := Lib.hid hl
  obtain ⟨a0, cap0, e0, -⟩ := hr
  rw [List.length_map] at e0
  subst e0
  have S0 : Hid (LA c w0 w w bp bo bq v1 v4 v5 g st L 0 (.slice none 0 0)) := Lib.hid ⟨h, srow_nil _ _, h.lt, grown_below (Below.refl _ _) _⟩
  clear hc h ht hz hf hst
  go_enter Tryd.func19, Tryd.ntmps19
  go_wp2_with fail
  go_loopw [5, 6] (fun v i wr => ∃ k : Nat, k ≤ L.length ∧ i = .int .i64 k ∧ Hid (LA c w0 w wr bp bo bq v1 v4 v5 g st L k v)) (fun _ i _ => L.length - (intOf i).toNat)
  case atStart => exact ⟨0, Nat.zero_le _, rfl, S0⟩
  case round =>
    clear S0
    obtain ⟨k, hk, rfl, RN⟩ := hrel
    by_cases hlt : k < L.length
    · obtain ⟨x, hx⟩ : ∃ x, L[k]? = some x := ⟨L[k], List.getElem?_eq_getElem hlt⟩
      obtain ⟨gl, ol, cl, el, hc1, hc2, hgl, hcell⟩ := (RL.out.below RN.out.pf.bel).cons (by intro e; have h0 := congrArg List.length e; rw [List.length_map, List.length_nil] at h0; omega)
      rw [List.length_map] at el hc1
      have hcx := hcell k [.string x] (by rw [List.getElem?_map, hx]; rfl) 0 _ rfl
      simp only [Value.slice.injEq, true_and] at el
      obtain ⟨rfl, rfl⟩ := el
      rw [Nat.mul_one, Nat.add_zero] at hcx
      have C1 := Lib.hid hc1
      have HX := Lib.hid hx
      have XZ : Hid (x.size ≤ 140737488351232) := Lib.hid (HZ.out x (List.mem_of_getElem? hx))
      have RK := Lib.hid (RB.out k hk)
      have RK1 := Lib.hid (RB.out (k + 1) hlt)
      clear hc1 hc2 hcell hx hgl
      go_wp2_with fail
      refine (feed_any c HC.out w0 wr bp bo bq v1 v4 v5 g (runM c st (L.take k)).1 x RN.out.pf (tab_below T.out RN.out.pf.bel) (by have := RK.out.n; have := HL.out; omega) RK.out.f XZ.out).mono ?_
      intro e w2 h2
      obtain ⟨v2, rfl, OV, P2, G2, NV⟩ := stepr_is h2
      clear h2
      have LN : Hid (((runM c st (L.take k)).2.length + (feedL c (runM c st (L.take k)).1 x).length) * 16 ≤ 140737488355328) := Lib.hid (by
        have e : runM c st (L.take (k + 1)) = stepM c (runM c st (L.take k)) x := by rw [List.take_add_one, HX.out]; exact runM_snoc c st (L.take k) x
        have h3 := RK1.out.len
        rw [e] at h3
        have h4 : ((runM c st (L.take k)).2 ++ feedL c (runM c st (L.take k)).1 x).length ≤ k + 1 := Nat.le_trans (Nat.le_add_right _ _) h3
        rw [List.length_append] at h4
        have := HL.out
        omega)
      have BS := Lib.hid (Nat.le_trans RN.out.gr.size G2.out.size)
      go_wp2_with (at_builtin; refine append_out rfl _ _ rfl _ v2 (runM c st (L.take k)).2 (feedL c (runM c st (L.take k)).1 x) w.heap.size w2 _ (RN.out.rowNow G2.out) OV.out (Below.refl _ _) BS.out LN.out rfl rfl ?_; intro v' w3 R3 B3 G3)
      have RN2 := Lib.hid (RN.out.step HX.out P2.out G2.out R3.out G3.out)
      go_roundw
      case rel => exact ⟨k + 1, by omega, by go_num, RN2⟩
      case measure => simp [intOf]; omega
    · have ek : k = L.length := by omega
      subst ek
      have RK := Lib.hid (RB.out L.length (Nat.le_refl _))
      go_wp2_with fail
      refine (close_any c w0 wr bp bo bq v1 v4 v5 g _ _ _ RN.out.pf (tab_below T.out RN.out.pf.bel) (by have := RK.out.n; have := HL.out; omega) RK.out.f).mono ?_
      intro e w2 h2
      obtain ⟨v2, rfl, OV, P2, G2, NV⟩ := closer_is h2
      clear h2
      have LN : Hid (((runM c st (L.take L.length)).2.length + (closeL c (runM c st (L.take L.length)).1.first (runM c st (L.take L.length)).1.n).length) * 16 ≤ 140737488355328) := Lib.hid (by
        have h3 := RK.out.len
        have h4 := closeL_len c (runM c st (L.take L.length)).1.first (runM c st (L.take L.length)).1.n
        have := HL.out
        omega)
      have BS := Lib.hid (Nat.le_trans RN.out.gr.size G2.out.size)
      have EL : Hid ((runM c st (L.take L.length)).2 ++ closeL c (runM c st (L.take L.length)).1.first (runM c st (L.take L.length)).1.n = linesM c L) := Lib.hid (by rw [List.take_length]; exact EF.out)
      go_wp2_with (at_builtin; refine append_out rfl _ _ rfl _ v2 (runM c st (L.take L.length)).2 _ w.heap.size w2 _ (RN.out.rowNow G2.out) OV.out (Below.refl _ _) BS.out LN.out rfl rfl ?_; intro v' w3 R3 B3 G3)
      have OB := Lib.hid RN.out.ob
      have GF := Lib.hid ((RN.out.gr.trans G2.out).andThen G3.out (fun j hj => .inl (OB.out j hj)))
      have PF3 : Hid (PF c w0 w3 bp bo bq v1 v4 v5 g ⟨(runM c st (L.take L.length)).1.first, (runM c st (L.take L.length)).1.key, 0⟩) := Lib.hid ⟨P2.out.own, P2.out.le, P2.out.bel.grown G3.out P2.out.bel.size (fun j hj => by have := OB.out j hj; have := P2.out.le; have := RN.out.gB; omega), by
        rw [G3.out.block g P2.out.lt (fun ee => by have := OB.out g ee.symm; have := RN.out.gB; omega)]
        exact P2.out.blk⟩
      go_ret
      exact ⟨v', _, rfl, Lib.hid (by rw [← EL.out]; exact R3.out), PF3, Lib.hid ⟨rfl, RK.out.f⟩, GF⟩
end Go.Proofs.YtoohbgjfhchnmaaDoor
