/- walks: Lines of the program -/
import Derived.Test.YtoohbgjfhchnmaaDoorQu
namespace Go.Proofs.YtoohbgjfhchnmaaDoor
open Go.RowKit Go.Maps
open Lcl
def st0 : St := ⟨⟨#[]⟩, ⟨#[]⟩, 0⟩
def stepM (c : Cfg) (p : St × List ByteArray) (line : ByteArray) : St × List ByteArray := (feedS c p.1 line, p.2 ++ feedL c p.1 line)
/-- the state of a filter after some lines, and what it has given -/
def runM (c : Cfg) (st : St) (L : List ByteArray) : St × List ByteArray := L.foldl (stepM c) (st, [])
def linesM (c : Cfg) (L : List ByteArray) : List ByteArray := (runM c st0 L).2 ++ closeL c (runM c st0 L).1.first (runM c st0 L).1.n
theorem runM_snoc (c : Cfg) (st : St) (L : List ByteArray) (x : ByteArray) : runM c st (L ++ [x]) = stepM c (runM c st L) x := by unfold runM; rw [List.foldl_append]; rfl
theorem closeL_len (c : Cfg) (f : ByteArray) (n : Nat) : (closeL c f n).length ≤ (if n = 0 then 0 else 1) := by
  unfold closeL
  split
  · exact Nat.le_refl _
  · unfold outL
    split <;> simp
theorem feed_len (c : Cfg) (st : St) (x : ByteArray) : (feedL c st x).length + (if (feedS c st x).n = 0 then 0 else 1) ≤ (if st.n = 0 then 0 else 1) + 1 := by
  unfold feedL feedS
  cases h : same c st x with
  | true => simp
  | false =>
    have := closeL_len c st.first st.n
    simp; omega
/-- how far a run can get -/
structure RunB (p : St × List ByteArray) (k : Nat) : Prop where
  len : p.2.length + (if p.1.n = 0 then 0 else 1) ≤ k
  n : p.1.n ≤ k
  f : p.1.first.size ≤ 140737488351232
theorem RunB.step {c : Cfg} {p : St × List ByteArray} {k : Nat} (h : RunB p k) (x : ByteArray) (hx : x.size ≤ 140737488351232) : RunB (stepM c p x) (k + 1) := by
  have hl := feed_len c p.1 x
  have h1 := h.len
  have h2 := h.n
  refine ⟨?_, ?_, ?_⟩
  · show (p.2 ++ feedL c p.1 x).length + (if (feedS c p.1 x).n = 0 then 0 else 1) ≤ k + 1
    rw [List.length_append]; omega
  · show (feedS c p.1 x).n ≤ k + 1
    unfold feedS; split
    · show p.1.n + 1 ≤ k + 1; omega
    · show 1 ≤ k + 1; omega
  · show (feedS c p.1 x).first.size ≤ 140737488351232
    unfold feedS; split
    · exact h.f
    · exact hx
theorem run_b (c : Cfg) (st : St) (hst : st.n = 0) (hf : st.first.size ≤ 140737488351232) (L : List ByteArray) (hL : ∀ x ∈ L, x.size ≤ 140737488351232) (k : Nat) (hk : k ≤ L.length) : RunB (runM c st (L.take k)) k := by
  induction k with
  | zero => exact ⟨by unfold runM; simp [hst], by unfold runM; simp [hst], by unfold runM; simpa using hf⟩
  | succ k ih =>
    have hlt : k < L.length := hk
    rw [List.take_succ_eq_append_getElem hlt, runM_snoc]
    exact (ih (by omega)).step _ (hL _ (List.getElem_mem hlt))
/-- a list of strings in a row of the call's own -/
abbrev SRow (w : World) (B : Nat) (v : Value) (L : List ByteArray) : Prop := w.ownsRow B 9 1 v L.length (L.map Value.string)
/-- the rows of a list of strings -/
abbrev strs (L : List ByteArray) : List (List Value) := L.map fun s => [.string s]
theorem srow_rows {w : World} {B : Nat} {v : Value} {L : List ByteArray} (h : SRow w B v L) : RowsAt w v 1 (strs L) := by
  rcases h.2 with ⟨rfl, hn⟩ | ⟨g, cap, cur, rfl, hb, hg, hn, hm, hs, ht⟩
  · have h0 : L = [] := List.eq_nil_of_length_eq_zero hn
    subst h0
    exact rows_empty w 1
  · refine ⟨some ⟨g, 0, none⟩, cap, by rw [List.length_map], by rw [List.length_map]; exact hn, hm, .inr ⟨g, 0, rfl, (Array.getElem?_eq_some_iff.1 hg).1, fun j x hj i y hi => ?_⟩⟩
    rw [List.getElem?_map] at hj
    cases hl : L[j]? with
    | none => rw [hl] at hj; cases hj
    | some z =>
      rw [hl] at hj
      cases hj
      have hj' : j < L.length := (List.getElem?_eq_some_iff.1 hl).1
      have hi0 : i = 0 := by
        have := (List.getElem?_eq_some_iff.1 hi).1
        simp at this; omega
      subst hi0
      cases hi
      rw [Nat.zero_add, Nat.mul_one, Nat.add_zero, h.cellAt j (by omega)]
      simp [hl]
theorem srow_nil (w : World) (B : Nat) : SRow w B (.slice none 0 0) [] := World.ownsRow_nil _ _ _ _
/-- out = append(out, what was returned...) -/
theorem append_out {ops : Array Oper} {rest : List Oper} {o : Oper} {a : Act} {Q : Exit → Act → World → Prop} (hgd : o.guard = none) (s x : Operand)
    (ho : o.op = .call { callee := .builtin .append, args := #[s, x], argTypes := #[29, 29] }) (v u : Value) (L M : List ByteArray) (B : Nat) (w wr : World)
    (own : SRow wr B v L) (src : OutAt wr u M) (bel : Below B w wr) (hB : B ≤ wr.heap.size) (len : (L.length + M.length) * 16 ≤ 140737488355328) (hs : a.eval s = v) (hx : a.eval x = u)
    (h : ∀ v' w', Hid (SRow w' B v' (L ++ M)) → Hid (Below B w w') → Hid (wr.grownBy w' v.ownBlock) → wpList Tryd.prog ops Q rest (a.put o.dst v') w') : wpList Tryd.prog ops Q (o :: rest) a wr := by
  obtain ⟨i0, hi, hz0, hz1, hz2⟩ := info_parts info_str
  rcases src with ⟨rfl, rfl⟩ | ⟨g, cap, y, rfl, h1, h2, rfl, hc⟩
  · refine wpList_append_own_none hgd s x 29 ho B 9 i0 1 Tryd.underlying29 hi v L.length (L.map Value.string) hs own hx ?_
    exact h v wr (Lib.hid (by rw [List.append_nil]; exact own)) (Lib.hid bel) (Lib.hid (grown_below (Below.refl _ _) _))
  · refine wpList_append_own _ hgd s x 29 ho B 9 i0 (.string ⟨#[]⟩) 1 16 Tryd.underlying29 hi hz0 hz1 hz2 rfl (by decide) v L.length (L.map Value.string) hs own ⟨g, 0, none⟩ 1 cap [.string y] hx rfl ?_ ?_ ?_ len hB ?_
    · intro j q hj
      have : j = 0 := by have := (List.getElem?_eq_some_iff.1 hj).1; simp at this; omega
      subst this
      cases hj
      rw [Go.WideShapes.add_plain]; exact hc
    · intro q hq; simp at hq; subst hq; rfl
    · simp at len; unfold maxLen; omega
    · intro v' w' r1 r2 _
      refine h v' w' (Lib.hid ?_) (Lib.hid (bel.grown r2 hB (fun k hk => (own.lt k hk).1))) (Lib.hid r2)
      show w'.ownsRow B 9 1 v' (L ++ [y]).length ((L ++ [y]).map Value.string)
      rw [List.length_append, List.map_append]; exact r1
/-- where the loop stands after k lines -/
structure LR (c : Cfg) (w0 w wb : World) (bp bo bq : Nat) (v1 v4 v5 : Value) (g B : Nat) (L : List ByteArray) (k : Nat) (v : Value) : Prop where
  pf : PF c w0 wb bp bo bq v1 v4 v5 g (runM c st0 (L.take k)).1
  row : SRow wb B v (runM c st0 (L.take k)).2
  gB : g < B
  bel : Below w.heap.size w wb
  wg : w.heap.size ≤ g
  Bs : B ≤ wb.heap.size
theorem grown_outer {w wr w' : World} {r : Option Nat} (h : Below w.heap.size w wr) (hg : wr.grownBy w' r) (hr : ∀ k, r = some k → w.heap.size ≤ k) : Below w.heap.size w w' := h.grown hg h.size hr
/-- Feed, then the append -/
theorem LR.step {c : Cfg} {w0 w wr w1 w2 : World} {bp bo bq g B k : Nat} {v1 v4 v5 v v' : Value} {L : List ByteArray} {x : ByteArray} (h : LR c w0 w wr bp bo bq v1 v4 v5 g B L k v) (hx : L[k]? = some x)
    (hp : PF c w0 w1 bp bo bq v1 v4 v5 g (feedS c (runM c st0 (L.take k)).1 x)) (hg : wr.grownBy w1 (some g)) (hs : SRow w2 B v' ((runM c st0 (L.take k)).2 ++ feedL c (runM c st0 (L.take k)).1 x)) (hg2 : w1.grownBy w2 v.ownBlock) :
    LR c w0 w w2 bp bo bq v1 v4 v5 g B L (k + 1) v' := by
  have e : runM c st0 (L.take (k + 1)) = stepM c (runM c st0 (L.take k)) x := by
    rw [List.take_add_one, hx]; exact runM_snoc c st0 (L.take k) x
  have hsz := hg.size
  have hsz2 := hg2.size
  have hB := h.Bs
  have hgb := h.gB
  have hwg := h.wg
  have ob : ∀ j, v.ownBlock = some j → B ≤ j := fun j hj => (h.row.lt j hj).1
  have b1 : Below w.heap.size w w1 := grown_outer h.bel hg (fun j hj => by cases hj; exact h.wg)
  refine ⟨?_, by rw [e]; exact hs, h.gB, grown_outer b1 hg2 (fun j hj => by have := ob j hj; omega), h.wg, by omega⟩
  rw [e]
  refine ⟨hp.own, hp.le, hp.bel.grown hg2 hp.bel.size (fun j hj => by have := ob j hj; have := hp.le; omega), ?_⟩
  rw [hg2.block g (by omega) (fun ee => by have := ob g ee.symm; omega)]
  exact hp.blk
theorem LR.rowNow {c : Cfg} {w0 w wr w1 : World} {bp bo bq g B k : Nat} {v1 v4 v5 v : Value} {L : List ByteArray} (h : LR c w0 w wr bp bo bq v1 v4 v5 g B L k v) (hg : wr.grownBy w1 (some g)) : SRow w1 B v (runM c st0 (L.take k)).2 := by
  refine h.row.kept hg ?_
  cases e : v.ownBlock with
  | none => exact .inl rfl
  | some j => exact .inr (fun ee => by cases ee; have := (h.row.lt _ e).1; have := h.gB; omega)
def LinesR (L : List ByteArray) (w : World) (e : Ending) (w' : World) : Prop := ∃ v, e = .returned v ∧ Hid (RowsAt w' v 1 (strs L)) ∧ Hid (Below w.heap.size w w')
theorem linesr_is {L : List ByteArray} {w w' : World} {e : Ending} (h : LinesR L w e w') : ∃ v, e = .returned v ∧ Hid (RowsAt w' v 1 (strs L)) ∧ Hid (Below w.heap.size w w') := h
set_option maxRecDepth 100000 in
set_option maxHeartbeats 16000000 in
theorem lines_any (c : Cfg) (hc : c.Ok) (v1 v4 v5 vl : Value) (L : List ByteArray) (w : World) (hL : LocAt w v1 v4 v5 c.W c.C c.E) (n1 : NZ v1) (n4 : NZ v4) (n5 : NZ v5) (ht : Tab w) (hr : RowsAt w vl 1 (strs L)) (hz : ∀ x ∈ L, x.size ≤ 140737488351232) (hl : L.length * 16 ≤ 140737488351232) :
    Calls Tryd.prog 10 #[c.sp, c.lv v1 v4 v5, vl] w (LinesR (linesM c L) w) := by
  have W2 : Hid (Below w.heap.size w ((w.alloc (.cells c.cells 23)).alloc (.cells (c.lcells v1 v4 v5) 28))) := Lib.hid (below_step (below_step (Below.refl _ _)))
  have NA := Lib.hid (new_any c hc v1 v4 v5 _ (hL.below W2.out) n1 n4 n5)
  have RB := Lib.hid (run_b c st0 rfl (by decide) L hz)
  have HC := Lib.hid hc
  have T := Lib.hid ht
  have RL := Lib.hid hr
  have HZ := Lib.hid hz
  have HL := Lib.hid hl
  obtain ⟨a0, cap0, e0, -⟩ := hr
  rw [List.length_map] at e0
  subst e0
  clear hc hL n1 n4 n5 ht hz
  go_enter Tryd.func10, Tryd.ntmps10
  go_wp2_with fail
  refine NA.out.mono ?_
  intro e w1 h1
  obtain ⟨w0, bp, bo, bq, x1, x4, x5, g, rfl, PF1, B1, B2, G1⟩ := h1
  have S0 : Hid (LR c w0 w w1 bp bo bq x1 x4 x5 g w1.heap.size L 0 (.slice none 0 0)) := Lib.hid ⟨PF1.out, srow_nil _ _, PF1.out.lt, W2.out.trans (B1.out.mono W2.out.size), Nat.le_trans W2.out.size G1.out, Nat.le_refl _⟩
  clear PF1 B1 B2 G1 NA W2
  go_wp2_with fail
  go_loopw [8, 16] (fun v i wr => ∃ k : Nat, k ≤ L.length ∧ i = .int .i64 k ∧ Hid (LR c w0 w wr bp bo bq x1 x4 x5 g w1.heap.size L k v)) (fun _ i _ => L.length - (intOf i).toNat)
  case atStart => exact ⟨0, Nat.zero_le _, rfl, S0⟩
  case round =>
    clear S0
    obtain ⟨k, hk, rfl, RN⟩ := hrel
    by_cases hlt : k < L.length
    · obtain ⟨x, hx⟩ : ∃ x, L[k]? = some x := ⟨L[k], List.getElem?_eq_getElem hlt⟩
      obtain ⟨gl, ol, cl, el, hc1, hc2, hgl, hcell⟩ := (RL.out.below RN.out.bel).cons (by intro e; have h0 := congrArg List.length e; rw [List.length_map, List.length_nil] at h0; omega)
      rw [List.length_map] at el hc1
      have hcx := hcell k [.string x] (by rw [List.getElem?_map, hx]; rfl) 0 _ rfl
      simp only [Value.slice.injEq, true_and] at el
      obtain ⟨rfl, rfl⟩ := el
      rw [Nat.mul_one, Nat.add_zero] at hcx
      have C1 := Lib.hid hc1
      have HX := Lib.hid hx
      have XZ : Hid (x.size ≤ 140737488351232) := Lib.hid (HZ.out x (List.mem_of_getElem? hx))
      have RK := Lib.hid (RB.out k hk)
      have RK1 := Lib.hid (RB.out (k + 1) hlt)
      clear hc1 hc2 hcell hx hgl
      go_wp2_with fail
      refine (feed_any c HC.out w0 wr bp bo bq x1 x4 x5 g (runM c st0 (L.take k)).1 x RN.out.pf (tab_below T.out RN.out.bel) (by have := RK.out.n; have := HL.out; omega) RK.out.f XZ.out).mono ?_
      intro e w2 h2
      obtain ⟨v2, rfl, OV, P2, G2, NV⟩ := stepr_is h2
      clear h2
      have LN : Hid (((runM c st0 (L.take k)).2.length + (feedL c (runM c st0 (L.take k)).1 x).length) * 16 ≤ 140737488355328) := Lib.hid (by
        have e : runM c st0 (L.take (k + 1)) = stepM c (runM c st0 (L.take k)) x := by rw [List.take_add_one, HX.out]; exact runM_snoc c st0 (L.take k) x
        have h3 := RK1.out.len
        rw [e] at h3
        have h4 : ((runM c st0 (L.take k)).2 ++ feedL c (runM c st0 (L.take k)).1 x).length ≤ k + 1 := Nat.le_trans (Nat.le_add_right _ _) h3
        rw [List.length_append] at h4
        have := HL.out
        omega)
      have BS := Lib.hid (Nat.le_trans RN.out.Bs G2.out.size)
      go_wp2_with (at_builtin; refine append_out rfl _ _ rfl _ v2 (runM c st0 (L.take k)).2 (feedL c (runM c st0 (L.take k)).1 x) w1.heap.size w2 _ (RN.out.rowNow G2.out) OV.out (Below.refl _ _) BS.out LN.out rfl rfl ?_; intro v' w3 R3 B3 G3)
      have RN2 := Lib.hid (RN.out.step HX.out P2.out G2.out R3.out G3.out)
      go_roundw
      case rel => exact ⟨k + 1, by omega, by go_num, RN2⟩
      case measure => simp [intOf]; omega
    · have ek : k = L.length := by omega
      subst ek
      have RK := Lib.hid (RB.out L.length (Nat.le_refl _))
      go_wp2_with fail
      refine (close_any c w0 wr bp bo bq x1 x4 x5 g _ _ _ RN.out.pf (tab_below T.out RN.out.bel) (by have := RK.out.n; have := HL.out; omega) RK.out.f).mono ?_
      intro e w2 h2
      obtain ⟨v2, rfl, OV, P2, G2, NV⟩ := closer_is h2
      clear h2
      have LN : Hid (((runM c st0 (L.take L.length)).2.length + (closeL c (runM c st0 (L.take L.length)).1.first (runM c st0 (L.take L.length)).1.n).length) * 16 ≤ 140737488355328) := Lib.hid (by
        have h3 := RK.out.len
        have h4 := closeL_len c (runM c st0 (L.take L.length)).1.first (runM c st0 (L.take L.length)).1.n
        have := HL.out
        omega)
      have BS := Lib.hid (Nat.le_trans RN.out.Bs G2.out.size)
      have EL : Hid ((runM c st0 (L.take L.length)).2 ++ closeL c (runM c st0 (L.take L.length)).1.first (runM c st0 (L.take L.length)).1.n = linesM c L) := Lib.hid (by rw [List.take_length]; rfl)
      go_wp2_with (at_builtin; refine append_out rfl _ _ rfl _ v2 (runM c st0 (L.take L.length)).2 _ w1.heap.size w2 _ (RN.out.rowNow G2.out) OV.out (Below.refl _ _) BS.out LN.out rfl rfl ?_; intro v' w3 R3 B3 G3)
      have BF := Lib.hid (grown_outer (grown_outer RN.out.bel G2.out (fun j hj => by cases hj; exact RN.out.wg)) G3.out (fun j hj => by have := (RN.out.row.lt j hj).1; have := RN.out.wg; have := RN.out.gB; omega))
      go_ret
      exact ⟨v', rfl, Lib.hid (by rw [← EL.out]; exact srow_rows R3.out), BF⟩
end Go.Proofs.YtoohbgjfhchnmaaDoor
