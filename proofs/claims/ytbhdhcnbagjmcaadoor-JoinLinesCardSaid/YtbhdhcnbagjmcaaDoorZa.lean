/- walks: a map from strings to numbers; the closure that gathers the weights of a string -/
import Derived.Test.YtbhdhcnbagjmcaaDoorQj
import Derived.Test.YtbhdhcnbagjmcaaDoorZplain
namespace Go.Proofs.YtbhdhcnbagjmcaaDoor
open Go.RowKit Go.Maps Go.WideMaps
open Lcl
theorem zero_i (w : World) : (zeroValue 3).run Tryd.prog w = .ok (.int .i64 0) w := by kernel_rfl
/-- block b is a map of the call's own that holds these numbers, each at its string; of two at one string the later one -/
def Prs (w : World) (b n : Nat) (l : List (ByteArray × Int)) : Prop :=
  ∃ D : DataW Unit, w.ownsMap Tryd.prog 9 (plainElem Tryd.prog 3) b n D ∧ IsMap D ∧ ∀ x, D.atKey (.string x) (.lit (.int .i64 0)) = .lit (.int .i64 ((lstE l x).getD 0)) ∧ Go.Maps.has D (.string x) = (lstE l x).isSome
theorem Prs.made (w : World) : Prs (w.alloc (.map #[] 0)) w.heap.size 0 [] :=
  ⟨.map [], World.ownsMap_made _ _ _ _, isMap_empty, fun _ => ⟨rfl, rfl⟩⟩
theorem Prs.alloc {w : World} {b n : Nat} {l : List (ByteArray × Int)} (h : Prs w b n l) (o : Obj) : Prs (w.alloc o) b n l := by
  obtain ⟨D, h1, h2, h3⟩ := h
  exact ⟨D, h1.alloc o, h2, h3⟩
theorem Prs.lt {w : World} {b n : Nat} {l : List (ByteArray × Int)} (h : Prs w b n l) : b < w.heap.size := by
  obtain ⟨D, h1, h2, h3⟩ := h
  exact h1.lt
theorem Prs.kept {w w' : World} {b n : Nat} {l : List (ByteArray × Int)} (h : Prs w b n l) (hb : w'.heap[b]? = w.heap[b]?) : Prs w' b n l := by
  obtain ⟨D, ⟨es, clock, hb0, r⟩, h2, h3⟩ := h
  exact ⟨D, ⟨es, clock, hb.trans hb0, r⟩, h2, h3⟩
set_option maxRecDepth 100000 in
theorem Prs.lookup {w : World} {b n : Nat} {l : List (ByteArray × Int)} (h : Prs w b n l) (s : ByteArray) (hs : s.size ≤ maxLen) :
    (Instr.lookup 86 (.map (some b)) (.string s) true).run Tryd.prog w = .ok (.tuple #[.int .i64 ((lstE l s.data.toList).getD 0), .bool (lstE l s.data.toList).isSome]) w := by
  obtain ⟨D, h1, h2, h3⟩ := h
  obtain ⟨v, ps, hrun, hv⟩ := h1.look_ok law9 Tryd.underlying86 (zero_i w) (plainElem_int Tryd.underlying3 (by decide)) (keyOf_string_mk Tryd.underlying9 hs)
  obtain ⟨e1, e2⟩ := h3 s.data.toList
  rw [e1] at hv
  rw [e2] at hrun
  rw [hrun]
  obtain ⟨c, rfl, hc, hwc⟩ := plainElem_int_inv Tryd.underlying3 hv
  simp only [Prod.mk.injEq, DataW.lit.injEq, Lit.int.injEq, true_and] at hc
  rw [hc.1]
set_option maxRecDepth 100000 in
theorem Prs.update {w : World} {b n : Nat} {l : List (ByteArray × Int)} (h : Prs w b n l) (s : ByteArray) (c : Int) (hs : s.size ≤ maxLen) (hc : 0 ≤ c ∧ c ≤ 65535) (hn : n < maxLen) :
    ∃ w', (Instr.mapUpdate 86 (.map (some b)) (.string s) (.int .i64 c)).run Tryd.prog w = .ok () w' ∧ Prs w' b (n + 1) (l ++ [(s, c)]) ∧ w.grownBy w' (some b) := by
  obtain ⟨D, h1, h2, h3⟩ := h
  have hw : (Lit.int .i64 c).wf = true := by
    simp [Lit.wf, IntKind.min, IntKind.max, IntKind.bits, IntKind.signed]; omega
  obtain ⟨w', hrun, hown, hg⟩ := h1.update law9 Tryd.underlying86 hn (keyOf_string_mk Tryd.underlying9 hs) (plainElem_int Tryd.underlying3 hw)
  refine ⟨w', hrun, ⟨_, hown, h2.put _ _, fun x => ?_⟩, hg⟩
  rw [lstE_snoc]
  by_cases e : s.data.toList = x
  · subst e
    rw [atKey_put_same h2 (law9.key (keyOf_string_mk Tryd.underlying9 hs)), has_put_same h2 (law9.key (keyOf_string_mk Tryd.underlying9 hs)), if_pos rfl]
    exact ⟨rfl, rfl⟩
  · rw [atKey_put_other (by simpa using fun h => e h.symm), has_put_other (by simpa using fun h => e h.symm), if_neg e]
    exact h3 x
theorem wp_lookup_prs (w : World) {ops : Array Oper} {rest : List Oper} {o : Oper} {a : Act} {Q : Exit → Act → World → Prop} (hg : o.guard = none) (m x : Operand) (hop : o.op = Op.lookup 86 m x true)
    (b n : Nat) (l : List (ByteArray × Int)) (hm : a.eval m = .map (some b)) (h : Prs w b n l) (s : ByteArray) (hs : s.size ≤ maxLen) (hx : a.eval x = .string s) (c : Int) (ok : Bool) (hr : Hid ((lstE l s.data.toList).getD 0 = c ∧ (lstE l s.data.toList).isSome = ok))
    (hK : wpList Tryd.prog ops Q rest (a.put o.dst (.tuple #[.int .i64 c, .bool ok])) w) : wpList Tryd.prog ops Q (o :: rest) a w := by
  refine wpList_plain hg fun K' hK' => ?_
  have hrun := h.lookup s hs
  rw [hr.out.1, hr.out.2] at hrun
  unfold Oper.wp
  simp [execOp, hop, hm, hx, hrun, Result.andThen]
  exact hK' _ _ hK
theorem wp_update_prs (w : World) {ops : Array Oper} {rest : List Oper} {o : Oper} {a : Act} {Q : Exit → Act → World → Prop} (hg : o.guard = none) (m x v : Operand) (hop : o.op = Op.mapUpdate 86 m x v)
    (b n : Nat) (l : List (ByteArray × Int)) (hm : a.eval m = .map (some b)) (h : Prs w b n l) (s : ByteArray) (c : Int) (hs : s.size ≤ maxLen) (hx : a.eval x = .string s) (hv : a.eval v = .int .i64 c) (hc : 0 ≤ c ∧ c ≤ 65535) (hn : n < maxLen)
    (hK : ∀ w', Hid (Prs w' b (n + 1) (l ++ [(s, c)])) → Hid (w.grownBy w' (some b)) → wpList Tryd.prog ops Q rest (a.put o.dst undef) w') : wpList Tryd.prog ops Q (o :: rest) a w := by
  refine wpList_plain hg fun K' hK' => ?_
  obtain ⟨w', hrun, h1, h2⟩ := h.update s c hs hc hn
  unfold Oper.wp
  simp [execOp, hop, hm, hx, hv, hrun, Result.andThen]
  exact hK' _ _ (hK w' (Lib.hid h1) (Lib.hid h2))
/-- a variable of the call's own at block B holds a list of numbers of the call's own -/
structure OutC (w0 w : World) (B : Nat) (v : Value) (L : List Int) : Prop where
  blk : w.heap[B]? = some (.cells #[v] 26 (0, 0))
  row : IRow w (B + 1) v L
  bel : Below B w0 w
/-- what an append to this variable leaves as it was -/
structure Turn (w w' : World) (B : Nat) (v v' : Value) : Prop where
  size : w.heap.size ≤ w'.heap.size
  same : ∀ j, j < w.heap.size → j ≠ B → v.ownBlock ≠ some j → w'.heap[j]? = w.heap[j]?
  own : v'.ownBlock = v.ownBlock ∨ ∃ j, w.heap.size ≤ j ∧ v'.ownBlock = some j
theorem one_cell {w : World} {b : Nat} {x : Value} {T : TypeId} (h : w.heap[b]? = some (.cells #[x] T (0, 0))) : w.cell? ⟨b, 0, none⟩ = some x ∧ w.frozen? ⟨b, 0, none⟩ = false := by
  constructor
  · simp [World.cell?, h]
  · simp [World.frozen?, h]
theorem one_set {w : World} {b : Nat} {x y : Value} {T : TypeId} (h : w.heap[b]? = some (.cells #[x] T (0, 0))) : (w.setCell ⟨b, 0, none⟩ y).heap[b]? = some (.cells #[y] T (0, 0)) := by
  simp only [World.setCell, Array.getElem?_modify, h, if_pos, Option.map_some]
  rfl
theorem OutC.lt {w0 w : World} {B : Nat} {v : Value} {L : List Int} (h : OutC w0 w B v L) : B < w.heap.size := (Array.getElem?_eq_some_iff.1 h.blk).1
theorem OutC.put {w0 w w1 : World} {B : Nat} {v : Value} {L L' : List Int} {v1 : Value} (h : OutC w0 w B v L) (hr : IRow w1 (B + 1) v1 L') (hg : w.grownBy w1 v.ownBlock) (ho : v1.ownBlock = v.ownBlock ∨ v1.ownBlock = some (w.heap.size + 1)) :
    OutC w0 (w1.setCell ⟨B, 0, none⟩ v1) B v1 L' ∧ Turn w (w1.setCell ⟨B, 0, none⟩ v1) B v v1 := by
  have hlt := h.lt
  have hv : ∀ j, v.ownBlock = some j → B + 1 ≤ j := fun j hj => (h.row.lt j hj).1
  have b1 : w1.heap[B]? = some (.cells #[v] 26 (0, 0)) := by
    rw [hg.block B hlt (fun e => by have := hv B e.symm; omega)]; exact h.blk
  refine ⟨⟨one_set b1, row_set hr (by omega), below_set (h.bel.grown hg (by omega) (fun j hj => by have := hv j hj; omega)) (Nat.le_refl _)⟩, ?_, ?_, ?_⟩
  · rw [World.size_setCell]; exact hg.size
  · intro j hj hne hnv
    rw [Below.heap_setCell w1 ⟨B, 0, none⟩ v1 j hne]
    exact hg.block j hj (fun e => hnv e.symm)
  · rcases ho with e | e
    · exact .inl e
    · exact .inr ⟨_, by omega, e⟩
set_option maxHeartbeats 4000000 in
theorem gather_any (w0 w : World) (B : Nat) (v : Value) (L : List Int) (x : ByteArray) (c : Int) (h : OutC w0 w B v L) (hl : L.length + 1 ≤ 1048577) :
    Calls Tryd.prog 47 #[.string x, .int .i64 c, .pointer (some ⟨B, 0, none⟩)] w fun e w' => ∃ v', e = .returned (.bool true) ∧ Hid (OutC w0 w' B v' (L ++ [c])) ∧ Hid (Turn w w' B v v') := by
  obtain ⟨c1, c2⟩ := one_cell h.blk
  have HO := Lib.hid h
  have HL := Lib.hid hl
  have hlt := h.lt
  have HB : Hid (B + 1 ≤ w.heap.size) := Lib.hid hlt
  clear h hl
  go_enter Tryd.func47, Tryd.ntmps47
  go_wp2_with (at_builtin; refine append_int rfl _ _ rfl v L c (B + 1) w _ HO.out.row (Below.refl _ _) HB.out HL.out rfl rfl ?_; intro g cap w1 own1 bel1 gr1 at1; obtain ⟨c3, c4⟩ := one_cell ((gr1.out.block B hlt (fun e => by have := (HO.out.row.lt B e.symm).1; omega)).trans HO.out.blk))
  go_ret
  exact ⟨_, rfl, Lib.hid (HO.out.put own1.out gr1.out at1.out).1, Lib.hid (HO.out.put own1.out gr1.out at1.out).2⟩
end Go.Proofs.YtbhdhcnbagjmcaaDoor
