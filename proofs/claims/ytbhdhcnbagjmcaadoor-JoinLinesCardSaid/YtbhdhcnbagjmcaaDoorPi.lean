/- the cache of the joiner: a map from lines to the lists of their fields -/
import Derived.Test.YtbhdhcnbagjmcaaDoorPh
namespace Go.Proofs.YtbhdhcnbagjmcaaDoor
open Go.RowKit Go.Maps Go.WideMaps
open Jn Lcl
/-- a list's value, as it stands -/
def tok (v : Value) : Option (DataW Value × List MemPlace) := some (.held v, [])
theorem zero_sl (w : World) : (zeroValue 22).run Tryd.prog w = .ok (.slice none 0 0) w := by kernel_rfl
theorem strs_kept {w w' : World} {v : Value} {L : List ByteArray} (h : Strs w v L) (hb : ∀ g, v.ownBlock = some g → w'.heap[g]? = w.heap[g]?) (hs : w.heap.size ≤ w'.heap.size) : Strs w' v L := by
  obtain ⟨a, cap, rfl, h1, h2, h3⟩ := h
  refine ⟨a, cap, rfl, h1, h2, ?_⟩
  rcases h3 with h3 | ⟨g, o, rfl, hg, hc⟩
  · exact .inl h3
  · refine .inr ⟨g, o, rfl, Nat.lt_of_lt_of_le hg hs, fun j x hj => ?_⟩
    have := hc j x hj
    simp only [World.cell?, hb g rfl] at this ⊢
    exact this
/-- block b is a map of the call's own that holds the fields of lines; the lists lie in blocks from B on, none of them in block X -/
def Cache (w : World) (b n B : Nat) (X : Option Nat) (sep : Int) : Prop :=
  ∃ D : DataW Value, w.ownsMap Tryd.prog 9 tok b n D ∧ IsMap D ∧ ∀ x : List UInt8, Go.Maps.has D (.string x) = true → ∃ v, D.atKey (.string x) (.held (.slice none 0 0)) = .held v ∧ LSt w v (fieldsL sep x) ∧ ∀ g, v.ownBlock = some g → B ≤ g ∧ g < w.heap.size ∧ X ≠ some g
theorem Cache.made (w : World) (B : Nat) (X : Option Nat) (sep : Int) : Cache (w.alloc (.map #[] 0)) w.heap.size 0 B X sep :=
  ⟨.map [], World.ownsMap_made _ _ _ _, isMap_empty, fun x h => by cases h⟩
theorem Cache.lt {w : World} {b n B : Nat} {X : Option Nat} {sep : Int} (h : Cache w b n B X sep) : b < w.heap.size := by
  obtain ⟨D, h1, -⟩ := h; exact h1.lt
/-- what keeps the map's block and the lists' blocks keeps the cache -/
theorem Cache.kept {w w' : World} {b n B : Nat} {X X' : Option Nat} {sep : Int} (h : Cache w b n B X sep) (hm : w'.heap[b]? = w.heap[b]?) (hs : w.heap.size ≤ w'.heap.size)
    (hb : ∀ g, B ≤ g → g < w.heap.size → X ≠ some g → w'.heap[g]? = w.heap[g]?) (hX : X' = X ∨ ∀ g, X' = some g → w.heap.size ≤ g) : Cache w' b n B X' sep := by
  obtain ⟨D, ⟨es, clock, hb0, r⟩, h2, h3⟩ := h
  refine ⟨D, ⟨es, clock, hm.trans hb0, r⟩, h2, fun x hx => ?_⟩
  obtain ⟨v, e1, e2, e3⟩ := h3 x hx
  refine ⟨v, e1, strs_kept e2 (fun g hg => hb g (e3 g hg).1 (e3 g hg).2.1 (e3 g hg).2.2) hs, fun g hg => ⟨(e3 g hg).1, Nat.lt_of_lt_of_le (e3 g hg).2.1 hs, ?_⟩⟩
  rcases hX with rfl | hX
  · exact (e3 g hg).2.2
  · intro e; have := hX g e; have := (e3 g hg).2.1; omega
theorem Cache.below {w w' : World} {b n B : Nat} {X : Option Nat} {sep : Int} (h : Cache w b n B X sep) (hb : Below w.heap.size w w') : Cache w' b n B X sep :=
  h.kept (hb.block _ h.lt) hb.size (fun g _ hg _ => hb.block g hg) (.inl rfl)
theorem Cache.mono_n {w : World} {b n B : Nat} {X : Option Nat} {sep : Int} (h : Cache w b n B X sep) : Cache w b (n + 1) B X sep := by
  obtain ⟨D, h1, h2⟩ := h; exact ⟨D, h1.mono (Nat.le_succ n), h2⟩
set_option maxRecDepth 100000 in
theorem Cache.lookup {w : World} {b n B : Nat} {X : Option Nat} {sep : Int} (h : Cache w b n B X sep) (s : ByteArray) (hs : s.size ≤ maxLen) :
    ∃ v ok, (Instr.lookup 62 (.map (some b)) (.string s) true).run Tryd.prog w = .ok (.tuple #[v, .bool ok]) w ∧ (ok = true → LSt w v (fieldsL sep s.data.toList) ∧ ∀ g, v.ownBlock = some g → B ≤ g ∧ g < w.heap.size ∧ X ≠ some g) := by
  obtain ⟨D, h1, h2, h3⟩ := h
  obtain ⟨v, ps, hrun, hv⟩ := h1.look_ok law9 Tryd.underlying62 (zero_sl w) (show tok (.slice none 0 0) = some (.held (.slice none 0 0), []) from rfl) (keyOf_string_mk Tryd.underlying9 hs)
  refine ⟨v, _, hrun, fun hok => ?_⟩
  obtain ⟨v', e1, e2, e3⟩ := h3 s.data.toList hok
  rw [e1] at hv
  have e : v = v' := by
    simp only [tok, Option.some.injEq, Prod.mk.injEq, DataW.held.injEq] at hv
    exact hv.1
  subst e
  exact ⟨e2, e3⟩
set_option maxRecDepth 100000 in
theorem Cache.update {w : World} {b n B : Nat} {X : Option Nat} {sep : Int} (h : Cache w b n B X sep) (s : ByteArray) (v : Value) (hs : s.size ≤ maxLen) (hn : n < maxLen) (hbB : b < B) (hv : LSt w v (fieldsL sep s.data.toList)) (hg : ∀ g, v.ownBlock = some g → B ≤ g ∧ g < w.heap.size ∧ X ≠ some g) :
    ∃ w', (Instr.mapUpdate 62 (.map (some b)) (.string s) v).run Tryd.prog w = .ok () w' ∧ Cache w' b (n + 1) B X sep ∧ w.grownBy w' (some b) := by
  obtain ⟨D, h1, h2, h3⟩ := h
  obtain ⟨w', hrun, hown, hgr⟩ := h1.update law9 Tryd.underlying62 hn (keyOf_string_mk Tryd.underlying9 hs) (show tok v = some (.held v, []) from rfl)
  have K : ∀ (v : Value) (L : List (List UInt8)), LSt w v L → (∀ g, v.ownBlock = some g → B ≤ g ∧ g < w.heap.size ∧ X ≠ some g) → LSt w' v L := fun v L h1 h2 =>
    strs_kept h1 (fun g hg => hgr.block g (h2 g hg).2.1 (fun e => by cases e; have := (h2 _ hg).1; omega)) hgr.size
  have K2 : ∀ (v : Value), (∀ g, v.ownBlock = some g → B ≤ g ∧ g < w.heap.size ∧ X ≠ some g) → ∀ g, v.ownBlock = some g → B ≤ g ∧ g < w'.heap.size ∧ X ≠ some g := fun v h g hg => ⟨(h g hg).1, Nat.lt_of_lt_of_le (h g hg).2.1 hgr.size, (h g hg).2.2⟩
  refine ⟨w', hrun, ⟨_, hown, h2.put _ _, fun x hx => ?_⟩, hgr⟩
  by_cases e : s.data.toList = x
  · subst e
    rw [atKey_put_same h2 (law9.key (keyOf_string_mk Tryd.underlying9 hs))]
    exact ⟨v, rfl, K v _ hv hg, K2 v hg⟩
  · rw [atKey_put_other (by simpa using fun h => e h.symm)]
    rw [has_put_other (by simpa using fun h => e h.symm)] at hx
    obtain ⟨v', e1, e2, e3⟩ := h3 x hx
    exact ⟨v', e1, K v' _ e2 e3, K2 v' e3⟩
theorem wp_lookup_cache (w : World) {ops : Array Oper} {rest : List Oper} {o : Oper} {a : Act} {Q : Exit → Act → World → Prop} (hg : o.guard = none) (m x : Operand) (hop : o.op = Op.lookup 62 m x true)
    (b n B : Nat) (X : Option Nat) (sep : Int) (hm : a.eval m = .map (some b)) (_h : Cache w b n B X sep) (s : ByteArray) (_hs : s.size ≤ maxLen) (hx : a.eval x = .string s) (v : Value) (ok : Bool)
    (hr : (Instr.lookup 62 (.map (some b)) (.string s) true).run Tryd.prog w = .ok (.tuple #[v, .bool ok]) w)
    (hK : wpList Tryd.prog ops Q rest (a.put o.dst (.tuple #[v, .bool ok])) w) : wpList Tryd.prog ops Q (o :: rest) a w := by
  refine wpList_plain hg fun K' hK' => ?_
  unfold Oper.wp
  simp [execOp, hop, hm, hx, hr, Result.andThen]
  exact hK' _ _ hK
theorem wp_update_cache (w : World) {ops : Array Oper} {rest : List Oper} {o : Oper} {a : Act} {Q : Exit → Act → World → Prop} (hg : o.guard = none) (m x y : Operand) (hop : o.op = Op.mapUpdate 62 m x y)
    (b n B : Nat) (X : Option Nat) (sep : Int) (hm : a.eval m = .map (some b)) (h : Cache w b n B X sep) (s : ByteArray) (v : Value) (hs : s.size ≤ maxLen) (hx : a.eval x = .string s) (hy : a.eval y = v) (hn : n < maxLen) (hbB : b < B) (hv : LSt w v (fieldsL sep s.data.toList)) (hw : ∀ g, v.ownBlock = some g → B ≤ g ∧ g < w.heap.size ∧ X ≠ some g)
    (hK : ∀ w', Hid (Cache w' b (n + 1) B X sep) → Hid (w.grownBy w' (some b)) → wpList Tryd.prog ops Q rest (a.put o.dst undef) w') : wpList Tryd.prog ops Q (o :: rest) a w := by
  refine wpList_plain hg fun K' hK' => ?_
  obtain ⟨w', hrun, h1, h2⟩ := h.update s v hs hn hbB hv hw
  unfold Oper.wp
  simp [execOp, hop, hm, hx, hy, hrun, Result.andThen]
  exact hK' _ _ (hK w' (Lib.hid h1) (Lib.hid h2))
end Go.Proofs.YtbhdhcnbagjmcaaDoor
