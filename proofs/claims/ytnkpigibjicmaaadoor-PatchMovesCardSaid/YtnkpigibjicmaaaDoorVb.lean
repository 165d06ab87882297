/- rows of structs in memory, rows of the call's own, appends to them -/
import Derived.Test.YtnkpigibjicmaaaDoorStrs
import Derived.Test.YtnkpigibjicmaaaDoorVplain
import Derived.Deep.AppendLies
import Derived.Deep.DeepAppendWide
import Derived.Laws.AppendOwnNone
import Derived.Deep.RegionLaw
import Derived.OwnWalk
namespace Go.Proofs.YtnkpigibjicmaaaDoor
open Go.RowKit Go.Maps
open Pt
theorem kp {w w' : World} (h : Below w.heap.size w w') {b i : Nat} {v : Value} (hc : w.cell? ⟨b, i, none⟩ = some v) : w'.cell? ⟨b, i, none⟩ = some v := by
  refine (h.cell (p := ⟨b, i, none⟩) ?_).trans hc
  refine Decidable.byContradiction fun hn => ?_
  simp [World.cell?, Array.getElem?_eq_none (Nat.le_of_not_lt hn)] at hc
theorem blk_cellx {w : World} {b : Nat} {cs : Array Value} {T : TypeId} (h : w.heap[b]? = some (.cells cs T (0, 0))) (i : Nat) (x : Value) (hx : cs[i]? = some x) : w.cell? ⟨b, i, none⟩ = some x := by
  simp [World.cell?, h, hx]
theorem drop_get {α : Type} {l : List α} {i : Nat} {x : α} (h : l[i]? = some x) : l.drop i = x :: l.drop (i + 1) := by
  obtain ⟨hi, rfl⟩ := List.getElem?_eq_some_iff.1 h
  exact List.drop_eq_getElem_cons hi
theorem take_get {α : Type} {l : List α} {i : Nat} {x : α} (h : l[i]? = some x) : l.take (i + 1) = l.take i ++ [x] := by
  rw [List.take_add_one, h]; rfl
/-- a list of rows of k cells each that lies in memory behind a slice -/
def RowsAt (w : World) (v : Value) (k : Nat) (l : List (List Value)) : Prop :=
  (l = [] ∧ ∃ a, v = .slice a 0 0) ∨ ∃ g o cap, v = .slice (some ⟨g, o, none⟩) l.length cap ∧ l.length ≤ cap ∧ cap ≤ maxLen ∧ g < w.heap.size ∧ ∀ (j : Nat) x, l[j]? = some x → ∀ (i : Nat) y, x[i]? = some y → w.cell? ⟨g, o + j * k + i, none⟩ = some y
theorem RowsAt.nil (w : World) (k : Nat) : RowsAt w (.slice none 0 0) k [] := .inl ⟨rfl, _, rfl⟩
theorem RowsAt.below {w w' : World} {v : Value} {k : Nat} {l : List (List Value)} (h : RowsAt w v k l) (hb : Below w.heap.size w w') : RowsAt w' v k l := by
  rcases h with h | ⟨g, o, cap, rfl, h1, h2, hg, hc⟩
  · exact .inl h
  · exact .inr ⟨g, o, cap, rfl, h1, h2, Nat.lt_of_lt_of_le hg hb.size, fun j x hj i y hi => (hb.cell (p := ⟨g, o + j * k + i, none⟩) hg).trans (hc j x hj i y hi)⟩
theorem RowsAt.len {w : World} {v : Value} {k : Nat} {l : List (List Value)} (h : RowsAt w v k l) : l.length ≤ maxLen := by
  rcases h with ⟨rfl, -⟩ | ⟨g, o, cap, rfl, h1, h2, _⟩
  · exact Nat.zero_le _
  · omega
/-- the value is a slice: its address, its capacity -/
theorem RowsAt.sl {w : World} {v : Value} {k n : Nat} {l : List (List Value)} (h : RowsAt w v k l) (hn : l.length = n) : ∃ a cap, v = .slice a n cap ∧ n ≤ cap ∧ cap ≤ maxLen ∧ (n = 0 ∨ ∃ g o, a = some ⟨g, o, none⟩ ∧ g < w.heap.size ∧ ∀ (j : Nat) x, l[j]? = some x → ∀ (i : Nat) y, x[i]? = some y → w.cell? ⟨g, o + j * k + i, none⟩ = some y) := by
  subst hn
  rcases h with ⟨rfl, a, rfl⟩ | ⟨g, o, cap, rfl, h1, h2, hg, hc⟩
  · exact ⟨_, _, rfl, Nat.le_refl _, Nat.zero_le _, .inl rfl⟩
  · exact ⟨_, _, rfl, h1, h2, .inr ⟨g, o, rfl, hg, hc⟩⟩
/-- one element's cells -/
theorem RowsAt.at {w : World} {v : Value} {k n j : Nat} {l : List (List Value)} {x : List Value} {a : Option Addr} {cap : Nat} (h : RowsAt w v k l) (hv : v = .slice a n cap) (hx : l[j]? = some x) : ∃ g o, a = some ⟨g, o, none⟩ ∧ n = l.length ∧ n ≤ cap ∧ cap ≤ maxLen ∧ ∀ (i : Nat) y, x[i]? = some y → w.cell? ⟨g, o + j * k + i, none⟩ = some y := by
  rcases h with ⟨rfl, -⟩ | ⟨g, o, cap2, e, h1, h2, hg, hc⟩
  · simp at hx
  · rw [e] at hv
    cases hv
    exact ⟨g, o, rfl, rfl, h1, h2, hc j x hx⟩
/-- facts of a type of slices of structs -/
structure RT (ts T : TypeId) (z : Value) (k bytes : Nat) : Prop where
  und : Tryd.prog.underlying ts = some (.slice T)
  inf : (Tryd.prog.info? T).map (fun i => (i.zero, i.size, i.bytes)) = some (some z, k, bytes)
  zk : z.cells.size = k
  pos : 0 < k
  by_ : bytes ≤ 1024
/-- rows of the call's own -/
abbrev OwnR (w : World) (B : Nat) (T : TypeId) (k : Nat) (v : Value) (l : List (List Value)) : Prop := w.ownsRow B T k v l.length l.flatten
theorem OwnR.nil (w : World) (B : Nat) (T : TypeId) (k : Nat) : OwnR w B T k (.slice none 0 0) [] := ⟨by simp, .inl ⟨rfl, rfl⟩⟩
theorem OwnR.below {w w' : World} {B k : Nat} {T : TypeId} {v : Value} {l : List (List Value)} (h : OwnR w B T k v l) (hb : Below w.heap.size w w') : OwnR w' B T k v l := by
  obtain ⟨h1, h2⟩ := h
  refine ⟨h1, ?_⟩
  rcases h2 with h2 | ⟨g, cap, cur, rfl, hB, hg, r⟩
  · exact .inl h2
  · exact .inr ⟨g, cap, cur, rfl, hB, by rw [hb.block g (Array.getElem?_eq_some_iff.1 hg).1]; exact hg, r⟩
theorem OwnR.mono {w : World} {B B' k : Nat} {T : TypeId} {v : Value} {l : List (List Value)} (h : OwnR w B T k v l) (hB : B' ≤ B) : OwnR w B' T k v l := by
  obtain ⟨h1, h2⟩ := h
  refine ⟨h1, ?_⟩
  rcases h2 with h2 | ⟨g, cap, cur, rfl, hg, r⟩
  · exact .inl h2
  · exact .inr ⟨g, cap, cur, rfl, by omega, r⟩
theorem flat_len {k : Nat} : ∀ {l : List (List Value)}, (∀ x ∈ l, x.length = k) → l.flatten.length = l.length * k
  | [], _ => by simp
  | x :: r, h => by
    rw [List.flatten_cons, List.length_append, h x (by simp), flat_len (fun y hy => h y (by simp [hy])), List.length_cons, Nat.add_mul, Nat.one_mul, Nat.add_comm]
theorem flat_at {k : Nat} : ∀ {l : List (List Value)} (j : Nat) {x : List Value} {i : Nat} {y : Value}, (∀ x ∈ l, x.length = k) → l[j]? = some x → x[i]? = some y → l.flatten[j * k + i]? = some y
  | [], _, _, _, _, _, hj, _ => by simp at hj
  | x :: r, 0, _, i, y, h, hj, hi => by
    simp at hj; subst hj
    have : i < x.length := (List.getElem?_eq_some_iff.1 hi).1
    rw [List.flatten_cons, Nat.zero_mul, Nat.zero_add, List.getElem?_append_left this]; exact hi
  | x :: r, j + 1, _, i, y, h, hj, hi => by
    rw [List.getElem?_cons_succ] at hj
    have hx := h x (by simp)
    rw [List.flatten_cons, List.getElem?_append_right (by rw [hx, Nat.add_mul]; omega), hx, show (j + 1) * k + i - k = j * k + i by rw [Nat.add_mul]; omega]
    exact flat_at j (fun z hz => h z (by simp [hz])) hj hi
theorem OwnR.rows {w : World} {B k : Nat} {T : TypeId} {v : Value} {l : List (List Value)} (h : OwnR w B T k v l) (hk : ∀ x ∈ l, x.length = k) : RowsAt w v k l := by
  rcases h.2 with ⟨rfl, hx⟩ | ⟨g, cap, cur, rfl, hb, hg, hn, hc, hs, ht⟩
  · exact .inl ⟨List.eq_nil_of_length_eq_zero hx, _, rfl⟩
  · refine .inr ⟨g, 0, cap, rfl, hn, hc, (Array.getElem?_eq_some_iff.1 hg).1, fun j x hj i y hi => ?_⟩
    have := h.cells (g := g) rfl (j * k + i) y (flat_at j hk hj hi)
    rw [Go.WideShapes.add_plain] at this
    rw [Nat.zero_add]
    rw [Nat.zero_add] at this
    exact this
theorem OwnR.sl {w : World} {B k : Nat} {T : TypeId} {v : Value} {l : List (List Value)} (h : OwnR w B T k v l) : ∃ a c, v = .slice a l.length c := by
  rcases h.2 with ⟨rfl, hx⟩ | ⟨g, cap, cur, rfl, r⟩
  · rw [hx]; exact ⟨_, _, rfl⟩
  · exact ⟨_, _, rfl⟩
/-- append of a list of rows -/
theorem append_rows {ts T : TypeId} {z : Value} {k bytes : Nat} (rt : RT ts T z k bytes) {ops : Array Oper} {rest : List Oper} {o : Oper} {a : Act} {Q : Exit → Act → World → Prop} (hgd : o.guard = none) (s x : Operand)
    (ho : o.op = .call { callee := .builtin .append, args := #[s, x], argTypes := #[ts, ts] }) (v v2 : Value) (l l2 : List (List Value)) (B : Nat) (w wr : World)
    (own : OwnR wr B T k v l) (h2 : RowsAt wr v2 k l2) (hk : ∀ x ∈ l2, x.length = k) (h1 : ∀ x ∈ l2, ∀ u ∈ x, u.oneCell' = true) (bel : Below B w wr) (hB : B ≤ wr.heap.size) (len : l.length + l2.length ≤ 1048577) (hs : a.eval s = v) (hx : a.eval x = v2)
    (h : ∀ v' w', Hid (OwnR w' B T k v' (l ++ l2)) → Hid (Below B w w') → wpList Tryd.prog ops Q rest (a.put o.dst v') w') : wpList Tryd.prog ops Q (o :: rest) a wr := by
  obtain ⟨i0, hi, hz0, hz1, hz2⟩ := info_parts rt.inf
  have hby := rt.by_
  rcases h2 with ⟨rfl, (_ | ad), rfl⟩ | ⟨g, o2, cap, rfl, c1, c2, hg, hc⟩
  rotate_left
  · refine wpList_append_own_wide _ hgd s x ts ho B T i0 z k bytes rt.und hi hz0 hz1 hz2 rt.zk rt.pos v l.length l.flatten hs own ad 0 0 [] hx (by simp) (fun j u hj => by simp at hj) (fun u hu => by simp at hu) (by unfold maxLen; omega) ?_ hB ?_
    · have e : ((l.length + 0) + (l.length + 0) / 4 + 192) ≤ 1400000 := by omega
      exact Nat.le_trans (Nat.mul_le_mul e hby) (by decide)
    · intro v' w' q1 q2 _
      refine h v' w' (Lib.hid ?_) (Lib.hid (bel.grown q2 hB (fun k hk => (own.lt k hk).1)))
      rw [List.append_nil] at q1 ⊢
      exact q1
  rotate_left
  · refine wpList_append_own_none hgd s x ts ho B T i0 k rt.und hi v l.length l.flatten hs own hx ?_
    exact h v wr (Lib.hid (by rw [List.append_nil]; exact own)) (Lib.hid bel)
  · refine wpList_append_own_wide _ hgd s x ts ho B T i0 z k bytes rt.und hi hz0 hz1 hz2 rt.zk rt.pos v l.length l.flatten hs own ⟨g, o2, none⟩ l2.length cap l2.flatten hx (flat_len hk) ?_ ?_ ?_ ?_ hB ?_
    · intro j u hj
      rw [Go.WideShapes.add_plain]
      have hkp := rt.pos
      have hjl : j < l2.length * k := by rw [← flat_len hk]; exact (List.getElem?_eq_some_iff.1 hj).1
      have hd : j / k < l2.length := Nat.div_lt_of_lt_mul (by rw [Nat.mul_comm]; exact hjl)
      obtain ⟨xx, hxx⟩ : ∃ xx, l2[j / k]? = some xx := ⟨_, List.getElem?_eq_getElem hd⟩
      have hm : j % k < xx.length := by rw [hk xx (List.mem_of_getElem? hxx)]; exact Nat.mod_lt _ hkp
      obtain ⟨y, hy⟩ : ∃ y, xx[j % k]? = some y := ⟨_, List.getElem?_eq_getElem hm⟩
      have e := flat_at (j / k) hk hxx hy
      have ej : j / k * k + j % k = j := by rw [Nat.mul_comm]; exact Nat.div_add_mod j k
      rw [ej, hj] at e
      have := hc (j / k) xx hxx (j % k) y hy
      rw [Nat.add_assoc, ej] at this
      rw [this, Option.some.inj e]
    · intro u hu
      obtain ⟨xx, hxx, hu⟩ := List.mem_flatten.1 hu
      exact h1 xx hxx u hu
    · unfold maxLen; omega
    · have e : ((l.length + l2.length) + (l.length + l2.length) / 4 + 192) ≤ 1400000 := by omega
      exact Nat.le_trans (Nat.mul_le_mul e hby) (by decide)
    · intro v' w' q1 q2 _
      refine h v' w' (Lib.hid ?_) (Lib.hid (bel.grown q2 hB (fun k hk => (own.lt k hk).1)))
      show w'.ownsRow B T k v' (l ++ l2).length (l ++ l2).flatten
      rw [List.length_append, List.flatten_append]; exact q1
/-- append of one row, just laid -/
theorem append_row {ts T : TypeId} {z : Value} {k bytes : Nat} (rt : RT ts T z k bytes) {ops : Array Oper} {rest : List Oper} {o : Oper} {a : Act} {Q : Exit → Act → World → Prop} (hgd : o.guard = none) (s x : Operand)
    (ho : o.op = .call { callee := .builtin .append, args := #[s, x], argTypes := #[ts, ts] }) (v : Value) (l : List (List Value)) (row : Array Value) (B : Nat) (w wr : World)
    (own : OwnR wr B T k v l) (hk : row.size = k) (h1 : ∀ u ∈ row.toList, u.oneCell' = true) (bel : Below B w wr) (hB : B ≤ wr.heap.size) (len : l.length ≤ 1048576) (hs : a.eval s = v) (hx : a.eval x = .slice (some ⟨wr.heap.size, 0, none⟩) 1 1)
    (h : ∀ v' w', Hid (OwnR w' B T k v' (l ++ [row.toList])) → Hid (Below B w w') → wpList Tryd.prog ops Q rest (a.put o.dst v') w') : wpList Tryd.prog ops Q (o :: rest) a (wr.alloc (.cells row T)) := by
  refine append_rows rt hgd s x ho v _ l [row.toList] B w (wr.alloc (.cells row T)) (own.alloc _) (.inr ⟨wr.heap.size, 0, 1, rfl, Nat.le_refl _, by unfold maxLen; omega, by rw [World.size_alloc]; omega, ?_⟩) ?_ ?_ (bel.alloc hB _) (by rw [World.size_alloc]; omega) (by simp; omega) hs hx h
  · intro j y hj i u hi
    match j, hj with
    | 0, hj =>
      simp at hj; subst hj
      rw [Nat.zero_mul, Nat.zero_add]
      exact blk_cellx (heap_alloc_new wr (.cells row T)) i u (by simpa using hi)
  · intro y hy; simp at hy; subst hy; simpa using hk
  · intro y hy; simp at hy; subst hy; exact h1
/-- append of one row, just laid, in a region that draws its order -/
theorem step_row {ts T : TypeId} {z : Value} {k bytes : Nat} (rt : RT ts T z k bytes) {ops : Array Oper} {o : Oper} {a : Act} {K : Act → World → Prop} {Q : Exit → Act → World → Prop} {E : Prop} (hgd : o.guard = none) (s x : Operand)
    (ho : o.op = .call { callee := .builtin .append, args := #[s, x], argTypes := #[ts, ts] }) (v : Value) (l : List (List Value)) (m : Nat) (hm : l.length = m) (row : Array Value) (B : Nat) (w wr : World)
    (own : OwnR wr B T k v l) (hk : row.size = k) (h1 : ∀ u ∈ row.toList, u.oneCell' = true) (bel : Below B w wr) (hB : B ≤ wr.heap.size) (len : l.length ≤ 1048576) (hs : a.eval s = v) (hx : a.eval x = .slice (some ⟨wr.heap.size, 0, none⟩) 1 1)
    (h : ∀ g c w', Hid (OwnR w' B T k (.slice (some ⟨g, 0, none⟩) (m + 1) c) (l ++ [row.toList])) → Hid (Below B w w') → K (a.put o.dst (.slice (some ⟨g, 0, none⟩) (m + 1) c)) w') :
    if Region.wanted o (yielded ops a.tmps) = true then Oper.wp Tryd.prog o a (wr.alloc (.cells row T)) K Q else E := by
  subst hm
  obtain ⟨i0, hi, hz0, hz1, hz2⟩ := info_parts rt.inf
  have hby := rt.by_
  refine step_append_lies _ hgd s x ts ho B T i0 z k bytes rt.und hi hz0 hz1 hz2 rt.zk rt.pos v l.length l.flatten hs (own.alloc _) ⟨wr.heap.size, 0, none⟩ 1 1 row.toList hx ?_ ?_ h1 (by omega) ?_ ?_ ?_ _ rfl ?_
  · simpa using hk
  · intro j u hj
    rw [Go.WideShapes.add_plain, Nat.zero_add]
    exact blk_cellx (heap_alloc_new wr (.cells row T)) j u (by simpa using hj)
  · unfold maxLen; omega
  · have e : l.length + 1 ≤ 1048577 := by omega
    exact Nat.le_trans (Nat.mul_le_mul e hby) (by decide)
  · rw [World.size_alloc]; omega
  · intro g c w' q1 q2 _ _
    refine h g c w' (Lib.hid ?_) (Lib.hid ((bel.alloc hB _).grown q2 (by rw [World.size_alloc]; omega) (fun k hk => (own.lt k hk).1)))
    have e : (l ++ [row.toList]).flatten = l.flatten ++ row.toList := by simp
    show w'.ownsRow B T k _ (l ++ [row.toList]).length (l ++ [row.toList]).flatten
    rw [List.length_append, e]; exact q1
end Go.Proofs.YtnkpigibjicmaaaDoor
