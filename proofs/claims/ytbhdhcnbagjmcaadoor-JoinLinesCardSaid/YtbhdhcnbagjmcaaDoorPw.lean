/- arguments: a specification, a list of lines with its sizes (written by gen_pw.py) -/
import Derived.Test.YtbhdhcnbagjmcaaDoorPv
import Derived.Deep.Slices
import Derived.Deep.Fields
import Derived.ChangeSame
import Derived.Lib.SmallJoins
import Derived.SizedLaws
namespace Go.Proofs.YtbhdhcnbagjmcaaDoor
open Go.Joins Go.ChangeShapes Go.WideShapes Go.RowKit Go.Deep Go.Maps
open Jn
section
variable {H : Type} {enc : TypeId × Value → H} {P : Program} {w : World} {base : Nat} {spare : Nat → Bool} {held : Bool}
theorem own_agg8 {r : Reach} {b0 : Nat} {t : TypeId} {f0 f1 f2 f3 f4 f5 f6 f7 : Field} {v : Value} {d : DataW H} {p : List MemPlace} (hs : P.underlying t = some (.struct #[f0, f1, f2, f3, f4, f5, f6, f7])) (hone : oneCellFields P #[f0, f1, f2, f3, f4, f5, f6, f7] = true) (hC : P.cellsOf t = 8)
    (hv : Value.okWide P w r b0 t v) (h : DataW.Trod enc P w base spare held t v d p) :
    ∃ (v0 v1 v2 v3 v4 v5 v6 v7 : Value) (y0 y1 y2 y3 y4 y5 y6 y7 : DataW H × List MemPlace) (n : Nat), v = .agg #[v0, v1, v2, v3, v4, v5, v6, v7] ∧ d = .agg [y0.1, y1.1, y2.1, y3.1, y4.1, y5.1, y6.1, y7.1] ∧ p = y0.2 ++ (y1.2 ++ (y2.2 ++ (y3.2 ++ (y4.2 ++ (y5.2 ++ (y6.2 ++ (y7.2))))))) ∧
      DataW.trod enc P w base spare held n f0.type [v0] = some y0 ∧ DataW.trod enc P w base spare held n f1.type [v1] = some y1 ∧ DataW.trod enc P w base spare held n f2.type [v2] = some y2 ∧ DataW.trod enc P w base spare held n f3.type [v3] = some y3 ∧ DataW.trod enc P w base spare held n f4.type [v4] = some y4 ∧ DataW.trod enc P w base spare held n f5.type [v5] = some y5 ∧ DataW.trod enc P w base spare held n f6.type [v6] = some y6 ∧ DataW.trod enc P w base spare held n f7.type [v7] = some y7 := by
  obtain ⟨cs, rfl, hsz⟩ := okWide_struct hs hv
  obtain ⟨l⟩ := cs
  match l, hsz.trans hC with
  | [c0, c1, c2, c3, c4, c5, c6, c7], _ =>
    obtain ⟨fuel, hf⟩ := h
    obtain ⟨xs, n, _, hx, _, hlen, hg⟩ := DataW.trod_struct hs hf
    obtain ⟨o0, k0⟩ := hone_of hone 0 f0 rfl
    obtain ⟨o1, k1⟩ := hone_of hone 1 f1 rfl
    obtain ⟨o2, k2⟩ := hone_of hone 2 f2 rfl
    obtain ⟨o3, k3⟩ := hone_of hone 3 f3 rfl
    obtain ⟨o4, k4⟩ := hone_of hone 4 f4 rfl
    obtain ⟨o5, k5⟩ := hone_of hone 5 f5 rfl
    obtain ⟨o6, k6⟩ := hone_of hone 6 f6 rfl
    obtain ⟨o7, k7⟩ := hone_of hone 7 f7 rfl
    match xs, hlen with
    | [y0, y1, y2, y3, y4, y5, y6, y7], _ =>
      simp only [Prod.mk.injEq] at hx
      exact ⟨c0, c1, c2, c3, c4, c5, c6, c7, y0, y1, y2, y3, y4, y5, y6, y7, n, rfl, by simpa using hx.1, by simpa using hx.2, by simpa [Value.cells, o0, k0] using hg 0 f0 rfl, by simpa [Value.cells, o1, k1] using hg 1 f1 rfl, by simpa [Value.cells, o2, k2] using hg 2 f2 rfl, by simpa [Value.cells, o3, k3] using hg 3 f3 rfl, by simpa [Value.cells, o4, k4] using hg 4 f4 rfl, by simpa [Value.cells, o5, k5] using hg 5 f5 rfl, by simpa [Value.cells, o6, k6] using hg 6 f6 rfl, by simpa [Value.cells, o7, k7] using hg 7 f7 rfl⟩
theorem own_agg3 {r : Reach} {b0 : Nat} {t : TypeId} {f0 f1 f2 : Field} {v : Value} {d : DataW H} {p : List MemPlace} (hs : P.underlying t = some (.struct #[f0, f1, f2])) (hone : oneCellFields P #[f0, f1, f2] = true) (hC : P.cellsOf t = 3)
    (hv : Value.okWide P w r b0 t v) (h : DataW.Trod enc P w base spare held t v d p) :
    ∃ (v0 v1 v2 : Value) (y0 y1 y2 : DataW H × List MemPlace) (n : Nat), v = .agg #[v0, v1, v2] ∧ d = .agg [y0.1, y1.1, y2.1] ∧ p = y0.2 ++ (y1.2 ++ (y2.2)) ∧
      DataW.trod enc P w base spare held n f0.type [v0] = some y0 ∧ DataW.trod enc P w base spare held n f1.type [v1] = some y1 ∧ DataW.trod enc P w base spare held n f2.type [v2] = some y2 := by
  obtain ⟨cs, rfl, hsz⟩ := okWide_struct hs hv
  obtain ⟨l⟩ := cs
  match l, hsz.trans hC with
  | [c0, c1, c2], _ =>
    obtain ⟨fuel, hf⟩ := h
    obtain ⟨xs, n, _, hx, _, hlen, hg⟩ := DataW.trod_struct hs hf
    obtain ⟨o0, k0⟩ := hone_of hone 0 f0 rfl
    obtain ⟨o1, k1⟩ := hone_of hone 1 f1 rfl
    obtain ⟨o2, k2⟩ := hone_of hone 2 f2 rfl
    match xs, hlen with
    | [y0, y1, y2], _ =>
      simp only [Prod.mk.injEq] at hx
      exact ⟨c0, c1, c2, y0, y1, y2, n, rfl, by simpa using hx.1, by simpa using hx.2, by simpa [Value.cells, o0, k0] using hg 0 f0 rfl, by simpa [Value.cells, o1, k1] using hg 1 f1 rfl, by simpa [Value.cells, o2, k2] using hg 2 f2 rfl⟩
theorem list_of {α : Type} {p : Nat → α → Prop} : ∀ (m : Nat), (∀ i, i < m → ∃ z, p i z) → ∃ l : List α, l.length = m ∧ ∀ i z, l[i]? = some z → p i z
  | 0, _ => ⟨[], rfl, fun i z h => by simp at h⟩
  | m + 1, h => by
    obtain ⟨l, hl, hp⟩ := list_of m fun i hi => h i (by omega)
    obtain ⟨z, hz⟩ := h m (by omega)
    refine ⟨l ++ [z], by simp [hl], fun i y hy => ?_⟩
    rcases Nat.lt_or_ge i l.length with hi | hi
    · rw [List.getElem?_append_left hi] at hy; exact hp i y hy
    · rw [List.getElem?_append_right hi] at hy
      have : i = m := by
        rcases Nat.eq_zero_or_pos (i - l.length) with h0 | h0
        · omega
        · rw [List.getElem?_eq_none (by simp; omega)] at hy; cases hy
      subst this
      rw [hl, Nat.sub_self] at hy
      cases hy; exact hz
theorem sized_part {ts : List TypeId} {ds : List (DataW H)} (h : (DataW.weightsEach P ts ds).all (· ≤ reachBytes) = true) {j : Nat} {t : TypeId} {d : DataW H} (ht : ts[j]? = some t) (hd : ds[j]? = some d) : (d.weights P t).all (· ≤ reachBytes) = true :=
  List.all_eq_true.2 fun n hn => List.all_eq_true.1 h n (DataW.weights_mem_each ht hd n hn)
theorem sized_parts {t : TypeId} {fs : Array Field} {ds : List (DataW H)} (hs : P.underlying t = some (.struct fs)) (h : ((DataW.agg ds).weights P t).all (· ≤ reachBytes) = true) {j : Nat} {u : TypeId} {d : DataW H} (ht : (fs.toList.map (·.type))[j]? = some u) (hd : ds[j]? = some d) : (d.weights P u).all (· ≤ reachBytes) = true := by
  simp only [DataW.weights, hs] at h
  exact sized_part h ht hd
theorem mem_weights {e : TypeId} {d : DataW H} {q : Nat} : ∀ {l : List (DataW H)}, d ∈ l → q ∈ d.weights P e → q ∈ DataW.weightsAll P e l
  | [], h, _ => by cases h
  | x :: r, h, hq => by
    unfold DataW.weightsAll
    rcases List.mem_cons.1 h with rfl | h
    · exact List.mem_append_left _ hq
    · exact List.mem_append_right _ (mem_weights h hq)
/-- a slice, read row by row -/
theorem open_rowsw {α : Type} (R : α → List Value) (Q : α → Prop) (k : Nat) {t e : TypeId} {fuel b : Nat} {v : Value} {x : DataW H × List MemPlace} (ht : P.underlying t = some (.slice e)) (hk : 0 < k)
    (hC : P.cellsOf e = k) (hB : P.bytesOf e = b) (h : DataW.trod enc P w 0 (fun _ => true) true fuel t [v] = some x) (hlt : ∀ q ∈ x.2, q.block < w.heap.size) (hw : (x.1.weights P t).all (· ≤ reachBytes) = true)
    (hrow : ∀ cs y n, DataW.trod enc P w 0 (fun _ => true) true n e cs = some y → cs.length = k → (y.1.weights P e).all (· ≤ reachBytes) = true → ∃ z : α, Q z ∧ cs = R z) :
    ∃ l : List α, RowsAt w v k (l.map R) ∧ (∀ z ∈ l, Q z) ∧ l.length * b ≤ 140737488351232 := by
  rcases open_slice ht h with ⟨hcs, hx⟩ | ⟨a, len, cap, m, n, D, Pl, hcs, -, hl, hm, hmm, hx, hi⟩
  · obtain rfl : v = .slice none 0 0 := by simpa using hcs
    exact ⟨[], ⟨none, 0, rfl, by simp, by unfold maxLen; omega, .inl rfl⟩, (fun z hz => by cases hz), by simp⟩
  · obtain rfl : v = .slice (some a) len cap := by simpa using hcs
    simp only [if_true] at hmm
    subst m
    rw [hC] at hx hi
    obtain ⟨l, hll, hp⟩ := list_of (p := fun i z => Q z ∧ ∀ (j : Nat) v, (R z)[j]? = some v → w.cell? (a.add (i * k + j)) = some v) len (fun i hil => by
      obtain ⟨cs, hc, htr⟩ := hi i (by omega)
      obtain ⟨-, hlen, hat⟩ := World.cells?_some hc
      obtain ⟨z, hq, rfl⟩ := hrow cs _ _ htr hlen (List.all_eq_true.2 fun q hq => List.all_eq_true.1 hw q (by rw [hx]; simp only [DataW.weights, ht]; exact List.mem_cons_of_mem _ (List.mem_append_left _ (mem_weights (List.mem_map.2 ⟨i, List.mem_range.2 hil, rfl⟩) hq))))
      refine ⟨z, hq, fun j v hj => ?_⟩
      have hjk : j < k := by rw [← hlen]; exact (List.getElem?_eq_some_iff.1 hj).1
      have := hat j hjk
      rw [add_add, hj] at this
      exact this)
    have hb : len * b ≤ 140737488351232 := by
      have h1 : ((cap : Nat) * b ≤ reachBytes) := by
        have := List.all_eq_true.1 hw (cap * b) (by
          rw [hx]; simp only [DataW.weights, ht, hB, List.length_map, List.length_range]
          rw [Nat.add_sub_cancel' hl]; exact List.mem_cons_self)
        simpa using this
      have h2 := Nat.mul_le_mul_right b hl
      unfold reachBytes at h1
      omega
    refine ⟨l, ⟨some a, cap, by rw [List.length_map, hll], by rw [List.length_map]; omega, hm, ?_⟩, (fun z hz => ?_), by rw [hll]; exact hb⟩
    · by_cases h0 : len = 0
      · left; rw [List.length_eq_zero_iff.1 (hll.trans h0)]; rfl
      · right
        obtain ⟨cs, hc, -⟩ := hi 0 (by omega)
        obtain ⟨-, hlen, hat⟩ := World.cells?_some hc
        have h00 := hat 0 hk
        rw [List.getElem?_eq_getElem (by omega)] at h00
        obtain ⟨g, o, spot⟩ := a
        have hspot : spot = none := by simpa [Addr.add] using World.cell?_spot h00
        subst hspot
        refine ⟨g, o, rfl, hlt (.cell g o) (by rw [hx]; exact List.mem_append_left _ (MemPlace.mem_row.2 ⟨0, Nat.mul_pos (by omega) hk, by simp⟩)), fun j x hj i y hy => ?_⟩
        rw [List.getElem?_map] at hj
        obtain ⟨z, hz, rfl⟩ := Option.map_eq_some_iff.1 hj
        have h9 := (hp j z hz).2 i y hy
        rw [Go.WideShapes.add_plain, ← Nat.add_assoc] at h9
        exact h9
    · obtain ⟨i, hi'⟩ := List.mem_iff_getElem?.1 hz
      exact (hp i z hi').1
end
section
variable {H : Type} {enc : TypeId × Value → H} {W : World}
theorem str_w {s : ByteArray} (hw : ((DataW.lit (H := H) (.string s.data.toList)).weights Tryd.prog 9).all (· ≤ reachBytes) = true) : s.size ≤ 140737488351232 := by
  have := List.all_eq_true.1 hw s.data.toList.length (by simp [DataW.weights])
  rw [Lib.size_eq]
  have h2 := of_decide_eq_true this
  unfold reachBytes at h2
  exact h2
set_option maxRecDepth 100000 in
theorem open_lins {b0 : Nat} {v : Value} {d : DataW H} {p : List MemPlace} (hv : Value.okWide Tryd.prog W .any b0 22 v) (h : DataW.Trod enc Tryd.prog W 0 (fun _ => true) true 22 v d p) (hlt : ∀ x ∈ p, x.block < W.heap.size) (hw : (d.weights Tryd.prog 22).all (· ≤ reachBytes) = true) :
    ∃ L : List ByteArray, Strs W v L ∧ (∀ x ∈ L, x.size ≤ 9223372036854775807) := by
  obtain ⟨a0, len, cap, rfl⟩ := okWide_slice Tryd.underlying22 hv
  obtain ⟨fuel, hf⟩ := h
  obtain ⟨L, r, q, -⟩ := open_rowsw (fun s : ByteArray => [.string s]) (fun s => s.size ≤ 140737488351232) 1 Tryd.underlying22 (by decide) (by kernel_rfl) (by kernel_rfl : Tryd.prog.bytesOf 9 = 16) hf hlt hw (fun cs y n ht _ hw => by
    obtain ⟨s, e, hx, -⟩ := DataW.trod_string Tryd.underlying9 ht
    refine ⟨s, ?_, e⟩
    subst hx
    exact str_w hw)
  refine ⟨L, ?_, fun x hx => Nat.le_trans (q x hx) (by omega)⟩
  obtain ⟨a, c, e, h1, h2, h3⟩ := r
  rw [List.length_map] at e h1
  refine ⟨a, c, e, h1, h2, ?_⟩
  rcases h3 with h3 | ⟨g, o, rfl, hg, hc⟩
  · exact .inl (List.map_eq_nil_iff.1 h3)
  · refine .inr ⟨g, o, rfl, hg, fun j x hj => ?_⟩
    have := hc j [.string x] (by rw [List.getElem?_map, hj]; rfl) 0 _ rfl
    simpa using this
set_option maxRecDepth 100000 in
theorem row_jf (cs : List Value) (y : DataW H × List MemPlace) (n : Nat) (h : DataW.trod enc Tryd.prog W 0 (fun _ => true) true n 48 cs = some y) (hl : cs.length = 2) (_ : (y.1.weights Tryd.prog 48).all (· ≤ reachBytes) = true) : ∃ z : Int × Int, True ∧ cs = [.int .i64 z.1, .int .i64 z.2] := by
  match cs, hl with
  | [c0, c1], _ =>
    obtain ⟨xs, m, -, -, -, hxl, hg⟩ := DataW.trod_struct Tryd.underlying48 h
    match xs, hxl with
    | [x0, x1], _ =>
      have g0 : DataW.trod enc Tryd.prog W 0 (fun _ => true) true m 3 [c0] = some x0 := hg 0 _ rfl
      have g1 : DataW.trod enc Tryd.prog W 0 (fun _ => true) true m 3 [c1] = some x1 := hg 1 _ rfl
      obtain ⟨i0, e0, -, -⟩ := DataW.trod_int Tryd.underlying3 g0
      obtain ⟨i1, e1, -, -⟩ := DataW.trod_int Tryd.underlying3 g1
      cases e0; cases e1
      exact ⟨(i0, i1), trivial, rfl⟩
set_option maxRecDepth 100000 in
theorem open_jspec {b0 : Nat} {v : Value} {d : DataW H} {p : List MemPlace} (hv : Value.okWide Tryd.prog W .any b0 36 v) (h : DataW.Trod enc Tryd.prog W 0 (fun _ => true) true 36 v d p) (hlt : ∀ x ∈ p, x.block < W.heap.size) (hw : (d.weights Tryd.prog 36).all (· ≤ reachBytes) = true) :
    ∃ (f1 f2 sep : Int) (lf rt pr : Bool) (em : ByteArray) (a : Option Addr) (cap : Nat) (l : List (Int × Int)), v = .agg #[.int .i64 f1, .int .i64 f2, .int .i64 sep, .bool lf, .bool rt, .bool pr, .string em, .slice a l.length cap] ∧ RowsAt W (.slice a l.length cap) 2 (l.map fun o => [.int .i64 o.1, .int .i64 o.2]) ∧ em.size ≤ 140737488351232 := by
  obtain ⟨v0, v1, v2, v3, v4, v5, v6, v7, y0, y1, y2, y3, y4, y5, y6, y7, n, rfl, rfl, rfl, h0, h1, h2, h3, h4, h5, h6, h7⟩ := own_agg8 Tryd.underlying36 (by kernel_rfl) (by kernel_rfl) hv h
  obtain ⟨i0, e0, -, -⟩ := DataW.trod_int Tryd.underlying3 h0
  obtain ⟨i1, e1, -, -⟩ := DataW.trod_int Tryd.underlying3 h1
  obtain ⟨i2, e2, -, -⟩ := DataW.trod_int Tryd.underlying3 h2
  obtain ⟨b3, e3, -⟩ := DataW.trod_bool Tryd.underlying4 h3
  obtain ⟨b4, e4, -⟩ := DataW.trod_bool Tryd.underlying4 h4
  obtain ⟨b5, e5, -⟩ := DataW.trod_bool Tryd.underlying4 h5
  obtain ⟨s6, e6, x6, -⟩ := DataW.trod_string Tryd.underlying9 h6
  have k6 := sized_parts Tryd.underlying36 hw (j := 6) rfl rfl
  have k7 := sized_parts Tryd.underlying36 hw (j := 7) rfl rfl
  have q7 : ∀ x ∈ y7.2, x.block < W.heap.size := fun x hx => hlt x (by simp [hx])
  obtain ⟨l, r7, -, -⟩ := open_rowsw (fun o : Int × Int => [.int .i64 o.1, .int .i64 o.2]) (fun _ => True) 2 Tryd.underlying34 (by decide) (by kernel_rfl) (by kernel_rfl : Tryd.prog.bytesOf 48 = 16) h7 q7 k7 row_jf
  obtain ⟨a, cap, e7, -, -⟩ := r7.slice
  rw [List.length_map] at e7
  subst e7
  cases e0; cases e1; cases e2; cases e3; cases e4; cases e5; cases e6
  rw [x6] at k6
  exact ⟨i0, i1, i2, b3, b4, b5, s6, a, cap, l, rfl, r7, str_w k6⟩
set_option maxRecDepth 100000 in
theorem open_task {b0 : Nat} {v : Value} {d : DataW H} {p : List MemPlace} (hv : Value.okWide Tryd.prog W .any b0 43 v) (h : DataW.Trod enc Tryd.prog W 0 (fun _ => true) true 43 v d p) :
    ∃ (f1 f2 sep : Int), v = .agg #[.int .i64 f1, .int .i64 f2, .int .i64 sep] := by
  obtain ⟨v0, v1, v2, y0, y1, y2, n, rfl, -, -, h0, h1, h2⟩ := own_agg3 Tryd.underlying43 (by kernel_rfl) (by kernel_rfl) hv h
  obtain ⟨i0, e0, -, -⟩ := DataW.trod_int Tryd.underlying3 h0
  obtain ⟨i1, e1, -, -⟩ := DataW.trod_int Tryd.underlying3 h1
  obtain ⟨i2, e2, -, -⟩ := DataW.trod_int Tryd.underlying3 h2
  cases e0; cases e1; cases e2
  exact ⟨i0, i1, i2, rfl⟩
end
end Go.Proofs.YtbhdhcnbagjmcaaDoor
