/- arguments that are structs: a specification, a locale -/
import Derived.Test.YtoohbgjfhchnmaaDoorRa
import Derived.Deep.Slices
import Derived.Deep.Fields
import Derived.ChangeSame
import Derived.Lib.SmallJoins
import Derived.SizedLaws
namespace Go.Proofs.YtoohbgjfhchnmaaDoor
open Go.Joins Go.ChangeShapes Go.WideShapes Go.RowKit Go.Deep Go.Maps
section
variable {H : Type} {enc : TypeId × Value → H} {P : Program} {w : World} {base : Nat} {spare : Nat → Bool} {held : Bool}
theorem own_agg6 {r : Reach} {b0 : Nat} {t : TypeId} {f0 f1 f2 f3 f4 f5 : Field} {v : Value} {d : DataW H} {p : List MemPlace} (hs : P.underlying t = some (.struct #[f0, f1, f2, f3, f4, f5])) (hone : oneCellFields P #[f0, f1, f2, f3, f4, f5] = true) (hC : P.cellsOf t = 6)
    (hv : Value.okWide P w r b0 t v) (h : DataW.Trod enc P w base spare held t v d p) :
    ∃ (v0 v1 v2 v3 v4 v5 : Value) (y0 y1 y2 y3 y4 y5 : DataW H × List MemPlace) (n : Nat), v = .agg #[v0, v1, v2, v3, v4, v5] ∧ d = .agg [y0.1, y1.1, y2.1, y3.1, y4.1, y5.1] ∧ p = y0.2 ++ (y1.2 ++ (y2.2 ++ (y3.2 ++ (y4.2 ++ (y5.2))))) ∧
      DataW.trod enc P w base spare held n f0.type [v0] = some y0 ∧ DataW.trod enc P w base spare held n f1.type [v1] = some y1 ∧ DataW.trod enc P w base spare held n f2.type [v2] = some y2 ∧ DataW.trod enc P w base spare held n f3.type [v3] = some y3 ∧ DataW.trod enc P w base spare held n f4.type [v4] = some y4 ∧ DataW.trod enc P w base spare held n f5.type [v5] = some y5 := by
  obtain ⟨cs, rfl, hsz⟩ := okWide_struct hs hv
  obtain ⟨l⟩ := cs
  match l, hsz.trans hC with
  | [c0, c1, c2, c3, c4, c5], _ =>
    obtain ⟨fuel, hf⟩ := h
    obtain ⟨xs, n, _, hx, _, hlen, hg⟩ := DataW.trod_struct hs hf
    obtain ⟨o0, k0⟩ := hone_of hone 0 f0 rfl
    obtain ⟨o1, k1⟩ := hone_of hone 1 f1 rfl
    obtain ⟨o2, k2⟩ := hone_of hone 2 f2 rfl
    obtain ⟨o3, k3⟩ := hone_of hone 3 f3 rfl
    obtain ⟨o4, k4⟩ := hone_of hone 4 f4 rfl
    obtain ⟨o5, k5⟩ := hone_of hone 5 f5 rfl
    match xs, hlen with
    | [y0, y1, y2, y3, y4, y5], _ =>
      simp only [Prod.mk.injEq] at hx
      exact ⟨c0, c1, c2, c3, c4, c5, y0, y1, y2, y3, y4, y5, n, rfl, by simpa using hx.1, by simpa using hx.2, by simpa [Value.cells, o0, k0] using hg 0 f0 rfl, by simpa [Value.cells, o1, k1] using hg 1 f1 rfl, by simpa [Value.cells, o2, k2] using hg 2 f2 rfl, by simpa [Value.cells, o3, k3] using hg 3 f3 rfl, by simpa [Value.cells, o4, k4] using hg 4 f4 rfl, by simpa [Value.cells, o5, k5] using hg 5 f5 rfl⟩
theorem own_agg7 {r : Reach} {b0 : Nat} {t : TypeId} {f0 f1 f2 f3 f4 f5 f6 : Field} {v : Value} {d : DataW H} {p : List MemPlace} (hs : P.underlying t = some (.struct #[f0, f1, f2, f3, f4, f5, f6])) (hone : oneCellFields P #[f0, f1, f2, f3, f4, f5, f6] = true) (hC : P.cellsOf t = 7)
    (hv : Value.okWide P w r b0 t v) (h : DataW.Trod enc P w base spare held t v d p) :
    ∃ (v0 v1 v2 v3 v4 v5 v6 : Value) (y0 y1 y2 y3 y4 y5 y6 : DataW H × List MemPlace) (n : Nat), v = .agg #[v0, v1, v2, v3, v4, v5, v6] ∧ d = .agg [y0.1, y1.1, y2.1, y3.1, y4.1, y5.1, y6.1] ∧ p = y0.2 ++ (y1.2 ++ (y2.2 ++ (y3.2 ++ (y4.2 ++ (y5.2 ++ (y6.2)))))) ∧
      DataW.trod enc P w base spare held n f0.type [v0] = some y0 ∧ DataW.trod enc P w base spare held n f1.type [v1] = some y1 ∧ DataW.trod enc P w base spare held n f2.type [v2] = some y2 ∧ DataW.trod enc P w base spare held n f3.type [v3] = some y3 ∧ DataW.trod enc P w base spare held n f4.type [v4] = some y4 ∧ DataW.trod enc P w base spare held n f5.type [v5] = some y5 ∧ DataW.trod enc P w base spare held n f6.type [v6] = some y6 := by
  obtain ⟨cs, rfl, hsz⟩ := okWide_struct hs hv
  obtain ⟨l⟩ := cs
  match l, hsz.trans hC with
  | [c0, c1, c2, c3, c4, c5, c6], _ =>
    obtain ⟨fuel, hf⟩ := h
    obtain ⟨xs, n, _, hx, _, hlen, hg⟩ := DataW.trod_struct hs hf
    obtain ⟨o0, k0⟩ := hone_of hone 0 f0 rfl
    obtain ⟨o1, k1⟩ := hone_of hone 1 f1 rfl
    obtain ⟨o2, k2⟩ := hone_of hone 2 f2 rfl
    obtain ⟨o3, k3⟩ := hone_of hone 3 f3 rfl
    obtain ⟨o4, k4⟩ := hone_of hone 4 f4 rfl
    obtain ⟨o5, k5⟩ := hone_of hone 5 f5 rfl
    obtain ⟨o6, k6⟩ := hone_of hone 6 f6 rfl
    match xs, hlen with
    | [y0, y1, y2, y3, y4, y5, y6], _ =>
      simp only [Prod.mk.injEq] at hx
      exact ⟨c0, c1, c2, c3, c4, c5, c6, y0, y1, y2, y3, y4, y5, y6, n, rfl, by simpa using hx.1, by simpa using hx.2, by simpa [Value.cells, o0, k0] using hg 0 f0 rfl, by simpa [Value.cells, o1, k1] using hg 1 f1 rfl, by simpa [Value.cells, o2, k2] using hg 2 f2 rfl, by simpa [Value.cells, o3, k3] using hg 3 f3 rfl, by simpa [Value.cells, o4, k4] using hg 4 f4 rfl, by simpa [Value.cells, o5, k5] using hg 5 f5 rfl, by simpa [Value.cells, o6, k6] using hg 6 f6 rfl⟩

theorem list_of {α : Type} {p : Nat → α → Prop} : ∀ (m : Nat), (∀ i, i < m → ∃ z, p i z) → ∃ l : List α, l.length = m ∧ ∀ i z, l[i]? = some z → p i z
  | 0, _ => ⟨[], rfl, fun i z h => by simp at h⟩
  | m + 1, h => by
    obtain ⟨l, hl, hp⟩ := list_of m fun i hi => h i (by omega)
    obtain ⟨z, hz⟩ := h m (by omega)
    refine ⟨l ++ [z], by simp [hl], fun i y hy => ?_⟩
    rcases Nat.lt_or_ge i l.length with hi | hi
    · rw [List.getElem?_append_left hi] at hy; exact hp i y hy
    · rw [List.getElem?_append_right hi] at hy
      have : i = m := by
        rcases Nat.eq_zero_or_pos (i - l.length) with h0 | h0
        · omega
        · rw [List.getElem?_eq_none (by simp; omega)] at hy; cases hy
      subst this
      rw [hl, Nat.sub_self] at hy
      cases hy; exact hz
theorem sized_part {ts : List TypeId} {ds : List (DataW H)} (h : (DataW.weightsEach P ts ds).all (· ≤ reachBytes) = true) {j : Nat} {t : TypeId} {d : DataW H} (ht : ts[j]? = some t) (hd : ds[j]? = some d) : (d.weights P t).all (· ≤ reachBytes) = true :=
  List.all_eq_true.2 fun n hn => List.all_eq_true.1 h n (DataW.weights_mem_each ht hd n hn)
theorem sized_parts {t : TypeId} {fs : Array Field} {ds : List (DataW H)} (hs : P.underlying t = some (.struct fs)) (h : ((DataW.agg ds).weights P t).all (· ≤ reachBytes) = true) {j : Nat} {u : TypeId} {d : DataW H} (ht : (fs.toList.map (·.type))[j]? = some u) (hd : ds[j]? = some d) : (d.weights P u).all (· ≤ reachBytes) = true := by
  simp only [DataW.weights, hs] at h
  exact sized_part h ht hd
/-- a slice, read row by row -/
theorem open_rows {α : Type} (R : α → List Value) (Q : α → Prop) (k : Nat) {t e : TypeId} {fuel b : Nat} {v : Value} {x : DataW H × List MemPlace} (ht : P.underlying t = some (.slice e)) (hk : 0 < k)
    (hC : P.cellsOf e = k) (hB : P.bytesOf e = b) (h : DataW.trod enc P w 0 (fun _ => true) true fuel t [v] = some x) (hlt : ∀ q ∈ x.2, q.block < w.heap.size) (hw : (x.1.weights P t).all (· ≤ reachBytes) = true)
    (hrow : ∀ cs y n, DataW.trod enc P w 0 (fun _ => true) true n e cs = some y → cs.length = k → ∃ z : α, Q z ∧ cs = R z) :
    ∃ l : List α, RowsAt w v k (l.map R) ∧ NZ v ∧ (∀ z ∈ l, Q z) ∧ l.length * b ≤ 140737488351232 := by
  rcases open_slice ht h with ⟨hcs, hx⟩ | ⟨a, len, cap, m, n, D, Pl, hcs, -, hl, hm, hmm, hx, hi⟩
  · obtain rfl : v = .slice none 0 0 := by simpa using hcs
    exact ⟨[], ⟨none, 0, rfl, by simp, by unfold maxLen; omega, .inl rfl⟩, (fun n cap hh => by cases hh; rfl), (fun z hz => by cases hz), by simp⟩
  · obtain rfl : v = .slice (some a) len cap := by simpa using hcs
    simp only [if_true] at hmm
    subst m
    rw [hC] at hx hi
    obtain ⟨l, hll, hp⟩ := list_of (p := fun i z => Q z ∧ ∀ (j : Nat) v, (R z)[j]? = some v → w.cell? (a.add (i * k + j)) = some v) len (fun i hil => by
      obtain ⟨cs, hc, htr⟩ := hi i (by omega)
      obtain ⟨-, hlen, hat⟩ := World.cells?_some hc
      obtain ⟨z, hq, rfl⟩ := hrow cs _ _ htr hlen
      refine ⟨z, hq, fun j v hj => ?_⟩
      have hjk : j < k := by rw [← hlen]; exact (List.getElem?_eq_some_iff.1 hj).1
      have := hat j hjk
      rw [add_add, hj] at this
      exact this)
    have hb : len * b ≤ 140737488351232 := by
      have h1 : ((cap : Nat) * b ≤ reachBytes) := by
        have := List.all_eq_true.1 hw (cap * b) (by
          rw [hx]; simp only [DataW.weights, ht, hB, List.length_map, List.length_range]
          rw [Nat.add_sub_cancel' hl]; exact List.mem_cons_self)
        simpa using this
      have h2 := Nat.mul_le_mul_right b hl
      unfold reachBytes at h1
      omega
    refine ⟨l, ⟨some a, cap, by rw [List.length_map, hll], by rw [List.length_map]; omega, hm, ?_⟩, (fun n cap hh => by cases hh), (fun z hz => ?_), by rw [hll]; exact hb⟩
    · by_cases h0 : len = 0
      · left; rw [List.length_eq_zero_iff.1 (hll.trans h0)]; rfl
      · right
        obtain ⟨cs, hc, -⟩ := hi 0 (by omega)
        obtain ⟨-, hlen, hat⟩ := World.cells?_some hc
        have h00 := hat 0 hk
        rw [List.getElem?_eq_getElem (by omega)] at h00
        obtain ⟨g, o, spot⟩ := a
        have hspot : spot = none := by simpa [Addr.add] using World.cell?_spot h00
        subst hspot
        refine ⟨g, o, rfl, hlt (.cell g o) (by rw [hx]; exact List.mem_append_left _ (MemPlace.mem_row.2 ⟨0, Nat.mul_pos (by omega) hk, by simp⟩)), fun j x hj i y hy => ?_⟩
        rw [List.getElem?_map] at hj
        obtain ⟨z, hz, rfl⟩ := Option.map_eq_some_iff.1 hj
        have h9 := (hp j z hz).2 i y hy
        rw [Go.WideShapes.add_plain, ← Nat.add_assoc] at h9
        exact h9
    · obtain ⟨i, hi'⟩ := List.mem_iff_getElem?.1 hz
      exact (hp i z hi').1
end
theorem rng64 {n : Int} (h : (Lit.int .i64 n).wf = true) : -9223372036854775808 ≤ n ∧ n ≤ 9223372036854775807 := by
  simpa [Lit.wf, IntKind.min, IntKind.max, IntKind.signed, IntKind.bits] using h
section
variable {H : Type} {enc : TypeId × Value → H} {W : World}
set_option maxRecDepth 100000 in
theorem open_spec {b0 : Nat} {v : Value} {d : DataW H} {p : List MemPlace} (hv : Value.okWide Tryd.prog W .any b0 23 v) (h : DataW.Trod enc Tryd.prog W 0 (fun _ => true) true 23 v d p) :
    ∃ (F B D : Int) (cnt fold rep sg : Bool), v = spv F B D cnt fold rep sg ∧ F ≤ 9223372036854775807 ∧ (-9223372036854775808 ≤ B ∧ B ≤ 9223372036854775807) ∧ (-9223372036854775808 ≤ D ∧ D ≤ 9223372036854775807) := by
  obtain ⟨v0, v1, v2, v3, v4, v5, v6, y0, y1, y2, y3, y4, y5, y6, n, rfl, -, -, h0, h1, h2, h3, h4, h5, h6⟩ := own_agg7 Tryd.underlying23 (by kernel_rfl) (by kernel_rfl) hv h
  obtain ⟨F, e0, -, w0⟩ := DataW.trod_int Tryd.underlying3 h0
  obtain ⟨B, e1, -, w1⟩ := DataW.trod_int Tryd.underlying3 h1
  obtain ⟨D, e2, -, w2⟩ := DataW.trod_int Tryd.underlying3 h2
  obtain ⟨b3, e3, -⟩ := DataW.trod_bool Tryd.underlying4 h3
  obtain ⟨b4, e4, -⟩ := DataW.trod_bool Tryd.underlying4 h4
  obtain ⟨b5, e5, -⟩ := DataW.trod_bool Tryd.underlying4 h5
  obtain ⟨b6, e6, -⟩ := DataW.trod_bool Tryd.underlying4 h6
  cases e0; cases e1; cases e2; cases e3; cases e4; cases e5; cases e6
  exact ⟨F, B, D, b3, b4, b5, b6, rfl, (rng64 w0).2, rng64 w1, rng64 w2⟩
set_option maxRecDepth 100000 in
theorem row_int (cs : List Value) (y : DataW H × List MemPlace) (n : Nat) (h : DataW.trod enc Tryd.prog W 0 (fun _ => true) true n 3 cs = some y) (_ : cs.length = 1) : ∃ z : Int, True ∧ cs = [.int .i64 z] := by
  obtain ⟨z, e, -, -⟩ := DataW.trod_int Tryd.underlying3 h
  exact ⟨z, trivial, e⟩
set_option maxRecDepth 100000 in
theorem row_elm (cs : List Value) (y : DataW H × List MemPlace) (n : Nat) (h : DataW.trod enc Tryd.prog W 0 (fun _ => true) true n 83 cs = some y) (hl : cs.length = 2) : ∃ z : El, z.n.size ≤ 9223372036854775807 ∧ cs = z.row := by
  match cs, hl with
  | [c0, c1], _ =>
    obtain ⟨xs, m, -, -, -, hxl, hg⟩ := DataW.trod_struct Tryd.underlying83 h
    match xs, hxl with
    | [x0, x1], _ =>
      have g0 : DataW.trod enc Tryd.prog W 0 (fun _ => true) true m 9 [c0] = some x0 := hg 0 _ rfl
      have g1 : DataW.trod enc Tryd.prog W 0 (fun _ => true) true m 3 [c1] = some x1 := hg 1 _ rfl
      obtain ⟨s, e0, -, hs⟩ := DataW.trod_string Tryd.underlying9 g0
      obtain ⟨i1, e1, -, -⟩ := DataW.trod_int Tryd.underlying3 g1
      cases e0; cases e1
      exact ⟨⟨s, i1⟩, hs, rfl⟩
set_option maxRecDepth 100000 in
theorem row_cls (cs : List Value) (y : DataW H × List MemPlace) (n : Nat) (h : DataW.trod enc Tryd.prog W 0 (fun _ => true) true n 81 cs = some y) (hl : cs.length = 5) : ∃ z : Cl, z.n.size ≤ 9223372036854775807 ∧ cs = z.row := by
  match cs, hl with
  | [c0, c1, c2, c3, c4], _ =>
    obtain ⟨xs, m, -, -, -, hxl, hg⟩ := DataW.trod_struct Tryd.underlying81 h
    match xs, hxl with
    | [x0, x1], _ =>
      have g0 : DataW.trod enc Tryd.prog W 0 (fun _ => true) true m 9 [c0] = some x0 := hg 0 _ rfl
      have t4 : Tryd.prog.cellsOf 79 = 4 := by kernel_rfl
      have g1 : DataW.trod enc Tryd.prog W 0 (fun _ => true) true m 79 [c1, c2, c3, c4] = some x1 := by
        have : DataW.trod enc Tryd.prog W 0 (fun _ => true) true m 79 (List.take (Tryd.prog.cellsOf 79) [c1, c2, c3, c4]) = some x1 := hg 1 _ rfl
        rw [t4] at this
        exact this
      obtain ⟨s, e0, -, hs⟩ := DataW.trod_string Tryd.underlying9 g0
      obtain ⟨zs, m2, -, -, -, hzl, hz⟩ := DataW.trod_struct Tryd.underlying79 g1
      match zs, hzl with
      | [z0], _ =>
        have t5 : Tryd.prog.cellsOf 77 = 4 := by kernel_rfl
        have g2 : DataW.trod enc Tryd.prog W 0 (fun _ => true) true m2 77 [c1, c2, c3, c4] = some z0 := by
          have : DataW.trod enc Tryd.prog W 0 (fun _ => true) true m2 77 (List.take (Tryd.prog.cellsOf 77) [c1, c2, c3, c4]) = some z0 := hz 0 _ rfl
          rw [t5] at this
          exact this
        obtain ⟨us, m3, -, -, -, hul, hu⟩ := DataW.trod_array Tryd.underlying77 g2
        have t6 : Tryd.prog.cellsOf 76 = 1 := by kernel_rfl
        rw [t6] at hu
        match us, hul with
        | [u0, u1, u2, u3], _ =>
          have j0 : DataW.trod enc Tryd.prog W 0 (fun _ => true) true m3 76 [c1] = some u0 := hu 0 (by decide)
          have j1 : DataW.trod enc Tryd.prog W 0 (fun _ => true) true m3 76 [c2] = some u1 := hu 1 (by decide)
          have j2 : DataW.trod enc Tryd.prog W 0 (fun _ => true) true m3 76 [c3] = some u2 := hu 2 (by decide)
          have j3 : DataW.trod enc Tryd.prog W 0 (fun _ => true) true m3 76 [c4] = some u3 := hu 3 (by decide)
          obtain ⟨i1, e1, -, -⟩ := DataW.trod_int Tryd.underlying76 j0
          obtain ⟨i2, e2, -, -⟩ := DataW.trod_int Tryd.underlying76 j1
          obtain ⟨i3, e3, -, -⟩ := DataW.trod_int Tryd.underlying76 j2
          obtain ⟨i4, e4, -, -⟩ := DataW.trod_int Tryd.underlying76 j3
          cases e0; cases e1; cases e2; cases e3; cases e4
          exact ⟨⟨s, i1, i2, i3, i4⟩, hs, rfl⟩
set_option maxRecDepth 100000 in
theorem open_loc {b0 : Nat} {v : Value} {d : DataW H} {p : List MemPlace} (hv : Value.okWide Tryd.prog W .any b0 28 v) (h : DataW.Trod enc Tryd.prog W 0 (fun _ => true) true 28 v d p) (hlt : ∀ x ∈ p, x.block < W.heap.size) (hw : (d.weights Tryd.prog 28).all (· ≤ reachBytes) = true) :
    ∃ (n lo up : ByteArray) (v1 v4 v5 : Value) (Ws : List Int) (C : List Cl) (E : List El), v = lval n v1 lo up v4 v5 ∧ LocAt W v1 v4 v5 Ws C E ∧ NZ v1 ∧ NZ v4 ∧ NZ v5 ∧ n.size ≤ 9223372036854775807 ∧ Ws.length * 8 ≤ 140737488355328 ∧ C.length * 48 ≤ 140737488355328 ∧ E.length * 24 ≤ 140737488355328 := by
  obtain ⟨v0, v1, v2, v3, v4, v5, y0, y1, y2, y3, y4, y5, n, rfl, rfl, rfl, h0, h1, h2, h3, h4, h5⟩ := own_agg6 Tryd.underlying28 (by kernel_rfl) (by kernel_rfl) hv h
  obtain ⟨s0, e0, -, w0⟩ := DataW.trod_string Tryd.underlying9 h0
  obtain ⟨s2, e2, -, -⟩ := DataW.trod_string Tryd.underlying9 h2
  obtain ⟨s3, e3, -, -⟩ := DataW.trod_string Tryd.underlying9 h3
  cases e0; cases e2; cases e3
  have q1 : ∀ x ∈ y1.2, x.block < W.heap.size := fun x hx => hlt x (by simp [hx])
  have q4 : ∀ x ∈ y4.2, x.block < W.heap.size := fun x hx => hlt x (by simp [hx])
  have q5 : ∀ x ∈ y5.2, x.block < W.heap.size := fun x hx => hlt x (by simp [hx])
  have k1 := sized_parts Tryd.underlying28 hw (j := 1) rfl rfl
  have k4 := sized_parts Tryd.underlying28 hw (j := 4) rfl rfl
  have k5 := sized_parts Tryd.underlying28 hw (j := 5) rfl rfl
  obtain ⟨Ws, r1, n1, -, z1⟩ := open_rows (fun n : Int => [.int .i64 n]) (fun _ => True) 1 Tryd.underlying24 (by decide) (by kernel_rfl) (by kernel_rfl : Tryd.prog.bytesOf 3 = 8) h1 q1 k1 row_int
  obtain ⟨C, r4, n4, t4, z4⟩ := open_rows Cl.row (fun z => z.n.size ≤ 9223372036854775807) 5 Tryd.underlying25 (by decide) (by kernel_rfl) (by kernel_rfl : Tryd.prog.bytesOf 81 = 48) h4 q4 k4 row_cls
  obtain ⟨E, r5, n5, t5, z5⟩ := open_rows El.row (fun z => z.n.size ≤ 9223372036854775807) 2 Tryd.underlying26 (by decide) (by kernel_rfl) (by kernel_rfl : Tryd.prog.bytesOf 83 = 24) h5 q5 k5 row_elm
  exact ⟨s0, s2, s3, v1, v4, v5, Ws, C, E, rfl, ⟨r1, r4, r5, t4, t5⟩, n1, n4, n5, w0, by omega, by omega, by omega⟩
end
end Go.Proofs.YtoohbgjfhchnmaaDoor
