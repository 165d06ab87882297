/- arguments that are scripts -/
import Derived.Test.YtlhagpfpcdedpaaDoorJg
import Derived.Deep.Slices
import Derived.Deep.Fields
import Derived.ChangeSame
import Derived.Lib.SmallJoins
import Derived.SizedLaws
namespace Go.Proofs.YtlhagpfpcdedpaaDoor
open Go.Joins Go.ChangeShapes Go.WideShapes Go.RowKit Go.Deep Go.Maps
open Shp
theorem bulkAll_app {H : Type} : ∀ (l m : List (DataW H)), Rows.uptoBulkAll (l ++ m) = Rows.uptoBulkAll l + Rows.uptoBulkAll m
  | [], m => by simp [Rows.uptoBulkAll]
  | d :: l, m => by rw [List.cons_append, Rows.uptoBulkAll, Rows.uptoBulkAll, bulkAll_app l m]; omega
theorem bulk_one {H : Type} (d : DataW H) : 1 ≤ Rows.uptoBulk d := by
  cases d with
  | lit l => cases l <;> simp [Rows.uptoBulk]
  | _ => simp [Rows.uptoBulk]
theorem bulk_sum {H : Type} {α : Type} (sz : α → Nat) (D : Nat → DataW H) : ∀ (n : Nat) (l : List α), l.length = n → (∀ i z, l[i]? = some z → sz z ≤ Rows.uptoBulk (D i)) → (l.map sz).sum ≤ Rows.uptoBulkAll ((List.range n).map D)
  | 0, l, h, _ => by rw [List.length_eq_zero_iff.1 h]; simp
  | n + 1, l, h, hz => by
    have hl : l = l.take n ++ [l[n]] := by
      rw [List.take_append_getElem]
      rw [List.take_of_length_le (by omega)]
    have ih := bulk_sum sz D n (l.take n) (by rw [List.length_take]; omega) (fun i z hi => hz i z (by
      rw [List.getElem?_take] at hi
      split at hi
      · exact hi
      · cases hi))
    have h1 := hz n l[n] (List.getElem?_eq_getElem (by omega))
    have e : (l.map sz).sum = ((l.take n).map sz).sum + sz l[n] := by
      conv => lhs; rw [hl]
      rw [List.map_append, List.sum_append]; simp
    rw [e, List.range_succ, List.map_append, bulkAll_app]
    simp only [List.map_cons, List.map_nil, Rows.uptoBulkAll]
    omega
section
variable {H : Type} {enc : TypeId × Value → H} {P : Program} {w : World}
theorem list_ofB {α : Type} {p : Nat → α → Prop} : ∀ (m : Nat), (∀ i, i < m → ∃ z, p i z) → ∃ l : List α, l.length = m ∧ ∀ i z, l[i]? = some z → p i z
  | 0, _ => ⟨[], rfl, fun i z h => by simp at h⟩
  | m + 1, h => by
    obtain ⟨l, hl, hp⟩ := list_ofB m fun i hi => h i (by omega)
    obtain ⟨z, hz⟩ := h m (by omega)
    refine ⟨l ++ [z], by simp [hl], fun i y hy => ?_⟩
    rcases Nat.lt_or_ge i l.length with hi | hi
    · rw [List.getElem?_append_left hi] at hy; exact hp i y hy
    · rw [List.getElem?_append_right hi] at hy
      have : i = m := by
        rcases Nat.eq_zero_or_pos (i - l.length) with h0 | h0
        · omega
        · rw [List.getElem?_eq_none (by simp; omega)] at hy; cases hy
      subst this
      rw [hl, Nat.sub_self] at hy
      cases hy; exact hz
/-- a slice, read row by row, with how much the rows hold -/
theorem open_rowsB {α : Type} (R : World → α → List Value → Prop) (sz : α → Nat) (k : Nat) {t e : TypeId} {fuel : Nat} {v : Value} {x : DataW H × List MemPlace} (ht : P.underlying t = some (.slice e)) (hk : 0 < k)
    (hC : P.cellsOf e = k) (h : DataW.trod enc P w 0 (fun _ => true) true fuel t [v] = some x) (hlt : ∀ q ∈ x.2, q.block < w.heap.size)
    (hrow : ∀ cs y n, DataW.trod enc P w 0 (fun _ => true) true n e cs = some y → cs.length = k → (∀ q ∈ y.2, q.block < w.heap.size) → ∃ z : α, R w z cs ∧ sz z ≤ Rows.uptoBulk y.1) :
    ∃ l : List α, RowsD R k w v l ∧ (l.map sz).sum ≤ Rows.uptoBulk x.1 := by
  rcases open_slice ht h with ⟨hcs, hx⟩ | ⟨a, len, cap, m, n, D, Pl, hcs, -, hl, hm, hmm, hx, hi⟩
  · obtain rfl : v = .slice none 0 0 := by simpa using hcs
    exact ⟨[], ⟨[], ⟨none, 0, rfl, by simp, by unfold maxLen; omega, .inl rfl⟩, rfl, fun i x r hx => by simp at hx⟩, Nat.zero_le _⟩
  · obtain rfl : v = .slice (some a) len cap := by simpa using hcs
    simp only [if_true] at hmm
    subst m
    rw [hC] at hx hi
    obtain ⟨l, hll, hp⟩ := list_ofB (p := fun i (z : α × List Value) => R w z.1 z.2 ∧ sz z.1 ≤ Rows.uptoBulk (D i) ∧ ∀ (j : Nat) v, z.2[j]? = some v → w.cell? (a.add (i * k + j)) = some v) len (fun i hil => by
      obtain ⟨cs, hc, htr⟩ := hi i (by omega)
      obtain ⟨-, hlen, hat⟩ := World.cells?_some hc
      obtain ⟨z, hR, hq⟩ := hrow cs _ _ htr hlen (fun q hq => hlt q (by
        rw [hx]
        refine List.mem_append_right _ (List.mem_flatMap.2 ⟨i, List.mem_range.2 (by omega), hq⟩)))
      refine ⟨(z, cs), hR, hq, fun j v hj => ?_⟩
      have hjk : j < k := by rw [← hlen]; exact (List.getElem?_eq_some_iff.1 hj).1
      have := hat j hjk
      rw [add_add, hj] at this
      exact this)
    refine ⟨l.map (·.1), ⟨l.map (·.2), ⟨some a, cap, by rw [List.length_map, hll], by rw [List.length_map]; omega, hm, ?_⟩, by simp, fun i x r hx hr => ?_⟩, ?_⟩
    · by_cases h0 : len = 0
      · left; rw [List.length_eq_zero_iff.1 (hll.trans h0)]; rfl
      · right
        obtain ⟨cs, hc, -⟩ := hi 0 (by omega)
        obtain ⟨-, hlen, hat⟩ := World.cells?_some hc
        have h00 := hat 0 hk
        rw [List.getElem?_eq_getElem (by omega)] at h00
        obtain ⟨g, o, spot⟩ := a
        have hspot : spot = none := by simpa [Addr.add] using World.cell?_spot h00
        subst hspot
        refine ⟨g, o, rfl, hlt (.cell g o) (by rw [hx]; exact List.mem_append_left _ (MemPlace.mem_row.2 ⟨0, Nat.mul_pos (by omega) hk, by simp⟩)), fun j x hj i y hy => ?_⟩
        rw [List.getElem?_map] at hj
        obtain ⟨z, hz, rfl⟩ := Option.map_eq_some_iff.1 hj
        have h9 := (hp j z hz).2.2 i y hy
        rw [Go.WideShapes.add_plain, ← Nat.add_assoc] at h9
        exact h9
    · rw [List.getElem?_map] at hx hr
      cases hz : l[i]? with
      | none => rw [hz] at hx; cases hx
      | some z =>
        rw [hz] at hx hr
        cases hx; cases hr
        exact (hp i z hz).1
    · rw [hx, List.map_map]
      simp only [Rows.uptoBulk]
      have := bulk_sum (fun z : α × List Value => sz z.1) D len l hll (fun i z hz => (hp i z hz).2.1)
      rw [show ((sz ∘ fun x : α × List Value => x.1)) = fun z : α × List Value => sz z.1 from rfl]
      omega
end
theorem rowsAt_of {α : Type} {f : α → List Value} {k : Nat} {w : World} {v : Value} {l : List α} (h : RowsD (fun _ x r => r = f x) k w v l) : RowsAt w v k (l.map f) := by
  obtain ⟨rows, h1, h2, h3⟩ := h
  have e : rows = l.map f := by
    refine List.ext_getElem? fun i => ?_
    rw [List.getElem?_map]
    rcases Nat.lt_or_ge i l.length with hi | hi
    · have hx := List.getElem?_eq_getElem hi
      have hr := List.getElem?_eq_getElem (show i < rows.length by omega)
      rw [hx, hr, h3 i _ _ hx hr]; rfl
    · rw [List.getElem?_eq_none (by omega), List.getElem?_eq_none hi]; rfl
  rw [← e]; exact h1
/-- how much a command, a pipeline holds -/
def szC (c : Cm) : Nat := c.name.length + (c.args.map fun a => a.length + 1).sum + (c.red.map fun r => r.2.length + 1).sum + 1
def szP (p : Pl) : Nat := (p.cmds.map szC).sum + 1
section
variable {H : Type} {enc : TypeId × Value → H} {W : World}
set_option maxRecDepth 100000 in
theorem row_word (cs : List Value) (y : DataW H × List MemPlace) (n : Nat) (h : DataW.trod enc Tryd.prog W 0 (fun _ => true) true n 9 cs = some y) (_ : cs.length = 1) (_ : ∀ q ∈ y.2, q.block < W.heap.size) :
    ∃ z : List UInt8, cs = [.string ⟨z.toArray⟩] ∧ z.length + 1 ≤ Rows.uptoBulk y.1 := by
  obtain ⟨s, e, ey, -⟩ := DataW.trod_string Tryd.underlying9 h
  subst e
  refine ⟨s.data.toList, by cases s; simp, ?_⟩
  rw [ey]
  simp [Rows.uptoBulk]
set_option maxRecDepth 100000 in
theorem row_red (cs : List Value) (y : DataW H × List MemPlace) (n : Nat) (h : DataW.trod enc Tryd.prog W 0 (fun _ => true) true n 77 cs = some y) (hl : cs.length = 2) (_ : ∀ q ∈ y.2, q.block < W.heap.size) :
    ∃ z : Int × List UInt8, cs = [.int .i64 z.1, .string ⟨z.2.toArray⟩] ∧ z.2.length + 1 ≤ Rows.uptoBulk y.1 := by
  match cs, hl with
  | [c0, c1], _ =>
    obtain ⟨xs, m, -, hx, -, hxl, hg⟩ := DataW.trod_struct Tryd.underlying77 h
    match xs, hxl with
    | [x0, x1], _ =>
      have g0 : DataW.trod enc Tryd.prog W 0 (fun _ => true) true m 3 [c0] = some x0 := hg 0 _ rfl
      have g1 : DataW.trod enc Tryd.prog W 0 (fun _ => true) true m 9 [c1] = some x1 := hg 1 _ rfl
      obtain ⟨i0, e0, -, -⟩ := DataW.trod_int Tryd.underlying3 g0
      obtain ⟨s, e1, ey, -⟩ := DataW.trod_string Tryd.underlying9 g1
      cases e0; cases e1
      refine ⟨(i0, s.data.toList), by cases s; simp, ?_⟩
      rw [hx]
      simp only [List.map_cons, List.map_nil, Rows.uptoBulk, Rows.uptoBulkAll, ey]
      omega
set_option maxRecDepth 100000 in
theorem row_cmd (cs : List Value) (y : DataW H × List MemPlace) (n : Nat) (h : DataW.trod enc Tryd.prog W 0 (fun _ => true) true n 40 cs = some y) (hl : cs.length = 4) (hq : ∀ q ∈ y.2, q.block < W.heap.size) :
    ∃ z : Cm, CmD W z cs ∧ szC z ≤ Rows.uptoBulk y.1 := by
  match cs, hl with
  | [c0, c1, c2, c3], _ =>
    obtain ⟨xs, m, -, hx, -, hxl, hg⟩ := DataW.trod_struct Tryd.underlying40 h
    match xs, hxl with
    | [x0, x1, x2], _ =>
      have t2 : Tryd.prog.cellsOf 37 = 2 := by kernel_rfl
      have g0 : DataW.trod enc Tryd.prog W 0 (fun _ => true) true m 37 [c0, c1] = some x0 := by
        have : DataW.trod enc Tryd.prog W 0 (fun _ => true) true m 37 (List.take (Tryd.prog.cellsOf 37) [c0, c1, c2, c3]) = some x0 := hg 0 _ rfl
        rw [t2] at this
        exact this
      have g1 : DataW.trod enc Tryd.prog W 0 (fun _ => true) true m 38 [c2] = some x1 := hg 1 _ rfl
      have g2 : DataW.trod enc Tryd.prog W 0 (fun _ => true) true m 3 [c3] = some x2 := hg 2 _ rfl
      obtain ⟨zs, m2, -, hz, -, hzl, hh⟩ := DataW.trod_struct Tryd.underlying37 g0
      match zs, hzl with
      | [z0, z1], _ =>
        have h0 : DataW.trod enc Tryd.prog W 0 (fun _ => true) true m2 9 [c0] = some z0 := hh 0 _ rfl
        have h1 : DataW.trod enc Tryd.prog W 0 (fun _ => true) true m2 35 [c1] = some z1 := hh 1 _ rfl
        obtain ⟨s, e0, ey, -⟩ := DataW.trod_string Tryd.underlying9 h0
        obtain ⟨i3, e3, -, -⟩ := DataW.trod_int Tryd.underlying3 g2
        cases e0; cases e3
        have p1 : ∀ q ∈ z1.2, q.block < W.heap.size := fun q h => hq q (by rw [hx]; simp [hz, h])
        have p2 : ∀ q ∈ x1.2, q.block < W.heap.size := fun q h => hq q (by rw [hx]; simp [h])
        obtain ⟨A, r1, b1⟩ := open_rowsB (fun _ (z : List UInt8) r => r = [.string ⟨z.toArray⟩]) (fun a => a.length + 1) 1 Tryd.underlying35 (by decide) (by kernel_rfl) h1 p1 row_word
        obtain ⟨R, r2, b2⟩ := open_rowsB (fun _ (z : Int × List UInt8) r => r = [.int .i64 z.1, .string ⟨z.2.toArray⟩]) (fun a => a.2.length + 1) 2 Tryd.underlying38 (by decide) (by kernel_rfl) g1 p2 row_red
        refine ⟨⟨s.data.toList, A, R, i3⟩, ⟨c1, c2, by cases s; simp, rowsAt_of r1, rowsAt_of r2⟩, ?_⟩
        rw [hx]
        simp only [List.map_cons, List.map_nil, Rows.uptoBulk, Rows.uptoBulkAll, hz, ey, szC]
        omega
set_option maxRecDepth 100000 in
theorem row_pip (cs : List Value) (y : DataW H × List MemPlace) (n : Nat) (h : DataW.trod enc Tryd.prog W 0 (fun _ => true) true n 34 cs = some y) (hl : cs.length = 3) (hq : ∀ q ∈ y.2, q.block < W.heap.size) :
    ∃ z : Pl, PlD W z cs ∧ szP z ≤ Rows.uptoBulk y.1 := by
  match cs, hl with
  | [c0, c1, c2], _ =>
    obtain ⟨xs, m, -, hx, -, hxl, hg⟩ := DataW.trod_struct Tryd.underlying34 h
    match xs, hxl with
    | [x0, x1, x2], _ =>
      have g0 : DataW.trod enc Tryd.prog W 0 (fun _ => true) true m 32 [c0] = some x0 := hg 0 _ rfl
      have g1 : DataW.trod enc Tryd.prog W 0 (fun _ => true) true m 4 [c1] = some x1 := hg 1 _ rfl
      have g2 : DataW.trod enc Tryd.prog W 0 (fun _ => true) true m 3 [c2] = some x2 := hg 2 _ rfl
      obtain ⟨b1, e1, -⟩ := DataW.trod_bool Tryd.underlying4 g1
      obtain ⟨i2, e2, -, -⟩ := DataW.trod_int Tryd.underlying3 g2
      cases e1; cases e2
      have p0 : ∀ q ∈ x0.2, q.block < W.heap.size := fun q h => hq q (by rw [hx]; simp [h])
      obtain ⟨C, r0, b0⟩ := open_rowsB CmD szC 4 Tryd.underlying32 (by decide) (by kernel_rfl) g0 p0 row_cmd
      refine ⟨⟨C, b1, i2⟩, ⟨c0, rfl, r0⟩, ?_⟩
      rw [hx]
      simp only [List.map_cons, List.map_nil, Rows.uptoBulk, Rows.uptoBulkAll, szP]
      omega
set_option maxRecDepth 100000 in
theorem open_script {b0 : Nat} {v : Value} {d : DataW H} {p : List MemPlace} (hv : Value.okWide Tryd.prog W .any b0 24 v) (h : DataW.Trod enc Tryd.prog W 0 (fun _ => true) true 24 v d p) (hlt : ∀ x ∈ p, x.block < W.heap.size) :
    ∃ (v0 : Value) (l : List Pl), v = .agg #[v0] ∧ PlsD W v0 l ∧ (l.map szP).sum ≤ Rows.uptoBulk d := by
  have hs := Tryd.underlying24
  obtain ⟨cs, rfl, hsz⟩ := okWide_struct hs hv
  obtain ⟨l⟩ := cs
  have hC : Tryd.prog.cellsOf 24 = 1 := by kernel_rfl
  match l, hsz.trans hC with
  | [c0], _ =>
    obtain ⟨fuel, hf⟩ := h
    obtain ⟨xs, n, _, hx, _, hlen, hg⟩ := DataW.trod_struct hs hf
    match xs, hlen with
    | [x0], _ =>
      simp only [Prod.mk.injEq] at hx
      obtain ⟨hx1, hx2⟩ := hx
      have g0 : DataW.trod enc Tryd.prog W 0 (fun _ => true) true n 22 [c0] = some x0 := hg 0 _ rfl
      have p0 : ∀ q ∈ x0.2, q.block < W.heap.size := fun q h => hlt q (by rw [hx2]; simp [h])
      obtain ⟨L, r0, b0⟩ := open_rowsB PlD szP 3 Tryd.underlying22 (by decide) (by kernel_rfl) g0 p0 row_pip
      refine ⟨c0, L, rfl, r0, ?_⟩
      rw [hx1]
      simp only [List.map_cons, List.map_nil, Rows.uptoBulk, Rows.uptoBulkAll]
      omega
end
theorem sum_mem {α : Type} (f : α → Nat) {l : List α} {x : α} (h : x ∈ l) : f x ≤ (l.map f).sum := by
  induction l with
  | nil => cases h
  | cons y l ih =>
    rw [List.map_cons, List.sum_cons]
    rcases List.mem_cons.1 h with rfl | h
    · omega
    · have := ih h; omega
theorem sum_flat {α : Type} (f : α → List UInt8) (g : α → Nat) (c : Nat) (h : ∀ x, (f x).length ≤ c * g x) : ∀ l : List α, (l.flatMap f).length ≤ c * (l.map g).sum
  | [] => by simp
  | x :: l => by
    have := sum_flat f g c h l
    have := h x
    rw [List.flatMap_cons, List.length_append, List.map_cons, List.sum_cons, Nat.mul_add]; omega
/-- the printed form is not much longer than the script -/
theorem cmT_sz (c : Cm) : (cmT c).length ≤ 8 * szC c := by
  have h1 := quote_len c.name
  have h2 := sum_flat (fun a : List UInt8 => 32 :: quoteL a) (fun a => a.length + 1) 8 (fun a => by have := quote_len a; simp only [List.length_cons]; omega) c.args
  have h3 := sum_flat (fun r : Int × List UInt8 => mkR r.1 ++ quoteL r.2) (fun r => r.2.length + 1) 8 (fun r => by have := quote_len r.2; have := mkR_len r.1; simp only [List.length_append]; omega) c.red
  unfold cmT argsT redsT szC
  simp only [List.length_append]
  omega
theorem cmsT_sz (l : List Cm) : (cmsT l).length ≤ 16 * (l.map szC).sum := by
  cases l with
  | nil => simp [cmsT]
  | cons c l =>
    have h1 := cmT_sz c
    have h2 := sum_flat (fun d : Cm => [32, 124, 32] ++ cmT d) szC 16 (fun d => by have := cmT_sz d; simp only [List.length_append, List.length_cons, List.length_nil]; unfold szC at *; omega) l
    show (cmT c ++ barsT l).length ≤ _
    unfold barsT
    rw [List.length_append, List.map_cons, List.sum_cons, Nat.mul_add]
    omega
theorem plT_sz (p : Pl) : (plT p).length ≤ 16 * szP p := by
  have h1 := cmsT_sz p.cmds
  unfold plT szP
  have : (noT p.no).length ≤ 2 := by unfold noT; split <;> simp
  rw [List.length_append]; omega
theorem scT_sz (l : List Pl) : (scT l).length ≤ 32 * (l.map szP).sum + 1 := by
  cases l with
  | nil => simp [scT, scP]
  | cons p l =>
    have h1 := plT_sz p
    have h2 := sum_flat (fun q : Pl => btw q.conn ++ plT q) szP 32 (fun q => by
      have := plT_sz q
      have : (btw q.conn).length ≤ 4 := by unfold btw; split; simp; split <;> simp
      simp only [List.length_append]
      unfold szP at *; omega) l
    have e : scT (p :: l) = plT p ++ moreT l ++ [10] := by unfold scT scP; simp
    rw [e]
    unfold moreT
    simp only [List.length_append, List.length_cons, List.length_nil, List.map_cons, List.sum_cons]
    omega
theorem szL_of {l : List Pl} (h : (l.map szP).sum ≤ 1048576) : SzL l ∧ (scT l).length ≤ 17592186044416 := by
  refine ⟨fun p hp c hc => ?_, by have := scT_sz l; omega⟩
  have h1 := sum_mem szP hp
  have h2 := sum_mem szC hc
  have h3 : szC c ≤ 1048576 := by
    have h4 : (p.cmds.map szC).sum + 1 ≤ (l.map szP).sum := h1
    omega
  unfold szC at h3
  exact ⟨by omega, fun a ha => by have := sum_mem (fun a : List UInt8 => a.length + 1) ha; omega, fun r hr => by have := sum_mem (fun r : Int × List UInt8 => r.2.length + 1) hr; omega⟩
end Go.Proofs.YtlhagpfpcdedpaaDoor
