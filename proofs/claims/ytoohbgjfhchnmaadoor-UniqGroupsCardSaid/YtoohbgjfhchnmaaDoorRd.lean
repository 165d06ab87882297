/- arguments that are lists of strings, lists of Booleans -/
import Derived.Test.YtoohbgjfhchnmaaDoorRo
import Derived.Test.YtoohbgjfhchnmaaDoorRc
namespace Go.Proofs.YtoohbgjfhchnmaaDoor
open Go.Joins Go.ChangeShapes Go.WideShapes Go.RowKit Go.Deep Go.Maps
section
variable {H : Type} {enc : TypeId × Value → H} {P : Program} {w : World}
theorem mem_weights {e : TypeId} {d : DataW H} {q : Nat} : ∀ {l : List (DataW H)}, d ∈ l → q ∈ d.weights P e → q ∈ DataW.weightsAll P e l
  | [], h, _ => by cases h
  | x :: r, h, hq => by
    unfold DataW.weightsAll
    rcases List.mem_cons.1 h with rfl | h
    · exact List.mem_append_left _ hq
    · exact List.mem_append_right _ (mem_weights h hq)
/-- a slice, read row by row -/
theorem open_rowsw {α : Type} (R : α → List Value) (Q : α → Prop) (k : Nat) {t e : TypeId} {fuel b : Nat} {v : Value} {x : DataW H × List MemPlace} (ht : P.underlying t = some (.slice e)) (hk : 0 < k)
    (hC : P.cellsOf e = k) (hB : P.bytesOf e = b) (h : DataW.trod enc P w 0 (fun _ => true) true fuel t [v] = some x) (hlt : ∀ q ∈ x.2, q.block < w.heap.size) (hw : (x.1.weights P t).all (· ≤ reachBytes) = true)
    (hrow : ∀ cs y n, DataW.trod enc P w 0 (fun _ => true) true n e cs = some y → cs.length = k → (y.1.weights P e).all (· ≤ reachBytes) = true → ∃ z : α, Q z ∧ cs = R z) :
    ∃ l : List α, RowsAt w v k (l.map R) ∧ NZ v ∧ (∀ z ∈ l, Q z) ∧ l.length * b ≤ 140737488351232 := by
  rcases open_slice ht h with ⟨hcs, hx⟩ | ⟨a, len, cap, m, n, D, Pl, hcs, -, hl, hm, hmm, hx, hi⟩
  · obtain rfl : v = .slice none 0 0 := by simpa using hcs
    exact ⟨[], ⟨none, 0, rfl, by simp, by unfold maxLen; omega, .inl rfl⟩, (fun n cap hh => by cases hh; rfl), (fun z hz => by cases hz), by simp⟩
  · obtain rfl : v = .slice (some a) len cap := by simpa using hcs
    simp only [if_true] at hmm
    subst m
    rw [hC] at hx hi
    obtain ⟨l, hll, hp⟩ := list_of (p := fun i z => Q z ∧ ∀ (j : Nat) v, (R z)[j]? = some v → w.cell? (a.add (i * k + j)) = some v) len (fun i hil => by
      obtain ⟨cs, hc, htr⟩ := hi i (by omega)
      obtain ⟨-, hlen, hat⟩ := World.cells?_some hc
      obtain ⟨z, hq, rfl⟩ := hrow cs _ _ htr hlen (List.all_eq_true.2 fun q hq => List.all_eq_true.1 hw q (by rw [hx]; simp only [DataW.weights, ht]; exact List.mem_cons_of_mem _ (List.mem_append_left _ (mem_weights (List.mem_map.2 ⟨i, List.mem_range.2 hil, rfl⟩) hq))))
      refine ⟨z, hq, fun j v hj => ?_⟩
      have hjk : j < k := by rw [← hlen]; exact (List.getElem?_eq_some_iff.1 hj).1
      have := hat j hjk
      rw [add_add, hj] at this
      exact this)
    have hb : len * b ≤ 140737488351232 := by
      have h1 : ((cap : Nat) * b ≤ reachBytes) := by
        have := List.all_eq_true.1 hw (cap * b) (by
          rw [hx]; simp only [DataW.weights, ht, hB, List.length_map, List.length_range]
          rw [Nat.add_sub_cancel' hl]; exact List.mem_cons_self)
        simpa using this
      have h2 := Nat.mul_le_mul_right b hl
      unfold reachBytes at h1
      omega
    refine ⟨l, ⟨some a, cap, by rw [List.length_map, hll], by rw [List.length_map]; omega, hm, ?_⟩, (fun n cap hh => by cases hh), (fun z hz => ?_), by rw [hll]; exact hb⟩
    · by_cases h0 : len = 0
      · left; rw [List.length_eq_zero_iff.1 (hll.trans h0)]; rfl
      · right
        obtain ⟨cs, hc, -⟩ := hi 0 (by omega)
        obtain ⟨-, hlen, hat⟩ := World.cells?_some hc
        have h00 := hat 0 hk
        rw [List.getElem?_eq_getElem (by omega)] at h00
        obtain ⟨g, o, spot⟩ := a
        have hspot : spot = none := by simpa [Addr.add] using World.cell?_spot h00
        subst hspot
        refine ⟨g, o, rfl, hlt (.cell g o) (by rw [hx]; exact List.mem_append_left _ (MemPlace.mem_row.2 ⟨0, Nat.mul_pos (by omega) hk, by simp⟩)), fun j x hj i y hy => ?_⟩
        rw [List.getElem?_map] at hj
        obtain ⟨z, hz, rfl⟩ := Option.map_eq_some_iff.1 hj
        have h9 := (hp j z hz).2 i y hy
        rw [Go.WideShapes.add_plain, ← Nat.add_assoc] at h9
        exact h9
    · obtain ⟨i, hi'⟩ := List.mem_iff_getElem?.1 hz
      exact (hp i z hi').1
end
section
variable {H : Type} {enc : TypeId × Value → H} {W : World}
theorem open_lines {b0 : Nat} {v : Value} {d : DataW H} {p : List MemPlace} (hv : Value.okWide Tryd.prog W .any b0 29 v) (h : DataW.Trod enc Tryd.prog W 0 (fun _ => true) true 29 v d p) (hlt : ∀ x ∈ p, x.block < W.heap.size) (hw : (d.weights Tryd.prog 29).all (· ≤ reachBytes) = true) :
    ∃ L : List ByteArray, RowsAt W v 1 (strs L) ∧ (∀ x ∈ L, x.size ≤ 140737488351232) ∧ L.length * 16 ≤ 140737488351232 := by
  obtain ⟨a0, len, cap, rfl⟩ := okWide_slice Tryd.underlying29 hv
  obtain ⟨fuel, hf⟩ := h
  obtain ⟨L, r, -, q, z⟩ := open_rowsw (fun s : ByteArray => [.string s]) (fun s => s.size ≤ 140737488351232) 1 Tryd.underlying29 (by decide) (by kernel_rfl) (by kernel_rfl : Tryd.prog.bytesOf 9 = 16) hf hlt hw (fun cs y n ht _ hw => by
    obtain ⟨s, e, hx, -⟩ := DataW.trod_string Tryd.underlying9 ht
    refine ⟨s, ?_, e⟩
    subst hx
    have := List.all_eq_true.1 hw s.data.toList.length (by simp [DataW.weights])
    rw [Lib.size_eq]
    have h2 := of_decide_eq_true this
    unfold reachBytes at h2
    exact h2)
  exact ⟨L, r, q, z⟩
theorem open_bools {b0 : Nat} {v : Value} {d : DataW H} {p : List MemPlace} (hv : Value.okWide Tryd.prog W .any b0 34 v) (h : DataW.Trod enc Tryd.prog W 0 (fun _ => true) true 34 v d p) (hlt : ∀ x ∈ p, x.block < W.heap.size) (hw : (d.weights Tryd.prog 34).all (· ≤ reachBytes) = true) :
    ∃ L : List Bool, RowsAt W v 1 (L.map fun b => [.bool b]) := by
  obtain ⟨a0, len, cap, rfl⟩ := okWide_slice Tryd.underlying34 hv
  obtain ⟨fuel, hf⟩ := h
  obtain ⟨L, r, -, -, -⟩ := open_rowsw (fun b : Bool => [.bool b]) (fun _ => True) 1 Tryd.underlying34 (by decide) (by kernel_rfl) (by kernel_rfl : Tryd.prog.bytesOf 4 = 1) hf hlt hw (fun cs y n ht _ _ => by
    obtain ⟨s, e, -⟩ := DataW.trod_bool Tryd.underlying4 ht
    exact ⟨s, trivial, e⟩)
  exact ⟨L, r⟩
end
end Go.Proofs.YtoohbgjfhchnmaaDoor
