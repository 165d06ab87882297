/- lists of strings in memory -/
import Derived.Test.YtnkpigibjicmaaaDoorTa
import Derived.SliceStrings
import Derived.Carry
namespace Go.Proofs.YtnkpigibjicmaaaDoor
open Go.RowKit
open Go.ChangeShapes Go.WideShapes
/-- a list of strings that lies in memory behind a value -/
def Strs (w : World) (v : Value) (L : List ByteArray) : Prop :=
  ∃ (a : Option Addr) (cap : Nat), v = .slice a L.length cap ∧ L.length ≤ cap ∧ cap ≤ maxLen ∧
    (L = [] ∨ ∃ g o, a = some ⟨g, o, none⟩ ∧ g < w.heap.size ∧ ∀ (j : Nat) x, L[j]? = some x → w.cell? ⟨g, o + j, none⟩ = some (.string x))
theorem Strs.below {w w' : World} {v : Value} {L : List ByteArray} (h : Strs w v L) (hb : Below w.heap.size w w') : Strs w' v L := by
  obtain ⟨a, cap, rfl, h1, h2, h3⟩ := h
  refine ⟨a, cap, rfl, h1, h2, ?_⟩
  rcases h3 with h3 | ⟨g, o, rfl, hg, hc⟩
  · exact .inl h3
  · exact .inr ⟨g, o, rfl, Nat.lt_of_lt_of_le hg hb.size, fun j x hj => (hb.cell (p := ⟨g, o + j, none⟩) hg).trans (hc j x hj)⟩
theorem Strs.nil {w : World} {v : Value} (h : Strs w v []) : ∃ a cap, v = .slice a 0 cap := by
  obtain ⟨a, cap, rfl, _⟩ := h; exact ⟨a, cap, rfl⟩
theorem Strs.cons {w : World} {v : Value} {L : List ByteArray} (h : Strs w v L) (hL : L ≠ []) : ∃ g o cap, v = .slice (some ⟨g, o, none⟩) L.length cap ∧ L.length ≤ cap ∧ cap ≤ maxLen ∧ g < w.heap.size ∧ ∀ (j : Nat) x, L[j]? = some x → w.cell? ⟨g, o + j, none⟩ = some (.string x) := by
  obtain ⟨a, cap, rfl, h1, h2, h3 | ⟨g, o, rfl, hg, hc⟩⟩ := h
  · exact absurd h3 hL
  · exact ⟨g, o, cap, rfl, h1, h2, hg, hc⟩
theorem Strs.len {w : World} {v : Value} {L : List ByteArray} (h : Strs w v L) : L.length ≤ maxLen := by
  obtain ⟨a, cap, rfl, h1, h2, _⟩ := h; omega
theorem Strs.empty (w : World) : Strs w (.slice none 0 0) [] := ⟨none, 0, rfl, Nat.le_refl _, by unfold maxLen; omega, .inl rfl⟩
/-- a new block of strings -/
theorem Strs.block {w : World} {g : Nat} {T : TypeId} {L : List ByteArray} (h : w.heap[g]? = some (.cells ((L.map Value.string).toArray) T (0, 0))) (hl : L.length ≤ maxLen) : Strs w (.slice (some ⟨g, 0, none⟩) L.length L.length) L := by
  refine ⟨_, _, rfl, Nat.le_refl _, hl, .inr ⟨g, 0, rfl, (Array.getElem?_eq_some_iff.1 h).1, fun j x hj => ?_⟩⟩
  rw [Nat.zero_add]
  simp [World.cell?, h, hj]
theorem Strs.take {w : World} {g o cap : Nat} {L : List ByteArray} {n : Nat} (h : Strs w (.slice (some ⟨g, o, none⟩) L.length cap) L) (hn : n ≤ L.length) (c : Nat) (hc : n ≤ c) (hm : c ≤ maxLen) : Strs w (.slice (some ⟨g, o, none⟩) n c) (L.take n) := by
  have hl : (L.take n).length = n := by rw [List.length_take]; omega
  obtain ⟨a, cap', e, h1, h2, h3⟩ := h
  simp only [Value.slice.injEq] at e
  obtain ⟨rfl, _, rfl⟩ := e
  refine ⟨_, c, by rw [hl], by omega, hm, ?_⟩
  rcases h3 with h3 | ⟨g', o', e, hg, hk⟩
  · left; subst h3; simp
  · right
    refine ⟨g', o', e, hg, fun j x hj => hk j x ?_⟩
    rw [List.getElem?_take] at hj
    split at hj
    · exact hj
    · cases hj
/-- the bytes of a list of strings -/
def tot (L : List ByteArray) : Nat := (L.map (·.size)).sum
theorem tot_cons (x : ByteArray) (L : List ByteArray) : tot (x :: L) = x.size + tot L := by simp [tot]
theorem tot_mem {L : List ByteArray} {x : ByteArray} (h : x ∈ L) : x.size ≤ tot L := by
  induction L with
  | nil => cases h
  | cons y r ih =>
    rw [tot_cons]
    rcases List.mem_cons.1 h with rfl | h
    · omega
    · have := ih h; omega
/-- an argument that is a list of strings -/
theorem open_strl {H : Type} {enc : TypeId × Value → H} {P : Program} {W : World} {b0 : Nat} {t e : TypeId} {v : Value} {d : DataW H} {p : List MemPlace} (ht : P.underlying t = some (.slice e)) (he : P.underlying e = some .string) (hc : P.cellsOf e = 1)
    (hval : Value.okWide P W .any b0 t v) (h : DataW.Trod enc P W 0 (fun _ => true) true t v d p) (hlt : ∀ x ∈ p, x.block < W.heap.size) :
    ∃ (L R : List ByteArray), Strs W v L ∧ (d = .nil ∧ L = [] ∨ d = .slice (strs L) (strs R)) := by
  obtain ⟨a0, len, cap, rfl⟩ := okWide_slice ht hval
  obtain ⟨fuel, hf⟩ := h
  rcases open_strings ht he hc hf with ⟨hcs, hx⟩ | ⟨a, len', cap', ss, hcs, _, hl, hm, hz, hx, hcell, hws⟩
  · simp [Value.cells] at hcs
    obtain ⟨rfl, rfl, rfl⟩ := hcs
    simp only [Prod.mk.injEq] at hx
    exact ⟨[], [], Strs.empty W, .inl ⟨hx.1, rfl⟩⟩
  · simp [Value.cells] at hcs
    obtain ⟨rfl, rfl, rfl⟩ := hcs
    simp only [Prod.mk.injEq] at hx
    obtain ⟨rfl, rfl⟩ := hx
    simp only [if_true] at hz
    have hl' : (ss.take len).length = len := by rw [List.length_take]; omega
    refine ⟨ss.take len, ss.drop len, ⟨some a, cap, by rw [hl'], by omega, hm, ?_⟩, .inr rfl⟩
    by_cases h0 : len = 0
    · left; subst h0; simp
    · right
      obtain ⟨g, o, spot⟩ := a
      have hspot : spot = none := by simpa [Addr.add] using World.cell?_spot (hcell 0 (by omega))
      subst hspot
      refine ⟨g, o, rfl, hlt (.cell g o) (MemPlace.mem_row.2 ⟨0, by omega, by simp⟩), fun j x hj => ?_⟩
      rw [List.getElem?_take] at hj
      split at hj
      · have h1 := hcell j (by omega)
        rw [add_plain, List.getD_eq_getElem?_getD, hj] at h1
        exact h1
      · cases hj
end Go.Proofs.YtnkpigibjicmaaaDoor
