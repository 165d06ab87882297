/- plain: positions and lines -/
import Derived.Test.YtnkpigibjicmaaaDoorLplain
namespace Tx
open Go
/-- where the first k bytes of a text end: lines before, bytes in the last one -/
theorem place (s : ByteArray) (k : Nat) (hk : k ≤ s.size) : ∃ out cur, spl (s.data.toList.take k) = out ++ [cur] ∧ pLine (s.data.toList.take k) = out.length + 1 ∧ pCol (s.data.toList.take k) 1 = cur.length + 1 ∧ full out + cur.length = k := by
  obtain ⟨out, cur, e⟩ := spl_ex (s.data.toList.take k)
  obtain ⟨a1, a2, _, _, a5⟩ := spl_size _ out cur e
  have hl : (s.data.toList.take k).length = k := by rw [List.length_take, ← size_len]; omega
  refine ⟨out, cur, e, ?_, ?_, by omega⟩
  · unfold pLine; rw [← a2]; omega
  · rw [a5 1]; split <;> omega
theorem place_le (s : ByteArray) (k k' : Nat) (h : k ≤ k') (hk : k' ≤ s.size) :
    pLine (s.data.toList.take k) < pLine (s.data.toList.take k') ∨ (pLine (s.data.toList.take k) = pLine (s.data.toList.take k') ∧ pCol (s.data.toList.take k') 1 = pCol (s.data.toList.take k) 1 + (k' - k)) := by
  obtain ⟨out, cur, e, l1, c1, f1⟩ := place s k (by omega)
  obtain ⟨out', cur', e', l2, c2, f2⟩ := place s k' hk
  have hs : s.data.toList.take k' = s.data.toList.take k ++ (s.data.toList.drop k).take (k' - k) := by
    rw [← List.take_add]; congr 1; omega
  obtain ⟨h1, t, hr, hsp⟩ := spl_app _ out cur ((s.data.toList.drop k).take (k' - k)) e
  rw [← hs, e'] at hsp
  rw [l1, l2, c1, c2]
  have hlen : ((s.data.toList.drop k).take (k' - k)).length = k' - k := by rw [List.length_take, List.length_drop, ← size_len]; omega
  cases t with
  | nil =>
    have e2 := List.append_inj' hsp rfl
    right
    obtain ⟨b1, _⟩ := spl_size _ [] h1 hr
    rw [hlen] at b1
    have e3 : cur' = cur ++ h1 := (List.cons.inj e2.2).1
    rw [e2.1, e3, List.length_append]
    simp [full] at b1
    omega
  | cons x y =>
    left
    have := congrArg List.length hsp
    simp only [List.length_append, List.length_cons, List.length_nil] at this
    omega
/-- the sizes of lines with their line feeds -/
def fullB (L : List ByteArray) : Nat := (L.map (fun x => x.size + 1)).sum
theorem fullB_full (L : List ByteArray) : fullB L = full (L.map (·.data.toList)) := by
  unfold fullB full; rw [List.map_map]
  congr 1
theorem fullB_snoc (L : List ByteArray) (j : Nat) (h : j < L.length) : fullB (L.take (j + 1)) = fullB (L.take j) + L[j].size + 1 := by
  rw [List.take_succ_eq_append_getElem h]
  simp only [fullB, List.map_append, List.sum_append, List.map_cons, List.map_nil, List.sum_cons, List.sum_nil]; omega
theorem fullB_le (L : List ByteArray) : ∀ (j q : Nat), j ≤ q → fullB (L.take j) ≤ fullB (L.take q) := by
  induction L with
  | nil => intro j q _; simp
  | cons x r ih =>
    intro j q h
    cases j with
    | zero => simp [fullB]
    | succ j =>
      cases q with
      | zero => omega
      | succ q =>
        have := ih j q (by omega)
        simp [fullB] at *; omega
theorem fullB_ge (L : List ByteArray) : L.length ≤ fullB L := by
  induction L with
  | nil => simp
  | cons x r ih => simp [fullB] at *; omega
/-- what the law on counts needs of a position: the lines ahead of it make it, with its column -/
theorem count_facts (s : ByteArray) (k : Nat) (hk : k ≤ s.size) (L : List ByteArray) (hL : L.map (·.data.toList) = lin s.data.toList) :
    ∃ q c : Nat, pLine (s.data.toList.take k) = q + 1 ∧ pCol (s.data.toList.take k) 1 = c + 1 ∧ q ≤ L.length ∧ c + fullB (L.take q) = k := by
  obtain ⟨out, cur, e, l1, c1, f1⟩ := place s k hk
  obtain ⟨h, t, hr, hsp⟩ := spl_app _ out cur (s.data.toList.drop k) e
  rw [List.take_append_drop] at hsp
  refine ⟨out.length, cur.length, l1, c1, ?_, ?_⟩
  · have := congrArg List.length hL
    rw [List.length_map] at this
    rw [this]; unfold lin; rw [hsp]
    split
    · simp
    · simp
  · rw [fullB_full, List.map_take, hL]
    have ht : (lin s.data.toList).take out.length = out := by
      unfold lin; rw [hsp]
      split
      · rw [List.dropLast_append_of_ne_nil (by simp)]; simp
      · simp
    rw [ht]; omega
end Tx
