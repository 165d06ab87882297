/- plain: the words of a text -/
import Derived.Test.YtnkpigibjicmaaaDoorLplain
namespace Tx
open Go
def isSp (c : UInt8) : Bool := decide (c = 32) || decide (c = 9) || decide (c = 10)
/-- the words of a list of bytes, behind a part of a word -/
def wgo : List UInt8 → List UInt8 → List (List UInt8)
  | cur, [] => if cur = [] then [] else [cur]
  | cur, c :: r => if isSp c then (if cur = [] then wgo [] r else cur :: wgo [] r) else wgo (cur ++ [c]) r
def wrds (l : List UInt8) : List (List UInt8) := wgo [] l
theorem wgo_sp (cur r : List UInt8) (c : UInt8) (h : isSp c = true) : wgo cur (c :: r) = (if cur = [] then [] else [cur]) ++ wgo [] r := by
  simp only [wgo]; rw [if_pos h]; split <;> rfl
theorem wgo_no (cur r : List UInt8) (c : UInt8) (h : isSp c = false) : wgo cur (c :: r) = wgo (cur ++ [c]) r := by
  simp only [wgo]; rw [if_neg (by rw [h]; decide)]
/-- two texts with a space between them -/
theorem wgo_app (c : UInt8) (h : isSp c = true) : ∀ (l cur r : List UInt8), wgo cur (l ++ c :: r) = wgo cur l ++ wgo [] r := by
  intro l
  induction l with
  | nil => intro cur r; rw [List.nil_append, wgo_sp _ _ _ h]; rfl
  | cons x t ih =>
    intro cur r
    cases hx : isSp x
    · rw [List.cons_append, wgo_no _ _ _ hx, wgo_no _ _ _ hx]; exact ih _ r
    · rw [List.cons_append, wgo_sp _ _ _ hx, wgo_sp _ _ _ hx, ih, List.append_assoc]
/-- words hold no spaces and are not empty -/
theorem wgo_mem : ∀ (l cur : List UInt8), (∀ c ∈ cur, isSp c = false) → ∀ x ∈ wgo cur l, x ≠ [] ∧ ∀ c ∈ x, isSp c = false := by
  intro l
  induction l with
  | nil =>
    intro cur hc x hx
    simp only [wgo] at hx
    split at hx
    · cases hx
    · rename_i hne
      rw [List.mem_singleton] at hx; subst hx; exact ⟨hne, hc⟩
  | cons y t ih =>
    intro cur hc x hx
    cases hy : isSp y
    · rw [wgo_no _ _ _ hy] at hx
      refine ih (cur ++ [y]) (fun c h => ?_) x hx
      rcases List.mem_append.1 h with h | h
      · exact hc c h
      · rw [List.mem_singleton] at h; subst h; exact hy
    · rw [wgo_sp _ _ _ hy] at hx
      rcases List.mem_append.1 hx with h | h
      · split at h
        · cases h
        · rename_i hne
          rw [List.mem_singleton] at h; subst h; exact ⟨hne, hc⟩
      · exact ih [] (by simp) x h
theorem wgo_word : ∀ (l cur r : List UInt8), (∀ c ∈ l, isSp c = false) → wgo cur (l ++ r) = wgo (cur ++ l) r := by
  intro l
  induction l with
  | nil => intro cur r _; simp
  | cons x t ih =>
    intro cur r h
    rw [List.cons_append, wgo_no _ _ _ (h x (by simp)), ih _ _ (fun c hc => h c (by simp [hc]))]
    simp
/-- words with a space behind each -/
theorem wrds_sep (L : List (List UInt8)) (h : ∀ x ∈ L, x ≠ [] ∧ ∀ c ∈ x, isSp c = false) : wrds (L.flatMap (fun x => x ++ [32])) = L := by
  unfold wrds
  induction L with
  | nil => rfl
  | cons x r ih =>
    obtain ⟨h1, h2⟩ := h x (by simp)
    rw [List.flatMap_cons, List.append_assoc, wgo_word _ _ _ h2, List.nil_append, List.singleton_append, wgo_sp _ _ _ rfl, if_neg h1, ih (fun y hy => h y (by simp [hy]))]
    rfl
theorem wrds_wrds (l : List UInt8) : wrds ((wrds l).flatMap (fun x => x ++ [32])) = wrds l :=
  wrds_sep _ (wgo_mem l [] (by simp))
/-- the words take no more bytes than the text, each with one more -/
theorem wgo_size : ∀ (l cur : List UInt8), ((wgo cur l).map (fun x => x.length + 1)).sum ≤ cur.length + l.length + 1 := by
  intro l
  induction l with
  | nil => intro cur; simp only [wgo]; split <;> simp
  | cons x t ih =>
    intro cur
    cases hx : isSp x
    · rw [wgo_no _ _ _ hx]
      have := ih (cur ++ [x])
      simp only [List.length_append, List.length_cons, List.length_nil] at this ⊢; omega
    · rw [wgo_sp _ _ _ hx, List.map_append, List.sum_append]
      have := ih []
      have h2 : ((if cur = [] then [] else [cur]).map (fun x : List UInt8 => x.length + 1)).sum ≤ cur.length + 1 := by split <;> simp
      simp only [List.length_cons, List.length_nil] at this ⊢; omega
/-- the state of the loop over a text: the words so far, the part of the word at hand -/
structure WSt (s : ByteArray) (j : Nat) (f : Int) (L : List ByteArray) : Prop where
  len : L.length ≤ j
  at_ : (f = -1 ∧ L.map (·.data.toList) ++ wgo [] (s.data.toList.drop j) = wrds s.data.toList) ∨
    (∃ k : Nat, f = k ∧ k < j ∧ L.map (·.data.toList) ++ wgo (s.extract k j).data.toList (s.data.toList.drop j) = wrds s.data.toList)
theorem WSt.start (s : ByteArray) : WSt s 0 (-1) [] := ⟨Nat.le_refl _, .inl ⟨rfl, rfl⟩⟩
theorem drop_at (s : ByteArray) (j : Nat) (h : j < s.size) : s.data.toList.drop j = s[j] :: s.data.toList.drop (j + 1) := by
  rw [List.drop_eq_getElem_cons (by rw [← size_len]; exact h)]; rfl
theorem ext_ne (s : ByteArray) (k j : Nat) (h : k < j) (hj : j ≤ s.size) : (s.extract k j).data.toList ≠ [] := by
  intro e
  have := congrArg List.length e
  rw [← size_len, ByteArray.size_extract] at this
  simp at this; omega
theorem ext_snoc (s : ByteArray) (k j : Nat) (h : k ≤ j) (hj : j < s.size) : (s.extract k (j + 1)).data.toList = (s.extract k j).data.toList ++ [s[j]] := by
  rw [Lib.extract_data, Lib.extract_data, ← List.drop_take, ← List.drop_take, take_snoc s j hj, List.drop_append_of_le_length]
  rw [List.length_take, ← size_len]; omega
theorem WSt.sp_no {s : ByteArray} {j : Nat} {L : List ByteArray} (h : WSt s j (-1) L) (hj : j < s.size) (hs : isSp s[j] = true) : WSt s (j + 1) (-1) L := by
  obtain ⟨h1, h2 | ⟨k, e, _⟩⟩ := h
  · refine ⟨by omega, .inl ⟨rfl, ?_⟩⟩
    rw [← h2.2, drop_at s j hj, wgo_sp _ _ _ hs]; rfl
  · omega
theorem WSt.sp_yes {s : ByteArray} {j k : Nat} {L : List ByteArray} (h : WSt s j k L) (hj : j < s.size) (hs : isSp s[j] = true) : WSt s (j + 1) (-1) (L ++ [s.extract k j]) := by
  obtain ⟨h1, ⟨e, _⟩ | ⟨k', e, hk, h2⟩⟩ := h
  · omega
  · obtain rfl : k = k' := by omega
    refine ⟨by simp; omega, .inl ⟨rfl, ?_⟩⟩
    rw [← h2, drop_at s j hj, wgo_sp _ _ _ hs, if_neg (ext_ne s k j hk (by omega))]
    simp
theorem WSt.no_no {s : ByteArray} {j : Nat} {L : List ByteArray} (h : WSt s j (-1) L) (hj : j < s.size) (hs : isSp s[j] = false) : WSt s (j + 1) j L := by
  obtain ⟨h1, h2 | ⟨k, e, _⟩⟩ := h
  · refine ⟨by omega, .inr ⟨j, rfl, by omega, ?_⟩⟩
    rw [← h2.2, drop_at s j hj, wgo_no _ _ _ hs, ext_snoc s j j (Nat.le_refl _) hj]
    have : (s.extract j j).data.toList = [] := by
      apply List.eq_nil_of_length_eq_zero; rw [← size_len, ByteArray.size_extract]; omega
    rw [this]
  · omega
theorem WSt.no_yes {s : ByteArray} {j k : Nat} {L : List ByteArray} (h : WSt s j k L) (hj : j < s.size) (hs : isSp s[j] = false) : WSt s (j + 1) k L := by
  obtain ⟨h1, ⟨e, _⟩ | ⟨k', e, hk, h2⟩⟩ := h
  · omega
  · obtain rfl : k = k' := by omega
    refine ⟨by omega, .inr ⟨k, rfl, by omega, ?_⟩⟩
    rw [← h2, drop_at s j hj, wgo_no _ _ _ hs, ext_snoc s k j (by omega) hj]
theorem WSt.end_no {s : ByteArray} {L : List ByteArray} (h : WSt s s.size (-1) L) : L.map (·.data.toList) = wrds s.data.toList := by
  obtain ⟨h1, h2 | ⟨k, e, _⟩⟩ := h
  · rw [← h2.2, size_len, List.drop_length]; simp [wgo]
  · omega
theorem WSt.end_yes {s : ByteArray} {k : Nat} {L : List ByteArray} (h : WSt s s.size k L) : (L ++ [s.extract k s.size]).map (·.data.toList) = wrds s.data.toList := by
  obtain ⟨h1, ⟨e, _⟩ | ⟨k', e, hk, h2⟩⟩ := h
  · omega
  · obtain rfl : k = k' := by omega
    have ne := ext_ne s k s.size hk (Nat.le_refl _)
    rw [← h2]
    have : s.data.toList.drop s.size = [] := by rw [size_len, List.drop_length]
    rw [this]
    simp only [wgo]
    rw [if_neg ne]; simp
theorem WSt.lo {s : ByteArray} {j : Nat} {f : Int} {L : List ByteArray} (h : WSt s j f L) : f = -1 ∨ ∃ k : Nat, f = k ∧ k < j := by
  obtain ⟨_, ⟨e, _⟩ | ⟨k, e, hk, _⟩⟩ := h
  · exact .inl e
  · exact .inr ⟨k, e, hk⟩
/-- the state of the reference's loop over lines: the lines so far, where the line at hand begins -/
structure LSt (s : ByteArray) (j k : Nat) (L : List ByteArray) : Prop where
  len : L.length ≤ j
  lo : k ≤ j
  sp : spl (s.data.toList.take j) = L.map (·.data.toList) ++ [(s.extract k j).data.toList]
theorem ext_nil (s : ByteArray) (j : Nat) : (s.extract j j).data.toList = [] := by
  apply List.eq_nil_of_length_eq_zero; rw [← size_len, ByteArray.size_extract]; omega
theorem LSt.start (s : ByteArray) : LSt s 0 0 [] := ⟨Nat.le_refl _, Nat.le_refl _, by rw [ext_nil]; rfl⟩
theorem LSt.nl {s : ByteArray} {j k : Nat} {L : List ByteArray} (h : LSt s j k L) (hj : j < s.size) (hc : s[j] = 10) : LSt s (j + 1) (j + 1) (L ++ [s.extract k j]) := by
  obtain ⟨h1, h2, h3⟩ := h
  refine ⟨by simp; omega, Nat.le_refl _, ?_⟩
  rw [take_snoc s j hj, hc, spl_snoc_nl h3, ext_nil]; simp
theorem LSt.no {s : ByteArray} {j k : Nat} {L : List ByteArray} (h : LSt s j k L) (hj : j < s.size) (hc : s[j] ≠ 10) : LSt s (j + 1) k L := by
  obtain ⟨h1, h2, h3⟩ := h
  refine ⟨by omega, by omega, ?_⟩
  rw [take_snoc s j hj, spl_snoc hc h3, ext_snoc s k j h2 hj]
theorem LSt.fin_open {s : ByteArray} {k : Nat} {L : List ByteArray} (h : LSt s s.size k L) (hk : k < s.size) : (L ++ [s.extract k s.size]).map (·.data.toList) = lin s.data.toList ∧ linE s.data.toList = false := by
  have e := h.sp
  rw [List.take_of_length_le (by rw [← size_len]; exact Nat.le_refl _)] at e
  obtain ⟨f1, f2⟩ := lin_of e
  have ne := ext_ne s k s.size hk (Nat.le_refl _)
  exact ⟨by rw [f1, if_neg ne]; simp, by rw [f2, decide_eq_false ne]⟩
theorem LSt.fin_end {s : ByteArray} {k : Nat} {L : List ByteArray} (h : LSt s s.size k L) (hk : ¬ k < s.size) : L.map (·.data.toList) = lin s.data.toList ∧ linE s.data.toList = true := by
  have e := h.sp
  obtain rfl : k = s.size := by have := h.lo; omega
  rw [List.take_of_length_le (by rw [← size_len]; exact Nat.le_refl _), ext_nil] at e
  obtain ⟨f1, f2⟩ := lin_of e
  exact ⟨by rw [f1, if_pos rfl], by rw [f2, decide_eq_true rfl]⟩
end Tx
