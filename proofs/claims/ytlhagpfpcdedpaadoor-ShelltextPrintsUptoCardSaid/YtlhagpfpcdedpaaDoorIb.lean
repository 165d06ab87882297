/- plain: a script ahead of a line feed is read as it is alone -/
import Derived.Test.YtlhagpfpcdedpaaDoorIa
namespace Go.Proofs.YtlhagpfpcdedpaaDoor
namespace Shp
/-- u is s, a line feed, and more -/
def Pre (s u : ByteArray) : Prop := ∃ r, u.data.toList = s.data.toList ++ 10 :: r
theorem iter_ext {α : Type} {mu mu' : α → Nat} {step step' : α → Option α} (P : α → Prop) (h1 : ∀ x y, P x → step x = some y → mu y < mu x ∧ P y) (h2 : ∀ x y, step' x = some y → mu' y < mu' x) (hs : ∀ x y, P x → step x = some y → step' x = some y) (x : α) (hx : P x) (hf : step' (iter mu step x) = none) : iter mu' step' x = iter mu step x := by
  generalize hn : mu x = n
  induction n using Nat.strongRecOn generalizing x with
  | ind n ih =>
    cases h : step x with
    | none =>
      rw [iter_none h] at hf ⊢
      exact iter_none hf
    | some y =>
      obtain ⟨m1, m2⟩ := h1 x y hx h
      have h' := hs x y hx h
      rw [iter_some h m1] at hf ⊢
      rw [iter_some h' (h2 x y h')]
      exact ih (mu y) (by omega) y m2 hf rfl
section
variable {s u : ByteArray}
theorem Pre.size (h : Pre s u) : s.size + 1 ≤ u.size := by
  obtain ⟨r, e⟩ := h
  have := congrArg List.length e
  rw [List.length_append, List.length_cons] at this
  show s.data.toList.length + 1 ≤ u.data.toList.length
  omega
theorem Pre.at (h : Pre s u) {j : Nat} (hj : j < s.size) : at? u j = at? s j := by
  obtain ⟨r, e⟩ := h
  unfold at?
  rw [e, List.getElem?_append_left hj]
theorem Pre.lf (h : Pre s u) : at? u s.size = some 10 := by
  obtain ⟨r, e⟩ := h
  unfold at?
  rw [e]
  show (s.data.toList ++ 10 :: r)[s.data.toList.length]? = _
  rw [List.getElem?_append_right (Nat.le_refl _)]
  rw [Nat.sub_self]; rfl
theorem Pre.got (h : Pre s u) {j : Nat} {c : UInt8} (hc : at? s j = some c) : at? u j = some c := by
  obtain ⟨hj, -⟩ := at_some hc
  rw [h.at hj]; exact hc
/-- a byte behind one of the text: what it is, but for the line feed -/
theorem Pre.next (h : Pre s u) {j : Nat} (hj : j < s.size) {c : UInt8} (h10 : c ≠ 10) : (at? u (j + 1) = some c) ↔ (at? s (j + 1) = some c) := by
  by_cases hj2 : j + 1 < s.size
  · rw [h.at hj2]
  · have e : j + 1 = s.size := by omega
    rw [e, h.lf, at_ge (Nat.le_refl _)]
    exact ⟨fun h => absurd (Option.some.inj h).symm h10, fun h => by cases h⟩
theorem takeWhile_pre {p : UInt8 → Bool} {c : UInt8} (hc : p c = false) (r : List UInt8) : ∀ l : List UInt8, (l ++ c :: r).takeWhile p = l.takeWhile p
  | [] => by rw [List.nil_append, List.takeWhile_cons, hc]; rfl
  | x :: l => by
    rw [List.cons_append, List.takeWhile_cons, List.takeWhile_cons, takeWhile_pre hc r l]
theorem Pre.nl (h : Pre s u) {j : Nat} (hj : j ≤ s.size) : nlF u j = nlF s j := by
  obtain ⟨r, e⟩ := h
  unfold nlF
  rw [e, List.drop_append_of_le_length hj, takeWhile_pre (by decide)]
theorem Pre.sk (h : Pre s u) {a : Nat} (ha : a ≤ s.size) (hx : ¬ (at? s (skS s a) = some 92 ∧ skS s a + 1 = s.size)) : skS u a = skS s a := by
  refine iter_ext (mu := fun j => s.size - j) (mu' := fun j => u.size - j) (fun j => j ≤ s.size) (fun x y _ hs => by have := sk1_lt hs; omega) (fun x y hs => by have := sk1_lt hs; omega) ?_ a ha ?_
  · intro x y hx hs
    unfold sk1 at hs ⊢
    cases hc : at? s x with
    | none => rw [hc] at hs; cases hs
    | some c =>
      rw [hc] at hs
      rw [h.got hc]
      simp only at hs ⊢
      split at hs
      · rename_i h1; rw [if_pos h1]; exact hs
      · rename_i h1
        rw [if_neg h1]
        split at hs
        · rename_i h2; rw [if_pos ⟨h2.1, h.got h2.2⟩]; exact hs
        · split at hs
          · rename_i h3
            rw [if_neg (fun h4 => by rw [h3] at h4; exact absurd h4.1 (by decide)), if_pos h3, h.nl (by obtain ⟨hj, -⟩ := at_some hc; omega)]; exact hs
          · cases hs
  · show sk1 u (skS s a) = none
    have hst := skS_stop s a
    have hle := (skS_le s a ha).2
    generalize skS s a = j at hst hle hx
    by_cases hj : j < s.size
    · unfold sk1 at hst ⊢
      rw [h.at hj]
      cases hc : at? s j with
      | none => rfl
      | some c =>
        rw [hc] at hst
        simp only at hst ⊢
        split at hst
        · cases hst
        · rename_i h1
          rw [if_neg h1]
          split at hst
          · cases hst
          · rename_i h2
            split at hst
            · cases hst
            · rename_i h3
              rw [if_neg ?_, if_neg h3]
              rintro ⟨rfl, h4⟩
              by_cases hj2 : j + 1 < s.size
              · rw [h.at hj2] at h4; exact h2 ⟨rfl, h4⟩
              · exact hx ⟨hc, by omega⟩
    · have : j = s.size := by omega
      subst this
      unfold sk1
      rw [h.lf]; rfl
theorem Pre.op (h : Pre s u) {j : Nat} {c : UInt8} (hc : at? s j = some c) : opT u j = opT s j := by
  obtain ⟨hj, -⟩ := at_some hc
  have h1 := h.next hj (c := 124) (by decide)
  have h2 := h.next hj (c := 38) (by decide)
  have h3 := h.next hj (c := 62) (by decide)
  unfold opT
  rw [h.got hc, hc]
  simp only [h1, h2, h3]
theorem Pre.qu1 (h : Pre s u) (q : UInt8) (x y : Nat × List UInt8) (hs : Shp.qu1 s q x = some y) : Shp.qu1 u q x = some y := by
  unfold Shp.qu1 at hs ⊢
  cases hc : at? s x.1 with
  | none => rw [hc] at hs; cases hs
  | some c =>
    obtain ⟨hj, -⟩ := at_some hc
    rw [hc] at hs
    rw [h.got hc]
    simp only at hs ⊢
    split at hs
    · cases hs
    · rename_i hcq
      rw [if_neg hcq]
      by_cases hq : q = 34 ∧ c = 92
      · rw [if_pos hq] at hs ⊢
        by_cases hj2 : x.1 + 1 < s.size
        · rw [h.at hj2]; exact hs
        · have e : x.1 + 1 = s.size := by omega
          rw [e, at_ge (Nat.le_refl _)] at hs
          rw [e, h.lf]
          simp only at hs ⊢
          rw [if_neg (by decide)]
          exact hs
      · rw [if_neg hq] at hs ⊢; exact hs
theorem Pre.quP (h : Pre s u) (q : UInt8) (j : Nat) {p : List UInt8 × Nat} (hp : Shp.quP s q j = some p) : Shp.quP u q j = some p := by
  unfold Shp.quP at hp ⊢
  split at hp
  · rename_i hq
    have e : quS u q (j + 1, []) = quS s q (j + 1, []) := by
      refine iter_ext (mu := fun x : Nat × List UInt8 => s.size - x.1) (mu' := fun x : Nat × List UInt8 => u.size - x.1) (fun _ => True) (fun x y _ hs => ⟨by have := qu1_lt hs; omega, trivial⟩) (fun x y hs => by have := qu1_lt hs; omega) (fun x y _ hs => h.qu1 q x y hs) _ trivial ?_
      show Shp.qu1 u q (quS s q (j + 1, [])) = none
      unfold Shp.qu1
      rw [h.got hq]
      simp only
      rw [if_pos trivial]
    rw [e, h.got hq, if_pos rfl]; exact hp
  · cases hp
theorem Pre.part (h : Pre s u) (j : Nat) {p : List UInt8 × Nat} (hp : Shp.part s j = some p) : Shp.part u j = some p := by
  unfold Shp.part at hp ⊢
  cases hc : at? s j with
  | none => rw [hc] at hp; cases hp
  | some c =>
    rw [hc] at hp
    rw [h.got hc]
    simp only at hp ⊢
    split at hp
    · rename_i h1; rw [if_pos h1]; exact h.quP c j hp
    · rename_i h1
      rw [if_neg h1]
      split at hp
      · rename_i h2
        rw [if_pos h2]
        cases hd : at? s (j + 1) with
        | none => rw [hd] at hp; cases hp
        | some e => rw [hd] at hp; rw [h.got hd]; exact hp
      · rename_i h2; rw [if_neg h2]; exact hp
theorem Pre.wd1 (h : Pre s u) (x y : Nat × List UInt8) (hs : Shp.wd1 s x = some y) : Shp.wd1 u x = some y := by
  unfold Shp.wd1 at hs ⊢
  cases hc : at? s x.1 with
  | none => rw [hc] at hs; cases hs
  | some c =>
    rw [hc] at hs
    rw [h.got hc]
    simp only at hs ⊢
    split at hs
    · cases hs
    · rename_i h1
      rw [if_neg h1]
      cases hp : Shp.part s x.1 with
      | none => rw [hp] at hs; cases hs
      | some p => rw [hp] at hs; rw [h.part x.1 hp]; exact hs
theorem Pre.word (h : Pre s u) {j : Nat} (hj : j ≤ s.size) (ho : okB (wordS s j) = true) : wordS u j = wordS s j := by
  have hle := (wdS_le s (j, []) hj).2
  have hfin : Shp.wd1 u (wdS s (j, [])) = none := by
    unfold wordS at ho
    unfold Shp.wd1
    cases hc : at? s (wdS s (j, [])).1 with
    | none =>
      have e : (wdS s (j, [])).1 = s.size := by
        refine Decidable.byContradiction fun hn => ?_
        rw [at_lt (by omega)] at hc; cases hc
      rw [e, h.lf]; rfl
    | some c =>
      rw [hc] at ho
      simp only at ho
      rw [h.got hc]
      simp only
      split at ho
      · rename_i h1; rw [if_pos h1]
      · cases ho
  have e : wdS u (j, []) = wdS s (j, []) :=
    iter_ext (mu := fun x : Nat × List UInt8 => s.size - x.1) (mu' := fun x : Nat × List UInt8 => u.size - x.1) (fun _ => True) (fun x y _ hs => ⟨by have := wd1_lt hs; omega, trivial⟩) (fun x y hs => by have := wd1_lt hs; omega) (fun x y _ hs => h.wd1 x y hs) _ trivial hfin
  have hb : bangB u j (wdS s (j, [])).1 = bangB s j (wdS s (j, [])).1 := by
    obtain ⟨r, e⟩ := h
    unfold bangB
    rw [e, List.take_append_of_le_length hle]
  unfold wordS at ho ⊢
  rw [e, hb]
  cases hc : at? s (wdS s (j, [])).1 with
  | none =>
    have e : (wdS s (j, [])).1 = s.size := by
      refine Decidable.byContradiction fun hn => ?_
      rw [at_lt (by omega)] at hc; cases hc
    rw [show at? u (wdS s (j, [])).1 = some 10 by rw [e]; exact h.lf]
    rfl
  | some c =>
    rw [hc] at ho
    rw [h.got hc]
/-- a token of the text, read in the longer one -/
def TU (s : ByteArray) : St → St
  | .run t a => if t.k = 0 then .run ⟨2, [10], false, s.size⟩ (s.size + 1) else .run t a
  | .bad e q => .bad e q
theorem TU_run {t : Tk} {a : Nat} (h : t.k ≠ 0) : TU s (.run t a) = .run t a := if_neg h
theorem Pre.tok (h : Pre s u) {j : Nat} (hj : j ≤ s.size) (ho : okB (tokS s j) = true) : tokS u j = TU s (tokS s j) := by
  cases hc : at? s j with
  | none =>
    have e : j = s.size := by
      refine Decidable.byContradiction fun hn => ?_
      rw [at_lt (by omega)] at hc; cases hc
    subst e
    unfold tokS
    rw [h.lf, hc]
    unfold opT
    rw [h.lf]
    rfl
  | some c =>
    unfold tokS at ho ⊢
    rw [h.got hc, h.op hc, hc]
    rw [hc] at ho
    simp only at ho ⊢
    cases hop : opT s j with
    | some o => rfl
    | none =>
      rw [hop] at ho
      simp only at ho ⊢
      split at ho
      · cases ho
      · rename_i h38
        rw [if_neg h38, if_neg h38, h.word hj ho]
        unfold wordS at ho ⊢
        cases hx : at? s (wdS s (j, [])).1 with
        | none => rfl
        | some d =>
          rw [hx] at ho
          simp only at ho ⊢
          split at ho
          · rename_i h1; rw [if_pos h1]; rfl
          · cases ho
theorem Pre.nx (h : Pre s u) {a : Nat} (ha : a ≤ s.size) (ho : okB (Shp.nx s a) = true) : Shp.nx u a = TU s (Shp.nx s a) := by
  unfold Shp.nx at ho ⊢
  have hle := (skS_le s a ha).2
  rw [h.sk ha ?_]
  · exact h.tok hle ho
  · rintro ⟨h1, h2⟩
    have hp : Shp.part s (skS s a) = none := by
      unfold Shp.part
      rw [h1]
      simp only
      rw [if_neg (by decide), if_pos trivial, at_ge (by omega)]
    have hw : wdS s (skS s a, []) = (skS s a, []) := wdS_none (by unfold Shp.wd1; simp only; rw [h1]; simp only; rw [if_neg (by decide), hp]; rfl)
    unfold tokS opT wordS at ho
    rw [hw] at ho
    simp only at ho
    rw [h1] at ho
    simp at ho
    rw [if_neg (by decide)] at ho
    cases ho
end
end Shp
end Go.Proofs.YtlhagpfpcdedpaaDoor
