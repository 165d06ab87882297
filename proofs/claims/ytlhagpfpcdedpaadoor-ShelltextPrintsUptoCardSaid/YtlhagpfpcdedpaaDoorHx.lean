/- plain: a quoted word is read as what it stands for -/
import Derived.Test.YtlhagpfpcdedpaaDoorHr
import Derived.Test.YtlhagpfpcdedpaaDoorHn
namespace Go.Proofs.YtlhagpfpcdedpaaDoor
namespace Shp
theorem at_drop {s : ByteArray} {i : Nat} {c : UInt8} {r : List UInt8} (h : s.data.toList.drop i = c :: r) : at? s i = some c ∧ s.data.toList.drop (i + 1) = r := by
  refine ⟨?_, ?_⟩
  · have := congrArg (·[0]?) h
    simp only [List.getElem?_drop, Nat.add_zero, List.getElem?_cons_zero] at this
    exact this
  · rw [← List.drop_drop, h]; rfl
theorem at_end {s : ByteArray} {i : Nat} (h : s.data.toList.drop i = []) : at? s i = none := by
  have := congrArg (·[0]?) h
  simp only [List.getElem?_drop, Nat.add_zero, List.getElem?_nil] at this
  exact this
theorem safe_no : ∀ n : Fin 256, let c := UInt8.ofNat n.val; safeB c = true → spB c = false ∧ c ≠ 39 ∧ c ≠ 34 ∧ c ≠ 92 ∧ c ≠ 35 ∧ c ≠ 33 ∧ c ≠ 32 ∧ c ≠ 9 ∧ c ≠ 38 := by decide +kernel
theorem safe_is {c : UInt8} (h : safeB c = true) : spB c = false ∧ c ≠ 39 ∧ c ≠ 34 ∧ c ≠ 92 ∧ c ≠ 35 ∧ c ≠ 33 ∧ c ≠ 32 ∧ c ≠ 9 ∧ c ≠ 38 := by
  have := safe_no ⟨c.toNat, c.toNat_lt⟩
  simp only [UInt8.ofNat_toNat] at this
  exact this h
/-- inside a pair of quotes -/
theorem inq (s : ByteArray) (rest : List UInt8) : ∀ (l : List UInt8) (i : Nat) (acc out : List UInt8), s.data.toList.drop i = quL l ++ 39 :: rest →
    ∃ i' acc', quS s 39 (i, acc) = (i', acc') ∧ at? s i' = some 39 ∧ wdS s (i' + 1, out ++ acc') = wdS s (i + (quL l).length + 1, out ++ acc ++ l)
  | [], i, acc, out, h => by
    obtain ⟨h1, -⟩ := at_drop (show _ = 39 :: rest from h)
    exact ⟨i, acc, quS_none (by unfold qu1; simp only [h1]; rw [if_pos trivial]), h1, by rw [List.append_nil]; rfl⟩
  | c :: l, i, acc, out, h => by
    by_cases hc : c = 39
    · subst hc
      have e : quL (39 :: l) = 39 :: 92 :: 39 :: 39 :: quL l := rfl
      rw [e] at h
      obtain ⟨h1, d1⟩ := at_drop (show _ = 39 :: (92 :: 39 :: 39 :: quL l ++ 39 :: rest) from h)
      obtain ⟨h2, d2⟩ := at_drop (show _ = 92 :: (39 :: 39 :: quL l ++ 39 :: rest) from d1)
      obtain ⟨h3, d3⟩ := at_drop (show _ = 39 :: (39 :: quL l ++ 39 :: rest) from d2)
      obtain ⟨h4, d4⟩ := at_drop (show _ = 39 :: (quL l ++ 39 :: rest) from d3)
      refine ⟨i, acc, quS_none (by unfold qu1; simp only [h1]; rw [if_pos trivial]), h1, ?_⟩
      obtain ⟨i', acc', q1, q2, q3⟩ := inq s rest l (i + 1 + 1 + 1 + 1) [] (out ++ acc ++ [39]) d4
      have s1 : wd1 s (i + 1, out ++ acc) = some (i + 1 + 2, out ++ acc ++ [39]) := by
        unfold wd1
        simp only [h2]
        rw [if_neg (by decide)]
        unfold part
        simp only [h2, h3]
        rw [if_neg (by decide), if_pos trivial, if_neg (by decide)]; rfl
      have s2 : wd1 s (i + 1 + 2, out ++ acc ++ [39]) = some (i' + 1, out ++ acc ++ [39] ++ acc') := by
        unfold wd1
        simp only [show at? s (i + 1 + 2) = some 39 from h4]
        rw [if_neg (by decide)]
        unfold part
        simp only [show at? s (i + 1 + 2) = some 39 from h4]
        rw [if_pos (.inl trivial)]
        unfold quP
        rw [show i + 1 + 2 + 1 = i + 1 + 1 + 1 + 1 by omega, q1]
        simp only
        rw [if_pos q2]; rfl
      rw [wdS_step s1, wdS_step s2, q3, e]
      simp only [List.length_cons, List.append_nil]
      congr 2
      · omega
      · simp
    · have e : quL (c :: l) = c :: quL l := by
        show (if c = 39 then [39, 92, 39, 39] else [c]) ++ quL l = _
        rw [if_neg hc]; rfl
      rw [e] at h
      obtain ⟨h1, d1⟩ := at_drop (show _ = c :: (quL l ++ 39 :: rest) from h)
      obtain ⟨i', acc', q1, q2, q3⟩ := inq s rest l (i + 1) (acc ++ [c]) out d1
      refine ⟨i', acc', ?_, q2, ?_⟩
      · rw [quS_step (y := (i + 1, acc ++ [c])) (by unfold qu1; simp only [h1]; rw [if_neg hc, if_neg (fun h => absurd h.1 (by decide))]), q1]
      · rw [q3, e]
        congr 2
        · rw [List.length_cons]; omega
        · simp
/-- bytes that need no quotes -/
theorem wd_safe (s : ByteArray) (rest : List UInt8) : ∀ (l : List UInt8) (i : Nat) (out : List UInt8), s.data.toList.drop i = l ++ rest → l.all safeB = true → wdS s (i, out) = wdS s (i + l.length, out ++ l)
  | [], i, out, _, _ => by rw [List.append_nil]; rfl
  | c :: l, i, out, h, ha => by
    rw [List.all_cons, Bool.and_eq_true] at ha
    obtain ⟨n1, n2, n3, n4, -⟩ := safe_is ha.1
    obtain ⟨h1, d1⟩ := at_drop (show _ = c :: (l ++ rest) from h)
    have s1 : wd1 s (i, out) = some (i + 1, out ++ [c]) := by
      unfold wd1
      simp only [h1]
      rw [if_neg (by rw [n1]; decide)]
      unfold part
      simp only [h1]
      rw [if_neg (by rintro (h | h); exact n2 h; exact n3 h), if_neg n4]; rfl
    rw [wdS_step s1, wd_safe s rest l (i + 1) (out ++ [c]) d1 ha.2]
    congr 2
    · rw [List.length_cons]; omega
    · simp
/-- what may stand behind a word -/
def Stop (rest : List UInt8) : Prop := rest = [] ∨ ∃ c r, rest = c :: r ∧ spB c = true
theorem wd_stop {s : ByteArray} {i : Nat} {out rest : List UInt8} (h : s.data.toList.drop i = rest) (hr : Stop rest) : wdS s (i, out) = (i, out) := by
  refine wdS_none ?_
  unfold wd1
  rcases hr with rfl | ⟨c, r, rfl, hc⟩
  · simp only [at_end h]
  · simp only [(at_drop h).1]; rw [if_pos hc]
theorem drop_len {s : ByteArray} {i : Nat} {l rest : List UInt8} (h : s.data.toList.drop i = l ++ rest) : s.data.toList.drop (i + l.length) = rest := by
  rw [← List.drop_drop, h, List.drop_left]
theorem wd_quote {s : ByteArray} {j : Nat} {l rest : List UInt8} (h : s.data.toList.drop j = quoteL l ++ rest) (hr : Stop rest) : wdS s (j, []) = (j + (quoteL l).length, l) := by
  have hd := drop_len h
  unfold quoteL at h hd ⊢
  split at h
  · rename_i hp
    rw [if_pos hp] at hd ⊢
    rw [wd_safe s rest l j [] h hp.2, wd_stop hd hr]; rfl
  · rename_i hp
    rw [if_neg hp] at hd ⊢
    have h' : s.data.toList.drop j = 39 :: (quL l ++ 39 :: rest) := by rw [h]; simp
    obtain ⟨h1, d1⟩ := at_drop h'
    obtain ⟨i', acc', q1, q2, q3⟩ := inq s rest l (j + 1) [] [] d1
    have s1 : wd1 s (j, []) = some (i' + 1, [] ++ acc') := by
      unfold wd1
      simp only [h1]
      rw [if_neg (by decide)]
      unfold part
      simp only [h1]
      rw [if_pos (.inl trivial)]
      unfold quP
      rw [q1]
      simp only
      rw [if_pos q2]; rfl
    have e : j + ([39] ++ quL l ++ [39]).length = j + 1 + (quL l).length + 1 := by simp only [List.length_append, List.length_cons, List.length_nil]; omega
    rw [e] at hd ⊢
    rw [wdS_step s1, q3, wd_stop hd hr]; rfl
/-- a word's first byte -/
theorem quote_head (l : List UInt8) : ∃ c r, quoteL l = c :: r ∧ spB c = false ∧ c ≠ 92 ∧ c ≠ 35 := by
  unfold quoteL
  split
  · rename_i hp
    cases l with
    | nil => exact absurd rfl hp.1
    | cons c r =>
      have := hp.2
      rw [List.all_cons, Bool.and_eq_true] at this
      obtain ⟨n1, -, -, n4, n5, -⟩ := safe_is this.1
      exact ⟨c, r, rfl, n1, n4, n5⟩
  · exact ⟨39, quL l ++ [39], rfl, by decide, by decide, by decide⟩
theorem quote_bang (l : List UInt8) : quoteL l ≠ [33] := by
  unfold quoteL
  split
  · rename_i hp
    intro h
    subst h
    exact absurd hp.2 (by decide)
  · intro h
    cases h
theorem spB_not {c : UInt8} (h : spB c = false) : c ≠ 32 ∧ c ≠ 9 ∧ c ≠ 10 ∧ c ≠ 124 ∧ c ≠ 59 ∧ c ≠ 38 ∧ c ≠ 60 ∧ c ≠ 62 := by
  unfold spB at h
  simp only [Bool.or_eq_false_iff, beq_eq_false_iff_ne] at h
  obtain ⟨⟨⟨⟨⟨⟨⟨a, b⟩, c⟩, d⟩, e⟩, f⟩, g⟩, i⟩ := h
  exact ⟨a, b, c, d, e, f, g, i⟩
theorem sk_word {s : ByteArray} {j : Nat} {c : UInt8} (h : at? s j = some c) (h1 : spB c = false) (h2 : c ≠ 92) (h3 : c ≠ 35) : skS s j = j := by
  obtain ⟨a, b, -⟩ := spB_not h1
  refine skS_none ?_
  unfold sk1
  simp only [h]
  rw [if_neg (by rintro (h | h); exact a h; exact b h), if_neg (fun h => h2 h.1), if_neg h3]
theorem sk_blank {s : ByteArray} {j : Nat} (h : at? s j = some 32) : skS s j = skS s (j + 1) := skS_step (by unfold sk1; simp only [h]; rw [if_pos (.inl trivial)])
theorem nx_quote {s : ByteArray} {j : Nat} {l rest : List UInt8} (h : s.data.toList.drop j = quoteL l ++ rest) (hr : Stop rest) : nx s j = .run ⟨1, l, false, j⟩ (j + (quoteL l).length) := by
  obtain ⟨c, r, hq, h1, h2, h3⟩ := quote_head l
  have ha : at? s j = some c := (at_drop (show _ = c :: (r ++ rest) by rw [h, hq]; rfl)).1
  have hd := drop_len h
  obtain ⟨n1, n2, n3, n4, n5, n6, n7, n8⟩ := spB_not h1
  unfold nx
  rw [sk_word ha h1 h2 h3]
  unfold tokS
  simp only [ha]
  have ho : opT s j = none := by
    unfold opT
    simp only [ha]
    rw [if_neg n3, if_neg n4, if_neg n5, if_neg n6, if_neg n7, if_neg n8]
  rw [ho]
  simp only
  rw [if_neg n6]
  unfold wordS
  rw [wd_quote h hr]
  simp only
  have hb : bangB s j (j + (quoteL l).length) = false := by
    unfold bangB
    refine decide_eq_false ?_
    rw [List.drop_take, h, Nat.add_sub_cancel_left, List.take_left']
    · exact quote_bang l
    · rfl
  rcases hr with rfl | ⟨d, r', rfl, hd'⟩
  · rw [at_end hd, hb]
  · simp only [(at_drop hd).1]; rw [if_pos hd', hb]
theorem nx_end {s : ByteArray} {j : Nat} (h : s.data.toList.drop j = []) : nx s j = .run ⟨0, [], false, s.size⟩ s.size := by
  unfold nx
  rw [skS_none (by unfold sk1; rw [at_end h])]
  unfold tokS
  rw [at_end h]
end Shp
end Go.Proofs.YtlhagpfpcdedpaaDoor
