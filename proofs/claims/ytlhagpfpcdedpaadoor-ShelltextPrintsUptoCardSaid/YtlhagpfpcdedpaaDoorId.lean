/- plain: two scripts with a line feed between them -/
import Derived.Test.YtlhagpfpcdedpaaDoorIc
namespace Go.Proofs.YtlhagpfpcdedpaaDoor
namespace Shp
section
variable {s u : ByteArray}
theorem fail_ok (e : Int) (x : St) : okB (failS e x) = false := by cases x <;> rfl
theorem pl_bad {x : St} {l : List Cm} {b : Bool} (h : okB x = false) : plI s (x, l, b) = (x, l, b) := pl_none (by unfold pl1; rw [if_pos (.inr h)])
theorem AF_non {x : St} (h : endB x = false) : AF s u x = x := by unfold AF; rw [if_neg (by rw [h]; decide)]
theorem Pre.plI (h : Pre s u) (x : St) (l : List Cm) (b : Bool) (w : WfS s x) (ho : okB (Shp.plI s (x, l, b)).1 = true) : Shp.plI u (TU s x, l, b) = (TU s (Shp.plI s (x, l, b)).1, (Shp.plI s (x, l, b)).2) := by
  generalize hm : plMu s (x, l, b) = m
  induction m using Nat.strongRecOn generalizing x l b with
  | ind m ih =>
    cases h1 : Shp.pl1 s (x, l, b) with
    | none =>
      rw [pl_none h1] at ho ⊢
      refine pl_none ?_
      unfold Shp.pl1 at h1 ⊢
      simp only at h1 ho ⊢
      rw [TU_ok]
      split at h1
      · rename_i hc; rw [if_pos hc]
      · split at h1
        · cases h1
        · split at h1
          · cases h1
          · split at h1 <;> cases h1
    | some y =>
      have hst := pl_step (z := (x, l, b)) w h1
      have hmu := pl1_mu (z := (x, l, b)) w h1
      rw [hst] at ho ⊢
      obtain ⟨y1, y2, y3⟩ := y
      have hy : okB y1 = true := by
        refine Decidable.byContradiction fun hc => ?_
        rw [pl_bad (by simpa using hc)] at ho
        exact hc ho
      have wu := TU_wf h w
      have h2 : Shp.pl1 u (TU s x, l, b) = some (TU s y1, y2, y3) := by
        have h1' := h1
        unfold Shp.pl1 at h1
        simp only at h1
        split at h1
        · cases h1
        rename_i c1
        split at h1
        · cases h1; rw [fail_ok] at hy; cases hy
        rename_i c2
        split at h1
        · cases h1; rw [fail_ok] at hy; cases hy
        rename_i c3
        split at h1
        · rename_i c4
          cases h1
          have wc := cmS_wf w
          have hor : okB (Shp.rd s (Shp.cmS s x).1) = true := by
            refine Decidable.byContradiction fun hc => ?_
            rw [lf_bad (by simpa using hc)] at hy
            exact hc hy
          have hne : endB (Shp.cmS s x).1 = false := by
            cases he : endB (Shp.cmS s x).1 with
            | false => rfl
            | true => rw [end_isO he] at c4; cases c4
          have hle : endB (Shp.lfS s (Shp.rd s (Shp.cmS s x).1)) = false := by
            cases he : endB (Shp.lfS s (Shp.rd s (Shp.cmS s x).1)) with
            | false => rfl
            | true =>
              have hs : Shp.pl1 s (Shp.lfS s (Shp.rd s (Shp.cmS s x).1), l ++ [(Shp.cmS s x).2], false) = some (failS 1 (Shp.lfS s (Shp.rd s (Shp.cmS s x).1)), l ++ [(Shp.cmS s x).2], true) := by
                unfold Shp.pl1
                simp only
                rw [if_neg (by simp [hy]), if_pos (end_beg he)]
              rw [pl_step (z := (Shp.lfS s (Shp.rd s (Shp.cmS s x).1), l ++ [(Shp.cmS s x).2], false)) hmu.1 hs, pl_done, fail_ok] at ho
              cases ho
          unfold Shp.pl1
          simp only
          rw [TU_ok, TU_beg, if_neg c1, if_neg c2, if_neg c3, h.cmS w (isO_ok c4)]
          simp only
          rw [TU_isO (by decide), if_pos c4, TU_non hne, h.rd wc hne hor, h.lfS _ (rd_wf wc) hy, AF_non hle, TU_non hle]
        · rename_i c4
          cases h1
          unfold Shp.pl1
          simp only
          rw [TU_ok, TU_beg, if_neg c1, if_neg c2, if_neg c3, h.cmS w hy]
          simp only
          rw [TU_isO (by decide), if_neg c4]
      rw [pl_step (z := (TU s x, l, b)) wu h2]
      exact ih _ (by have := hmu.2.1; omega) y1 y2 y3 hmu.1 ho rfl
theorem Pre.plB (h : Pre s u) {x : St} {num : Int} (w : WfS s x) (ho : okB (Shp.plB s x num).1 = true) : Shp.plB u (TU s x) num = (TU s (Shp.plB s x num).1, (Shp.plB s x num).2) := by
  unfold Shp.plB at ho ⊢
  rw [TU_beg]
  by_cases hn : 64 < num
  · rw [if_pos hn] at ho
    exfalso
    generalize (if beg x = true then x else failS 1 x) = y at ho
    cases y <;> cases ho
  · rw [if_neg hn] at ho ⊢
    rw [if_neg hn]
    by_cases hb : beg x = true
    · rw [if_pos hb] at ho ⊢
      rw [if_pos hb]
      have he : endB x = false := by
        cases he : endB x with
        | false => rfl
        | true => rw [end_beg he] at hb; cases hb
      rw [TU_non he]
      cases x with
      | bad e q => cases ho
      | run t a =>
        simp only at ho ⊢
        split at ho
        · rename_i ht
          rw [if_pos ht, if_pos ht, h.rd w he ho]
        · rename_i ht
          rw [if_neg ht, if_neg ht]
          simp only
          rw [TU_non he]
    · rw [if_neg hb] at ho
      exfalso
      cases x <;> cases ho
theorem Pre.plS (h : Pre s u) {x : St} {num cn : Int} (w : WfS s x) (ho : okB (Shp.plS s x num cn).1 = true) : Shp.plS u (TU s x) num cn = (TU s (Shp.plS s x num cn).1, (Shp.plS s x num cn).2) := by
  unfold Shp.plS at ho ⊢
  simp only at ho
  have hb : okB (Shp.plB s x num).1 = true := by
    refine Decidable.byContradiction fun hc => ?_
    rw [pl_bad (by simpa using hc)] at ho
    exact hc ho
  rw [h.plB w hb]
  simp only
  rw [h.plI _ _ _ (plB_wf w).1 ho]
theorem pa_bad {z : St × List Pl × Int} (h : okB z.1 = false) : paI s z = z := pa_none (by unfold pa1; rw [if_pos (.inl h)])
/-- at the end a pipeline cannot begin -/
theorem pl_end {x : St} {num cn : Int} (he : endB x = true) : okB (plS s x num cn).1 = false := by
  have hb : okB (plB s x num).1 = false := by
    unfold plB
    rw [end_beg he]
    obtain ⟨t, a, rfl, h0⟩ := end_k he
    by_cases hn : 64 < num
    · rw [if_pos hn]; rfl
    · rw [if_neg hn]; rfl
  unfold plS
  simp only
  rw [pl_bad hb]
  exact hb
theorem Pre.sepN (h : Pre s u) {y : St} (w : WfS s y) (ho : okB (Shp.sepN s y) = true) : Shp.sepN u (TU s y) = AF s u (Shp.sepN s y) ∧ cnO (TU s y) = cnO y := by
  refine ⟨?_, by unfold cnO; rw [TU_isO (by decide), TU_isO (by decide)]⟩
  cases he : endB y with
  | true =>
    have e1 : sepS y = y := by unfold sepS sepB; rw [he]; simp
    have e2 : Shp.sepN s y = y := by
      unfold Shp.sepN
      rw [e1, if_pos he]; exact lf_none (end_isO he _)
    rw [e2, TU_fin he]
    unfold AF
    rw [if_pos he]
    have e3 : sepS (.run ⟨2, [10], false, s.size⟩ (s.size + 1)) = .run ⟨2, [10], false, s.size⟩ (s.size + 1) := by
      unfold sepS sepB
      rw [if_pos (by rw [show isO [10] (.run ⟨2, [10], false, s.size⟩ (s.size + 1)) = true from rfl]; simp)]
    unfold Shp.sepN
    rw [e3, if_neg (by rw [show endB (.run ⟨2, [10], false, s.size⟩ (s.size + 1)) = false from rfl]; decide)]
    rfl
  | false =>
    rw [TU_non he]
    have ws := sepS_wf w
    unfold Shp.sepN at ho ⊢
    cases hse : endB (sepS y) with
    | true =>
      exfalso
      unfold sepS at hse
      split at hse
      · rw [he] at hse; cases hse
      · cases y <;> cases hse
    | false =>
      rw [hse, if_neg (by decide)] at ho
      rw [if_neg (by decide), if_neg (by decide)]
      have hor : okB (Shp.rd s (sepS y)) = true := by
        refine Decidable.byContradiction fun hc => ?_
        rw [lf_bad (by simpa using hc)] at ho
        exact hc ho
      rw [h.rd ws hse hor, h.lfS _ (rd_wf ws) ho]
theorem sepN_ok {y : St} (h : okB (Shp.sepN s y) = true) : okB y = true := by
  refine Decidable.byContradiction fun hc => ?_
  rw [sepN_bad (by simpa using hc)] at h
  cases h
theorem Pre.pa (h : Pre s u) (x : St) (l : List Pl) (cn : Int) (w : WfS s x) (ho : okB (paI s (x, l, cn)).1 = true) :
    paI u (AF s u x, l, cn) = paI u (Shp.lfS u (Shp.nx u (s.size + 1)), (paI s (x, l, cn)).2.1, 1) := by
  generalize hm : paMu s (x, l, cn) = m
  induction m using Nat.strongRecOn generalizing x l cn with
  | ind m ih =>
    cases h1 : pa1 s (x, l, cn) with
    | none =>
      rw [pa_none h1] at ho ⊢
      unfold pa1 at h1
      simp only at h1 ho
      split at h1
      · rename_i hc
        rcases hc with hc | ⟨hc, rfl⟩
        · rw [hc] at ho; cases ho
        · unfold AF; rw [if_pos hc]
      · cases h1
    | some y =>
      have hst := pa_step (z := (x, l, cn)) w h1
      have hmu := pa1_mu (z := (x, l, cn)) w h1
      rw [hst] at ho ⊢
      have hy : okB y.1 = true := by
        refine Decidable.byContradiction fun hc => ?_
        rw [pa_bad (by simpa using hc)] at ho
        exact hc ho
      unfold pa1 at h1
      simp only at h1
      split at h1
      · cases h1
      rename_i hc
      cases h1
      simp only at hy
      have hp := sepN_ok hy
      have he : endB x = false := by
        cases he : endB x with
        | false => rfl
        | true => rw [pl_end he] at hp; cases hp
      have wp := plS_wf (num := l.length + 1) (cn := cn) w
      have hs := h.plS w hp
      rw [TU_non he] at hs
      have hn := h.sepN wp hy
      have h2 : pa1 u (x, l, cn) = some (AF s u (Shp.sepN s (Shp.plS s x (l.length + 1) cn).1), l ++ [(Shp.plS s x (l.length + 1) cn).2], cnO (Shp.plS s x (l.length + 1) cn).1) := by
        unfold pa1
        simp only
        rw [if_neg hc, hs]
        simp only
        rw [hn.1, hn.2]
      have wu := TU_wf h w
      rw [TU_non he] at wu
      rw [AF_non he, pa_step (z := (x, l, cn)) wu h2]
      exact ih _ (by have := hmu.2; omega) _ _ _ hmu.1 ho rfl
end
/-- two scripts with a line feed between them -/
theorem pa_join {s t u : ByteArray} (hu : u.data.toList = s.data.toList ++ 10 :: t.data.toList) {p q : List Pl} (hs : paR s = (p, 0, 0)) (ht : paR t = (q, 0, 0)) (hn : u.size ≤ 8192) (hl : p.length + q.length ≤ 64) : paR u = (p ++ q.map (shP (s.size + 1)), 0, 0) := by
  have hpre : Pre s u := ⟨_, hu⟩
  have hsz : u.size = t.size + (s.size + 1) := by
    have := congrArg List.length hu
    rw [List.length_append, List.length_cons] at this
    show u.data.toList.length = t.data.toList.length + (s.data.toList.length + 1)
    omega
  have hsuf : Suf (s.size + 1) t u := by
    refine ⟨?_, hsz⟩
    rw [hu]
    show (s.data.toList ++ 10 :: t.data.toList).drop (s.data.toList.length + 1) = _
    rw [List.drop_append, List.drop_of_length_le (by omega), List.nil_append, Nat.add_sub_cancel_left]; rfl
  have run : ∀ {x : ByteArray} {l : List Pl}, paR x = (l, 0, 0) → okB (paS x).1 = true ∧ (paS x).2.1 = l := by
    intro x l h
    unfold paR at h
    split at h
    · cases h
    · split at h
      · rename_i t a hx; cases h; rw [hx]; exact ⟨rfl, rfl⟩
      · rename_i e q hx
        exfalso
        have w := pa_wf (s := x) (z := (lfS x (nx x 0), [], 1)) (lf_wf (nx_wf (Nat.zero_le _)))
        rw [show paI x (lfS x (nx x 0), [], 1) = paS x from rfl, hx] at w
        injection h with h1 h2
        injection h2 with h2 h3
        have := w.1
        omega
  obtain ⟨os, ps⟩ := run hs
  obtain ⟨ot, pt⟩ := run ht
  have ws : WfS s (nx s 0) := nx_wf (Nat.zero_le _)
  have wt : WfS t (nx t 0) := nx_wf (Nat.zero_le _)
  have ol : okB (lfS s (nx s 0)) = true := by
    refine Decidable.byContradiction fun hc => ?_
    unfold paS at os
    rw [pa_bad (by simpa using hc)] at os
    exact hc os
  have on : okB (nx s 0) = true := by
    refine Decidable.byContradiction fun hc => ?_
    rw [lf_bad (by simpa using hc)] at ol
    exact hc ol
  have e1 : paS u = paI u (lfS u (nx u (s.size + 1)), p, 1) := by
    unfold paS at os ps ⊢
    rw [hpre.nx (Nat.zero_le _) on, hpre.lfS _ ws ol, hpre.pa _ _ _ (lf_wf ws) os, ps]
  have e2 : lfS u (nx u (s.size + 1)) = shS (s.size + 1) (lfS t (nx t 0)) := by
    have := hsuf.nx 0
    rw [Nat.zero_add] at this
    rw [this, hsuf.lf]
  have e3 := hsuf.pa p (lfS t (nx t 0)) [] 1 (lf_wf wt) (by rw [show paI t (lfS t (nx t 0), [], 1) = paS t from rfl, pt]; exact hl)
  rw [show paI t (lfS t (nx t 0), [], 1) = paS t from rfl, pt, List.map_nil, List.append_nil] at e3
  rw [e2, e3] at e1
  unfold paR
  rw [if_neg (by omega), e1]
  simp only
  cases hx : (paS t).1 with
  | bad e q => rw [hx] at ot; cases ot
  | run k a => rfl
end Shp
end Go.Proofs.YtlhagpfpcdedpaaDoor
