/- plain: scripts: the loop over pipelines -/
import Derived.Test.YtlhagpfpcdedpaaDoorHq
namespace Go.Proofs.YtlhagpfpcdedpaaDoor
namespace Shp
theorem plB_wf {s : ByteArray} {x : St} {num : Int} (h : WfS s x) : WfS s (plB s x num).1 ∧ (okB (plB s x num).1 = true → mu s (plB s x num).1 ≤ mu s x) := by
  unfold plB
  have h1 : WfS s (if beg x = true then x else failS 1 x) ∧ (okB (if beg x = true then x else failS 1 x) = true → (if beg x = true then x else failS 1 x) = x) := by
    split
    · exact ⟨h, fun _ => rfl⟩
    · exact ⟨fail_wf h (.inl rfl), fun ho => by cases x <;> cases ho⟩
  generalize (if beg x = true then x else failS 1 x) = y at h1
  have h2 : WfS s (if 64 < num then failS 3 y else y) ∧ (okB (if 64 < num then failS 3 y else y) = true → (if 64 < num then failS 3 y else y) = x) := by
    split
    · exact ⟨fail_wf h1.1 (.inr rfl), fun ho => by cases y <;> cases ho⟩
    · exact h1
  generalize (if 64 < num then failS 3 y else y) = z at h2
  cases z with
  | bad e q => exact ⟨h2.1, fun ho => by cases ho⟩
  | run t a =>
    have e := h2.2 rfl
    subst e
    simp only
    split
    · refine ⟨rd_wf h, fun _ => ?_⟩
      by_cases hk : t.k = 0
      · have w := h.2.2.2.1 hk
        show mu s (nx s a) ≤ _
        have l := skS_le s a h.1
        have e : skS s a = s.size := by omega
        unfold nx tokS
        rw [e, at_ge (Nat.le_refl _)]
        simp only [mu]
        simp
      · exact Nat.le_of_lt (rd_mu h hk)
    · exact ⟨h, fun _ => Nat.le_refl _⟩
theorem plI_wf {s : ByteArray} {z : St × List Cm × Bool} (h : WfS s z.1) : WfS s (plI s z).1 ∧ (okB (plI s z).1 = true → mu s (plI s z).1 ≤ mu s z.1) :=
  iter_keeps (mu := plMu s) (step := pl1 s) (fun y => WfS s y.1 ∧ (okB y.1 = true → mu s y.1 ≤ mu s z.1)) (fun a b ha hb => ⟨(pl1_mu ha.1 hb).1, fun ho => Nat.le_trans (Nat.le_of_lt ((pl1_mu ha.1 hb).2.2 ho)) (ha.2 (by
    refine Decidable.byContradiction fun hc => ?_
    have hf : okB a.1 = false := by cases h : okB a.1 <;> simp_all
    unfold pl1 at hb
    rw [if_pos (.inr hf)] at hb
    cases hb))⟩) z ⟨h, fun _ => Nat.le_refl _⟩
theorem plS_wf {s : ByteArray} {x : St} {num cn : Int} (h : WfS s x) : WfS s (plS s x num cn).1 := (plI_wf (plB_wf h).1).1
/-- a pipeline takes a token at least, or fails -/
theorem plS_mu {s : ByteArray} {x : St} {num cn : Int} (h : WfS s x) (ho : okB (plS s x num cn).1 = true) : mu s (plS s x num cn).1 < mu s x := by
  have b := plB_wf (num := num) h
  unfold plS at ho ⊢
  simp only at ho ⊢
  generalize (plB s x num).1 = y at b ho ⊢
  cases hy : okB y with
  | false =>
    rw [pl_none (by unfold pl1; rw [if_pos (.inr hy)])] at ho
    rw [show okB y = true from ho] at hy; cases hy
  | true =>
    cases hs : pl1 s (y, [], false) with
    | none =>
      exfalso
      unfold pl1 at hs
      rw [if_neg (by simp [hy])] at hs
      split at hs
      · cases hs
      split at hs
      · cases hs
      split at hs <;> cases hs
    | some z =>
      have m := pl1_mu (z := (y, [], false)) b.1 hs
      rw [pl_step (z := (y, [], false)) b.1 hs] at ho ⊢
      have m2 := plI_wf (z := z) m.1
      have hz : okB z.1 = true := by
        refine Decidable.byContradiction fun hc => ?_
        have hf : okB z.1 = false := by cases h : okB z.1 <;> simp_all
        rw [pl_none (by unfold pl1; rw [if_pos (.inr hf)])] at ho
        exact hc ho
      have := m.2.2 hz
      have := m2.2 ho
      have := b.2 hy
      simp only at *
      omega
/-- the connection that an operator says -/
def cnO (y : St) : Int := if isO [38, 38] y = true then 2 else if isO [124, 124] y = true then 3 else 1
/-- what may stand behind a pipeline -/
def sepB (y : St) : Bool := isO [38, 38] y || isO [124, 124] y || endB y || isO [59] y || isO [10] y
def sepS (y : St) : St := if sepB y = true then y else failS 1 y
/-- behind a pipeline -/
def sepN (s : ByteArray) (y : St) : St := lfS s (if endB (sepS y) = true then sepS y else rd s (sepS y))
/-- one step of a script -/
def pa1 (s : ByteArray) (z : St × List Pl × Int) : Option (St × List Pl × Int) :=
  if okB z.1 = false ∨ (endB z.1 = true ∧ z.2.2 = 1) then none
  else some (sepN s (plS s z.1 (z.2.1.length + 1) z.2.2).1, z.2.1 ++ [(plS s z.1 (z.2.1.length + 1) z.2.2).2], cnO (plS s z.1 (z.2.1.length + 1) z.2.2).1)
def paMu (s : ByteArray) (z : St × List Pl × Int) : Nat := mu s z.1 + (if okB z.1 = true then 1 else 0)
def paI (s : ByteArray) (z : St × List Pl × Int) : St × List Pl × Int := iter (paMu s) (pa1 s) z
def paS (s : ByteArray) : St × List Pl × Int := paI s (lfS s (nx s 0), [], 1)
theorem sepS_wf {s : ByteArray} {y : St} (h : WfS s y) : WfS s (sepS y) := by
  unfold sepS
  split
  · exact h
  · exact fail_wf h (.inl rfl)
theorem endB_mu {s : ByteArray} {y : St} (h : WfS s y) (he : endB y = false) (ho : okB y = true) : mu s (rd s y) < mu s y := by
  cases y with
  | bad e q => cases ho
  | run t a => exact rd_mu h (by simpa [endB] using he)
theorem rd_bad {s : ByteArray} {y : St} (h : okB y = false) : rd s y = y := by cases y with
  | bad e q => rfl
  | run t a => cases h
theorem lf_bad {s : ByteArray} {y : St} (h : okB y = false) : lfS s y = y := by cases y with
  | bad e q => exact lf_none rfl
  | run t a => cases h
theorem sepN_wf {s : ByteArray} {y : St} (h : WfS s y) : WfS s (sepN s y) := by
  unfold sepN
  split
  · exact lf_wf (sepS_wf h)
  · exact lf_wf (rd_wf (sepS_wf h))
theorem sepN_mu {s : ByteArray} {y : St} (h : WfS s y) : mu s (sepN s y) ≤ mu s y := by
  have m1 : mu s (sepS y) ≤ mu s y := by
    unfold sepS
    split
    · exact Nat.le_refl _
    · rw [mu_fail]; exact Nat.zero_le _
  have w := sepS_wf h
  unfold sepN
  split
  · exact Nat.le_trans (lf_mu w) m1
  · rename_i he
    refine Nat.le_trans (lf_mu (rd_wf w)) (Nat.le_trans ?_ m1)
    cases ho : okB (sepS y) with
    | false => rw [rd_bad ho]; exact Nat.le_refl _
    | true => exact Nat.le_of_lt (endB_mu w (by simpa using he) ho)
theorem sepN_bad {s : ByteArray} {y : St} (ho : okB y = false) : okB (sepN s y) = false := by
  cases y with
  | run t a => cases ho
  | bad e q =>
    have e1 : sepS (.bad e q) = .bad e q := by unfold sepS; split <;> rfl
    unfold sepN
    rw [e1, if_neg (by simp [endB]), rd_bad (y := .bad e q) rfl, lf_bad (y := .bad e q) rfl]; rfl
/-- the 65th pipeline is one too many -/
theorem plS_lim {s : ByteArray} {x : St} {num cn : Int} (h : 64 < num) : okB (plS s x num cn).1 = false := by
  have hb : okB (plB s x num).1 = false := by
    unfold plB
    rw [if_pos h]
    generalize (if beg x = true then x else failS 1 x) = y
    cases y <;> rfl
  unfold plS
  simp only
  rw [pl_none (by unfold pl1; rw [if_pos (.inr hb)])]
  exact hb
theorem pa1_mu {s : ByteArray} {z y : St × List Pl × Int} (w : WfS s z.1) (h : pa1 s z = some y) : WfS s y.1 ∧ paMu s y < paMu s z := by
  unfold pa1 at h
  split at h
  · cases h
  rename_i hd
  have hz : okB z.1 = true := by cases h : okB z.1 <;> simp_all
  cases h
  have wp := plS_wf (num := z.2.1.length + 1) (cn := z.2.2) w
  refine ⟨sepN_wf wp, ?_⟩
  unfold paMu
  simp only
  rw [if_pos hz]
  cases ho : okB (plS s z.1 (z.2.1.length + 1) z.2.2).1 with
  | true =>
    have := plS_mu w ho
    have := sepN_mu wp
    split <;> omega
  | false =>
    have e := sepN_bad (s := s) ho
    rw [if_neg (by rw [e]; decide)]
    have := sepN_mu wp
    have e2 : mu s (plS s z.1 (z.2.1.length + 1) z.2.2).1 = 0 := by
      generalize (plS s z.1 (z.2.1.length + 1) z.2.2).1 = y at ho
      cases y with
      | run t a => cases ho
      | bad e q => rfl
    omega
theorem pa_none {s : ByteArray} {z : St × List Pl × Int} (h : pa1 s z = none) : paI s z = z := iter_none h
theorem pa_step {s : ByteArray} {z y : St × List Pl × Int} (w : WfS s z.1) (h : pa1 s z = some y) : paI s z = paI s y := iter_some h (pa1_mu w h).2
theorem pa_wf {s : ByteArray} {z : St × List Pl × Int} (h : WfS s z.1) : WfS s (paI s z).1 :=
  iter_keeps (mu := paMu s) (step := pa1 s) (fun y => WfS s y.1) (fun _ _ ha hb => (pa1_mu ha hb).1) z h
/-- what Parse returns: the pipelines, the error, the offset -/
def paR (s : ByteArray) : List Pl × Int × Int :=
  if 8192 < s.size then ([], 3, 8192) else match (paS s).1 with
    | .run _ _ => ((paS s).2.1, 0, 0)
    | .bad e q => ([], e, q)
end Shp
end Go.Proofs.YtlhagpfpcdedpaaDoor
