/- plain: commands, pipelines, scripts -/
import Derived.Test.YtlhagpfpcdedpaaDoorHg
namespace Go.Proofs.YtlhagpfpcdedpaaDoor
namespace Shp
/-- a command: its name, its arguments, its redirections (kind, name), its offset -/
structure Cm where
  name : List UInt8
  args : List (List UInt8)
  red : List (Int × List UInt8)
  at_ : Int
/-- a pipeline -/
structure Pl where
  cmds : List Cm
  no : Bool
  conn : Int
def tokAt : St → Int
  | .run t _ => t.a
  | .bad _ _ => 0
/-- the word behind a redirection's operator -/
def rdq (s : ByteArray) (x : St) : St :=
  match rd s x with
  | .run t a => if t.k = 1 then .run t a else .bad 1 t.a
  | .bad e q => .bad e q
/-- one step of a command -/
def cm1 (s : ByteArray) (z : St × Cm × Bool) : Option (St × Cm × Bool) :=
  match z.1 with
  | .bad _ _ => none
  | .run t a =>
    if 0 < knd (.run t a) then
      match rdq s (.run t a) with
      | .run t' a' => some (rd s (.run t' a'), { z.2.1 with red := z.2.1.red ++ [(knd (.run t a), t'.t)] }, z.2.2)
      | .bad e q => some (.bad e q, z.2.1, z.2.2)
    else if t.k = 1 then some (rd s (.run t a), if z.2.2 = true then { z.2.1 with args := z.2.1.args ++ [t.t] } else { z.2.1 with name := t.t }, true)
    else none
def cmI (s : ByteArray) (z : St × Cm × Bool) : St × Cm × Bool := iter (fun z => mu s z.1) (cm1 s) z
/-- what a command leaves: the state, the command -/
def cmF (z : St × Cm × Bool) : St × Cm := (if z.2.2 = true then z.1 else failS 1 z.1, z.2.1)
def cmS (s : ByteArray) (x : St) : St × Cm := cmF (cmI s (x, ⟨[], [], [], tokAt x⟩, false))
theorem knd_pos {x : St} (h : 0 < knd x) : ∃ t a, x = .run t a ∧ t.k = 2 := by
  unfold knd at h
  split at h
  · rename_i h1; obtain ⟨t, a, e, k, _⟩ := isO_run h1; exact ⟨t, a, e, k⟩
  split at h
  · rename_i h1; obtain ⟨t, a, e, k, _⟩ := isO_run h1; exact ⟨t, a, e, k⟩
  split at h
  · rename_i h1; obtain ⟨t, a, e, k, _⟩ := isO_run h1; exact ⟨t, a, e, k⟩
  · omega
theorem knd_ge (x : St) : 0 ≤ knd x := by
  unfold knd
  split
  · omega
  split
  · omega
  split <;> omega
theorem rdq_wf {s : ByteArray} {x : St} (h : WfS s x) : WfS s (rdq s x) := by
  have h := rd_wf h
  unfold rdq
  cases hx : rd s x with
  | bad e q => rw [hx] at h; exact h
  | run t a =>
    rw [hx] at h
    simp only
    split
    · exact h
    · exact ⟨.inl rfl, by omega, by have := h.2.1; omega⟩
theorem rdq_mu {s : ByteArray} {t : Tk} {a : Nat} (h : WfS s (.run t a)) (hk : t.k ≠ 0) : mu s (rdq s (.run t a)) < mu s (.run t a) := by
  have h := rd_mu h hk
  unfold rdq
  cases hx : rd s (.run t a) with
  | bad e q => rw [hx] at h; exact h
  | run t' a' =>
    rw [hx] at h
    simp only
    split
    · exact h
    · show 0 < _; omega
theorem rdq_k {s : ByteArray} {x : St} {t : Tk} {a : Nat} (h : rdq s x = .run t a) : t.k = 1 ∧ rd s x = .run t a := by
  unfold rdq at h
  split at h
  · split at h
    · cases h; exact ⟨by assumption, by assumption⟩
    · cases h
  · cases h
theorem cm1_mu {s : ByteArray} {z y : St × Cm × Bool} (w : WfS s z.1) (h : cm1 s z = some y) : WfS s y.1 ∧ mu s y.1 < mu s z.1 := by
  obtain ⟨x, c, n⟩ := z
  unfold cm1 at h
  cases x with
  | bad e q => cases h
  | run t a =>
    simp only at h w ⊢
    split at h
    · rename_i hk
      have k2 : t.k = 2 := by obtain ⟨t', a', e, k⟩ := knd_pos hk; cases e; exact k
      have m := rdq_mu w (by omega)
      have w2 := rdq_wf w
      split at h
      · rename_i t' a' hx
        rw [hx] at m w2
        have k1 := (rdq_k hx).1
        have m2 := rd_mu w2 (by omega)
        cases h
        exact ⟨rd_wf w2, by simp only; omega⟩
      · rename_i e q hx
        rw [hx] at m w2
        cases h
        exact ⟨w2, m⟩
    · split at h
      · rename_i k1
        cases h
        exact ⟨rd_wf w, rd_mu w (by omega)⟩
      · cases h
theorem cm_none {s : ByteArray} {z : St × Cm × Bool} (h : cm1 s z = none) : cmI s z = z := iter_none h
theorem cm_step {s : ByteArray} {z y : St × Cm × Bool} (w : WfS s z.1) (h : cm1 s z = some y) : cmI s z = cmI s y := iter_some h (cm1_mu w h).2
theorem cm_bad {s : ByteArray} {e q : Int} {c : Cm} {n : Bool} : cmI s (.bad e q, c, n) = (.bad e q, c, n) := iter_none rfl
theorem cmS_wf {s : ByteArray} {x : St} (h : WfS s x) : WfS s (cmS s x).1 := by
  have := iter_keeps (mu := fun z => mu s z.1) (step := cm1 s) (fun z => WfS s z.1) (fun a b ha hb => (cm1_mu ha hb).1) (x, ⟨[], [], [], tokAt x⟩, false) h
  unfold cmS cmF cmI
  simp only
  split
  · exact this
  · exact fail_wf this (.inl rfl)
theorem cmI_mu {s : ByteArray} {z : St × Cm × Bool} (h : WfS s z.1) : mu s (cmI s z).1 ≤ mu s z.1 :=
  (iter_keeps (mu := fun z : St × Cm × Bool => mu s z.1) (step := cm1 s) (fun y => WfS s y.1 ∧ mu s y.1 ≤ mu s z.1) (fun _ _ ha hb => ⟨(cm1_mu ha.1 hb).1, Nat.le_trans (Nat.le_of_lt (cm1_mu ha.1 hb).2) ha.2⟩) z ⟨h, Nat.le_refl _⟩).2
theorem mu_fail (s : ByteArray) (e : Int) (x : St) : mu s (failS e x) = 0 := by cases x <;> rfl
/-- a command takes a token at least, or fails -/
theorem cmS_mu {s : ByteArray} {x : St} (h : WfS s x) (ho : okB (cmS s x).1 = true) : mu s (cmS s x).1 < mu s x := by
  unfold cmS cmF at ho ⊢
  simp only at ho ⊢
  cases hc : cm1 s (x, ⟨[], [], [], tokAt x⟩, false) with
  | none =>
    rw [cm_none hc] at ho
    simp only [Bool.false_eq_true, if_false] at ho
    cases x <;> cases ho
  | some y =>
    have m := cm1_mu (z := (x, ⟨[], [], [], tokAt x⟩, false)) h hc
    rw [cm_step (z := (x, ⟨[], [], [], tokAt x⟩, false)) h hc]
    have m2 := cmI_mu (z := y) m.1
    split
    · exact Nat.lt_of_le_of_lt m2 m.2
    · rw [mu_fail]; exact Nat.lt_of_le_of_lt (Nat.zero_le _) m.2
/-- one step of a pipeline; at its end the mark is set -/
def pl1 (s : ByteArray) (z : St × List Cm × Bool) : Option (St × List Cm × Bool) :=
  if z.2.2 = true ∨ okB z.1 = false then none
  else if beg z.1 = false then some (failS 1 z.1, z.2.1, true)
  else if z.2.1.length = 16 then some (failS 3 z.1, z.2.1, true)
  else if isO [124] (cmS s z.1).1 = true then some (lfS s (rd s (cmS s z.1).1), z.2.1 ++ [(cmS s z.1).2], false)
  else some ((cmS s z.1).1, z.2.1 ++ [(cmS s z.1).2], true)
def plMu (s : ByteArray) (z : St × List Cm × Bool) : Nat := 2 * mu s z.1 + (if z.2.2 = true then 0 else 1)
def plI (s : ByteArray) (z : St × List Cm × Bool) : St × List Cm × Bool := iter (plMu s) (pl1 s) z
/-- ahead of a pipeline's commands: the state, whether it is negated -/
def plB (s : ByteArray) (x : St) (num : Int) : St × Bool :=
  match (if 64 < num then failS 3 (if beg x = true then x else failS 1 x) else if beg x = true then x else failS 1 x) with
  | .run t a => if t.b = true then (rd s (.run t a), true) else (.run t a, false)
  | .bad e q => (.bad e q, false)
def plS (s : ByteArray) (x : St) (num cn : Int) : St × Pl := ((plI s ((plB s x num).1, [], false)).1, ⟨(plI s ((plB s x num).1, [], false)).2.1, (plB s x num).2, cn⟩)
theorem lf_mu {s : ByteArray} {x : St} (h : WfS s x) : mu s (lfS s x) ≤ mu s x :=
  (iter_keeps (mu := mu s) (step := lf1 s) (fun y => WfS s y ∧ mu s y ≤ mu s x) (fun a b ha hb => by
    unfold lf1 at hb
    split at hb
    · rename_i hi
      obtain ⟨t, q, rfl, hk, _⟩ := isO_run hi
      cases hb
      exact ⟨rd_wf ha.1, Nat.le_trans (Nat.le_of_lt (rd_mu ha.1 (by omega))) ha.2⟩
    · cases hb) x ⟨h, Nat.le_refl _⟩).2
theorem isO_ok {o : List UInt8} {x : St} (h : isO o x = true) : okB x = true := by obtain ⟨t, a, rfl, _, _⟩ := isO_run h; rfl
theorem rd_isO_mu {s : ByteArray} {o : List UInt8} {x : St} (w : WfS s x) (h : isO o x = true) : mu s (rd s x) < mu s x := by
  obtain ⟨t, a, rfl, hk, _⟩ := isO_run h
  exact rd_mu w (by omega)
theorem pl1_mu {s : ByteArray} {z y : St × List Cm × Bool} (w : WfS s z.1) (h : pl1 s z = some y) : WfS s y.1 ∧ plMu s y < plMu s z ∧ (okB y.1 = true → mu s y.1 < mu s z.1) := by
  obtain ⟨x, l, d⟩ := z
  unfold pl1 at h
  simp only at h w
  split at h
  · cases h
  rename_i hd
  have d0 : d = false := by cases d <;> simp_all
  subst d0
  have wc := cmS_wf w
  split at h
  · cases h
    exact ⟨fail_wf w (.inl rfl), by unfold plMu; simp only [mu_fail]; simp, fun ho => by cases x <;> cases ho⟩
  split at h
  · cases h
    exact ⟨fail_wf w (.inr rfl), by unfold plMu; simp only [mu_fail]; simp, fun ho => by cases x <;> cases ho⟩
  split at h
  · rename_i hi
    cases h
    have m := cmS_mu w (isO_ok hi)
    have m2 := rd_isO_mu wc hi
    have m3 := lf_mu (rd_wf wc)
    exact ⟨lf_wf (rd_wf wc), by unfold plMu; simp only; omega, fun _ => by simp only; omega⟩
  · cases h
    refine ⟨wc, ?_, fun ho => cmS_mu w ho⟩
    unfold plMu
    simp only
    have m : mu s (cmS s x).1 ≤ mu s x := by
      cases ho : okB (cmS s x).1 with
      | true => exact Nat.le_of_lt (cmS_mu w ho)
      | false =>
        cases hx : (cmS s x).1 with
        | bad e q => exact Nat.zero_le _
        | run t a => rw [hx] at ho; cases ho
    simp; omega
theorem pl_none {s : ByteArray} {z : St × List Cm × Bool} (h : pl1 s z = none) : plI s z = z := iter_none h
theorem pl_step {s : ByteArray} {z y : St × List Cm × Bool} (w : WfS s z.1) (h : pl1 s z = some y) : plI s z = plI s y := iter_some h (pl1_mu w h).2.1
theorem pl_done {s : ByteArray} {x : St} {l : List Cm} : plI s (x, l, true) = (x, l, true) := iter_none (by unfold pl1; simp)
end Shp
end Go.Proofs.YtlhagpfpcdedpaaDoor
