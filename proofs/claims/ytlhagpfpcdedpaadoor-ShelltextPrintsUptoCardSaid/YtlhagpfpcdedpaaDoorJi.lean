/- plain: what Parse returns is short enough -/
import Derived.Test.YtlhagpfpcdedpaaDoorJe
namespace Go.Proofs.YtlhagpfpcdedpaaDoor
open Shp
namespace Shp
section
variable {s : ByteArray}
/-- a token's text is no longer than the script -/
def TxS (s : ByteArray) (x : St) : Prop := ∀ t a, x = .run t a → t.t.length ≤ s.size
theorem tx_bad (e q : Int) : TxS s (.bad e q) := fun t a h => by cases h
theorem tx_nx (a : Nat) (ha : a ≤ s.size) : TxS s (nx s a) := by
  intro t n h
  have hj := (skS_le s a ha).2
  unfold nx tokS at h
  split at h
  · cases h; exact Nat.zero_le _
  split at h
  · rename_i o ho
    have := opT_len ho
    cases h; simp only; omega
  split at h
  · cases h
  · have key : (wdS s (skS s a, [])).2.length ≤ s.size := by
      have h1 := iter_keeps (mu := fun x : Nat × List UInt8 => s.size - x.1) (step := wd1 s) (fun y : Nat × List UInt8 => y.2.length ≤ y.1 ∧ y.1 ≤ s.size) (fun a b ha hb => ⟨wd1_len ha.1 hb, (wd1_lt hb).2⟩) (skS s a, []) ⟨Nat.zero_le _, hj⟩
      exact Nat.le_trans h1.1 h1.2
    unfold wordS at h
    split at h
    · cases h; exact key
    · split at h
      · cases h; exact key
      · cases h
theorem tx_rd {x : St} (w : WfS s x) : TxS s (rd s x) := by
  cases x with
  | run t a => exact tx_nx a w.1
  | bad e q => exact tx_bad e q
theorem tx_fail (e : Int) (x : St) : TxS s (failS e x) := by cases x <;> exact tx_bad _ _
theorem tx_lf {x : St} (w : WfS s x) (h : TxS s x) : TxS s (lfS s x) :=
  (iter_keeps (mu := mu s) (step := lf1 s) (fun y => WfS s y ∧ TxS s y) (fun a b ha hb => by
    unfold lf1 at hb
    split at hb
    · cases hb; exact ⟨rd_wf ha.1, tx_rd ha.1⟩
    · cases hb) x ⟨w, h⟩).2
/-- a command whose words are no longer than the script -/
def WdC (s : ByteArray) (c : Cm) : Prop := c.name.length ≤ s.size ∧ (∀ a ∈ c.args, a.length ≤ s.size) ∧ (∀ r ∈ c.red, r.2.length ≤ s.size)
theorem cm_len {x : St} (w : WfS s x) (h : TxS s x) : TxS s (cmS s x).1 ∧ WdC s (cmS s x).2 ∧ (cmS s x).2.args.length + (cmS s x).2.red.length ≤ s.size + 1 := by
  have m0 : mu s x ≤ s.size + 1 := by
    cases x with
    | run t a => show s.size - a + _ ≤ _; split <;> omega
    | bad e q => exact Nat.zero_le _
  have := iter_keeps (mu := fun z : St × Cm × Bool => mu s z.1) (step := cm1 s) (fun z => WfS s z.1 ∧ TxS s z.1 ∧ WdC s z.2.1 ∧ z.2.1.args.length + z.2.1.red.length + mu s z.1 ≤ s.size + 1) (fun a b ha hb => by
    have hm := cm1_mu ha.1 hb
    obtain ⟨y, c, n⟩ := a
    obtain ⟨a1, a2, a3, a4⟩ := ha
    simp only at a1 a2 a3 a4 hm
    unfold cm1 at hb
    cases y with
    | bad e q => cases hb
    | run t a =>
      simp only at hb
      split at hb
      · split at hb
        · rename_i t' a' hq
          have hw := rdq_wf a1
          rw [hq] at hw
          have htx := tx_rd a1
          have hr := (rdq_k hq).2
          cases hb
          refine ⟨hm.1, tx_rd hw, ⟨a3.1, a3.2.1, fun r hr' => ?_⟩, ?_⟩
          · simp only at hr'
            rcases List.mem_append.1 hr' with h | h
            · exact a3.2.2 r h
            · rw [List.mem_singleton] at h; subst h; exact htx t' a' hr
          · have := hm.2
            simp only [List.length_append, List.length_singleton] at this ⊢
            omega
        · cases hb
          refine ⟨hm.1, tx_bad _ _, a3, ?_⟩
          have := hm.2
          simp only at this ⊢
          omega
      · split at hb
        · have htx := a2 t a rfl
          cases hb
          refine ⟨hm.1, tx_rd a1, ?_, ?_⟩
          · simp only
            split
            · exact ⟨a3.1, fun x hx => by
                rcases List.mem_append.1 hx with h | h
                · exact a3.2.1 x h
                · rw [List.mem_singleton] at h; subst h; exact htx, a3.2.2⟩
            · exact ⟨htx, a3.2.1, a3.2.2⟩
          · have := hm.2
            simp only at this ⊢
            split
            · simp only [List.length_append, List.length_singleton]; omega
            · simp only; omega
        · cases hb) (x, ⟨[], [], [], tokAt x⟩, false) ⟨w, h, ⟨Nat.zero_le _, (fun _ h => by cases h), (fun _ h => by cases h)⟩, by simpa using m0⟩
  unfold cmS cmF cmI
  simp only
  refine ⟨?_, this.2.2.1, by have := this.2.2.2; omega⟩
  split
  · exact this.2.1
  · exact tx_fail _ _
def LnC (s : ByteArray) (c : Cm) : Prop := WdC s c ∧ c.args.length + c.red.length ≤ s.size + 1
theorem pl_lens {z : St × List Cm × Bool} (w : WfS s z.1) (h : TxS s z.1) (hl : ∀ c ∈ z.2.1, LnC s c) : TxS s (plI s z).1 ∧ ∀ c ∈ (plI s z).2.1, LnC s c :=
  (iter_keeps (mu := plMu s) (step := pl1 s) (fun z => WfS s z.1 ∧ TxS s z.1 ∧ ∀ c ∈ z.2.1, LnC s c) (fun a b ha hb => by
    have hm := (pl1_mu ha.1 hb).1
    obtain ⟨a1, a2, a3⟩ := ha
    have hc := cm_len a1 a2
    have key : ∀ c ∈ a.2.1 ++ [(cmS s a.1).2], LnC s c := fun c hx => by
      rcases List.mem_append.1 hx with h | h
      · exact a3 c h
      · rw [List.mem_singleton] at h; subst h; exact hc.2
    unfold pl1 at hb
    split at hb
    · cases hb
    split at hb
    · cases hb; exact ⟨hm, tx_fail _ _, a3⟩
    split at hb
    · cases hb; exact ⟨hm, tx_fail _ _, a3⟩
    split at hb
    · cases hb; exact ⟨hm, tx_lf (rd_wf (cmS_wf a1)) (tx_rd (cmS_wf a1)), key⟩
    · cases hb; exact ⟨hm, hc.1, key⟩) z ⟨w, h, hl⟩).2
theorem plS_lens {x : St} {num cn : Int} (w : WfS s x) (h : TxS s x) : TxS s (plS s x num cn).1 ∧ ∀ c ∈ (plS s x num cn).2.cmds, LnC s c := by
  have hb : TxS s (plB s x num).1 := by
    rw [plB_eq]
    have h1 : WfS s (if beg x = true then x else failS 1 x) ∧ TxS s (if beg x = true then x else failS 1 x) := by
      split
      · exact ⟨w, h⟩
      · exact ⟨fail_wf w (.inl rfl), tx_fail _ _⟩
    generalize (if beg x = true then x else failS 1 x) = y at h1
    have h2 : WfS s (if 64 < num then failS 3 y else y) ∧ TxS s (if 64 < num then failS 3 y else y) := by
      split
      · exact ⟨fail_wf h1.1 (.inr rfl), tx_fail _ _⟩
      · exact h1
    generalize (if 64 < num then failS 3 y else y) = z at h2
    unfold plC
    cases z with
    | run t a =>
      simp only
      split
      · simp only; exact tx_rd h2.1
      · exact h2.2
    | bad e q => exact tx_bad _ _
  exact pl_lens (z := ((plB s x num).1, [], false)) (plB_wf w).1 hb (fun c hc => by cases hc)
theorem sep_tx {y : St} (w : WfS s y) (h : TxS s y) : TxS s (sepN s y) := by
  have w1 := sepS_wf w
  have h1 : TxS s (sepS y) := by unfold sepS; split; exact h; exact tx_fail _ _
  unfold sepN
  split
  · exact tx_lf w1 h1
  · exact tx_lf (rd_wf w1) (tx_rd w1)
theorem pa_lens {z : St × List Pl × Int} (w : WfS s z.1) (h : TxS s z.1) (hl : ∀ p ∈ z.2.1, ∀ c ∈ p.cmds, LnC s c) : ∀ p ∈ (paI s z).2.1, ∀ c ∈ p.cmds, LnC s c :=
  (iter_keeps (mu := paMu s) (step := pa1 s) (fun z => WfS s z.1 ∧ TxS s z.1 ∧ ∀ p ∈ z.2.1, ∀ c ∈ p.cmds, LnC s c) (fun a b ha hb => by
    have hm := (pa1_mu ha.1 hb).1
    obtain ⟨a1, a2, a3⟩ := ha
    unfold pa1 at hb
    split at hb
    · cases hb
    have hp := plS_lens (num := a.2.1.length + 1) (cn := a.2.2) a1 a2
    cases hb
    refine ⟨hm, sep_tx (plS_wf a1) hp.1, fun p hx => ?_⟩
    rcases List.mem_append.1 hx with h | h
    · exact a3 p h
    · rw [List.mem_singleton] at h; subst h; exact hp.2) z ⟨w, h, hl⟩).2.2
theorem paR_lens {l : List Pl} {e q : Int} (h : paR s = (l, e, q)) : s.size ≤ 8192 ∨ l = [] := by
  unfold paR at h
  split at h
  · cases h; exact .inr rfl
  · exact .inl (by omega)
theorem paR_ln {l : List Pl} {e q : Int} (h : paR s = (l, e, q)) : ∀ p ∈ l, ∀ c ∈ p.cmds, LnC s c := by
  unfold paR at h
  split at h
  · cases h; intro p hp; cases hp
  · split at h
    · cases h
      exact pa_lens (z := (lfS s (nx s 0), [], 1)) (lf_wf (nx_wf (Nat.zero_le _))) (tx_lf (nx_wf (Nat.zero_le _)) (tx_nx 0 (Nat.zero_le _))) (fun p hp => by cases hp)
    · cases h; intro p hp; cases hp
theorem paR_sz {l : List Pl} {e q : Int} (h : paR s = (l, e, q)) : SzL l := by
  intro p hp c hc
  obtain ⟨⟨h1, h2, h3⟩, -⟩ := paR_ln h p hp c hc
  have hs : s.size ≤ 8192 := (paR_lens h).elim id (fun e => by subst e; cases hp)
  exact ⟨by omega, fun a ha => by have := h2 a ha; omega, fun r hr => by have := h3 r hr; omega⟩
end
end Shp
end Go.Proofs.YtlhagpfpcdedpaaDoor
