/- plain: the reference's pipelines and scripts on the model's states -/
import Derived.Test.YtlhagpfpcdedpaaDoorHr
import Derived.Test.YtlhagpfpcdedpaaDoorHl
import Derived.Test.YtlhagpfpcdedpaaDoorId
namespace Go.Proofs.YtlhagpfpcdedpaaDoor
namespace Shp
/-- an exclamation mark alone is a word -/
def BgW (x : St) : Prop := ∀ t a, x = .run t a → t.b = true → t.k = 1
section
variable {s : ByteArray}
theorem gb_nx (a : Nat) : BgW (nx s a) := by
  intro t n h hb
  unfold nx tokS at h
  split at h
  · cases h; cases hb
  split at h
  · cases h; cases hb
  split at h
  · cases h
  · unfold wordS at h
    split at h
    · cases h; rfl
    · split at h
      · cases h; rfl
      · cases h
theorem gb_bad (e q : Int) : BgW (.bad e q) := fun t a h => by cases h
theorem gb_rd (x : St) : BgW (rd s x) := by
  cases x with
  | run t a => exact gb_nx a
  | bad e q => exact gb_bad e q
theorem gb_fail (e : Int) (x : St) : BgW (failS e x) := by cases x <;> exact gb_bad _ _
theorem gb_lf {x : St} (h : BgW x) : BgW (lfS s x) :=
  iter_keeps (mu := mu s) (step := lf1 s) BgW (fun a b _ hb => by
    unfold lf1 at hb
    split at hb
    · cases hb; exact gb_rd a
    · cases hb) x h
theorem gb_cm {x : St} (h : BgW x) : BgW (cmS s x).1 := by
  have := iter_keeps (mu := fun z : St × Cm × Bool => mu s z.1) (step := cm1 s) (fun z => BgW z.1) (fun a b _ hb => by
    obtain ⟨y, c, n⟩ := a
    unfold cm1 at hb
    cases y with
    | bad e q => cases hb
    | run t a =>
      simp only at hb
      split at hb
      · split at hb
        · cases hb; simp only; exact gb_rd _
        · cases hb; exact gb_bad _ _
      · split at hb
        · cases hb; simp only; exact gb_rd _
        · cases hb) (x, ⟨[], [], [], tokAt x⟩, false) h
  unfold cmS cmF cmI
  simp only
  split
  · exact this
  · exact gb_fail _ _
theorem gb_pl {z : St × List Cm × Bool} (h : BgW z.1) : BgW (plI s z).1 :=
  iter_keeps (mu := plMu s) (step := pl1 s) (fun z => BgW z.1) (fun a b ha hb => by
    unfold pl1 at hb
    split at hb
    · cases hb
    split at hb
    · cases hb; exact gb_fail _ _
    split at hb
    · cases hb; exact gb_fail _ _
    split at hb
    · cases hb; exact gb_lf (gb_rd _)
    · cases hb; exact gb_cm ha) z h
theorem gb_plS {x : St} {num cn : Int} (h : BgW x) : BgW (plS s x num cn).1 := by
  refine gb_pl (z := ((plB s x num).1, [], false)) ?_
  rw [plB_eq]
  have h1 : BgW (if beg x = true then x else failS 1 x) := by split; exact h; exact gb_fail _ _
  generalize (if beg x = true then x else failS 1 x) = y at h1
  have h2 : BgW (if 64 < num then failS 3 y else y) := by split; exact gb_fail _ _; exact h1
  generalize (if 64 < num then failS 3 y else y) = z at h2
  unfold plC
  cases z with
  | run t a =>
    simp only
    split
    · simp only; exact gb_rd _
    · exact h2
  | bad e q => exact gb_bad _ _
theorem gb_sep {y : St} (h : BgW y) : BgW (sepN s y) := by
  have h1 : BgW (sepS y) := by unfold sepS; split; exact h; exact gb_fail _ _
  unfold sepN
  refine gb_lf ?_
  split
  · exact h1
  · exact gb_rd _
/-- a command that cannot begin -/
theorem cm_not {t : Tk} {a : Nat} (h : beg (.run t a) = false) : (cmS s (.run t a)).1 = failS 1 (.run t a) := by
  have h' : (decide (t.k = 1) || decide (0 < knd (.run t a))) = false := h
  simp only [Bool.or_eq_false_iff, decide_eq_false_iff_not] at h'
  unfold cmS
  rw [cm_none (by unfold cm1; simp only; rw [if_neg h'.2, if_neg h'.1])]
  rfl
theorem cmS_bad (e q : Int) : (cmS s (.bad e q)).1 = .bad e q := by unfold cmS; rw [cm_bad]; rfl
/-- the state ahead of the reference's command -/
def yR (y : St) (n : Nat) : St := if 16 ≤ n ∧ beg y = true then failS 3 y else y
theorem beg_run {y : St} (h : beg y = true) : ∃ t a, y = .run t a := by
  cases y with
  | run t a => exact ⟨t, a, rfl⟩
  | bad e q => cases h
theorem yR_bad {y : St} {n : Nat} (h : 16 ≤ n ∧ beg y = true) : ∃ q, yR y n = .bad 3 q ∧ failS 3 y = .bad 3 q := by
  obtain ⟨t, a, rfl⟩ := beg_run h.2
  unfold yR
  rw [if_pos h]
  exact ⟨_, rfl, rfl⟩
theorem rp_more {y : St} {l : List Cm} (h : isO [124] (cmS s (yR y l.length)).1 = true) : pl1 s (y, l, false) = some (lfS s (rd s (cmS s y).1), l ++ [(cmS s y).2], false) ∧ yR y l.length = y ∧ l.length < 16 := by
  by_cases h16 : 16 ≤ l.length ∧ beg y = true
  · obtain ⟨q, e, -⟩ := yR_bad h16
    rw [e, cmS_bad] at h
    cases h
  have e : yR y l.length = y := by unfold yR; rw [if_neg h16]
  rw [e] at h
  cases y with
  | bad er q => rw [cmS_bad] at h; cases h
  | run t a =>
    cases hb : beg (.run t a) with
    | false => rw [cm_not hb] at h; cases h
    | true =>
      refine ⟨?_, e, Nat.lt_of_not_le fun h => h16 ⟨h, hb⟩⟩
      unfold pl1
      simp only
      rw [if_neg (by simp [okB]), if_neg (by rw [hb]; decide), if_neg (fun h => h16 ⟨by omega, hb⟩), if_pos h]
theorem rp_end {y : St} {l : List Cm} (w : WfS s y) (hl : l.length ≤ 16) (h : isO [124] (cmS s (yR y l.length)).1 = false) :
    (plI s (y, l, false)).1 = (cmS s (yR y l.length)).1 ∧ (okB (cmS s (yR y l.length)).1 = true → (plI s (y, l, false)).2.1 = l ++ [(cmS s (yR y l.length)).2]) := by
  by_cases h16 : 16 ≤ l.length ∧ beg y = true
  · obtain ⟨q, e, e2⟩ := yR_bad h16
    rw [e, cmS_bad]
    refine ⟨?_, fun h => by cases h⟩
    obtain ⟨t, a, rfl⟩ := beg_run h16.2
    have ST : pl1 s (.run t a, l, false) = some (failS 3 (.run t a), l, true) := by
      unfold pl1
      simp only
      rw [if_neg (by simp [okB]), if_neg (by rw [h16.2]; decide), if_pos (by omega)]
    rw [pl_step (z := (.run t a, l, false)) w ST, pl_done, e2]
  have e : yR y l.length = y := by unfold yR; rw [if_neg h16]
  rw [e] at h ⊢
  cases y with
  | bad er q =>
    rw [pl_bad rfl, cmS_bad]
    exact ⟨rfl, fun h => by cases h⟩
  | run t a =>
    cases hb : beg (.run t a) with
    | false =>
      rw [cm_not hb]
      refine ⟨?_, fun h => by cases h⟩
      have ST : pl1 s (.run t a, l, false) = some (failS 1 (.run t a), l, true) := by
        unfold pl1
        simp only
        rw [if_neg (by simp [okB]), if_pos hb]
      rw [pl_step (z := (.run t a, l, false)) w ST, pl_done]
    | true =>
      have ST : pl1 s (.run t a, l, false) = some ((cmS s (.run t a)).1, l ++ [(cmS s (.run t a)).2], true) := by
        unfold pl1
        simp only
        rw [if_neg (by simp [okB]), if_neg (by rw [hb]; decide), if_neg (fun h => h16 ⟨by omega, hb⟩), if_neg (by rw [h]; decide)]
      rw [pl_step (z := (.run t a, l, false)) w ST, pl_done]
      exact ⟨rfl, fun _ => rfl⟩
theorem plC_bad (e q : Int) : plC s (.bad e q) = (.bad e q, false) := rfl
/-- the reference's pipeline is the model's -/
theorem rp_plS {x : St} {cn num : Int} (w : WfS s x) (hg : BgW x) (hn : num ≤ 64) :
    (plS s x num cn).1 = (plI s ((plC s x).1, [], false)).1 ∧ (plS s x num cn).2.no = (plC s x).2 ∧ (plS s x num cn).2.conn = cn ∧ (okB (plS s x num cn).1 = true → (plS s x num cn).2.cmds = (plI s ((plC s x).1, [], false)).2.1) := by
  have e1 : plB s x num = plC s (if beg x = true then x else failS 1 x) := by rw [plB_eq, if_neg (by omega)]
  unfold plS
  simp only
  rw [e1]
  cases hb : beg x with
  | true => rw [if_pos rfl]; exact ⟨by first | trivial | rfl, by first | trivial | rfl, by first | trivial | rfl, fun _ => by first | trivial | rfl⟩
  | false =>
    rw [if_neg (by decide)]
    cases x with
    | bad e q => exact ⟨by first | trivial | rfl, by first | trivial | rfl, by first | trivial | rfl, fun _ => by first | trivial | rfl⟩
    | run t a =>
      have h' : (decide (t.k = 1) || decide (0 < knd (.run t a))) = false := hb
      simp only [Bool.or_eq_false_iff, decide_eq_false_iff_not] at h'
      have tb : ¬ t.b = true := fun h => h'.1 (hg t a rfl h)
      have e2 : plC s (.run t a) = (.run t a, false) := if_neg tb
      have e3 : plC s (failS 1 (.run t a)) = (failS 1 (.run t a), false) := rfl
      have ST : pl1 s (.run t a, [], false) = some (failS 1 (.run t a), [], true) := by
        unfold pl1
        simp only
        rw [if_neg (by simp [okB]), if_pos hb]
      rw [e2, e3]
      simp only
      rw [pl_step (z := (.run t a, [], false)) w ST, pl_done, pl_bad (fail_ok 1 (.run t a))]
      exact ⟨by first | trivial | rfl, by first | trivial | rfl, by first | trivial | rfl, fun _ => rfl⟩
/-- one too many -/
theorem rp_lim {x : St} {cn num : Int} (h : 64 < num) : (plS s x num cn).1 = failS 3 (if beg x = true then x else failS 1 x) := by
  have e1 : plB s x num = plC s (failS 3 (if beg x = true then x else failS 1 x)) := by rw [plB_eq, if_pos h]
  generalize (if beg x = true then x else failS 1 x) = y at e1
  unfold plS
  simp only
  rw [e1]
  have e2 : plC s (failS 3 y) = (failS 3 y, false) := by cases y <;> rfl
  rw [e2]
  simp only
  rw [pl_bad (fail_ok 3 y)]
/-- what stands between two pipelines, as the reference reads it -/
theorem rp_sep {y : St} (he : endB y = false) : sepN s y = lfS s (rd s (if isO [38, 38] y = true ∨ isO [124, 124] y = true ∨ isO [59] y = true ∨ isO [10] y = true then y else failS 1 y)) := by
  have e1 : sepS y = (if isO [38, 38] y = true ∨ isO [124, 124] y = true ∨ isO [59] y = true ∨ isO [10] y = true then y else failS 1 y) := by
    unfold sepS sepB
    rw [he]
    congr 1
    simp only [Bool.or_eq_true, Bool.false_eq_true, or_false, or_assoc]
  have e2 : endB (sepS y) = false := by
    unfold sepS
    split
    · exact he
    · cases y <;> rfl
  unfold sepN
  rw [if_neg (by rw [e2]; decide), e1]
end
end Shp
end Go.Proofs.YtlhagpfpcdedpaaDoor
