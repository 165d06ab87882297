/- plain: a script ahead of a line feed: commands, pipelines, the whole -/
import Derived.Test.YtlhagpfpcdedpaaDoorIb
namespace Go.Proofs.YtlhagpfpcdedpaaDoor
namespace Shp
section
variable {s u : ByteArray}
theorem TU_ok (x : St) : okB (TU s x) = okB x := by
  cases x with
  | bad e q => rfl
  | run t a => unfold TU; simp only; split <;> rfl
theorem TU_non {x : St} (h : endB x = false) : TU s x = x := by
  cases x with
  | bad e q => rfl
  | run t a => exact TU_run (by simpa [endB] using h)
theorem TU_fin {x : St} (h : endB x = true) : TU s x = .run ⟨2, [10], false, s.size⟩ (s.size + 1) := by
  cases x with
  | bad e q => cases h
  | run t a => exact if_pos (by simpa [endB] using h)
theorem end_k {x : St} (h : endB x = true) : ∃ t a, x = .run t a ∧ t.k = 0 := by
  cases x with
  | bad e q => cases h
  | run t a => exact ⟨t, a, rfl, by simpa [endB] using h⟩
theorem end_isO {x : St} (h : endB x = true) (o : List UInt8) : isO o x = false := by
  obtain ⟨t, a, rfl, hk⟩ := end_k h
  unfold isO
  simp only
  rw [decide_eq_false (by omega), Bool.false_and]
theorem TU_isO {o : List UInt8} (h10 : o ≠ [10]) (x : St) : isO o (TU s x) = isO o x := by
  cases he : endB x with
  | false => rw [TU_non he]
  | true =>
    rw [TU_fin he, end_isO he]
    show (decide (2 = 2) && decide ([10] = o)) = false
    rw [decide_eq_false (p := [10] = o) (fun h => h10 h.symm), Bool.and_false]
theorem TU_knd (x : St) : knd (TU s x) = knd x := by
  unfold knd
  rw [TU_isO (by decide), TU_isO (by decide), TU_isO (by decide)]
theorem end_knd {x : St} (h : endB x = true) : knd x = 0 := by
  unfold knd
  rw [end_isO h, end_isO h, end_isO h]; rfl
theorem end_beg {x : St} (h : endB x = true) : beg x = false := by
  have hk := end_knd h
  obtain ⟨t, a, rfl, h0⟩ := end_k h
  show (decide (t.k = 1) || decide (0 < knd (.run t a))) = false
  rw [hk, h0]; rfl
theorem TU_beg (x : St) : beg (TU s x) = beg x := by
  cases he : endB x with
  | false => rw [TU_non he]
  | true =>
    have hk := TU_knd (s := s) x
    rw [end_beg he]
    rw [TU_fin he] at hk ⊢
    show (decide (2 = 1) || decide (0 < knd (.run ⟨2, [10], false, s.size⟩ (s.size + 1)))) = false
    rw [hk, end_knd he]; rfl
theorem TU_wf (h : Pre s u) {x : St} (w : WfS s x) : WfS u (TU s x) := by
  have hz := h.size
  cases he : endB x with
  | true => rw [TU_fin he]; exact ⟨hz, by show s.size ≤ _; omega, Nat.le_refl _, fun h => absurd h (by show ¬ (2 = 0); decide), fun _ => by simp, fun _ => Nat.lt_succ_self _⟩
  | false =>
    rw [TU_non he]
    cases x with
    | bad e q => exact ⟨w.1, w.2.1, by have := w.2.2; omega⟩
    | run t a =>
      obtain ⟨w1, w2, w3, w4, w5, w6⟩ := w
      exact ⟨by omega, by omega, w3, fun h0 => by simp [endB, h0] at he, w5, w6⟩
theorem TU_tokAt {x : St} (w : WfS s x) : tokAt (TU s x) = tokAt x := by
  cases he : endB x with
  | false => rw [TU_non he]
  | true =>
    rw [TU_fin he]
    obtain ⟨t, a, rfl, h0⟩ := end_k he
    show ((s.size : Nat) : Int) = t.a
    rw [(w.2.2.2.1 h0).2.1]
theorem Pre.rd (h : Pre s u) {x : St} (w : WfS s x) (he : endB x = false) (ho : okB (Shp.rd s x) = true) : Shp.rd u x = TU s (Shp.rd s x) := by
  cases x with
  | bad e q => cases ho
  | run t a => exact h.nx w.1 ho
/-- what stands behind line feeds -/
def AF (s u : ByteArray) (y : St) : St := if endB y = true then lfS u (nx u (s.size + 1)) else y
theorem Pre.lfS (h : Pre s u) (x : St) (w : WfS s x) (ho : okB (Shp.lfS s x) = true) : Shp.lfS u (TU s x) = AF s u (Shp.lfS s x) := by
  generalize hn : Shp.mu s x = n
  induction n using Nat.strongRecOn generalizing x with
  | ind n ih =>
    cases he : endB x with
    | true =>
      have hl : Shp.lfS s x = x := lf_none (end_isO he _)
      have wu := TU_wf h w
      rw [hl]
      unfold AF
      rw [if_pos he]
      rw [TU_fin he] at wu ⊢
      exact lf_step wu rfl
    | false =>
      have hu := TU_non (s := s) he
      cases hi : isO [10] x with
      | false =>
        have hl : Shp.lfS s x = x := lf_none hi
        rw [hl, hu]
        unfold AF
        rw [if_neg (by rw [he]; decide)]
        exact lf_none hi
      | true =>
        have wu := TU_wf h w
        rw [hu] at wu ⊢
        rw [lf_step w hi] at ho ⊢
        have hor : okB (Shp.rd s x) = true := by
          refine Decidable.byContradiction fun hc => ?_
          rw [lf_bad (by simpa using hc)] at ho
          exact hc ho
        rw [lf_step wu hi, h.rd w he hor]
        exact ih _ (by have := rd_isO_mu w hi; omega) _ (rd_wf w) ho rfl
theorem Pre.cmI (h : Pre s u) (x : St) (c : Cm) (n : Bool) (w : WfS s x) (ho : okB (Shp.cmI s (x, c, n)).1 = true) : Shp.cmI u (TU s x, c, n) = (TU s (Shp.cmI s (x, c, n)).1, (Shp.cmI s (x, c, n)).2) := by
  generalize hm : Shp.mu s x = m
  induction m using Nat.strongRecOn generalizing x c n with
  | ind m ih =>
    cases h1 : Shp.cm1 s (x, c, n) with
    | none =>
      rw [cm_none h1] at ho ⊢
      refine cm_none ?_
      cases x with
      | bad e q => cases ho
      | run t a =>
        cases he : endB (.run t a) with
        | false =>
          rw [TU_non he]
          unfold Shp.cm1 at h1 ⊢
          simp only at h1 ⊢
          split at h1
          · split at h1 <;> cases h1
          · rename_i hk
            rw [if_neg hk]
            split at h1
            · cases h1
            · rename_i k1; exact if_neg k1
        | true =>
          have hk := TU_knd (s := s) (.run t a)
          rw [TU_fin he] at hk ⊢
          unfold Shp.cm1
          simp only
          rw [hk, end_knd he, if_neg (by decide), if_neg (by decide)]
    | some y =>
      have hst := cm_step (z := (x, c, n)) w h1
      have hmu := cm1_mu (z := (x, c, n)) w h1
      rw [hst] at ho ⊢
      have hy : okB y.1 = true := by
        obtain ⟨y1, y2, y3⟩ := y
        cases y1 with
        | run t a => rfl
        | bad e q => rw [cm_bad] at ho; cases ho
      have he : endB x = false := by
        cases he : endB x with
        | false => rfl
        | true =>
          have hk := end_knd he
          obtain ⟨t, a, rfl, h0⟩ := end_k he
          unfold Shp.cm1 at h1
          simp only at h1
          rw [hk, if_neg (by decide), if_neg (by omega)] at h1
          cases h1
      have wu := TU_wf h w
      rw [TU_non he] at wu ⊢
      have h2 : Shp.cm1 u (x, c, n) = some (TU s y.1, y.2) := by
        cases x with
        | bad e q => cases h1
        | run t a =>
          unfold Shp.cm1 at h1 ⊢
          simp only at h1 ⊢
          split at h1
          · rename_i hk
            rw [if_pos hk]
            cases hq : Shp.rdq s (.run t a) with
            | bad e q => rw [hq] at h1; cases h1; cases hy
            | run t' a' =>
              rw [hq] at h1
              obtain ⟨k1, hr⟩ := rdq_k hq
              have hr2 : Shp.rd u (.run t a) = .run t' a' := by
                rw [h.rd w he (by rw [hr]; rfl), hr, TU_run (by omega)]
              have hq2 : Shp.rdq u (.run t a) = .run t' a' := by
                unfold Shp.rdq
                rw [hr2]
                simp only
                rw [if_pos k1]
              rw [hq2]
              cases h1
              have w2 := rd_wf w
              rw [hr] at w2
              simp only
              rw [h.rd w2 (by simp [endB, k1]) hy]
          · rename_i hk
            rw [if_neg hk]
            split at h1
            · rename_i k1
              rw [if_pos k1]
              cases h1
              rw [h.rd w he hy]
            · cases h1
      rw [cm_step (z := (x, c, n)) wu h2]
      obtain ⟨y1, y2, y3⟩ := y
      exact ih _ (by have := hmu.2; simp only at this; omega) y1 y2 y3 hmu.1 ho rfl
theorem Pre.cmS (h : Pre s u) {x : St} (w : WfS s x) (ho : okB (Shp.cmS s x).1 = true) : Shp.cmS u (TU s x) = (TU s (Shp.cmS s x).1, (Shp.cmS s x).2) := by
  unfold Shp.cmS at ho ⊢
  rw [TU_tokAt w]
  unfold cmF at ho ⊢
  simp only at ho ⊢
  have hz : (Shp.cmI s (x, ⟨[], [], [], tokAt x⟩, false)).2.2 = true := by
    refine Decidable.byContradiction fun hc => ?_
    rw [if_neg hc] at ho
    generalize (Shp.cmI s (x, ⟨[], [], [], tokAt x⟩, false)).1 = y at ho
    cases y <;> cases ho
  rw [if_pos hz] at ho
  rw [h.cmI x _ _ w ho]
  simp only
  rw [if_pos hz, if_pos hz]
end
end Shp
end Go.Proofs.YtlhagpfpcdedpaaDoor
