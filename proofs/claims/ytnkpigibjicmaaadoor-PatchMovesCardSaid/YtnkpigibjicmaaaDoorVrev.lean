/- plain: reversed hunks: twice reversed, the reverse of a valid patch -/
import Derived.Test.YtnkpigibjicmaaaDoorVplain
namespace Pt
/-- no inserted line is directly followed by a deleted one -/
def ordL : List DL → Bool
  | [] => true
  | [_] => true
  | x :: y :: r => !(decide (x.1 = 3) && decide (y.1 = 2)) && ordL (y :: r)
theorem ordL_tail {x : DL} {r : List DL} (h : ordL (x :: r) = true) : ordL r = true := by
  cases r with
  | nil => rfl
  | cons y t => simp only [ordL, Bool.and_eq_true] at h; exact h.2
theorem revF_ins (Q : List DL) : ∀ X : List DL, (∀ x ∈ X, x.1 = 3) → revF Q X = X.map (fun x => (2, x.2)) ++ Q
  | [], _ => by simp [revF]
  | x :: r, h => by
    have hx := h x (by simp)
    simp only [revF]
    rw [if_pos hx, revF_ins Q r (fun y hy => h y (by simp [hy]))]
    rfl
theorem revF_ins_app (Q Y : List DL) : ∀ X : List DL, (∀ x ∈ X, x.1 = 3) → revF Q (X ++ Y) = X.map (fun x => (2, x.2)) ++ revF Q Y
  | [], _ => by simp
  | x :: r, h => by
    have hx := h x (by simp)
    simp only [List.cons_append, revF]
    rw [if_pos hx, revF_ins_app Q Y r (fun y hy => h y (by simp [hy]))]
    rfl
def toIns (P : List DL) : List DL := P.map fun x => (3, x.2)
theorem toIns_mem {P : List DL} : ∀ x ∈ toIns P, x.1 = 3 := by
  intro x hx
  obtain ⟨y, -, rfl⟩ := List.mem_map.1 hx
  rfl
theorem toIns_back {P : List DL} (h : ∀ x ∈ P, x.1 = 2) : (toIns P).map (fun x => ((2 : Int), x.2)) = P := by
  unfold toIns
  rw [List.map_map]
  refine (List.map_congr_left fun x hx => ?_).trans (List.map_id _)
  show (2, x.2) = x
  rw [← h x hx]
theorem rev_rev_gen : ∀ (l P Q : List DL), (∀ x ∈ P, x.1 = 2) → (∀ x ∈ Q, x.1 = 3) → ordL l = true → (Q ≠ [] → ∀ x r, l = x :: r → x.1 ≠ 2) → revF Q (revF (toIns P) l) = P ++ Q ++ l
  | [], P, Q, hP, _, _, _ => by
    simp only [revF]
    rw [revF_ins Q _ toIns_mem, toIns_back hP, List.append_nil]
  | x :: r, P, Q, hP, hQ, ho, hq => by
    by_cases h3 : x.1 = 3
    · have e1 : revF (toIns P) (x :: r) = (2, x.2) :: revF (toIns P) r := by simp only [revF]; rw [if_pos h3]
      have e2 : revF Q ((2, x.2) :: revF (toIns P) r) = revF (Q ++ [(3, x.2)]) (revF (toIns P) r) := by
        simp only [revF]; rw [if_neg (show ¬ (2 : Int) = 3 from (by decide)), if_pos trivial]
      have ex : x = (3, x.2) := by rw [← h3]
      rw [e1, e2, rev_rev_gen r P (Q ++ [(3, x.2)]) hP (fun y hy => by
        rcases List.mem_append.1 hy with hy | hy
        · exact hQ y hy
        · rw [List.mem_singleton] at hy; rw [hy]) (ordL_tail ho) (fun _ y t e => by
          subst e
          simp only [ordL, Bool.and_eq_true] at ho
          intro h2
          have := ho.1
          simp [h3, h2] at this), ← ex]
      simp
    · by_cases h2 : x.1 = 2
      · have hQ0 : Q = [] := Decidable.byContradiction fun hn => hq hn x r rfl h2
        subst hQ0
        have e1 : revF (toIns P) (x :: r) = revF (toIns (P ++ [x])) r := by
          simp only [revF]; rw [if_neg h3, if_pos h2]; unfold toIns; rw [List.map_append]; rfl
        rw [e1, rev_rev_gen r (P ++ [x]) [] (fun y hy => by
          rcases List.mem_append.1 hy with hy | hy
          · exact hP y hy
          · rw [List.mem_singleton] at hy; rw [hy]; exact h2) hQ (ordL_tail ho) (fun h => absurd rfl h)]
        simp
      · have e1 : revF (toIns P) (x :: r) = toIns P ++ x :: revF [] r := by simp only [revF]; rw [if_neg h3, if_neg h2]
        have e2 : revF Q (x :: revF [] r) = Q ++ x :: revF [] (revF [] r) := by simp only [revF]; rw [if_neg h3, if_neg h2]
        have e3 := rev_rev_gen r [] [] (fun y hy => by cases hy) (fun y hy => by cases hy) (ordL_tail ho) (fun h => absurd rfl h)
        rw [e1, revF_ins_app Q _ _ toIns_mem, toIns_back hP, e2]
        rw [show toIns ([] : List DL) = [] from rfl] at e3
        rw [e3]
        simp
theorem rev_rev {l : List DL} (h : ordL l = true) : revF [] (revF [] l) = l := by
  have := rev_rev_gen l [] [] (fun y hy => by cases hy) (fun y hy => by cases hy) h (fun h => absurd rfl h)
  exact this
theorem revH_revH {h : Hk} (ho : ordL h.ls = true) : revH (revH h) = h := by
  unfold revH
  rw [rev_rev ho]
/-- the parts of reversed lines -/
theorem side_app (op : Int) (a b : List DL) : sideP op (a ++ b) = sideP op a ++ sideP op b := by unfold sideP; rw [List.filter_append, List.map_append]
theorem side_cons (op : Int) (x : DL) (r : List DL) : sideP op (x :: r) = (if x.1 = op ∨ x.1 = 1 then [x.2] else []) ++ sideP op r := by
  unfold sideP
  by_cases h : x.1 = op ∨ x.1 = 1
  · rw [if_pos h, List.filter_cons_of_pos (by simpa using h)]; rfl
  · rw [if_neg h, List.filter_cons_of_neg (by simpa using h)]; rfl
theorem side2_ins {X : List DL} (h : ∀ x ∈ X, x.1 = 3) : sideP 2 X = [] := by
  unfold sideP
  rw [List.filter_eq_nil_iff.2 (fun x hx => by rw [h x hx]; decide)]; rfl
theorem side3_ins {X : List DL} (h : ∀ x ∈ X, x.1 = 3) : sideP 3 X = X.map (·.2) := by
  unfold sideP
  rw [List.filter_eq_self.2 (fun x hx => by rw [h x hx]; decide)]
theorem rev_side2 : ∀ (l X : List DL), (∀ x ∈ X, x.1 = 3) → sideP 2 (revF X l) = sideP 3 l
  | [], X, h => by simp only [revF]; rw [side2_ins h]; rfl
  | x :: r, X, h => by
    simp only [revF]
    by_cases h3 : x.1 = 3
    · rw [if_pos h3, side_cons, side_cons, if_pos (Or.inl rfl), if_pos (Or.inl h3), rev_side2 r X h]
    · rw [if_neg h3]
      by_cases h2 : x.1 = 2
      · rw [if_pos h2, rev_side2 r _ (fun y hy => by
          rcases List.mem_append.1 hy with hy | hy
          · exact h y hy
          · rw [List.mem_singleton] at hy; rw [hy]), side_cons, if_neg (by rw [h2]; decide)]
        rfl
      · rw [if_neg h2, side_app, side2_ins h, List.nil_append, side_cons, side_cons 3, rev_side2 r [] (fun y hy => by cases hy)]
        by_cases h1 : x.1 = 1
        · rw [if_pos (Or.inr h1), if_pos (Or.inr h1)]
        · rw [if_neg (fun e => e.elim h2 h1), if_neg (fun e => e.elim h3 h1)]
theorem rev_side3 : ∀ (l X : List DL), (∀ x ∈ X, x.1 = 3) → sideP 3 (revF X l) = X.map (·.2) ++ sideP 2 l
  | [], X, h => by simp only [revF]; rw [side3_ins h]; simp [sideP]
  | x :: r, X, h => by
    simp only [revF]
    by_cases h3 : x.1 = 3
    · rw [if_pos h3, side_cons, side_cons, if_neg (show ¬ ((2 : Int) = 3 ∨ (2 : Int) = 1) from (by decide)), if_neg (by rw [h3]; decide), rev_side3 r X h]
      rfl
    · rw [if_neg h3]
      by_cases h2 : x.1 = 2
      · rw [if_pos h2, rev_side3 r _ (fun y hy => by
          rcases List.mem_append.1 hy with hy | hy
          · exact h y hy
          · rw [List.mem_singleton] at hy; rw [hy]), side_cons, if_pos (Or.inl h2), List.map_append, List.append_assoc]
        rfl
      · rw [if_neg h2, side_app, side3_ins h, side_cons, side_cons 2, rev_side3 r [] (fun y hy => by cases hy)]
        by_cases h1 : x.1 = 1
        · rw [if_pos (Or.inr h1), if_pos (Or.inr h1)]; rfl
        · rw [if_neg (fun e => e.elim h3 h1), if_neg (fun e => e.elim h2 h1)]; rfl
/-- lines that may stand in a hunk -/
def okD (x : DL) : Prop := opB x.1 = true ∧ (10 : UInt8) ∉ x.2.1.data.toList
theorem lineE_ok : ∀ l : List DL, lineE l = 0 ↔ ∀ x ∈ l, okD x
  | [] => by simp [lineE]
  | x :: r => by
    simp only [lineE]
    by_cases h1 : opB x.1 = false
    · rw [if_pos h1]
      refine ⟨fun e => absurd e (by decide), fun h => ?_⟩
      have := (h x (by simp)).1
      rw [h1] at this; cases this
    · rw [if_neg h1]
      by_cases h2 : (10 : UInt8) ∈ x.2.1.data.toList
      · rw [if_pos h2]
        exact ⟨fun e => absurd e (by decide), fun h => absurd h2 (h x (by simp)).2⟩
      · rw [if_neg h2, lineE_ok r]
        have hx : okD x := ⟨by simpa using h1, h2⟩
        exact ⟨fun h y hy => by
          rcases List.mem_cons.1 hy with rfl | hy
          · exact hx
          · exact h y hy, fun h y hy => h y (by simp [hy])⟩
theorem rev_ok : ∀ (l X : List DL), (∀ x ∈ X, okD x) → (∀ x ∈ l, okD x) → ∀ x ∈ revF X l, okD x
  | [], X, h, _ => by simpa only [revF] using h
  | x :: r, X, h, hl => by
    have hx := hl x (by simp)
    have hr : ∀ y ∈ r, okD y := fun y hy => hl y (by simp [hy])
    simp only [revF]
    by_cases h3 : x.1 = 3
    · rw [if_pos h3]
      intro y hy
      rcases List.mem_cons.1 hy with rfl | hy
      · exact ⟨rfl, hx.2⟩
      · exact rev_ok r X h hr y hy
    · rw [if_neg h3]
      by_cases h2 : x.1 = 2
      · rw [if_pos h2]
        refine rev_ok r _ (fun y hy => ?_) hr
        rcases List.mem_append.1 hy with hy | hy
        · exact h y hy
        · rw [List.mem_singleton] at hy; rw [hy]; exact ⟨rfl, hx.2⟩
      · rw [if_neg h2]
        intro y hy
        rcases List.mem_append.1 hy with hy | hy
        · exact h y hy
        · rcases List.mem_cons.1 hy with rfl | hy
          · exact hx
          · exact rev_ok r [] (fun z hz => by cases hz) hr y hy
theorem shape_rev {h : Hk} (hs : shapeE h = 0) : shapeE (revH h) = 0 := by
  unfold shapeE at hs ⊢
  by_cases h1 : lineE h.ls ≠ 0
  · rw [if_pos h1] at hs; exact absurd hs h1
  · rw [if_neg h1] at hs
    have hl : lineE h.ls = 0 := Decidable.not_not.1 h1
    have hr : lineE (revH h).ls = 0 := (lineE_ok _).2 (rev_ok h.ls [] (fun z hz => by cases hz) ((lineE_ok _).1 hl))
    rw [if_neg (fun e => e hr)]
    have s2 : sideP 2 (revH h).ls = sideP 3 h.ls := rev_side2 h.ls [] (fun z hz => by cases hz)
    have s3 : sideP 3 (revH h).ls = sideP 2 h.ls := rev_side3 h.ls [] (fun z hz => by cases hz)
    rw [s2, s3]
    show (if h.lb ≠ _ ∨ h.la ≠ _ ∨ h.fb < 0 ∨ _ < h.fb ∨ h.fa < 0 ∨ _ < h.fa then (2 : Int) else 0) = 0
    by_cases h2 : h.la ≠ (sideP 2 h.ls).length ∨ h.lb ≠ (sideP 3 h.ls).length ∨ h.fa < 0 ∨ 2147483647 < h.fa ∨ h.fb < 0 ∨ 2147483647 < h.fb
    · rw [if_pos h2] at hs; exact absurd hs (by decide)
    · rw [if_neg (by omega)]
theorem chk_rev : ∀ (l : List Hk) (e m : Int), chkP e m l = 0 → chkP (e + m) (-m) (l.map revH) = 0
  | [], _, _, _ => rfl
  | h :: r, e, m, hc => by
    simp only [chkP] at hc
    simp only [List.map_cons, chkP]
    by_cases h1 : shapeE h ≠ 0
    · rw [if_pos h1] at hc; exact absurd hc h1
    · rw [if_neg h1] at hc
      have hs : shapeE h = 0 := Decidable.not_not.1 h1
      rw [if_neg (fun q => q (shape_rev hs))]
      by_cases h2 : beginP h.fa h.la < e ∨ beginP h.fb h.lb ≠ beginP h.fa h.la + m
      · rw [if_pos h2] at hc; exact absurd hc (by decide)
      · rw [if_neg h2] at hc
        have s2 : sideP 2 (revH h).ls = sideP 3 h.ls := rev_side2 h.ls [] (fun z hz => by cases hz)
        have s3 : sideP 3 (revH h).ls = sideP 2 h.ls := rev_side3 h.ls [] (fun z hz => by cases hz)
        rw [if_neg (show ¬ (beginP (revH h).fa (revH h).la < e + m ∨ beginP (revH h).fb (revH h).lb ≠ beginP (revH h).fa (revH h).la + -m) from (by
          show ¬ (beginP h.fb h.lb < e + m ∨ beginP h.fa h.la ≠ beginP h.fb h.lb + -m)
          omega)), s2, s3]
        have er : decide (r.map revH = []) = decide (r = []) := by cases r <;> simp
        rw [er]
        by_cases h3 : endsB (decide (r = [])) (sideP 2 h.ls) = false ∨ endsB (decide (r = [])) (sideP 3 h.ls) = false
        · rw [if_pos h3] at hc; exact absurd hc (by decide)
        · rw [if_neg h3] at hc
          rw [if_neg (fun q => h3 q.symm)]
          have ih := chk_rev r _ _ hc
          have e1 : beginP h.fa h.la + h.la + (m + (h.lb - h.la)) = beginP (revH h).fa (revH h).la + (revH h).la := by
            show _ = beginP h.fb h.lb + h.lb
            omega
          have e2 : -(m + (h.lb - h.la)) = -m + ((revH h).lb - (revH h).la) := by
            show _ = -m + (h.la - h.lb)
            omega
          rw [e1, e2] at ih
          exact ih
theorem chk_revs {l : List Hk} (h : chk l = 0) : chk (l.map revH) = 0 := by
  have := chk_rev l 0 0 h
  exact this
end Pt
