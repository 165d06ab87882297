/- the text of a decimal number and its parse are inverse -/
import Derived.Test.YtjngkapfngempaaDoorByt7
namespace Byt
open Go Dcm
/-- the text behind the sign: a whole part and what follows -/
structure Txt (t a g : List UInt8) (W f : Nat) : Prop where
  tx : t = a ++ (if f = 0 then [] else 46 :: g)
  dec : Lib.decDigits W = a
  fra : f ≠ 0 → trimZ (low 4 f) = g
  lt : f < 10000
  le : W ≤ 1000000000
theorem dot_no : dg 46 = false := rfl
section
variable {t a g : List UInt8} {W f : Nat}
theorem Txt.dgA (h : Txt t a g W f) : ∀ c ∈ a, dg c = true := h.dec ▸ dg_dec W
theorem Txt.neA (h : Txt t a g W f) : a ≠ [] := h.dec ▸ dec_ne W
theorem Txt.tail (_ : Txt t a g W f) : ∀ c, (if f = 0 then [] else 46 :: g)[0]? = some c → dg c = false := by
  intro c hc
  by_cases h0 : f = 0
  · rw [if_pos h0] at hc; cases hc
  · rw [if_neg h0] at hc
    simp only [List.getElem?_cons_zero, Option.some.injEq] at hc
    subst hc; exact dot_no
theorem Txt.runs (h : Txt t a g W f) : run dg t = a.length := by rw [h.tx]; exact run_app a _ h.dgA h.tail
theorem Txt.whole (h : Txt t a g W f) : wholeP t = a := by unfold wholeP; rw [h.runs, h.tx]; simp
theorem Txt.frac0 (h : Txt t a g W f) (h0 : f = 0) : fracP t = [] := by
  unfold fracP; rw [h.runs, h.tx, if_pos h0]; simp
theorem Txt.frac1 (h : Txt t a g W f) (h0 : f ≠ 0) : fracP t = g := by
  unfold fracP; rw [h.runs, h.tx, if_neg h0, ← List.drop_drop]; simp
theorem Txt.head (h : Txt t a g W f) : t[0]? = a[0]? := by
  rw [h.tx]; exact List.getElem?_append_left (List.length_pos_iff.2 h.neA)
theorem Txt.noLead (h : Txt t a g W f) : (decide (1 < a.length) && isAt t 0 48) = false := by
  rw [Bool.and_eq_false_iff]
  by_cases hl : 1 < a.length
  · right
    unfold isAt
    rw [decide_eq_false_iff_not, h.head, ← h.dec]
    exact dec_head W (dec_len W (by rw [h.dec]; exact hl))
  · left; simpa using hl
theorem Txt.ok (h : Txt t a g W f) : okP t = true := by
  unfold okP
  rw [h.runs, h.noLead]
  have h1 : (decide (a.length = 0)) = false := by rw [decide_eq_false_iff_not]; exact Nat.ne_of_gt (List.length_pos_iff.2 h.neA)
  rw [h1]
  by_cases h0 : f = 0
  · have : t.length = a.length := by rw [h.tx, if_pos h0]; simp
    rw [this]; simp
  · have e1 : isAt t a.length 46 = true := by
      unfold isAt; rw [decide_eq_true_eq, h.tx, if_neg h0]; simp
    have e2 : okF (fracP t) = true := by rw [h.frac1 h0, ← h.fra h0]; exact (frac_ok f h.lt h0).1
    rw [e1, e2]; simp
theorem Txt.valA (h : Txt t a g W f) : val a 0 = some (W : Int) := by rw [← h.dec]; exact val_dec W h.le
theorem Txt.frs (h : Txt t a g W f) : fr 4 (fracP t) 0 = f := by
  by_cases h0 : f = 0
  · rw [h.frac0 h0, h0]; rfl
  · rw [h.frac1 h0, ← h.fra h0]; exact (frac_ok f h.lt h0).2.1
theorem Txt.value (h : Txt t a g W f) (hb : W * 10000 + f ≤ 10000000000000) : valueV (wholeP t) (fracP t) = ((W * 10000 + f : Nat) : Int) := by
  unfold valueV
  rw [h.whole, h.valA]
  simp only
  rw [h.frs]; omega
theorem Txt.zero (h : Txt t a g W f) (e : t = [48]) : W = 0 ∧ f = 0 := by
  have h1 := h.whole
  have h2 := h.valA
  have h3 := h.frs
  subst e
  have e1 : wholeP [48] = [48] := rfl
  have e2 : fracP [48] = [] := rfl
  rw [e1] at h1
  rw [← h1] at h2
  rw [e2] at h3
  have e3 : val [48] 0 = some 0 := rfl
  have e4 : Byt.fr 4 [] 0 = 0 := rfl
  rw [e3] at h2
  rw [e4] at h3
  injection h2 with h2
  omega
theorem Txt.head_dg (h : Txt t a g W f) : ∃ c, t[0]? = some c ∧ dg c = true := by
  have hp : 0 < a.length := List.length_pos_iff.2 h.neA
  rw [h.head]
  exact ⟨a[0], List.getElem?_eq_getElem hp, h.dgA _ (List.getElem_mem hp)⟩
end
theorem Txt.of (W f : Nat) (hW : W ≤ 1000000000) (hf : f < 10000) : Txt (Lib.decDigits W ++ (if f = 0 then [] else 46 :: trimZ (low 4 f))) (Lib.decDigits W) (trimZ (low 4 f)) W f := ⟨rfl, rfl, fun _ => rfl, hf, hW⟩
/-- a text that is accepted is of that shape -/
theorem Txt.back (t : List UInt8) (h : okP t = true) (v : Int) (hv : val (wholeP t) 0 = some v) (hb : v ≤ 1000000000) :
    ∃ W f : Nat, Txt t (wholeP t) (fracP t) W f ∧ v = W := by
  unfold okP at h
  simp only [Bool.and_eq_true, Bool.not_eq_true', Bool.or_eq_true, decide_eq_true_eq, decide_eq_false_iff_not] at h
  obtain ⟨⟨h1, h2⟩, h3⟩ := h
  have hl : (wholeP t).length = run dg t := by unfold wholeP; rw [List.length_take]; have := run_le dg t; omega
  have hd : ∀ c ∈ wholeP t, dg c = true := fun c hc => mem_run dg t c hc
  have hne : wholeP t ≠ [] := by intro e; rw [e] at hl; simp at hl; omega
  have h0 : (wholeP t)[0]? = t[0]? := by unfold wholeP; rw [List.getElem?_take]; rw [if_pos (by omega)]
  have hz : ¬ (1 < (wholeP t).length ∧ (wholeP t)[0]? = some 48) := by
    rintro ⟨x, y⟩
    rw [hl] at x
    rw [h0] at y
    have : (decide (1 < run dg t) && isAt t 0 48) = true := by unfold isAt; rw [decide_eq_true x, decide_eq_true y]; rfl
    rw [this] at h2; cases h2
  obtain ⟨W, hW, hdec⟩ := dec_val' _ hd hne hz v hv
  rcases h3 with h3 | ⟨h3, h4⟩
  · refine ⟨W, 0, ⟨?_, hdec, fun h => absurd rfl h, by omega, by omega⟩, hW⟩
    rw [if_pos rfl, List.append_nil]; unfold wholeP; rw [h3, List.take_length]
  · have hfd : ∀ c ∈ fracP t, dg c = true := by
      unfold okF at h4
      simp only [Bool.and_eq_true, decide_eq_true_eq] at h4
      intro c hc
      have := mem_run dg (fracP t) c
      rw [h4.1.2, List.take_length] at this
      exact this hc
    obtain ⟨n, n1, n2, _, n4⟩ := frac_back _ hfd h4
    refine ⟨W, n, ⟨?_, hdec, fun _ => n4, n1, by omega⟩, hW⟩
    rw [if_neg n2]
    have e : t.drop (run dg t) = 46 :: fracP t := by
      unfold isAt at h3
      have h3 := of_decide_eq_true h3
      obtain ⟨hlt, he⟩ := List.getElem?_eq_some_iff.1 h3
      rw [List.drop_eq_getElem_cons hlt, he]; rfl
    rw [← e]; exact (List.take_append_drop _ _).symm
theorem fmt_of (d : Int) (W f : Nat) (h1 : -10000000000000 ≤ d) (h2 : d ≤ 10000000000000) (hd : d.natAbs = W * 10000 + f) (hf : f < 10000) :
    fmtL d = (if d < 0 then [45] else []) ++ (Lib.decDigits W ++ (if f = 0 then [] else 46 :: trimZ (low 4 f))) := by
  unfold fmtL
  rw [near_eq3 d h1 h2, show d.natAbs / 10000 = W from by omega, show d.natAbs % 10000 = f from by omega, List.append_assoc]
/-- Format inverts Parse -/
theorem parse_back (l : List UInt8) (h : parseE l = 0) : fmtL (parseV l) = l ∧ vldB (parseV l) = true := by
  have hok : parseOk l = true := by
    apply Decidable.byContradiction
    intro hn
    rw [Bool.not_eq_true] at hn
    unfold parseE at h
    rw [hn] at h
    simp at h
  have hV : parseV l = fitV (if negL l then -(parseN l) else parseN l) := by unfold parseV; rw [hok]; rfl
  have hE : fitE (if negL l then -(parseN l) else parseN l) = 0 := by
    unfold parseE at h; rw [hok] at h; exact h
  have hx : vldB (if negL l then -(parseN l) else parseN l) = true := by
    apply Decidable.byContradiction
    intro hn
    rw [Bool.not_eq_true] at hn
    unfold fitE at hE; rw [hn] at hE; simp at hE
  have hV2 : parseV l = if negL l then -(parseN l) else parseN l := by rw [hV]; unfold fitV; rw [hx]; rfl
  refine ⟨?_, by rw [hV2]; exact hx⟩
  have hb := vld_iff.1 hx
  unfold parseOk at hok
  simp only [Bool.and_eq_true, Bool.not_eq_true'] at hok
  obtain ⟨hok, hz⟩ := hok
  have hd : ∀ c ∈ wholeP (restL l), dg c = true := fun c hc => mem_run dg _ c hc
  have hN : parseN l = valueV (wholeP (restL l)) (fracP (restL l)) := rfl
  obtain ⟨v, hv⟩ : ∃ v, val (wholeP (restL l)) 0 = some v := by
    cases hv : val (wholeP (restL l)) 0 with
    | some v => exact ⟨v, rfl⟩
    | none =>
      have : parseN l = 10000000000001 := by rw [hN]; unfold valueV; rw [hv]
      rw [this] at hb
      split at hb <;> omega
  have hvb := val_bd _ 0 v hd (by omega) (by omega) hv
  obtain ⟨W, f, T, hW⟩ := Txt.back (restL l) hok v hv hvb.2
  have hle : W * 10000 + f ≤ 10000000000000 := by
    apply Decidable.byContradiction
    intro hn
    have : parseN l = 10000000000001 := by
      rw [hN]; unfold valueV; rw [hv]
      simp only
      rw [T.frs]; omega
    rw [this] at hb
    split at hb <;> omega
  have hN2 : parseN l = ((W * 10000 + f : Nat) : Int) := by rw [hN]; exact T.value hle
  have htx : Lib.decDigits W ++ (if f = 0 then [] else 46 :: trimZ (low 4 f)) = restL l := by
    have e : (if f = 0 then [] else 46 :: trimZ (low 4 f)) = (if f = 0 then [] else 46 :: fracP (restL l)) := by
      by_cases h0 : f = 0
      · rw [if_pos h0, if_pos h0]
      · rw [if_neg h0, if_neg h0, T.fra h0]
    rw [T.dec, e]; exact T.tx.symm
  rw [hV2, hN2]
  rw [hN2] at hb
  by_cases hn : negL l = true
  · rw [if_pos hn] at hb ⊢
    rw [fmt_of _ W f hb.1 hb.2 (by omega) T.lt, htx]
    have hne : W * 10000 + f ≠ 0 := by
      intro h0
      have hW0 : W = 0 := by omega
      have hf0 : f = 0 := by omega
      have : restL l = [48] := by
        rw [← htx, hf0, hW0]; rw [Lib.decDigits, dif_pos (by decide)]; rfl
      rw [hn, this] at hz
      simp at hz
    rw [if_pos (by omega)]
    have hr : restL l = l.drop 1 := by unfold restL; rw [if_pos hn]
    rw [hr]
    unfold negL isAt at hn
    have hn := of_decide_eq_true hn
    cases l with
    | nil => cases hn
    | cons c r =>
      simp only [List.getElem?_cons_zero, Option.some.injEq] at hn
      subst hn; rfl
  · have hr : restL l = l := by unfold restL; rw [if_neg hn]
    rw [if_neg hn] at hb ⊢
    rw [fmt_of _ W f hb.1 hb.2 (by omega) T.lt, htx, if_neg (by omega), hr]; rfl
structure Back (d : Int) (l : List UInt8) : Prop where
  fm : fmtL d = l
  pv : parseV l = d
  pe : parseE l = 0
  qv : preV l = d
  qn : preN l = l.length
theorem dg_not (c : UInt8) (h : dg c = true) : c ≠ 45 ∧ c ≠ 43 ∧ bl c = false := by
  simp only [dg, Bool.and_eq_true, decide_eq_true_eq] at h
  refine ⟨?_, ?_, ?_⟩
  · rintro rfl; exact absurd h.1 (by decide)
  · rintro rfl; exact absurd h.1 (by decide)
  · unfold bl; simp; omega
theorem run_bl (l : List UInt8) (c : UInt8) (h : l[0]? = some c) (hb : bl c = false) : run bl l = 0 := by
  cases l with
  | nil => rfl
  | cons x r =>
    simp only [List.getElem?_cons_zero, Option.some.injEq] at h
    subst h
    simp only [run]; rw [hb]; rfl
theorem fmt_back (d : Int) (h1 : -10000000000000 ≤ d) (h2 : d ≤ 10000000000000) : ∃ l, Back d l := by
  obtain ⟨W, hW⟩ : ∃ W, d.natAbs / 10000 = W := ⟨_, rfl⟩
  obtain ⟨f, hf⟩ : ∃ f, d.natAbs % 10000 = f := ⟨_, rfl⟩
  have T := Txt.of W f (by omega) (by omega)
  have hF := fmt_of d W f h1 h2 (by omega) (by omega)
  obtain ⟨t, ht⟩ : ∃ t, Lib.decDigits W ++ (if f = 0 then [] else 46 :: trimZ (low 4 f)) = t := ⟨_, rfl⟩
  rw [ht] at T hF
  obtain ⟨c, hc, hcd⟩ := T.head_dg
  obtain ⟨c1, c2, c3⟩ := dg_not c hcd
  obtain ⟨a, ha⟩ : ∃ a, Lib.decDigits W = a := ⟨_, rfl⟩
  obtain ⟨g, hg⟩ : ∃ g, trimZ (low 4 f) = g := ⟨_, rfl⟩
  rw [ha, hg] at T
  have hv := T.value (by omega)
  obtain ⟨N, hN⟩ : ∃ N, W * 10000 + f = N := ⟨_, rfl⟩
  rw [hN] at hv
  have hapos : 0 < a.length := List.length_pos_iff.2 T.neA
  obtain ⟨p, hp⟩ : ∃ p, (if d < 0 then [(45 : UInt8)] else []) = p := ⟨_, rfl⟩
  have hsg : (p = [45] ∧ d = -(N : Int) ∧ 0 < N) ∨ (p = [] ∧ d = (N : Int)) := by
    by_cases hn : d < 0
    · left; rw [if_pos hn] at hp; exact ⟨hp.symm, by omega, by omega⟩
    · right; rw [if_neg hn] at hp; exact ⟨hp.symm, by omega⟩
  rw [hp] at hF
  have hneg : negL (p ++ t) = decide (p = [45]) := by
    rcases hsg with ⟨rfl, _⟩ | ⟨rfl, _⟩
    · rfl
    · unfold negL isAt; rw [List.nil_append, hc]; simp [c1]
  have hrest : restL (p ++ t) = t := by
    unfold restL; rw [hneg]
    rcases hsg with ⟨rfl, _⟩ | ⟨rfl, _⟩
    · rfl
    · simp
  have hpok : parseOk (p ++ t) = true := by
    unfold parseOk
    rw [hneg, hrest, T.ok]
    rcases hsg with ⟨rfl, _, h0⟩ | ⟨rfl, _⟩
    · have : t ≠ [48] := by intro e; obtain ⟨x, y⟩ := T.zero e; omega
      simp [this]
    · simp
  have hpn : parseN (p ++ t) = (N : Int) := by unfold parseN; rw [hrest]; exact hv
  have hsel : (if negL (p ++ t) = true then -(parseN (p ++ t)) else parseN (p ++ t)) = d := by
    rw [hneg, hpn]
    rcases hsg with ⟨rfl, h, _⟩ | ⟨rfl, h⟩
    · simp [h]
    · simp [h]
  have hfit := fit_yes d h1 h2
  have hbl : run bl (p ++ t) = 0 := by
    rcases hsg with ⟨rfl, _⟩ | ⟨rfl, _⟩
    · rfl
    · exact run_bl _ c hc c3
  have hpp : preP (p ++ t) = p.length := by
    unfold preP; rw [hbl]
    rcases hsg with ⟨rfl, _⟩ | ⟨rfl, _⟩
    · rfl
    · unfold isAt; rw [List.nil_append, hc]; simp [c1, c2]
  have hpg : preNeg (p ++ t) = decide (p = [45]) := by unfold preNeg; rw [hbl]; exact hneg
  have hpm : preM (p ++ t) = a.length := by
    unfold preM; rw [hpp, List.drop_left]; exact T.runs
  have hk0 : (p ++ t).drop (preP (p ++ t) + preM (p ++ t) + 1) = fracP t := by
    rw [hpp, hpm, Nat.add_assoc, ← List.drop_drop, List.drop_left]
    unfold fracP; rw [T.runs]
  have hfd : ∀ x ∈ fracP t, dg x = true := by
    by_cases h0 : f = 0
    · rw [T.frac0 h0]; intro x hx; cases hx
    · rw [T.frac1 h0, ← T.fra h0]; exact (frac_ok f T.lt h0).2.2
  have hpk : preK (p ++ t) = (fracP t).length := by
    unfold preK; rw [hk0]; exact run_all_dg _ hfd
  have hat : isAt (p ++ t) (p.length + a.length) 46 = !(decide (f = 0)) := by
    unfold isAt
    rw [List.getElem?_append_right (by omega), show p.length + a.length - p.length = a.length from by omega, T.tx]
    by_cases h0 : f = 0
    · rw [if_pos h0, List.append_nil, List.getElem?_eq_none (Nat.le_refl _)]; simp [h0]
    · rw [if_neg h0]; simp [h0]
  have hpu : preU (p ++ t) = !(decide (f = 0)) := by
    unfold preU; rw [hpp, hpm, hat, decide_eq_true hapos]; simp
  have hpe : preEmpty (p ++ t) = false := by
    unfold preEmpty; rw [hpm, decide_eq_false (by omega)]; rfl
  have hpf : preF (p ++ t) = fracP t := by
    unfold preF; rw [hpu, hpk, hk0, List.take_length]
    by_cases h0 : f = 0
    · rw [T.frac0 h0]; simp
    · simp [h0]
  have hpa : preA (p ++ t) = (N : Int) := by
    unfold preA; rw [hpf, hpm, hpp, List.drop_left]
    have : t.take a.length = wholeP t := by unfold wholeP; rw [T.runs]
    rw [this, hv]; omega
  refine ⟨p ++ t, hF, ?_, ?_, ?_, ?_⟩
  · unfold parseV; rw [hpok, if_pos rfl, hsel]; exact hfit.1
  · unfold parseE; rw [hpok, if_pos rfl, hsel]; exact hfit.2
  · unfold preV; rw [hpe, hpg, hpa]
    rcases hsg with ⟨rfl, h, _⟩ | ⟨rfl, h⟩
    · simp [h]
    · simp [h]
  · unfold preN; rw [hpe, hpu, hpp, hpm, hpk]
    by_cases h0 : f = 0
    · rw [T.frac0 h0, T.tx, if_pos h0]; simp [h0]
    · rw [T.frac1 h0, T.tx, if_neg h0]; simp [h0]; omega
end Byt
