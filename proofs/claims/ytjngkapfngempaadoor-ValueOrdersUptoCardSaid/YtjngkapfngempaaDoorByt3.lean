/- the reference's numbers -/
import Derived.Test.YtjngkapfngempaaDoorByt2
namespace Byt
open Go Dcm
theorem num_ok (a f : List UInt8) (h : numberB a f = true) : numberV a f = valueV a f ∧ valueV a f ≤ 10000000000000 := by
  unfold numberB at h
  unfold numberV valueV
  cases hv : val a 0 with
  | none => rw [hv] at h; cases h
  | some v =>
    rw [hv] at h
    have h := of_decide_eq_true h
    rw [fr4] at h
    simp only
    rw [fr4 f v]; omega
theorem num_no (a f : List UInt8) (h : numberB a f = false) : valueV a f = 10000000000001 := by
  unfold numberB at h
  unfold valueV
  cases hv : val a 0 with
  | none => rfl
  | some v =>
    rw [hv] at h
    have h := of_decide_eq_false h
    rw [fr4] at h
    simp only
    omega
theorem fit_no (x : Int) (h : x = 10000000000001 ∨ x = -10000000000001) : fitV x = 0 ∧ fitE x = 9 := by
  rcases h with rfl | rfl <;> decide
theorem fit_yes (x : Int) (h : -10000000000000 ≤ x) (h' : x ≤ 10000000000000) : fitV x = x ∧ fitE x = 0 := by
  have : vldB x = true := vld_iff.2 ⟨h, h'⟩
  simp [fitV, fitE, this]
theorem take_take_run (l : List UInt8) (F n : Nat) (h : run dg (l.drop F) = n) : (l.drop F).take (F + n - F) = wholeP (l.drop F) := by
  unfold wholeP; rw [h]; congr 1; omega
/-- what the reference's Parse comes to, by the tests -/
structure PIn (l : List UInt8) (neg : Bool) (t : List UInt8) : Prop where
  ng : negL l = neg
  rs : restL l = t
theorem PIn.no {l t : List UInt8} {b : Bool} (h : PIn l b t) (hk : okP t = false) : parseV l = 0 ∧ parseE l = 1 := by
  have : parseOk l = false := by unfold parseOk; rw [h.rs, hk]; rfl
  simp [parseV, parseE, this]
theorem PIn.zero {l t : List UInt8} (h : PIn l true t) (hk : t = [48]) : parseV l = 0 ∧ parseE l = 1 := by
  have : parseOk l = false := by unfold parseOk; rw [h.rs, h.ng, hk]; simp
  simp [parseV, parseE, this]
theorem PIn.big {l t : List UInt8} {b : Bool} (h : PIn l b t) (hk : okP t = true) (hz : b = true → t ≠ [48]) (hn : numberB (wholeP t) (fracP t) = false) : parseV l = 0 ∧ parseE l = 9 := by
  have h1 : parseOk l = true := by
    unfold parseOk; rw [h.rs, h.ng, hk]
    cases b with
    | false => rfl
    | true => simp [hz rfl]
  have h2 : parseN l = 10000000000001 := by unfold parseN; rw [h.rs]; exact num_no _ _ hn
  have h3 := fit_no (if negL l then -(parseN l) else parseN l) (by rw [h2]; cases negL l <;> simp)
  unfold parseV parseE
  rw [h1, if_pos rfl, if_pos rfl]; exact h3
theorem PIn.pos {l t : List UInt8} (h : PIn l false t) (hk : okP t = true) (hn : numberB (wholeP t) (fracP t) = true) (h0 : 0 ≤ valueV (wholeP t) (fracP t)) : parseV l = numberV (wholeP t) (fracP t) ∧ parseE l = 0 := by
  have h1 : parseOk l = true := by unfold parseOk; rw [h.rs, h.ng, hk]; rfl
  obtain ⟨e1, e2⟩ := num_ok _ _ hn
  have h2 : parseN l = numberV (wholeP t) (fracP t) := by unfold parseN; rw [h.rs, e1]
  have h3 := fit_yes (numberV (wholeP t) (fracP t)) (by omega) (by omega)
  unfold parseV parseE
  rw [h1, if_pos rfl, if_pos rfl, h.ng, if_neg Bool.false_ne_true, h2]; exact h3
theorem PIn.neg {l t : List UInt8} (h : PIn l true t) (hk : okP t = true) (hz : t ≠ [48]) (hn : numberB (wholeP t) (fracP t) = true) (h0 : 0 ≤ valueV (wholeP t) (fracP t)) : parseV l = -(numberV (wholeP t) (fracP t)) ∧ parseE l = 0 := by
  have h1 : parseOk l = true := by unfold parseOk; rw [h.rs, h.ng, hk]; simp [hz]
  obtain ⟨e1, e2⟩ := num_ok _ _ hn
  have h2 : parseN l = numberV (wholeP t) (fracP t) := by unfold parseN; rw [h.rs, e1]
  have h3 := fit_yes (-(numberV (wholeP t) (fracP t))) (by omega) (by omega)
  unfold parseV parseE
  rw [h1, if_pos rfl, if_pos rfl, h.ng, if_pos rfl, h2]; exact h3
end Byt
