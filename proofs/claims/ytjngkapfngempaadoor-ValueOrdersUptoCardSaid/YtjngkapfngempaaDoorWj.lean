/- walks: Parse -/
import Derived.Test.YtjngkapfngempaaDoorWi
namespace Go.Proofs.YtjngkapfngempaaDoor
open Go.RowKit
open Dcm Byt
theorem mem_whole (l : List UInt8) : ∀ c ∈ wholeP l, dg c = true := fun c h => mem_run dg l c h
theorem run_all : ∀ (l : List UInt8), run dg l = l.length → ∀ c ∈ l, dg c = true := by
  intro l h c hc
  have := mem_run dg l c
  rw [h, List.take_length] at this
  exact this hc
theorem okP_frac (l : List UInt8) (h : okP l = true) : ∀ c ∈ fracP l, dg c = true := by
  unfold okP at h
  simp only [Bool.and_eq_true, Bool.or_eq_true, decide_eq_true_eq] at h
  rcases h.2 with h2 | ⟨_, h2⟩
  · unfold fracP
    rw [h2, List.drop_eq_nil_of_le (by omega)]
    intro c hc; cases hc
  · unfold okF at h2
    simp only [Bool.and_eq_true, decide_eq_true_eq] at h2
    exact run_all _ h2.1.2
theorem value_bd (a f : List UInt8) (ha : ∀ c ∈ a, dg c = true) (hf : ∀ c ∈ f, dg c = true) : 0 ≤ valueV a f ∧ valueV a f ≤ 10000000000001 := by
  unfold valueV
  cases h : val a 0 with
  | none => simp
  | some v =>
    have h1 := val_bd a 0 v ha (by omega) (by omega) h
    have h2 := fr4_bd f hf
    simp only
    omega
theorem parse_no (l : List UInt8) (h : parseOk l = false) : parseV l = 0 ∧ parseE l = 1 := by simp [parseV, parseE, h]
theorem parse_yes (l : List UInt8) (h : parseOk l = true) : parseV l = fitV (if negL l then -(parseN l) else parseN l) ∧ parseE l = fitE (if negL l then -(parseN l) else parseN l) := by simp [parseV, parseE, h]
theorem str_eq (s : ByteArray) (l : List UInt8) : (s.toList == l) = decide (s.data.toList = l) := by
  rw [Lib.toList_data]; by_cases h : s.data.toList = l <;> simp [h]
structure Got (l : List UInt8) (a f : ByteArray) : Prop where
  ha : a.data.toList = wholeP l
  hf : f.data.toList = fracP l
  da : ∀ c ∈ a.data.toList, dg c = true
  df : ∀ c ∈ f.data.toList, dg c = true
theorem Got.n {l : List UInt8} {a f : ByteArray} (g : Got l a f) : valueV a.data.toList f.data.toList = valueV (wholeP l) (fracP l) := by rw [g.ha, g.hf]
end Go.Proofs.YtjngkapfngempaaDoor
