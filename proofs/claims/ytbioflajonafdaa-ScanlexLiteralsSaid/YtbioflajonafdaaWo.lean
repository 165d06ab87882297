/- walks: Format -/
import Derived.Test.YtbioflajonafdaaWn
import Derived.Test.YtbioflajonafdaaWg
import Derived.Test.YtbioflajonafdaaPa
namespace Go.Proofs.Ytbioflajonafdaa
open Go.RowKit
open Dcm Byt
abbrev Tab (w : World) : Prop := Lib.TabIs Try.prog w "internal/strconv.uint64pow10" .u64 Lib.pow10Tab
theorem dec_size (W : Nat) (h : W ≤ 1000000000) : (Lib.decDigits W).length ≤ 20 := by
  obtain ⟨K, h1, h2⟩ := cnt_any W h
  rw [← h2, low_length]; exact h1.big
structure FmtF (d N : Int) (A W f : Nat) : Prop where
  hN : near d = N
  hA : N.natAbs = A
  hW : A / 10000 = W
  hf : A % 10000 = f
theorem FmtF.whole {d N : Int} {A W f : Nat} (F : FmtF d N A W f) (h : f = 0) : fmtL d = (if N < 0 then [45] else []) ++ Lib.decDigits W := by
  unfold fmtL; rw [F.hN, F.hA, F.hW, F.hf, if_pos h]; simp
theorem FmtF.frac {d N : Int} {A W f : Nat} (F : FmtF d N A W f) (h : ¬ f = 0) : fmtL d = (if N < 0 then [45] else []) ++ Lib.decDigits W ++ 46 :: trimZ (low 4 f) := by
  unfold fmtL; rw [F.hN, F.hA, F.hW, F.hf, if_neg h]
end Go.Proofs.Ytbioflajonafdaa
