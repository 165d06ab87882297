/- walks: Lines, and the comparison of two lists of strings -/
import Derived.Test.YtbioflajonafdaaTd
import Derived.Test.YtbioflajonafdaaStrs
import Derived.Test.YtbioflajonafdaaPb
import Derived.Deep.QuietTactic
import Derived.BigQuiet
namespace Go.Proofs.Ytbioflajonafdaa
open Go.RowKit
open Tx
theorem str_ext {a b : ByteArray} (h : a.data.toList = b.data.toList) : a = b := by
  obtain ⟨⟨l⟩⟩ := a; obtain ⟨⟨r⟩⟩ := b; simp only at h; rw [h]
theorem strs_ne {a b : ByteArray} (h : a ≠ b) : (a.toList == b.toList) = false := by
  rw [Lib.toList_data, Lib.toList_data, beq_eq_false_iff_ne]; exact fun e => h (str_ext e)
theorem tx_below_drewN {B : Nat} {a w : World} (h : Below B a w) (k : Nat) : Below B a (w.drewN k) := ⟨h.os, h.tape, h.output, h.size, h.block⟩
end Go.Proofs.Ytbioflajonafdaa
