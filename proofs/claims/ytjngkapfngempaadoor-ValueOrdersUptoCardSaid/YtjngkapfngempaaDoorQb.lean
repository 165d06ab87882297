/- walks: names, the reference -/
import Derived.Test.YtjngkapfngempaaDoorQa
namespace Go.Proofs.YtjngkapfngempaaDoor
open Go.RowKit
open Lcl
theorem name_big (s : ByteArray) (h : 32 < s.size) : nameB s.data.toList = false := by
  unfold nameB
  rw [len_of, decide_eq_false (by omega), Bool.and_false]
theorem name_dig (s : ByteArray) (h : 0 < s.size) (hd : 48 ≤ s[0].toNat ∧ s[0].toNat ≤ 57) : nameB s.data.toList = false := by
  refine name_no s 1 ?_
  rw [show (1 : Nat) = 0 + 1 from rfl, pre_next s 0 h rfl, lt_no (c := s[0]) (by omega)]
  rfl
theorem name_ok (s : ByteArray) (h0 : 0 < s.size) (h : s.size ≤ 32) (hp : pre s.data.toList = true) : nameB s.data.toList = true := by
  rw [name_full s (by omega) hp, decide_eq_true h]
end Go.Proofs.YtjngkapfngempaaDoor
