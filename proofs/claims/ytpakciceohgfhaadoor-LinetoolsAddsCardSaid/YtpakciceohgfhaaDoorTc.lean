/- walks: Unescape -/
import Derived.Test.YtpakciceohgfhaaDoorTb
namespace Go.Proofs.YtpakciceohgfhaaDoor
open Go.RowKit
open Tx
theorem seqV_lt (l : List UInt8) : seqV l < 256 := by
  cases l with
  | nil => simp [seqV]
  | cons c r =>
    simp only [seqV]
    split
    · exact (letB c).toNat_lt
    · split
      · exact c.toNat_lt
      · exact Nat.mod_lt _ (by decide)
/-- the loop of Unescape: what is written, what is left -/
structure UnI (s : ByteArray) (j : Nat) (out : List UInt8) : Prop where
  eq : (match une (s.data.toList.drop j).length (s.data.toList.drop j) j with | .ok l => .ok (out ++ l) | .error k => .error k) = unesc s.data.toList
  js : j ≤ s.size
  ln : out.length ≤ j
theorem UnI.start (s : ByteArray) : UnI s 0 [] := by
  refine ⟨?_, by omega, by simp⟩
  rw [List.drop_zero]
  unfold unesc
  cases une s.data.toList.length s.data.toList 0 <;> rfl
theorem UnI.done {s : ByteArray} {out : List UInt8} {j : Nat} (h : UnI s j out) (hj : s.size ≤ j) : unesc s.data.toList = .ok out := by
  have e := h.eq
  rw [List.drop_eq_nil_of_le (by rw [← size_len]; exact hj)] at e
  rw [← e]; simp [une]
theorem drop_lt (s : ByteArray) (k : Nat) (h : k < s.size) : s.data.toList.drop k = s[k] :: s.data.toList.drop (k + 1) := by
  rw [List.drop_eq_getElem_cons (by rw [← size_len]; exact h)]; rfl
theorem UnI.plain {s : ByteArray} {out : List UInt8} {j : Nat} (h : UnI s j out) (hj : j < s.size) (hc : s[j] ≠ 92) : UnI s (j + 1) (out ++ [s[j]]) := by
  obtain ⟨e, _, hl⟩ := h
  refine ⟨?_, by omega, by simp; omega⟩
  rw [← e, une_plain _ _ _ j (drop_lt s j hj) hc]
  cases une (s.data.toList.drop (j + 1)).length (s.data.toList.drop (j + 1)) (j + 1) with
  | ok l => simp
  | error k => rfl
theorem UnI.bad {s : ByteArray} {out : List UInt8} {j : Nat} (h : UnI s j out) (hj : j < s.size) (hc : s[j] = 92) (ho : seqO (s.data.toList.drop (j + 1)) = false) : unesc s.data.toList = .error j := by
  rw [← h.eq, une_fail _ _ j (by rw [drop_lt s j hj, hc]) ho]
theorem UnI.seq {s : ByteArray} {out : List UInt8} {j : Nat} (h : UnI s j out) (hj : j < s.size) (hc : s[j] = 92) (ho : seqO (s.data.toList.drop (j + 1)) = true) :
    UnI s (j + 1 + seqN (s.data.toList.drop (j + 1))) (out ++ [UInt8.ofNat (seqV (s.data.toList.drop (j + 1)))]) := by
  obtain ⟨e, _, hl⟩ := h
  have hn := (seqN_bd (s.data.toList.drop (j + 1))).1
  rw [List.length_drop, ← size_len] at hn
  refine ⟨?_, by omega, by simp; omega⟩
  rw [← e, une_bs _ _ j (by rw [drop_lt s j hj, hc]) ho, List.drop_drop]
  cases une (s.data.toList.drop (j + 1 + seqN (s.data.toList.drop (j + 1)))).length (s.data.toList.drop (j + 1 + seqN (s.data.toList.drop (j + 1)))) (j + 1 + seqN (s.data.toList.drop (j + 1))) with
  | ok l => simp
  | error k => rfl
theorem byteCells_snoc (l : List UInt8) (c : UInt8) : Lib.byteCells l ++ [.int .u8 (c.toNat : Int)] = Lib.byteCells (l ++ [c]) := by simp [Lib.byteCells]
theorem writeByte_is (B b : Nat) (out : List UInt8) (c : UInt8) (v : Int) (w : World) (h : Lib.IsBuilder 39 5 B b (Lib.byteCells out) w) (hv : v = (c.toNat : Int)) (hlen : out.length + 1 ≤ 140737488355328) (hBw : B ≤ w.heap.size) :
    Calls Tryd.prog 29 #[.pointer (some ⟨b, 0, none⟩), .int .u8 v] w fun e w' => e = .returned .nilIface ∧ Hid (Lib.IsBuilder 39 5 B b (Lib.byteCells (out ++ [c])) w') ∧ Below B w w' := by
  subst hv
  refine (Tryd.Builder_WriteByte B b (Lib.byteCells out) (c.toNat : Int) w h (by rw [Lib.byteCells_length]; exact hlen) hBw).mono fun e w' ⟨h1, h2, h3⟩ => ⟨h1, Lib.hid (.inr ?_), h3⟩
  rw [← byteCells_snoc]; exact h2
def rS : Except Nat (List UInt8) → ByteArray
  | .ok l => ⟨l.toArray⟩
  | .error _ => ⟨#[]⟩
def rE : Except Nat (List UInt8) → Int
  | .ok _ => 0
  | .error _ => 1
def rK : Except Nat (List UInt8) → Int
  | .ok _ => 0
  | .error k => k
end Go.Proofs.YtpakciceohgfhaaDoor
