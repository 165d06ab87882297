/- walks: one escape sequence -/
import Derived.Test.YtpakciceohgfhaaDoorTa
import Derived.Test.YtpakciceohgfhaaDoorTplain2
namespace Go.Proofs.YtpakciceohgfhaaDoor
open Go.RowKit
open Tx
theorem str_eq (s : ByteArray) (l : List UInt8) : (s.toList == l) = decide (s.data.toList = l) := by
  rw [Lib.toList_data]; by_cases h : s.data.toList = l <;> simp [h]
theorem u8_back (x : UInt8) : ((x.toNat : Int).toNat.toUInt8) = x := by
  apply UInt8.toNat_inj.1
  have := x.toNat_lt
  simp [Nat.toUInt8]
theorem let_no (x : UInt8) (h : letB x = 0) : Lib.indexByte lettersL x = -1 := by
  unfold letB at h
  by_cases h0 : x = 110
  · subst h0; cases h
  by_cases h1 : x = 116
  · subst h1; cases h
  by_cases h2 : x = 114
  · subst h2; cases h
  by_cases h3 : x = 97
  · subst h3; cases h
  by_cases h4 : x = 98
  · subst h4; cases h
  by_cases h5 : x = 102
  · subst h5; cases h
  by_cases h6 : x = 118
  · subst h6; cases h
  simp only [lettersL, Lib.indexByte, beq_eq_false_iff_ne.2 (Ne.symm h0), beq_eq_false_iff_ne.2 (Ne.symm h1), beq_eq_false_iff_ne.2 (Ne.symm h2), beq_eq_false_iff_ne.2 (Ne.symm h3), beq_eq_false_iff_ne.2 (Ne.symm h4), beq_eq_false_iff_ne.2 (Ne.symm h5), beq_eq_false_iff_ne.2 (Ne.symm h6)]
  rfl
theorem head_get (s : ByteArray) (h : 0 < s.size) : s.data.toList = s[0] :: s.data.toList.drop 1 := by
  have h' : 0 < s.data.toList.length := by rw [← size_len]; exact h
  have := List.drop_eq_getElem_cons h'
  rw [List.drop_zero] at this
  exact this
theorem let_cases (x : UInt8) (h : letB x ≠ 0) : (x = 110 ∧ letB x = 10) ∨ (x = 116 ∧ letB x = 9) ∨ (x = 114 ∧ letB x = 13) ∨ (x = 97 ∧ letB x = 7) ∨ (x = 98 ∧ letB x = 8) ∨ (x = 102 ∧ letB x = 12) ∨ (x = 118 ∧ letB x = 11) := by
  by_cases h0 : x = 110
  · subst h0; exact .inl ⟨rfl, rfl⟩
  by_cases h1 : x = 116
  · subst h1; exact .inr (.inl ⟨rfl, rfl⟩)
  by_cases h2 : x = 114
  · subst h2; exact .inr (.inr (.inl ⟨rfl, rfl⟩))
  by_cases h3 : x = 97
  · subst h3; exact .inr (.inr (.inr (.inl ⟨rfl, rfl⟩)))
  by_cases h4 : x = 98
  · subst h4; exact .inr (.inr (.inr (.inr (.inl ⟨rfl, rfl⟩))))
  by_cases h5 : x = 102
  · subst h5; exact .inr (.inr (.inr (.inr (.inr (.inl ⟨rfl, rfl⟩)))))
  by_cases h6 : x = 118
  · subst h6; exact .inr (.inr (.inr (.inr (.inr (.inr ⟨rfl, rfl⟩)))))
  exfalso; apply h; unfold letB
  rw [if_neg h0, if_neg h1, if_neg h2, if_neg h3, if_neg h4, if_neg h5, if_neg h6]
structure SeqF (s : ByteArray) (b n : Nat) (o : Bool) : Prop where
  v : seqV s.data.toList = b
  n : seqN s.data.toList = n
  o : seqO s.data.toList = o
theorem ret_bnb {a b c d : Int} {p q : Bool} (h : a = b) (h' : c = d) (h'' : p = q) : Ending.returned (.tuple #[.int .u8 a, .int .i64 c, .bool p]) = .returned (.tuple #[.int .u8 b, .int .i64 d, .bool q]) := by rw [h, h', h'']
theorem seq_let (s : ByteArray) (h : 0 < s.size) (b : Nat) (hb : (letB s[0]).toNat = b) (h0 : letB s[0] ≠ 0) : SeqF s b 1 true := by
  refine ⟨?_, ?_, ?_⟩
  all_goals rw [head_get s h]
  · simp only [seqV]; rw [if_pos h0, hb]
  · simp only [seqN]; rw [if_pos h0]
  · simp only [seqO]; rw [if_pos h0]
theorem seq_self (s : ByteArray) (h : 0 < s.size) (h0 : letB s[0] = 0) (hs : isSelf s[0] = true) : SeqF s s[0].toNat 1 true := by
  refine ⟨?_, ?_, ?_⟩
  all_goals rw [head_get s h]
  · simp only [seqV]; rw [if_neg (fun e => e h0), if_pos hs]
  · simp only [seqN]; rw [if_neg (fun e => e h0), if_pos hs]
  · simp only [seqO]; rw [if_neg (fun e => e h0), if_pos hs]
theorem seq_oct (s : ByteArray) (h : 0 < s.size) (h0 : letB s[0] = 0) (hs : isSelf s[0] = false) : SeqF s ((octGo 3 s.data.toList 0 0).1 % 256) (octGo 3 s.data.toList 0 0).2 (decide (0 < (octGo 3 s.data.toList 0 0).2) && decide ((octGo 3 s.data.toList 0 0).1 < 256)) := by
  have e := head_get s h
  refine ⟨?_, ?_, ?_⟩
  all_goals rw [e]
  · simp only [seqV]; rw [if_neg (fun e => e h0), hs]; rfl
  · simp only [seqN]; rw [if_neg (fun e => e h0), hs]; rfl
  · simp only [seqO]; rw [if_neg (fun e => e h0), hs]; rfl
/-- the loop over the octal digits -/
structure OcI (s : ByteArray) (k v : Nat) : Prop where
  eq : octGo (3 - k) (s.data.toList.drop k) v k = octGo 3 s.data.toList 0 0
  k3 : k ≤ 3
  ks : k ≤ s.size
  vb : v < 8 ^ k
theorem seqF_of {s : ByteArray} {y k : Nat} (F : SeqF s ((octGo 3 s.data.toList 0 0).1 % 256) (octGo 3 s.data.toList 0 0).2 (decide (0 < (octGo 3 s.data.toList 0 0).2) && decide ((octGo 3 s.data.toList 0 0).1 < 256))) (S : octGo 3 s.data.toList 0 0 = (y, k)) : SeqF s (y % 256) k (decide (0 < k) && decide (y < 256)) := by
  rw [S] at F; exact F
theorem OcI.start (s : ByteArray) : OcI s 0 0 := ⟨rfl, by omega, by omega, by decide⟩
theorem OcI.hit {s : ByteArray} {k v : Nat} (h : OcI s k v) (h3 : k < 3) (hs : k < s.size) (hc : oct s[k] = true) : OcI s (k + 1) (8 * v + (s[k].toNat - 48)) := by
  obtain ⟨e, _, _, hv⟩ := h
  have hd : s[k].toNat - 48 ≤ 7 := by simp [oct] at hc; omega
  refine ⟨?_, by omega, by omega, ?_⟩
  · rw [← e, show 3 - k = (3 - (k + 1)) + 1 from by omega, List.drop_eq_getElem_cons (show k < s.data.toList.length by rw [← size_len]; exact hs)]
    simp only [octGo]
    exact (if_pos (show oct s.data.toList[k] = true from hc)).symm
  · rw [Nat.pow_succ]; omega
theorem OcI.stop {s : ByteArray} {k v : Nat} (h : OcI s k v) (hn : k = 3 ∨ k = s.size ∨ ∃ hs : k < s.size, oct s[k] = false) : octGo 3 s.data.toList 0 0 = (v, k) := by
  obtain ⟨e, h3, _, _⟩ := h
  rw [← e]
  rcases hn with rfl | rfl | ⟨hs, hc⟩
  · rfl
  · rw [List.drop_eq_nil_of_le (by rw [← size_len]; exact Nat.le_refl _)]
    cases 3 - s.size <;> rfl
  · rw [List.drop_eq_getElem_cons (by rw [← size_len]; exact hs)]
    have hc' : oct s.data.toList[k] = false := hc
    cases hk : 3 - k with
    | zero => rfl
    | succ m => simp only [octGo]; rw [hc']; rfl
theorem SeqF.post {s : ByteArray} {b n : Nat} {o : Bool} (F : SeqF s b n o) : Ending.returned (.tuple #[.int .u8 (b : Int), .int .i64 (n : Int), .bool o]) = .returned (.tuple #[.int .u8 ((seqV s.data.toList : Nat) : Int), .int .i64 ((seqN s.data.toList : Nat) : Int), .bool (seqO s.data.toList)]) := by
  rw [F.v, F.n, F.o]
end Go.Proofs.YtpakciceohgfhaaDoor
