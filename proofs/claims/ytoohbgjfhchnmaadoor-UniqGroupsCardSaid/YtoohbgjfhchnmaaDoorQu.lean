/- walks: Feed of the program's filter -/
import Derived.Test.YtoohbgjfhchnmaaDoorQt
namespace Go.Proofs.YtoohbgjfhchnmaaDoor
open Go.RowKit Go.Maps
open Lcl
/-- the state of a filter: the first line of the group, the part of it that counts, the number of lines -/
structure St where
  first : ByteArray
  key : ByteArray
  n : Nat
/-- does a line go on with the group? -/
def same (c : Cfg) (st : St) (line : ByteArray) : Bool := decide (0 < st.n) && decide ((c.K line).data.toList = st.key.data.toList)
def feedS (c : Cfg) (st : St) (line : ByteArray) : St := if same c st line then ⟨st.first, st.key, st.n + 1⟩ else ⟨line, c.K line, 1⟩
def feedL (c : Cfg) (st : St) (line : ByteArray) : List ByteArray := if same c st line then [] else closeL c st.first st.n
theorem str_beq' (a b : ByteArray) : (a.toList == b.toList) = decide (a.data.toList = b.data.toList) := str_beq a b
abbrev PF (c : Cfg) (w0 w : World) (bp bo bq : Nat) (v1 v4 v5 : Value) (g : Nat) (st : St) : Prop := PFil c w0 w bp bo bq v1 v4 v5 g st.first st.key st.n
/-- what Feed and Close leave -/
def StepR (c : Cfg) (w0 : World) (bp bo bq : Nat) (v1 v4 v5 : Value) (g : Nat) (st : St) (L : List ByteArray) (w : World) (e : Ending) (w' : World) : Prop :=
  ∃ v, e = .returned v ∧ Hid (OutAt w' v L) ∧ Hid (PF c w0 w' bp bo bq v1 v4 v5 g st) ∧ Hid (w.grownBy w' (some g)) ∧ Hid (OutN w.heap.size v)
theorem stepr_is {c : Cfg} {w0 : World} {bp bo bq : Nat} {v1 v4 v5 : Value} {g : Nat} {st : St} {L : List ByteArray} {w : World} {e : Ending} {w' : World} (h : StepR c w0 bp bo bq v1 v4 v5 g st L w e w') :
  ∃ v, e = .returned v ∧ Hid (OutAt w' v L) ∧ Hid (PF c w0 w' bp bo bq v1 v4 v5 g st) ∧ Hid (w.grownBy w' (some g)) ∧ Hid (OutN w.heap.size v) := h
theorem ks_yes {c : Cfg} {st : St} {line : ByteArray} (h : same c st line = true) : 0 < st.n ∧ (c.K line).data.toList = st.key.data.toList := by
  unfold same at h
  simp only [Bool.and_eq_true, decide_eq_true_eq] at h
  exact h
theorem ks_no {c : Cfg} {st : St} {line : ByteArray} (h : same c st line = false) : st.n = 0 ∨ (0 < st.n ∧ ¬ (c.K line).data.toList = st.key.data.toList) := by
  unfold same at h
  by_cases h0 : 0 < st.n
  · right
    refine ⟨h0, fun e => ?_⟩
    rw [decide_eq_true h0, decide_eq_true e] at h
    cases h
  · left; omega
theorem func_nil (f : Fn) (a b : Array Value) (w : World) : (binOp .eql 51 (.func f a b) .nilFunc).run Tryd.prog w = .ok (.bool false) w := by kernel_rfl
set_option maxRecDepth 100000 in
set_option maxHeartbeats 16000000 in
theorem feed_any (c : Cfg) (hc : c.Ok) (w0 w : World) (bp bo bq : Nat) (v1 v4 v5 : Value) (g : Nat) (st : St) (line : ByteArray) (h : PF c w0 w bp bo bq v1 v4 v5 g st) (ht : Tab w) (hn : st.n ≤ 4611686018427387903) (hs : st.first.size ≤ 140737488351232) (hl : line.size ≤ 140737488351232) :
    Calls Tryd.prog 15 #[.pointer (some ⟨g, 0, none⟩), .string line] w (StepR c w0 bp bo bq v1 v4 v5 g (feedS c st line) (feedL c st line) w) := by
  have T := Lib.hid ht; clear ht
  have SZ := Lib.hid hs; clear hs
  have LZ := Lib.hid hl; clear hl
  have HC := Lib.hid hc; clear hc
  obtain ⟨first, key, n⟩ := st
  have H := Lib.hid h; clear h
  obtain ⟨k, hk⟩ : ∃ k, c.K line = k := ⟨_, rfl⟩
  have HK := Lib.hid hk; clear hk
  obtain ⟨c0, c1, c2, c3, c4⟩ := H.out.cells
  have PT := Lib.hid (partc_any c HC.out line bp bo v1 v4 v5 w H.out.ownNow.p H.out.ownNow.o H.out.ownNow.l LZ.out)
  rw [HK.out] at PT
  have hfn := func_nil
  cases hsm : same c ⟨first, key, n⟩ line with
  | true =>
    obtain ⟨n0, ke⟩ := ks_yes hsm
    have ES : Hid (feedS c ⟨first, key, n⟩ line = ⟨first, key, n + 1⟩) := Lib.hid (by unfold feedS; rw [hsm]; rfl)
    have EL : Hid (feedL c ⟨first, key, n⟩ line = []) := Lib.hid (by unfold feedL; rw [hsm]; rfl)
    have te : (k.toList == key.toList) = true := by rw [str_beq, ← HK.out, decide_eq_true ke]
    have t0 : 0 < (n : Int) := by show 0 < ((n : Nat) : Int); simp only at n0; omega
    have tn : (n : Int) ≤ 4611686018427387903 := by simp only at hn; omega
    clear hsm ke n0 hn
    go_enter Tryd.func15, Tryd.ntmps15
    go_wp2_with fail
    refine PT.out.mono ?_
    rintro e w1 ⟨rfl, hb1⟩
    have K1 := Lib.hid (H.out.keep hb1)
    clear c0 c1 c2 c3 c4
    obtain ⟨c0, c1, c2, c3, c4⟩ := K1.out.cells
    have f4 := K1.out.frz 4
    go_wp2_with fail
    go_ret
    exact ⟨_, rfl, Lib.hid (by rw [EL.out]; exact .inl ⟨rfl, rfl⟩), Lib.hid (by rw [ES.out]; exact K1.out.set4 (n + 1) _ (by omega)), Lib.hid ((grown_below hb1 _).trans (grown_set _ _ _ _)), Lib.hid (outn_nil _)⟩
  | false =>
    have ES : Hid (feedS c ⟨first, key, n⟩ line = ⟨line, k, 1⟩) := Lib.hid (by unfold feedS; rw [hsm, HK.out]; rfl)
    have EL : Hid (feedL c ⟨first, key, n⟩ line = closeL c first n) := Lib.hid (by unfold feedL; rw [hsm]; rfl)
    have tn : n ≤ 4611686018427387904 := by simp only at hn; omega
    have tt : (¬ 0 < (n : Int)) ∨ (0 < (n : Int) ∧ (k.toList == key.toList) = false) := by
      rcases ks_no hsm with h0 | ⟨h0, h1⟩
      · left; simp only at h0; omega
      · right
        refine ⟨by simp only at h0; omega, ?_⟩
        rw [str_beq, ← HK.out, decide_eq_false h1]
    clear hsm hn
    rcases tt with t0 | ⟨t0, te⟩
    all_goals
      go_enter Tryd.func15, Tryd.ntmps15
      go_wp2_with fail
      refine PT.out.mono ?_
      rintro e w1 ⟨rfl, hb1⟩
      have K1 := Lib.hid (H.out.keep hb1)
      clear c0 c1 c2 c3 c4
      obtain ⟨c0, c1, c2, c3, c4⟩ := K1.out.cells
      go_wp2_with fail
      refine (close_any c w0 w1 bp bo bq v1 v4 v5 g n first key K1.out (tab_below T.out hb1) tn SZ.out).mono ?_
      intro e w2 h2
      obtain ⟨v, rfl, OV, K2, G2, NV⟩ := closer_is h2
      clear h2 c0 c1 c2 c3 c4
      obtain ⟨c0, c1, c2, c3, c4⟩ := K2.out.cells
      have f2 := K2.out.frz 2
      have f3 := K2.out.frz 3
      have f4 := K2.out.frz 4
      go_wp2_with fail
      have NE := outn_ne NV.out K1.out.lt
      have NV2 : Hid (OutN w.heap.size v) := Lib.hid (fun a o sp m cp e => Nat.le_trans hb1.size (NV.out a o sp m cp e))
      go_ret
      exact ⟨v, rfl, Lib.hid (by rw [EL.out]; exact ((OV.out.set NE).set NE).set NE), Lib.hid (by rw [ES.out]; exact ((K2.out.set2 line).set3 k).set4 1 1 rfl), Lib.hid ((((grown_below hb1 _).trans G2.out).trans (grown_set _ _ _ _)).trans ((grown_set _ _ _ _).trans (grown_set _ _ _ _))), NV2⟩
end Go.Proofs.YtoohbgjfhchnmaaDoor
