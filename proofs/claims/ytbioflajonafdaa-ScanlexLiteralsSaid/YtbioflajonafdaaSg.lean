/- walks: quoted -/
import Derived.Test.YtbioflajonafdaaSf
namespace Go.Proofs.Ytbioflajonafdaa
open Go.RowKit
open Tx
theorem une_err : ∀ (f : Nat) (l : List UInt8) (i k : Nat), une f l i = .error k → i ≤ k ∧ k < i + l.length := by
  intro f
  induction f with
  | zero => intro l i k h; simp [une] at h
  | succ f ih =>
    intro l i k h
    cases l with
    | nil => simp [une] at h
    | cons c r =>
      simp only [une] at h
      split at h
      · split at h
        · split at h
          · cases h
          · rename_i k' hk
            cases h
            have := ih _ _ _ hk
            rw [List.length_drop] at this
            have := (seqN_bd r).1
            rw [List.length_cons]; omega
        · cases h; rw [List.length_cons]; omega
      · split at h
        · cases h
        · rename_i k' hk
          cases h
          have := ih _ _ _ hk
          rw [List.length_cons]; omega
theorem unesc_ok (u : ByteArray) (l : List UInt8) (w : World) (hs : u.size ≤ 8192) (h : unesc u.data.toList = .ok l) :
    Calls Try.prog 59 #[.string u] w fun e w' => e = .returned (.tuple #[.string ⟨l.toArray⟩, .int .i64 0, .int .i64 0]) ∧ Below w.heap.size w w' := by
  refine (unescape_any u w (by omega)).mono fun e w' ⟨h1, h2⟩ => ⟨?_, h2⟩
  rw [h1, h]; rfl
theorem unesc_er (u : ByteArray) (k : Nat) (w : World) (hs : u.size ≤ 8192) (h : unesc u.data.toList = .error k) :
    Calls Try.prog 59 #[.string u] w fun e w' => e = .returned (.tuple #[.string ⟨#[]⟩, .int .i64 1, .int .i64 k]) ∧ Below w.heap.size w w' := by
  refine (unescape_any u w (by omega)).mono fun e w' ⟨h1, h2⟩ => ⟨?_, h2⟩
  rw [h1, h]; rfl
set_option maxHeartbeats 4000000 in
theorem squoted_any (p : Nat) (s : ByteArray) (a c : Nat) (v : Value) (T : List Tok) (pos : Int) (w : World) (h : LX p s a v T 0 pos w) (hs : s.size ≤ 8192) (ha : a < s.size) (hT : T.length ≤ 1048576) (hc : c = 34 ∨ c = 47) :
    Calls Try.prog 42 #[.pointer (some ⟨p, 0, none⟩), .int .u8 (c : Int)] w fun e w' => e = .returned (.tuple #[]) ∧ OutP p s T a pos w' (quoM s c a) ∧ Below p w w' := by
  have HX := Lib.hid h
  have HT := Lib.hid hT
  have hp : p < w.heap.size := by have := h.size; omega
  clear h hT
  cases hz : clz s c (a + 1) with
  | none =>
    have O : Hid (quoM s c a = .er 1 a) := Lib.hid (by unfold quoM; rw [hz])
    have HR : Hid (clzI s c (a + 1) = -1) := Lib.hid (by unfold clzI; rw [hz])
    clear hz
    go_enter Try.func42, Try.ntmps42
    go_wp2_with (first | (go_at_call 58; refine (closing_any p s a c v T 0 pos _ HX.out hs ha (-1) HR.out).mono ?_; rintro e w1 ⟨rfl, L1, hb1⟩; obtain ⟨c0, c1, -, -, -, -⟩ := L1.cells; have L1' := Lib.hid L1; clear L1) | (go_at_call 57; refine (fail_any p s a v T pos 1 a _ L1'.out).mono ?_; rintro e w2 ⟨rfl, L2, hb2⟩))
    (try simp only [Exit.inBlock, Exit.then]); refine bodyPost_ret (results_none rfl _ _ _) rfl ?_
    exact ⟨rfl, OutP.of O.out ⟨v, L2⟩, (hb1.mono (by omega)).trans hb2⟩
  | some e =>
    obtain ⟨b1, b2, -⟩ := clz_bd s c _ _ _ (Nat.le_refl _) hz
    have HR : Hid (clzI s c (a + 1) = e) := Lib.hid (by unfold clzI; rw [hz])
    obtain ⟨u, hu⟩ : ∃ u, s.extract (a + 1) e = u := ⟨_, rfl⟩
    have us : u.size ≤ 8192 := by rw [← hu, size_len, Byt.ext_mid, List.length_take, List.length_drop, ← size_len]; omega
    have US := Lib.hid us
    have i0 : ¬ (e : Int) < 0 := by omega
    have i1 : (0 : Int) ≤ (a : Int) + 1 := by omega
    have i2 : (a : Int) + 1 ≤ (e : Int) := by omega
    have i3 : (e : Int) ≤ (s.size : Int) := by omega
    have wr1 : IntKind.i64.wrap ((a : Int) + 1) = (a : Int) + 1 := by rw [IntKind.wrap_i64]; omega
    have wr2 : IntKind.i64.wrap ((e : Int) + 1) = (e : Int) + 1 := by rw [IntKind.wrap_i64]; omega
    rcases hc with rfl | rfl
    · cases hr : unesc u.data.toList with
      | ok l =>
        have O : Hid (quoM s 34 a = .tk 2 ⟨l.toArray⟩ 0 (e + 1)) := Lib.hid (by unfold quoM; rw [hz]; simp only; rw [if_neg (by decide), hu, hr])
        have HU := Lib.hid hr
        clear hz hr us
        go_enter Try.func42, Try.ntmps42
        go_wp2_with (first | (go_at_call 58; refine (closing_any p s a 34 v T 0 pos _ HX.out hs ha e HR.out).mono ?_; rintro er w1 ⟨rfl, L1, hb1⟩; obtain ⟨c0, c1, -, -, -, -⟩ := L1.cells; have L1' := Lib.hid L1; have B1 := Lib.hid (hb1.mono (show p ≤ w.heap.size by omega)); clear L1))
        go_quiet (fail)
        go_wp2_with (first | (go_at_call 59; refine (unesc_ok u l _ US.out HU.out).mono ?_; rintro er w2 ⟨rfl, hb2⟩; have L2' := Lib.hid ((L1'.out.below (tx_below_drewN (Below.refl _ _) nq)).below hb2); have B2 := Lib.hid ((tx_below_drewN B1.out nq).trans (hb2.mono (by have := L1'.out.size; simp; omega)))) | (go_at_call 25; refine (put_any p s a (e + 1) v T ⟨2, ⟨l.toArray⟩, 0, 0⟩ 0 pos _ L2'.out HT.out).mono ?_; rintro er w3 ⟨rfl, hb3, v3, L3⟩))
        go_end0
        exact ⟨rfl, OutP.of O.out ⟨v3, L3.cast (by omega)⟩, B2.out.trans hb3⟩
      | error k =>
        have hk := une_err _ _ _ _ (show une u.data.toList.length u.data.toList 0 = .error k from hr)
        rw [← size_len] at hk
        have O : Hid (quoM s 34 a = .er 1 (a + 1 + k)) := Lib.hid (by unfold quoM; rw [hz]; simp only; rw [if_neg (by decide), hu, hr])
        have HU := Lib.hid hr
        have wr3 : IntKind.i64.wrap ((a : Int) + 1 + (k : Int)) = (a : Int) + 1 + (k : Int) := by rw [IntKind.wrap_i64]; omega
        clear hz hr us
        go_enter Try.func42, Try.ntmps42
        go_wp2_with (first | (go_at_call 58; refine (closing_any p s a 34 v T 0 pos _ HX.out hs ha e HR.out).mono ?_; rintro er w1 ⟨rfl, L1, hb1⟩; obtain ⟨c0, c1, -, -, -, -⟩ := L1.cells; have L1' := Lib.hid L1; have B1 := Lib.hid (hb1.mono (show p ≤ w.heap.size by omega)); clear L1))
        go_quiet (fail)
        go_wp2_with (first | (go_at_call 59; refine (unesc_er u k _ US.out HU.out).mono ?_; rintro er w2 ⟨rfl, hb2⟩; have L2' := Lib.hid ((L1'.out.below (tx_below_drewN (Below.refl _ _) nq)).below hb2); obtain ⟨-, d1, -, -, -, -⟩ := L2'.out.cells; have B2 := Lib.hid ((tx_below_drewN B1.out nq).trans (hb2.mono (by have := L1'.out.size; simp; omega)))) | (go_at_call 57; refine (fail_any p s a v T pos 1 (a + 1 + k) _ L2'.out).mono ?_; rintro er w3 ⟨rfl, L3, hb3⟩))
        (try simp only [Exit.inBlock, Exit.then]); refine bodyPost_ret (results_none rfl _ _ _) rfl ?_
        exact ⟨rfl, OutP.of O.out ⟨v, by simpa using L3⟩, B2.out.trans hb3⟩
    · have O : Hid (quoM s 47 a = .tk 3 u 0 (e + 1)) := Lib.hid (by unfold quoM; rw [hz]; simp only; rw [if_pos trivial, hu])
      clear hz us
      go_enter Try.func42, Try.ntmps42
      go_wp2_with (first | (go_at_call 58; refine (closing_any p s a 47 v T 0 pos _ HX.out hs ha e HR.out).mono ?_; rintro er w1 ⟨rfl, L1, hb1⟩; obtain ⟨c0, c1, -, -, -, -⟩ := L1.cells; have L1' := Lib.hid L1; have B1 := Lib.hid (hb1.mono (show p ≤ w.heap.size by omega)); clear L1))
      go_quiet (fail)
      go_wp2_with (first | (go_at_call 25; refine (put_any p s a (e + 1) v T ⟨3, u, 0, 0⟩ 0 pos _ (L1'.out.below (tx_below_drewN (Below.refl _ _) nq)) HT.out).mono ?_; rintro er w3 ⟨rfl, hb3, v3, L3⟩))
      (try simp only [Exit.inBlock, Exit.then]); refine bodyPost_ret (results_none rfl _ _ _) rfl ?_
      exact ⟨rfl, OutP.of O.out ⟨v3, L3.cast (by omega)⟩, (tx_below_drewN B1.out nq).trans hb3⟩
end Go.Proofs.Ytbioflajonafdaa
