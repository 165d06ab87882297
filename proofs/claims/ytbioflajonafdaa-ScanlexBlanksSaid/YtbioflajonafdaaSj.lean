/- walks: Tokens -/
import Derived.Test.YtbioflajonafdaaSi
import Derived.Test.YtbioflajonafdaaPb
namespace Go.Proofs.Ytbioflajonafdaa
open Go.RowKit
open Tx
/-- tokens in memory -/
def Toks (w : World) (B : Nat) (v : Value) (T : List Tok) : Prop := w.ownsRow B 32 4 v T.length (T.flatMap Tok.cells)
def errOf (w : World) (p : Nat) : Int := match w.cell? ⟨p, 3, none⟩ with
  | some (.int _ x) => x
  | _ => 0
theorem LX.errOf {p : Nat} {s : ByteArray} {x : Int} {v : Value} {T : List Tok} {er pos : Int} {w : World} (h : LX p s x v T er pos w) : Go.Proofs.Ytbioflajonafdaa.errOf w p = er := by
  have c1 := blk_cell h.blk 3
  simp only [List.getElem?_toArray, List.getElem?_cons_zero, List.getElem?_cons_succ] at c1
  unfold Go.Proofs.Ytbioflajonafdaa.errOf; rw [c1]
def muOf (s : ByteArray) (p : Nat) (w : World) : Nat := if errOf w p = 0 then s.size + 1 - atOf w p else 0
theorem mu_run {p : Nat} {s : ByteArray} {j : Nat} {v : Value} {T : List Tok} {pos : Int} {w : World} (h : LX p s j v T 0 pos w) : muOf s p w = s.size + 1 - j := by
  unfold muOf; rw [h.errOf, h.atOf, if_pos rfl]
theorem mu_fell {p : Nat} {s : ByteArray} {j : Int} {v : Value} {T : List Tok} {e pos : Int} {w : World} (h : LX p s j v T e pos w) (he : e ≠ 0) : muOf s p w = 0 := by
  unfold muOf; rw [h.errOf, if_neg he]
theorem row_mono {w : World} {b b' : Nat} {e : TypeId} {k : Nat} {v : Value} {n : Nat} {xs : List Value} (h : w.ownsRow b e k v n xs) (hb : b' ≤ b) : w.ownsRow b' e k v n xs := by
  obtain ⟨h1, h2⟩ := h
  refine ⟨h1, ?_⟩
  rcases h2 with h2 | ⟨g, cap, cur, hv, hg, r⟩
  · exact .inl h2
  · exact .inr ⟨g, cap, cur, hv, by omega, r⟩
theorem LX.new (w : World) (s : ByteArray) : LX w.heap.size s 0 (.slice none 0 0) [] 0 0 (w.alloc (.cells #[.string s, .int .i64 0, .slice none 0 0, .int .i64 0, .int .i64 0] 45)) :=
  ⟨heap_alloc_new w _, ⟨rfl, .inl ⟨rfl, rfl⟩⟩, by simp⟩
/-- what Tokens returns -/
def ResP (w' : World) (B : Nat) (e : Ending) : Res → Prop
  | .ok T => ∃ v, e = .returned (.tuple #[v, .int .i64 0, .int .i64 0]) ∧ Toks w' B v T
  | .err x k => e = .returned (.tuple #[.slice none 0 0, .int .i64 x, .int .i64 k])
def tokR (s : ByteArray) : Res := if 8192 < s.size then .err 3 8192 else runM s 0 []
theorem ResP.of {w' : World} {B : Nat} {e : Ending} {r r' : Res} (h : r = r') (p : ResP w' B e r') : ResP w' B e r := h ▸ p
structure Run (p : Nat) (s : ByteArray) (w wr : World) (j : Nat) (v : Value) (T : List Tok) : Prop where
  js : j ≤ s.size
  tl : T.length ≤ j
  run : tokR s = runM s j T
  lx : LX p s j v T 0 0 wr
  bel : Below p w wr
structure Fell (p : Nat) (s : ByteArray) (w wr : World) (j k : Nat) (v : Value) (T : List Tok) (e : Int) : Prop where
  ne : e ≠ 0
  run : tokR s = .err e k
  lx : LX p s j v T e k wr
  bel : Below p w wr
set_option maxHeartbeats 4000000 in
theorem stokens_any (s : ByteArray) (w : World) :
    Calls Try.prog 9 #[.string s] w fun e w' => ResP w' w.heap.size e (tokR s) ∧ Below w.heap.size w w' := by
  by_cases hb : 8192 < s.size
  · have R : Hid (tokR s = .err 3 8192) := Lib.hid (by unfold tokR; rw [if_pos hb])
    have i1 : (8192 : Int) < (s.size : Int) := by omega
    go_enter Try.func9, Try.ntmps9
    go_wp2_with fail
    go_ret3
    exact ⟨ResP.of R.out rfl, Below.refl _ _⟩
  have i1 : ¬ (8192 : Int) < (s.size : Int) := by omega
  have hs : s.size ≤ 8192 := by omega
  have X0 : Hid (∃ (j : Nat) (v : Value) (T : List Tok), Run w.heap.size s w (w.alloc (.cells #[.string s, .int .i64 0, .slice none 0 0, .int .i64 0, .int .i64 0] 45)) j v T) :=
    Lib.hid ⟨0, _, [], by omega, Nat.le_refl _, by unfold tokR; rw [if_neg hb], LX.new w s, (Below.refl _ _).alloc (Nat.le_refl _) _⟩
  go_enter Try.func9, Try.ntmps9
  go_wp2_with fail
  go_loopw [2] (fun _ wr => (∃ (j : Nat) (v : Value) (T : List Tok), Hid (Run w.heap.size s w wr j v T)) ∨ (∃ (j k : Nat) (v : Value) (T : List Tok) (e : Int), Hid (Fell w.heap.size s w wr j k v T e))) (fun _ wr => muOf s w.heap.size wr)
  case atStart => obtain ⟨j, v, T, h⟩ := X0.out; exact .inl ⟨j, v, T, Lib.hid h⟩
  case round =>
    rcases hrel with ⟨j, v, T, RN⟩ | ⟨j, k, v, T, e, FL⟩
    · obtain ⟨-, -, -, c3, -, -⟩ := RN.out.lx.cells
      have MU := Lib.hid (mu_run RN.out.lx)
      have SK := Lib.hid (skS_le RN.out.js)
      have js := RN.out.js
      have tl := RN.out.tl
      obtain ⟨b, hb⟩ : ∃ b, skS s j = b := ⟨_, rfl⟩
      rw [hb] at SK
      have HB := Lib.hid hb
      have sb := SK.out.1
      have HT : Hid (T.length ≤ 1048576) := Lib.hid (by omega)
      clear hb
      by_cases he : s.size ≤ b
      · have R : Hid (tokR s = .ok (T ++ [⟨0, ⟨#[]⟩, 0, (b : Nat)⟩])) := Lib.hid (by rw [RN.out.run, runM_eq T js, HB.out, if_pos he])
        have i2 : (s.size : Int) ≤ (b : Int) := by omega
        go_wp2_with (first | (go_at_call 24; refine (skip_any w.heap.size s j v T 0 0 _ RN.out.lx hs js).mono ?_; rintro er w1 ⟨rfl, L1, hb1⟩; obtain ⟨-, c1, -, -, -, -⟩ := L1.cells; rw [HB.out] at c1; have L1' := Lib.hid L1; have B1 := Lib.hid (RN.out.bel.trans hb1); clear L1) | (go_at_call 25; refine (put_any w.heap.size s b b v T ⟨0, ⟨#[]⟩, 0, 0⟩ 0 0 _ (by rw [← HB.out]; exact L1'.out) HT.out).mono ?_; rintro er w2 ⟨rfl, hb2, v2, L2⟩; obtain ⟨-, -, c2, -, -, -⟩ := L2.cells))
        go_ret3
        exact ⟨ResP.of R.out ⟨v2, rfl, row_mono L2.own (by omega)⟩, B1.out.trans hb2⟩
      · have i2 : ¬ (s.size : Int) ≤ (b : Int) := by omega
        have i3 : (b : Int) < (s.size : Int) := by omega
        have R : Hid (tokR s = nextM s b T (tokM s b T)) := Lib.hid (by rw [RN.out.run, runM_eq T js, HB.out, if_neg he])
        have TB : Hid (OutB s b (tokM s b T)) := Lib.hid (tokM_bd (by omega))
        go_wp2_with (first | (go_at_call 24; refine (skip_any w.heap.size s j v T 0 0 _ RN.out.lx hs js).mono ?_; rintro er w1 ⟨rfl, L1, hb1⟩; obtain ⟨-, c1, -, -, -, -⟩ := L1.cells; rw [HB.out] at c1; have L1' := Lib.hid L1; have B1 := Lib.hid (RN.out.bel.trans hb1); clear L1) | (go_at_call 26; refine (stoken_any w.heap.size s b v T 0 _ (by rw [← HB.out]; exact L1'.out) hs (by omega) HT.out).mono ?_; rintro er w2 ⟨rfl, P2, hb2⟩))
        obtain ⟨o, ho⟩ : ∃ o, tokM s b T = o := ⟨_, rfl⟩
        rw [ho] at P2
        have R := R.out
        have TB := TB.out
        rw [ho] at R TB
        cases o with
        | tk k t n b' =>
          obtain ⟨v2, L2⟩ := P2
          have TB : b < b' ∧ b' ≤ s.size := TB
          go_roundw
          case rel => exact .inl ⟨b', v2, _, Lib.hid ⟨TB.2, by simp; omega, R, L2, B1.out.trans hb2⟩⟩
          case measure => rw [MU.out, mu_run L2]; omega
        | er e k =>
          obtain ⟨v2, L2⟩ := P2
          have TB : (e = 1 ∨ e = 3) ∧ k < s.size := TB
          go_roundw
          case rel => exact .inr ⟨b, k, v2, _, e, Lib.hid ⟨by omega, R, L2, B1.out.trans hb2⟩⟩
          case measure => rw [MU.out, mu_fell L2 (by omega)]; omega
        | sk b' =>
          obtain ⟨v2, L2⟩ := P2
          have TB : b < b' ∧ b' ≤ s.size := TB
          go_roundw
          case rel => exact .inl ⟨b', v2, _, Lib.hid ⟨TB.2, by omega, R, L2, B1.out.trans hb2⟩⟩
          case measure => rw [MU.out, mu_run L2]; omega
    · obtain ⟨-, -, -, c3, c4, -⟩ := FL.out.lx.cells
      have ne : (e == 0) = false := by rw [beq_eq_false_iff_ne]; exact FL.out.ne
      go_wp2_with fail
      go_quiet (fail)
      go_wp2_with fail
      go_ret3
      exact ⟨ResP.of FL.out.run rfl, tx_below_drewN FL.out.bel _⟩
end Go.Proofs.Ytbioflajonafdaa
