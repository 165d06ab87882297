/- walks: awake, and the laws that hold the program against the reference -/
import Derived.Test.YtjngkapfngempaaDoorWp
import Derived.Test.YtjngkapfngempaaDoorWm
import Derived.Test.YtjngkapfngempaaDoorWf
import Derived.Test.YtjngkapfngempaaDoorWk1
namespace Go.Proofs.YtjngkapfngempaaDoor
open Go.RowKit
open Dcm Byt
theorem Units.below {w w' : World} (h : Units w) (hb : Below w.heap.size w w') (h0 : 0 < w.heap.size) : Units w' :=
  ⟨(hb.cell (p := ⟨0, 0, none⟩) h0).trans h.u0, (hb.cell (p := ⟨0, 1, none⟩) h0).trans h.u1, (hb.cell (p := ⟨0, 2, none⟩) h0).trans h.u2, (hb.cell (p := ⟨0, 3, none⟩) h0).trans h.u3, (hb.cell (p := ⟨0, 4, none⟩) h0).trans h.u4⟩
theorem Units.pos {w : World} (h : Units w) : 0 < w.heap.size := by
  apply Nat.pos_of_ne_zero
  intro h0
  have h1 := h.u0
  have : w.heap[0]? = none := Array.getElem?_eq_none (by omega)
  simp [World.cell?, this] at h1
structure Env (w : World) : Prop where
  u : Units w
  t : Tab w
theorem Env.below {w w' : World} (h : Env w) (hb : Below w.heap.size w w') : Env w' := ⟨h.u.below hb h.u.pos, Joins.tab_stays gPow h.t hb (Nat.le_refl _)⟩
theorem Env.drewN {w : World} (h : Env w) (n : Nat) : Env (w.drewN n) := ⟨h.u.drewN n, h.t⟩
theorem below_drewN {B : Nat} {a w : World} (h : Below B a w) (n : Nat) : Below B a (w.drewN n) := ⟨h.os, h.tape, h.output, h.size, h.block⟩
theorem aw1 : divV 10000 30000 = 3333 ∧ divE 10000 30000 = 0 := by decide
theorem aw2 : mulV 100 100 = 1 ∧ mulE 100 100 = 0 := by decide
theorem aw3 : parseV [45, 49, 46, 50, 53] = -12500 ∧ parseE [45, 49, 46, 50, 53] = 0 := by decide
theorem aw4 : preV [32, 43, 51, 46, 53, 48, 120] = 35000 ∧ preN [32, 43, 51, 46, 53, 48, 120] = 6 := by decide
theorem aw4' : preV (ByteArray.mk #[32, 43, 51, 46, 53, 48, 120]).data.toList = 35000 ∧ ((preN (ByteArray.mk #[32, 43, 51, 46, 53, 48, 120]).data.toList : Nat) : Int) = 6 := ⟨aw4.1, by show ((preN [32, 43, 51, 46, 53, 48, 120] : Nat) : Int) = 6; rw [aw4.2]; rfl⟩
theorem aw5 : powV 20000 (-2) = 2500 ∧ powE 20000 (-2) = 0 := by decide
theorem aw6 : roundD (-25000) 0 = -30000 := by decide
theorem aw7 : fmtL (-12500) = [45, 49, 46, 50, 53] := by
  have h : Lib.decDigits 1 = [49] := by rw [Lib.decDigits, dif_pos (by decide)]; rfl
  have h2 : (near (-12500)).natAbs / 10000 = 1 := by decide
  unfold fmtL
  rw [h2, h]; decide
theorem prefix_at (s : ByteArray) (v e : Int) (w : World) (hs : s.size ≤ 9223372036854775807) (hv : preV s.data.toList = v ∧ ((preN s.data.toList : Nat) : Int) = e) :
    Calls Tryd.prog 27 #[.string s] w fun x w' => x = .returned (.tuple #[.int .i64 v, .int .i64 e]) ∧ w = w' := by rw [← hv.1, ← hv.2]; exact prefix_any s w hs
theorem div_at (a b v e : Int) (w : World) (hv : divV a b = v ∧ divE a b = e) : Calls Tryd.prog 37 #[.int .i64 a, .int .i64 b] w fun x w' => x = .returned (.tuple #[.int .i64 v, .int .i64 e]) ∧ w = w' := by rw [← hv.1, ← hv.2]; exact div_any a b w
theorem mul_at (a b v e : Int) (w : World) (hv : mulV a b = v ∧ mulE a b = e) : Calls Tryd.prog 36 #[.int .i64 a, .int .i64 b] w fun x w' => x = .returned (.tuple #[.int .i64 v, .int .i64 e]) ∧ ∃ n, w' = w.drewN n := by rw [← hv.1, ← hv.2]; exact mul_any a b w
theorem pow_at (a b v e : Int) (w : World) (h1 : -9223372036854775808 ≤ b) (h2 : b ≤ 9223372036854775807) (hv : powV a b = v ∧ powE a b = e) : Calls Tryd.prog 39 #[.int .i64 a, .int .i64 b] w fun x w' => x = .returned (.tuple #[.int .i64 v, .int .i64 e]) ∧ ∃ n, w' = w.drewN n := by rw [← hv.1, ← hv.2]; exact pow_any a b w h1 h2
theorem format_at (a : Int) (l : List UInt8) (w : World) (ht : Tab w) (hv : fmtL a = l) : Calls Tryd.prog 31 #[.int .i64 a] w fun x w' => x = .returned (.string ⟨l.toArray⟩) ∧ Below w.heap.size w w' := by rw [← hv]; exact format_any a w ht
theorem sz5 : (ByteArray.mk #[45, 49, 46, 50, 53]).size ≤ 9223372036854775807 := by show 5 ≤ 9223372036854775807; omega
theorem sz7 : (ByteArray.mk #[32, 43, 51, 46, 53, 48, 120]).size ≤ 9223372036854775807 := by show 7 ≤ 9223372036854775807; omega
end Go.Proofs.YtjngkapfngempaaDoor
