/- walks: num.Format, the builder that keeps the lines, Number -/
import Derived.Test.YtpakciceohgfhaaDoorNd
import Derived.Shelf.Strings.BuilderK
import Derived.Lib.AppendIntMem
import Derived.Lib.ItoaNum
import Derived.Lib.SmallJoins
namespace Go.Proofs.YtpakciceohgfhaaDoor
open Go.RowKit
open Tx
abbrev Tab (w : World) : Prop := Lib.TabIs Tryd.prog w "internal/strconv.uint64pow10" .u64 Lib.pow10Tab
theorem gPow : Tryd.prog.globalNamed "internal/strconv.uint64pow10" = some 1 := by kernel_rfl
theorem tab_below {w w' : World} (h : Tab w) (hb : Below w.heap.size w w') : Tab w' := Joins.tab_stays gPow h hb (Nat.le_refl _)
theorem dd_len : ∀ (k u : Nat), 1 ≤ k → u < 10 ^ k → (Lib.decDigits u).length ≤ k := by
  intro k
  induction k with
  | zero => intro u h; omega
  | succ k ih =>
    intro u _ hu
    rw [Lib.decDigits]
    split
    · simp
    · rename_i h10
      have hk : 1 ≤ k := by
        apply Decidable.byContradiction; intro hk
        have : k = 0 := by omega
        subst this; simp at hu; omega
      have := ih (u / 10) hk (by rw [Nat.pow_succ] at hu; omega)
      simp only [List.length_append, List.length_cons, List.length_nil]; omega
theorem itoa_len (n : Int) (h0 : -9223372036854775808 ≤ n) (h1 : n ≤ 9223372036854775807) : (Lib.itoa n).length ≤ 21 := by
  unfold Lib.itoa
  split
  · have := dd_len 20 n.natAbs (by omega) (by omega)
    simp only [List.length_cons]; omega
  · have := dd_len 20 n.toNat (by omega) (by omega)
    omega
theorem nfmt_any (n : Int) (w : World) (h0 : -9223372036854775808 ≤ n) (h1 : n ≤ 9223372036854775807) (htab : Tab w) :
    Calls Tryd.prog 28 #[.int .i64 n] w fun e w' => e = .returned (.string ⟨(Lib.itoa n).toArray⟩) ∧ Below w.heap.size w w' := by
  have C := Lib.hid ((Tryd.strconv_Itoa n h0 h1 w htab).mono (R' := fun e w' => e = .returned (.string ⟨(Lib.itoa n).toArray⟩) ∧ Below w.heap.size w w') fun e w' ⟨h, k, os, hw⟩ => ⟨h, by rw [hw]; exact Lib.below_grow _ w (Nat.le_refl _) k os⟩)
  clear h0 h1 htab
  go_enter Tryd.func28, Tryd.ntmps28
  go_wp2_with (go_at_call 39; refine C.out.mono ?_; rintro e w' ⟨rfl, hb⟩)
  go_ret
  exact ⟨rfl, hb⟩
theorem nfmt_is (n : Int) (l : List UInt8) (w : World) (hr : Hid (-9223372036854775808 ≤ n ∧ n ≤ 9223372036854775807)) (htab : Hid (Tab w)) (hl : Hid (Lib.itoa n = l)) :
    Calls Tryd.prog 28 #[.int .i64 n] w fun e w' => e = .returned (.string ⟨l.toArray⟩) ∧ Below w.heap.size w w' := by
  rw [← hl.out]; exact nfmt_any n w hr.out.1 hr.out.2 htab.out
/-- a builder in block b -/
abbrev IBF (b : Nat) (out : List UInt8) (w : World) : Prop := Lib.IsBuilderF 39 5 b b (Lib.byteCells out) w
theorem ownF_below {B : Nat} {e : TypeId} {k : Nat} {v : Value} {n : Nat} {xs : List Value} {w w' : World} (h : w.ownsRowF B e k v n xs) (hb : Below w.heap.size w w') : w'.ownsRowF B e k v n xs := by
  obtain ⟨h1, h2⟩ := h
  refine ⟨h1, ?_⟩
  rcases h2 with h2 | ⟨g, cap, cur, fz, rfl, hB, hg, r⟩
  · exact .inl h2
  · exact .inr ⟨g, cap, cur, fz, rfl, hB, by rw [hb.block g (Array.getElem?_eq_some_iff.1 hg).1]; exact hg, r⟩
theorem ibf_below {b : Nat} {out : List UInt8} {w w' : World} (h : IBF b out w) (hb : Below w.heap.size w w') : IBF b out w' := by
  rcases h with ⟨hB, v, hv, ho, hn⟩ | ⟨hB, v, hv, ho, hn⟩
  · exact .inl ⟨hB, v, by rw [hb.block b (Array.getElem?_eq_some_iff.1 hv).1]; exact hv, ownF_below ho hb, hn⟩
  · exact .inr ⟨hB, v, by rw [hb.block b (Array.getElem?_eq_some_iff.1 hv).1]; exact hv, ownF_below ho hb, hn⟩
/-- the lines' block -/
def LK (g : Nat) (cs : Array Value) (w : World) : Prop := w.heap[g]? = some (.cells cs 9 (0, 0))
theorem LK.below {g : Nat} {cs : Array Value} {w w' : World} (h : LK g cs w) (hb : Below w.heap.size w w') : LK g cs w' := by
  unfold LK at *; rw [hb.block g (Array.getElem?_eq_some_iff.1 h).1]; exact h
theorem LK.kept {g b : Nat} {cs : Array Value} {w w' : World} (h : LK g cs w) (hk : Lib.OthersKept 5 (some b) w w') (hb : g ≠ b) : LK g cs w' :=
  hk g _ h (by simp; exact hb) (by intro c fz e; simp at e)
theorem LK.cell {g : Nat} {cs : Array Value} {w : World} (h : LK g cs w) {j : Nat} {x : ByteArray} (hj : cs[j]? = some (.string x)) : w.cell? ⟨g, j, none⟩ = some (.string x) := by
  unfold LK at h; simp [World.cell?, h, hj]
theorem wb_k (b : Nat) (out : List UInt8) (c : UInt8) (v : Int) (w : World) (h : IBF b out w) (hv : v = (c.toNat : Int)) (hlen : out.length + 1 ≤ 140737488355328) (hBw : b ≤ w.heap.size) :
    Calls Tryd.prog 29 #[.pointer (some ⟨b, 0, none⟩), .int .u8 v] w fun e w' => e = .returned .nilIface ∧ Hid (IBF b (out ++ [c]) w') ∧ Below b w w' ∧ Lib.OthersKept 5 (some b) w w' := by
  subst hv
  refine (Any.Builder_WriteByte_k Tryd.lays167 Tryd.Builder_Extra_167 b b (Lib.byteCells out) (c.toNat : Int) w h (by rw [Lib.byteCells_length]; exact hlen) hBw).mono fun e w' ⟨h1, h2, h3, h4⟩ => ⟨h1, Lib.hid (.inr ?_), h3, h4⟩
  have e : Lib.byteCells (out ++ [c]) = Lib.byteCells out ++ [.int .u8 (c.toNat : Int)] := by simp [Lib.byteCells]
  rw [e]; exact h2
theorem ws_k (b : Nat) (out : List UInt8) (s : ByteArray) (w : World) (h : IBF b out w) (hlen : out.length + s.size ≤ 140737488355328) (hBw : b ≤ w.heap.size) :
    Calls Tryd.prog 27 #[.pointer (some ⟨b, 0, none⟩), .string s] w fun e w' => e = .returned (.tuple #[.int .i64 (s.size : Int), .nilIface]) ∧ Hid (IBF b (out ++ s.data.toList) w') ∧ Below b w w' ∧ Lib.OthersKept 5 (some b) w w' := by
  refine (Any.Builder_WriteString_k Tryd.lays166 Tryd.Builder_Extra_166 b b (Lib.byteCells out) s w h (by rw [Lib.byteCells_length]; exact hlen) hBw).mono fun e w' ⟨h1, h2, h3, h4⟩ => ⟨h1, Lib.hid (.inr ?_), h3, h4⟩
  have e : Lib.byteCells (out ++ s.data.toList) = Lib.byteCells out ++ Lib.strCells s := by rw [Lib.strCells_eq]; simp [Lib.byteCells]
  rw [e]; exact h2
theorem wl_k (b : Nat) (out l : List UInt8) (w : World) (h : IBF b out w) (hlen : out.length + l.length ≤ 140737488355328) (hBw : b ≤ w.heap.size) :
    Calls Tryd.prog 27 #[.pointer (some ⟨b, 0, none⟩), .string ⟨l.toArray⟩] w fun e w' => e = .returned (.tuple #[.int .i64 (l.length : Int), .nilIface]) ∧ Hid (IBF b (out ++ l) w') ∧ Below b w w' ∧ Lib.OthersKept 5 (some b) w w' :=
  ws_k b out ⟨l.toArray⟩ w h hlen hBw
theorem str_k (b : Nat) (out : List UInt8) (w : World) (h : IBF b out w) (hBw : b ≤ w.heap.size) :
    Calls Tryd.prog 30 #[.pointer (some ⟨b, 0, none⟩)] w fun e w' => e = .returned (.string ⟨out.toArray⟩) ∧ Below b w w' :=
  (Any.Builder_String_any_k Tryd.lays169 Tryd.Builder_Extra_169 b b out w h hBw).mono fun _ _ ⟨h1, _, h3, _⟩ => ⟨h1, h3⟩
theorem numb_len : ∀ (L : List ByteArray) (f : Int), -9223372036854775808 ≤ f → f ≤ 9223372036854775807 → (numb (L.map (·.data.toList)) f).length ≤ fullB L + 22 * L.length := by
  intro L
  induction L with
  | nil => intro f _ _; simp [numb]
  | cons x r ih =>
    intro f h0 h1
    simp only [List.map_cons, numb, List.length_append, List.length_cons]
    have i := itoa_len f h0 h1
    have e : fullB (x :: r) = x.size + 1 + fullB r := by simp [fullB]
    rw [e, ← size_len]
    split
    · have := ih (f + 1) (by omega) (by omega); omega
    · have := ih f h0 h1; omega
theorem numb_drop {L : List ByteArray} {j : Nat} (hj : j < L.length) (f : Int) : numb ((L.drop j).map (·.data.toList)) f = Lib.itoa f ++ (9 :: (L[j].data.toList ++ numb ((L.drop (j + 1)).map (·.data.toList)) (if f < 9223372036854775807 then f + 1 else f))) := by
  rw [List.drop_eq_getElem_cons hj]; rfl
end Go.Proofs.YtpakciceohgfhaaDoor
