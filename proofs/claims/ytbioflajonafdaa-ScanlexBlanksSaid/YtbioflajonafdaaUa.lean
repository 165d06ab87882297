/- walks: Escape -/
import Derived.Test.YtbioflajonafdaaTc
import Derived.Laws.BytesArg
namespace Go.Proofs.Ytbioflajonafdaa
open Go.RowKit
open Tx
def escL (c : UInt8) : UInt8 := if c = 10 then 110 else if c = 9 then 116 else if c = 13 then 114 else if c = 7 then 97 else if c = 8 then 98 else if c = 12 then 102 else if c = 11 then 118 else 0
def oct3 (c : UInt8) : List UInt8 := [UInt8.ofNat (48 + c.toNat / 64), UInt8.ofNat (48 + c.toNat / 8 % 8), UInt8.ofNat (48 + c.toNat % 8)]
def esc1 (c : UInt8) : List UInt8 := if escL c ≠ 0 then [92, escL c] else if c = 92 then [92, 92] else if 32 ≤ c.toNat ∧ c.toNat ≤ 126 then [c] else 92 :: oct3 c
def esc (l : List UInt8) : List UInt8 := l.flatMap esc1
theorem esc1_len (c : UInt8) : (esc1 c).length ≤ 4 := by
  unfold esc1
  split
  · simp
  · split
    · simp
    · split
      · simp
      · simp [oct3]
theorem esc_take (s : ByteArray) (j : Nat) (h : j < s.size) : esc (s.data.toList.take (j + 1)) = esc (s.data.toList.take j) ++ esc1 s[j] := by
  rw [take_snoc s j h]; simp [esc]
theorem esc_len (l : List UInt8) : (esc l).length ≤ 4 * l.length := by
  induction l with
  | nil => simp [esc]
  | cons c r ih =>
    have := esc1_len c
    simp only [esc, List.flatMap_cons, List.length_append, List.length_cons] at *
    omega
theorem cells_at {w : World} {g : Nat} {xs : Array Value} {T : TypeId} (h : w.heap[g]? = some (.cells xs T (0, 0))) (i : Nat) : w.cell? ⟨g, i, none⟩ = xs[i]? := by simp [World.cell?, h]
theorem conv_three (a b c : Int) (W : World) : (convert 51 9 (.slice (some ⟨W.heap.size, 0, none⟩) 3 3)).run Try.prog (W.alloc (.cells #[.int .u8 a, .int .u8 b, .int .u8 c] 5)) = .ok (.string (strOfNums [a, b, c])) (W.alloc (.cells #[.int .u8 a, .int .u8 b, .int .u8 c] 5)) :=
  run_convert_bytes_arg (W.alloc (.cells #[.int .u8 a, .int .u8 b, .int .u8 c] 5)) 51 5 Try.underlying51 Try.underlying5 W.heap.size 0 3 3 [a, b, c] rfl (fun i hi => by
    have h := heap_alloc_new W (.cells #[.int .u8 a, .int .u8 b, .int .u8 c] 5)
    rw [cells_at h]
    match i, hi with
    | 0, _ => rfl
    | 1, _ => rfl
    | 2, _ => rfl) 9 Try.underlying9
def bytesL : List UInt8 := [10, 9, 13, 7, 8, 12, 11]
theorem esc_at (c k : Int) (w : World) (h : Lib.indexByte bytesL c.toNat.toUInt8 = k) :
    Calls Try.prog 36 #[.string ⟨#[10, 9, 13, 7, 8, 12, 11]⟩, .int .u8 c] w fun e w' => e = .returned (.int .i64 k) ∧ w = w' := by
  refine (Try.strings_IndexByte ⟨#[10, 9, 13, 7, 8, 12, 11]⟩ c w).mono fun e w' ⟨h1, h2⟩ => ⟨?_, h2.symm⟩
  rw [h1]
  show Ending.returned (.int .i64 (Lib.indexByte bytesL c.toNat.toUInt8)) = _
  rw [h]
theorem esc_none (x : UInt8) (w : World) (h : Hid (Lib.indexByte bytesL x = -1)) :
    Calls Try.prog 36 #[.string ⟨#[10, 9, 13, 7, 8, 12, 11]⟩, .int .u8 (x.toNat : Int)] w fun e w' => e = .returned (.int .i64 (-1)) ∧ w = w' :=
  esc_at (x.toNat : Int) (-1) w (by rw [u8_back]; exact h.out)
theorem esc_no (x : UInt8) (h : escL x = 0) : Lib.indexByte bytesL x = -1 := by
  unfold escL at h
  by_cases h0 : x = 10
  · subst h0; cases h
  by_cases h1 : x = 9
  · subst h1; cases h
  by_cases h2 : x = 13
  · subst h2; cases h
  by_cases h3 : x = 7
  · subst h3; cases h
  by_cases h4 : x = 8
  · subst h4; cases h
  by_cases h5 : x = 12
  · subst h5; cases h
  by_cases h6 : x = 11
  · subst h6; cases h
  simp only [bytesL, Lib.indexByte, beq_eq_false_iff_ne.2 (Ne.symm h0), beq_eq_false_iff_ne.2 (Ne.symm h1), beq_eq_false_iff_ne.2 (Ne.symm h2), beq_eq_false_iff_ne.2 (Ne.symm h3), beq_eq_false_iff_ne.2 (Ne.symm h4), beq_eq_false_iff_ne.2 (Ne.symm h5), beq_eq_false_iff_ne.2 (Ne.symm h6)]
  rfl
theorem esc_cases (x : UInt8) (h : escL x ≠ 0) : (x = 10 ∧ esc1 x = [92, 110]) ∨ (x = 9 ∧ esc1 x = [92, 116]) ∨ (x = 13 ∧ esc1 x = [92, 114]) ∨ (x = 7 ∧ esc1 x = [92, 97]) ∨ (x = 8 ∧ esc1 x = [92, 98]) ∨ (x = 12 ∧ esc1 x = [92, 102]) ∨ (x = 11 ∧ esc1 x = [92, 118]) := by
  by_cases h0 : x = 10
  · subst h0; exact .inl ⟨rfl, rfl⟩
  by_cases h1 : x = 9
  · subst h1; exact .inr (.inl ⟨rfl, rfl⟩)
  by_cases h2 : x = 13
  · subst h2; exact .inr (.inr (.inl ⟨rfl, rfl⟩))
  by_cases h3 : x = 7
  · subst h3; exact .inr (.inr (.inr (.inl ⟨rfl, rfl⟩)))
  by_cases h4 : x = 8
  · subst h4; exact .inr (.inr (.inr (.inr (.inl ⟨rfl, rfl⟩))))
  by_cases h5 : x = 12
  · subst h5; exact .inr (.inr (.inr (.inr (.inr (.inl ⟨rfl, rfl⟩)))))
  by_cases h6 : x = 11
  · subst h6; exact .inr (.inr (.inr (.inr (.inr (.inr ⟨rfl, rfl⟩)))))
  exfalso; apply h; unfold escL
  rw [if_neg h0, if_neg h1, if_neg h2, if_neg h3, if_neg h4, if_neg h5, if_neg h6]
theorem owns_below {B : Nat} {e : TypeId} {k : Nat} {v : Value} {n : Nat} {xs : List Value} {w w' : World} (h : w.ownsRow B e k v n xs) (hb : Below w.heap.size w w') : w'.ownsRow B e k v n xs := by
  obtain ⟨h1, h2⟩ := h
  refine ⟨h1, ?_⟩
  rcases h2 with h2 | ⟨g, cap, cur, rfl, hB, hg, r⟩
  · exact .inl h2
  · exact .inr ⟨g, cap, cur, rfl, hB, by rw [hb.block g (Array.getElem?_eq_some_iff.1 hg).1]; exact hg, r⟩
theorem isb_below {T e : TypeId} {B b : Nat} {bs : List Value} {w w' : World} (h : Lib.IsBuilder T e B b bs w) (hb : Below w.heap.size w w') : Lib.IsBuilder T e B b bs w' := by
  rcases h with ⟨hB, v, hv, ho, hn⟩ | ⟨hB, v, hv, ho, hn⟩
  · exact .inl ⟨hB, v, by rw [hb.block b (Array.getElem?_eq_some_iff.1 hv).1]; exact hv, owns_below ho hb, hn⟩
  · exact .inr ⟨hB, v, by rw [hb.block b (Array.getElem?_eq_some_iff.1 hv).1]; exact hv, owns_below ho hb, hn⟩
end Go.Proofs.Ytbioflajonafdaa
