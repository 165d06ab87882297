/- walks: the program's put, mark (written by gen_jd.py) -/
import Derived.Test.YtlhagpfpcdedpaaDoorJc
namespace Go.Proofs.YtlhagpfpcdedpaaDoor
open Go.RowKit
open Shp
/-- what the builder holds of a text: all of it, or more than counts -/
def CapT (t o : List UInt8) : Prop := o = t ∨ (8192 < o.length ∧ 8192 < t.length)
theorem CapT.more {t o x : List UInt8} (h : CapT t o) : CapT (t ++ x) (if o.length ≤ 8192 then o ++ x else o) := by
  rcases h with rfl | ⟨h1, h2⟩
  · split
    · exact .inl rfl
    · rename_i h; exact .inr ⟨by omega, by rw [List.length_append]; omega⟩
  · rw [if_neg (by omega)]
    exact .inr ⟨h1, by rw [List.length_append]; omega⟩
/-- a builder in block b that holds a text, but for what is too much -/
def PS (b : Nat) (t : List UInt8) (w : World) : Prop := ∃ o, CapT t o ∧ IBF b o w
/-- but for block b and blocks of bytes all is as it was -/
structure KP (b : Nat) (w w' : World) : Prop where
  below : Below b w w'
  other : ∀ (g : Nat) (cs : Array Value) (T : TypeId) (z : Nat × Nat), T ≠ 5 → g ≠ b → w.heap[g]? = some (.cells cs T z) → w'.heap[g]? = some (.cells cs T z)
theorem KP.refl (b : Nat) (w : World) : KP b w w := ⟨Below.refl b w, fun _ _ _ _ _ _ h => h⟩
theorem KP.trans {b : Nat} {w w1 w2 : World} (h1 : KP b w w1) (h2 : KP b w1 w2) : KP b w w2 := ⟨h1.below.trans h2.below, fun g cs T z h hg hb => h2.other g cs T z h hg (h1.other g cs T z h hg hb)⟩
theorem KP.of {b : Nat} {w w' : World} (hb : b ≤ w.heap.size) (h : Below w.heap.size w w') : KP b w w' := ⟨h.mono hb, fun _ _ _ _ _ _ hc => (h.block _ (Array.getElem?_eq_some_iff.1 hc).1).trans hc⟩
theorem KP.same {b : Nat} {w w' w2 : World} (h : KP b w w') (e : SameW w' w2) : KP b w w2 := ⟨⟨e.2.1.trans h.below.os, e.2.2.1.trans h.below.tape, e.2.2.2.trans h.below.output, by rw [e.1]; exact h.below.size, fun i hi => by rw [e.1]; exact h.below.block i hi⟩, fun g cs T z h1 h2 hb => by rw [e.1]; exact h.other g cs T z h1 h2 hb⟩
theorem PS.of {b : Nat} {t : List UInt8} {w w' : World} (h : PS b t w) (hb : Below w.heap.size w w') : PS b t w' := by
  obtain ⟨o, h1, h2⟩ := h
  exact ⟨o, h1, ibf_keep h2 fun i _ hl => hb.block i hl⟩
theorem PS.same {b : Nat} {t : List UInt8} {w w' : World} (h : PS b t w) (e : SameW w w') : PS b t w' := by
  obtain ⟨o, h1, h2⟩ := h
  exact ⟨o, h1, ibf_keep h2 fun i _ _ => by rw [e.1]⟩
theorem PS.size {b : Nat} {t : List UInt8} {w : World} (h : PS b t w) : b < w.heap.size := by
  obtain ⟨o, -, h2⟩ := h
  rcases h2 with ⟨hB, v, hv, ho, hn⟩ | ⟨hB, v, hv, ho, hn⟩ <;> exact (Array.getElem?_eq_some_iff.1 hv).1
theorem bel_eqw {w w' w2 : World} (h : Below w.heap.size w w2) (e : SameW w' w) : Below w'.heap.size w' w2 := by
  obtain ⟨q1, q2, q3, q4, q5⟩ := h
  exact ⟨q1.trans e.2.1, q2.trans e.2.2.1, q3.trans e.2.2.2, by rw [← e.1]; exact q4, fun i hi => by rw [← e.1]; exact q5 i (by rw [e.1]; exact hi)⟩
theorem PS.new (w : World) : PS w.heap.size [] (w.alloc (.cells #[.pointer none, .slice none 0 0] 69)) :=
  ⟨[], .inl rfl, Lib.IsBuilderF.of (Lib.fresh_isBuilder 69 5 w)⟩
theorem len_is (b : Nat) (o : List UInt8) (w : World) (h : IBF b o w) {n : Int} (hn : Hid ((o.length : Int) = n)) :
    Calls Tryd.prog 35 #[.pointer (some ⟨b, 0, none⟩)] w fun e w' => e = .returned (.int .i64 n) ∧ w = w' := by
  refine (Tryd.Builder_Len_f b b (Lib.byteCells o) w h).mono fun e w' ⟨h1, h2⟩ => ⟨?_, h2.symm⟩
  rw [h1, Lib.byteCells_length, hn.out]
theorem ws_is (b : Nat) (o : List UInt8) (x : ByteArray) (w : World) (h : IBF b o w) (hl : o.length + x.size ≤ 140737488355328) :
    Calls Tryd.prog 36 #[.pointer (some ⟨b, 0, none⟩), .string x] w fun e w' => e = .returned (.tuple #[.int .i64 x.size, .nilIface]) ∧ Hid (IBF b (o ++ x.data.toList) w') ∧ Hid (KP b w w') := by
  refine (Any.Builder_WriteString_k Tryd.lays166 Tryd.Builder_Extra_166 b b (Lib.byteCells o) x w h (by rw [Lib.byteCells_length]; exact hl) (ibf_size h)).mono fun e w' ⟨h1, h2, h3, h4⟩ => ⟨h1, Lib.hid (.inr ?_), Lib.hid ⟨h3, fun g cs T z hT hg hc => ?_⟩⟩
  · have e : Lib.byteCells (o ++ x.data.toList) = Lib.byteCells o ++ Lib.strCells x := by simp [Lib.byteCells, Lib.strCells]
    rw [e]; exact h2
  · exact h4 g _ hc (fun e => hg (Option.some.inj e)) (fun c fz e => hT (by cases e; rfl))
theorem len_big (b : Nat) (t : List UInt8) (w0 w : World) (h : PS b t w0) (hw : SameW w0 w) (ht : 8192 < t.length) :
    Calls Tryd.prog 35 #[.pointer (some ⟨b, 0, none⟩)] w fun e w' => ∃ n : Nat, 8192 < n ∧ e = .returned (.int .i64 n) ∧ w = w' := by
  obtain ⟨o, hc, hi⟩ := h.same hw
  refine (len_is b o w hi (Lib.hid rfl)).mono fun e w' ⟨h1, h2⟩ => ⟨o.length, ?_, h1, h2⟩
  rcases hc with rfl | ⟨h3, -⟩
  · exact ht
  · exact h3
theorem len_small (b : Nat) (t : List UInt8) (w0 w : World) (h : PS b t w0) (hw : SameW w0 w) (ht : ¬ 8192 < t.length) {n : Nat} (hn : Hid (t.length = n)) :
    Calls Tryd.prog 35 #[.pointer (some ⟨b, 0, none⟩)] w fun e w' => e = .returned (.int .i64 n) ∧ w = w' := by
  obtain ⟨o, hc, hi⟩ := h.same hw
  rcases hc with rfl | ⟨-, h3⟩
  · exact len_is b o w hi (Lib.hid (by rw [hn.out]))
  · exact absurd h3 ht
theorem str_small (b : Nat) (t : List UInt8) (w0 w : World) (h : PS b t w0) (hw : SameW w0 w) (ht : ¬ 8192 < t.length) :
    Calls Tryd.prog 38 #[.pointer (some ⟨b, 0, none⟩)] w fun e w' => e = .returned (.string ⟨t.toArray⟩) ∧ Hid (Below b w0 w') := by
  obtain ⟨o, hc, hi⟩ := h.same hw
  rcases hc with rfl | ⟨-, h3⟩
  · exact (str_k b o w hi).mono fun e w' ⟨h1, h2⟩ => ⟨h1, Lib.hid ((((KP.refl b w0).same hw).below).trans h2)⟩
  · exact absurd h3 ht
set_option maxHeartbeats 2000000 in
theorem put_any (b : Nat) (t : List UInt8) (x : ByteArray) (w0 w : World) (h : PS b t w0) (hw : SameW w0 w) (hx : x.size ≤ 17592186044416) {y : List UInt8} (hy : Hid (x.data.toList = y)) :
    Calls Tryd.prog 34 #[.string x, .pointer (some ⟨b, 0, none⟩)] w fun e w' => e = .returned (.tuple #[]) ∧ Hid (PS b (t ++ y) w') ∧ Hid (KP b w0 w') := by
  obtain ⟨o, hc, hi⟩ := h
  have K0 := Lib.hid ((KP.refl b w0).same hw)
  have HI := Lib.hid (ibf_keep (w' := w) hi (fun i _ _ => by rw [hw.1]))
  have HC := Lib.hid (hc.more (x := y))
  obtain ⟨n, hn⟩ : ∃ n, o.length = n := ⟨_, rfl⟩
  have HN : Hid ((o.length : Int) = (n : Int)) := Lib.hid (by rw [hn])
  have HO := Lib.hid hn
  rw [hn] at HC
  clear hc hi hw hn
  by_cases hl : n ≤ 8192
  · have HC2 : Hid (CapT (t ++ y) (o ++ y)) := Lib.hid (by have := HC.out; rw [if_pos hl] at this; exact this)
    go_enter Tryd.func34, Tryd.ntmps34
    go_wp2_with (first | (go_at_call 35; refine (len_is b o _ HI.out HN).mono ?_; rintro _ _ ⟨rfl, rfl⟩) | (go_at_call 36; refine (ws_is b o x _ HI.out (by rw [HO.out]; omega)).mono ?_; rintro _ w1 ⟨rfl, I1, K1⟩))
    repeat (go_region; go_wp2_with (first | (go_at_call 35; refine (len_is b o _ HI.out HN).mono ?_; rintro _ _ ⟨rfl, rfl⟩) | (go_at_call 36; refine (ws_is b o x _ HI.out (by rw [HO.out]; omega)).mono ?_; rintro _ w1 ⟨rfl, I1, K1⟩)))
    go_end0
    exact ⟨rfl, Lib.hid ⟨_, HC2.out, by rw [← hy.out]; exact I1.out⟩, Lib.hid (K0.out.trans K1.out)⟩
  · have HC2 : Hid (CapT (t ++ y) o) := Lib.hid (by have := HC.out; rw [if_neg hl] at this; exact this)
    go_enter Tryd.func34, Tryd.ntmps34
    go_wp2_with (first | (go_at_call 35; refine (len_is b o _ HI.out HN).mono ?_; rintro _ _ ⟨rfl, rfl⟩))
    repeat (go_region; go_wp2_with (first | (go_at_call 35; refine (len_is b o _ HI.out HN).mono ?_; rintro _ _ ⟨rfl, rfl⟩)))
    go_end0
    exact ⟨rfl, Lib.hid ⟨_, HC2.out, HI.out⟩, K0⟩
theorem mark_any (k : Int) (w : World) {x : ByteArray} (hx : Hid (ByteArray.mk (mkR k).toArray = x)) :
    Calls Tryd.prog 37 #[.int .i64 k] w fun e w' => e = .returned (.string x) ∧ w = w' := by
  by_cases h1 : k = 1
  · subst h1
    obtain rfl := hx.out
    go_enter Tryd.func37, Tryd.ntmps37
    go_wp2_with fail
    go_ret
    exact ⟨rfl, rfl⟩
  · have t1 : (k == 1) = false := by rw [beq_eq_false_iff_ne]; exact h1
    by_cases h2 : k = 2
    · subst h2
      obtain rfl := hx.out
      clear h1
      go_enter Tryd.func37, Tryd.ntmps37
      go_wp2_with fail
      go_ret
      exact ⟨rfl, rfl⟩
    · have t2 : (k == 2) = false := by rw [beq_eq_false_iff_ne]; exact h2
      obtain rfl : x = ⟨#[32, 62, 62, 32]⟩ := by rw [← hx.out]; unfold mkR; rw [if_neg h1, if_neg h2]
      clear h1 h2
      go_enter Tryd.func37, Tryd.ntmps37
      go_wp2_with fail
      go_ret
      exact ⟨rfl, rfl⟩
end Go.Proofs.YtlhagpfpcdedpaaDoor
