/- walks: the builder; the parser's escape (written by gen_hc.py) -/
import Derived.Test.YtlhagpfpcdedpaaDoorHb
namespace Go.Proofs.YtlhagpfpcdedpaaDoor
open Go.RowKit
open Shp
/-- a builder in block b -/
abbrev IBF (b : Nat) (out : List UInt8) (w : World) : Prop := Lib.IsBuilderF 69 5 b b (Lib.byteCells out) w
theorem ownF_keep {B : Nat} {e : TypeId} {k : Nat} {v : Value} {n : Nat} {xs : List Value} {w w' : World} (h : w.ownsRowF B e k v n xs) (hk : ∀ i, B ≤ i → i < w.heap.size → w'.heap[i]? = w.heap[i]?) : w'.ownsRowF B e k v n xs := by
  obtain ⟨h1, h2⟩ := h
  refine ⟨h1, ?_⟩
  rcases h2 with h2 | ⟨g, cap, cur, fz, rfl, hB, hg, r⟩
  · exact .inl h2
  · exact .inr ⟨g, cap, cur, fz, rfl, hB, by rw [hk g hB (Array.getElem?_eq_some_iff.1 hg).1]; exact hg, r⟩
theorem ibf_keep {b : Nat} {out : List UInt8} {w w' : World} (h : IBF b out w) (hk : ∀ i, b ≤ i → i < w.heap.size → w'.heap[i]? = w.heap[i]?) : IBF b out w' := by
  rcases h with ⟨hB, v, hv, ho, hn⟩ | ⟨hB, v, hv, ho, hn⟩
  · exact .inl ⟨hB, v, by rw [hk b (Nat.le_refl _) (Array.getElem?_eq_some_iff.1 hv).1]; exact hv, ownF_keep ho hk, hn⟩
  · exact .inr ⟨hB, v, by rw [hk b (Nat.le_refl _) (Array.getElem?_eq_some_iff.1 hv).1]; exact hv, ownF_keep ho hk, hn⟩
theorem ibf_set {b : Nat} {out : List UInt8} {w : World} (h : IBF b out w) {p : Nat} (hp : p < b) (j : Nat) (u : Value) : IBF b out (w.setCell ⟨p, j, none⟩ u) :=
  ibf_keep h fun i hi _ => Below.heap_setCell _ _ _ _ (fun e => by have : i = p := e; omega)
theorem ibf_gr {b : Nat} {out : List UInt8} {w w' : World} (h : IBF b out w) {p : Nat} (g : Gr p w w') (hp : p < b) : IBF b out w' := by
  obtain ⟨-, -, -, -, q5⟩ := g
  exact ibf_keep h fun i hi hl => q5 i hl (fun e => by cases e; omega)
theorem ibf_size {b : Nat} {out : List UInt8} {w : World} (h : IBF b out w) : b ≤ w.heap.size := by
  rcases h with ⟨hB, v, hv, ho, hn⟩ | ⟨hB, v, hv, ho, hn⟩ <;> exact Nat.le_of_lt (Array.getElem?_eq_some_iff.1 hv).1
theorem wb_k (b : Nat) (out : List UInt8) (c : UInt8) (v : Int) (w : World) (h : IBF b out w) (hv : v = (c.toNat : Int)) (hlen : out.length + 1 ≤ 140737488355328) :
    Calls Tryd.prog 59 #[.pointer (some ⟨b, 0, none⟩), .int .u8 v] w fun e w' => e = .returned .nilIface ∧ Hid (IBF b (out ++ [c]) w') ∧ Below b w w' := by
  subst hv
  refine (Any.Builder_WriteByte_k Tryd.lays167 Tryd.Builder_Extra_167 b b (Lib.byteCells out) (c.toNat : Int) w h (by rw [Lib.byteCells_length]; exact hlen) (ibf_size h)).mono fun e w' ⟨h1, h2, h3, _⟩ => ⟨h1, Lib.hid (.inr ?_), h3⟩
  have e : Lib.byteCells (out ++ [c]) = Lib.byteCells out ++ [.int .u8 (c.toNat : Int)] := by simp [Lib.byteCells]
  rw [e]; exact h2
theorem str_k (b : Nat) (out : List UInt8) (w : World) (h : IBF b out w) :
    Calls Tryd.prog 38 #[.pointer (some ⟨b, 0, none⟩)] w fun e w' => e = .returned (.string ⟨out.toArray⟩) ∧ Below b w w' :=
  (Any.Builder_String_any_k Tryd.lays169 Tryd.Builder_Extra_169 b b out w h (ibf_size h)).mono fun _ _ ⟨h1, _, h3, _⟩ => ⟨h1, h3⟩
/-- below block b all is as it was, but for block p -/
structure GB (p b : Nat) (w w' : World) : Prop where
  os : w'.os = w.os
  tape : w'.tape = w.tape
  output : w'.output = w.output
  size : w.heap.size ≤ w'.heap.size
  block : ∀ i, i < b → i ≠ p → w'.heap[i]? = w.heap[i]?
theorem GB.refl (p b : Nat) (w : World) : GB p b w w := ⟨rfl, rfl, rfl, Nat.le_refl _, fun _ _ _ => rfl⟩
theorem GB.trans {p b : Nat} {w w1 w2 : World} (h1 : GB p b w w1) (h2 : GB p b w1 w2) : GB p b w w2 :=
  ⟨h2.os.trans h1.os, h2.tape.trans h1.tape, h2.output.trans h1.output, Nat.le_trans h1.size h2.size, fun i hi hp => (h2.block i hi hp).trans (h1.block i hi hp)⟩
theorem GB.set (p b : Nat) (w : World) (j : Nat) (u : Value) : GB p b w (w.setCell ⟨p, j, none⟩ u) :=
  ⟨rfl, rfl, rfl, by simp [World.setCell], fun i _ hi => Below.heap_setCell _ _ _ _ (fun e => hi (by rw [e]))⟩
theorem GB.of {p b : Nat} {w w' : World} (h : Below b w w') : GB p b w w' := ⟨h.os, h.tape, h.output, h.size, fun i hi _ => h.block i hi⟩
theorem GB.ofGr {p b : Nat} {w w' : World} (h : Gr p w w') (hb : b ≤ w.heap.size) : GB p b w w' := by
  obtain ⟨q1, q2, q3, q4, q5⟩ := h
  exact ⟨q1, q2, q3, q4, fun i hi hp => q5 i (by omega) (fun e => hp (by cases e; rfl))⟩
theorem GB.gr {p b : Nat} {w w' : World} (h : GB p b w w') (hb : w.heap.size ≤ b) : Gr p w w' :=
  ⟨h.os, h.tape, h.output, h.size, fun i hi hp => h.block i (by omega) (fun e => hp (by rw [e]))⟩
theorem GB.drew {p b : Nat} {w w' : World} (h : GB p b w w') : GB p b w w'.drew := ⟨h.os, h.tape, h.output, h.size, h.block⟩
theorem RX.gb {p b : Nat} {s : ByteArray} {a : Int} {tx : ByteArray} {wd bg : Bool} {ta er po : Int} {w w' : World} (h : RX p s a tx wd bg ta er po w) (hb : Below b w w') (hp : p < b) : RX p s a tx wd bg ta er po w' := h.keep (hb.block p hp)
theorem RX.to1 {p : Nat} {s : ByteArray} {a : Int} {tx : ByteArray} {wd bg : Bool} {ta er po : Int} {w w' : World} (h : RX p s a tx wd bg ta er po w) (x y : Int) (e : x = y) (hw : w'.heap = (w.setCell ⟨p, 1, none⟩ (.int .i64 y)).heap) : RX p s x tx wd bg ta er po w' := by
  subst e
  exact (h.set1 x).keep (by rw [hw])
/-- what a part of a word leaves -/
def PQ (p b : Nat) (s : ByteArray) (a : Int) (tx : ByteArray) (wd bg : Bool) (ta po : Int) (out : List UInt8) (w' : World) : Option (List UInt8 × Nat) → Prop
  | some x => RX p s (x.2 : Nat) tx wd bg ta 0 po w' ∧ IBF b (out ++ x.1) w'
  | none => RX p s a tx wd bg ta 1 a w' ∧ ∃ o, IBF b o w'
/-- behind a backslash -/
def escP (s : ByteArray) (a : Nat) : Option (List UInt8 × Nat) :=
  match at? s (a + 1) with
  | none => none
  | some d => if d = 10 then some ([], a + 2) else some ([d], a + 2)
set_option maxHeartbeats 4000000 in
theorem escape_any (p b : Nat) (s : ByteArray) (a : Nat) (tx : ByteArray) (wd bg : Bool) (ta po : Int) (out : List UInt8) (w : World) (h : RX p s a tx wd bg ta 0 po w) (hi : IBF b out w) (hp : p < b) (hs : s.size ≤ 8192) (ha : a < s.size) (ho : out.length ≤ 8192) :
    Calls Tryd.prog 57 #[.pointer (some ⟨p, 0, none⟩), .pointer (some ⟨b, 0, none⟩)] w fun e w' => e = .returned (.tuple #[]) ∧ Hid (PQ p b s a tx wd bg ta po out w' (escP s a)) ∧ Hid (GB p b w w') := by
  obtain ⟨c0, c1, -, -, -, -, -, -⟩ := h.cells
  have f1 := h.fr 1
  have H := Lib.hid h
  have HI := Lib.hid hi
  have HP := Lib.hid hp
  have HO := Lib.hid ho
  clear h hi hp ho
  by_cases h1 : a + 1 < s.size
  · obtain ⟨d, hd⟩ : ∃ d, s[a + 1] = d := ⟨_, rfl⟩
    have E : Hid (at? s (a + 1) = some d) := Lib.hid (by rw [at_lt h1, hd])
    have i1 : ¬ ((s.size : Int) ≤ (a : Int) + 1) := by omega
    by_cases h2 : d = 10
    · subst h2
      have i2 : ((s[a + 1].toNat : Int) == 10) = true := by rw [hd]; rfl
      go_enter Tryd.func57, Tryd.ntmps57
      go_wp2_with (fail)
      repeat (go_region; go_wp2_with (fail))
      go_end0
      exact ⟨rfl, Lib.hid (by rw [show escP s a = some ([], a + 2) by unfold escP; rw [E.out]; rfl]; exact ⟨H.out.to1 ((a + 2 : Nat) : Int) _ (by omega) rfl, by rw [List.append_nil]; exact ibf_keep (ibf_set HI.out HP.out 1 (.int .i64 ((a : Int) + 2))) (by intros; rfl)⟩), Lib.hid (GB.set p b w 1 _).drew.drew⟩
    · have i2 : ((d.toNat : Int) == 10) = false := by rw [beq_eq_false_iff_ne]; exact fun e => h2 (UInt8.toNat_inj.mp (by show d.toNat = 10; omega))
      go_enter Tryd.func57, Tryd.ntmps57
      go_wp2_with ((go_at_call 59; refine (wb_k b out d (d.toNat : Int) w.drew.drew (ibf_keep HI.out (fun _ _ _ => rfl)) rfl (Nat.le_trans (Nat.succ_le_succ HO.out) (by decide))).mono ?_; rintro e w1 ⟨rfl, I1, B1⟩; have L1 := Lib.hid ((H.out.keep (w' := w.drew.drew) rfl).gb B1 HP.out); obtain ⟨c0, c1, -, -, -, -, -, -⟩ := L1.out.cells; have f1 := L1.out.fr 1))
      repeat (go_region; go_wp2_with ((go_at_call 59; refine (wb_k b out d (d.toNat : Int) w.drew.drew (ibf_keep HI.out (fun _ _ _ => rfl)) rfl (Nat.le_trans (Nat.succ_le_succ HO.out) (by decide))).mono ?_; rintro e w1 ⟨rfl, I1, B1⟩; have L1 := Lib.hid ((H.out.keep (w' := w.drew.drew) rfl).gb B1 HP.out); obtain ⟨c0, c1, -, -, -, -, -, -⟩ := L1.out.cells; have f1 := L1.out.fr 1)))
      go_end0
      exact ⟨rfl, Lib.hid (by rw [show escP s a = some ([d], a + 2) by unfold escP; rw [E.out]; exact if_neg h2]; exact ⟨L1.out.to1 ((a + 2 : Nat) : Int) _ (by omega) rfl, ibf_keep (ibf_set I1.out HP.out 1 (.int .i64 ((a : Int) + 2))) (by intros; rfl)⟩), Lib.hid (((GB.refl p b w).drew.drew.trans (GB.of B1)).trans (GB.set p b w1 1 _))⟩
  · have i1 : (s.size : Int) ≤ (a : Int) + 1 := by omega
    go_enter Tryd.func57, Tryd.ntmps57
    go_wp2_with ((go_at_call 45; refine (fail_run p s a tx wd bg ta po 1 a _ (H.out.keep (by rfl))).mono ?_; rintro e w1 ⟨rfl, L1, G1⟩))
    repeat (go_region; go_wp2_with ((go_at_call 45; refine (fail_run p s a tx wd bg ta po 1 a _ (H.out.keep (by rfl))).mono ?_; rintro e w1 ⟨rfl, L1, G1⟩)))
    (try simp only [Exit.inBlock, Exit.then]); refine bodyPost_ret (results_none rfl _ _ _) rfl ?_
    exact ⟨rfl, Lib.hid (by rw [show escP s a = none by unfold escP; rw [at_ge (by omega)]]; exact ⟨L1.out, out, ibf_gr (w := w.drew) (ibf_keep HI.out (by intros; rfl)) G1.out HP.out⟩), Lib.hid ((GB.refl p b w).drew.trans (GB.ofGr G1.out (ibf_size HI.out)))⟩
end Go.Proofs.YtlhagpfpcdedpaaDoor
