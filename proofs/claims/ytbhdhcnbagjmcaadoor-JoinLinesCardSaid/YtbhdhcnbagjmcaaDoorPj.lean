/- walks: the joiner's split -/
import Derived.Test.YtbhdhcnbagjmcaaDoorPi
namespace Go.Proofs.YtbhdhcnbagjmcaaDoor
open Go.RowKit Go.Maps Go.WideMaps
open Jn Lcl
abbrev jcells (f1 f2 sep : Int) (lf rt pr : Bool) (em : ByteArray) (vo : Value) (mb : Nat) (vout : Value) : Array Value := #[.int .i64 f1, .int .i64 f2, .int .i64 sep, .bool lf, .bool rt, .bool pr, .string em, vo, .map (some mb), vout]
theorem grown_of_below {w w' : World} (h : Below w.heap.size w w') (X : Option Nat) : w.grownBy w' X := ⟨h.os, h.tape, h.output, h.size, fun i hi _ => h.block i hi⟩
set_option maxRecDepth 100000 in
set_option maxHeartbeats 1000000 in
theorem jsplit_any (s : ByteArray) (f1 f2 sep m : Int) (lf rt pr : Bool) (em : ByteArray) (vo vout : Value) (jb mb n B : Nat) (X : Option Nat) (w : World) (hm : w.cell? ⟨0, 0, none⟩ = some (.int .i64 m))
    (hj : w.heap[jb]? = some (.cells (jcells f1 f2 sep lf rt pr em vo mb vout) 64 (0, 0))) (hc : Cache w mb n B X sep) (hB : mb < B) (hBw : B ≤ w.heap.size) (hX : ∀ g, X = some g → g < w.heap.size) (hne : jb ≠ mb) (hn : n ≤ 1048576) (hs : s.size ≤ 1048576) :
    Calls Tryd.prog 37 #[.pointer (some ⟨jb, 0, none⟩), .string s] w fun e w' => ∃ v, e = .returned v ∧ Hid (LSt w' v (fieldsL sep s.data.toList) ∧ ∀ g, v.ownBlock = some g → B ≤ g ∧ g < w'.heap.size) ∧ Hid (Cache w' mb (n + 1) B X sep) ∧ Hid (w.grownBy w' (some mb)) := by
  have ZS : Hid (s.size ≤ maxLen) := Lib.hid (by unfold maxLen; omega)
  have ZN : Hid (n < maxLen) := Lib.hid (by unfold maxLen; omega)
  obtain ⟨v, ok, hl, hok⟩ := hc.lookup s ZS.out
  have HJ := Lib.hid hj
  have HC := Lib.hid hc
  have HM := Lib.hid hm
  have HL := Lib.hid hl
  have HB := Lib.hid (And.intro hB (And.intro hBw (And.intro hX hne)))
  have HS := Lib.hid hs
  have c2 := blk_cellx hj 2 _ rfl
  have c8 := blk_cellx hj 8 _ rfl
  have HK := Lib.hid hok
  clear hm hj hc hB hBw hX hne hn hs hl hok
  cases ok with
  | true =>
    go_enter Tryd.func37, Tryd.ntmps37
    go_wp2_with (at_lookup; refine wp_lookup_cache _ rfl _ _ rfl mb n B X sep rfl HC.out s ZS.out rfl v true HL.out ?_)
    go_ret
    exact ⟨v, rfl, Lib.hid ⟨(HK.out trivial).1, fun g hg => ⟨((HK.out trivial).2 g hg).1, ((HK.out trivial).2 g hg).2.1⟩⟩, Lib.hid (HC.out.mono_n), Lib.hid (grown_of_below (Below.refl _ _) _)⟩
  | false =>
    go_enter Tryd.func37, Tryd.ntmps37
    go_wp2_with (first | (at_lookup; refine wp_lookup_cache _ rfl _ _ rfl mb n B X sep rfl HC.out s ZS.out rfl v false HL.out ?_) | (go_at_call 9; (with_reducible refine (fields_any s sep m _ HM.out HS.out).mono ?_); rintro _ w1 ⟨v1, rfl, F1, B1⟩; have d8 := kp B1.out c8) | (at_mapUpdate; refine wp_update_cache _ rfl _ _ _ rfl mb n B X sep rfl (HC.out.below B1.out) s v1 ZS.out rfl rfl ZN.out HB.out.1 F1.out.1 (fun g hg => ⟨Nat.le_trans HB.out.2.1 (F1.out.2 g hg).1, (F1.out.2 g hg).2, fun e => by have := HB.out.2.2.1 g e; have := (F1.out.2 g hg).1; omega⟩) ?_; intro w2 C2 G2))
    go_ret
    exact ⟨v1, rfl, Lib.hid ⟨strs_kept F1.out.1 (fun g hg => G2.out.block g (F1.out.2 g hg).2 (fun e => by cases e; have := (F1.out.2 _ hg).1; have := HB.out.1; have := HB.out.2.1; omega)) G2.out.size, fun g hg => ⟨Nat.le_trans HB.out.2.1 (F1.out.2 g hg).1, Nat.lt_of_lt_of_le (F1.out.2 g hg).2 G2.out.size⟩⟩, C2, Lib.hid ((grown_of_below B1.out _).trans G2.out)⟩
end Go.Proofs.YtbhdhcnbagjmcaaDoor
