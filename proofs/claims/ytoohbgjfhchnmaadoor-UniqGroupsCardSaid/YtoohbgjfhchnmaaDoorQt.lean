/- walks: Close and Feed of the program's filter -/
import Derived.Test.YtoohbgjfhchnmaaDoorQs
namespace Go.Proofs.YtoohbgjfhchnmaaDoor
open Go.RowKit Go.Maps
open Lcl
theorem grown_below {w w' : World} (h : Below w.heap.size w w') (r : Option Nat) : w.grownBy w' r := ⟨h.os, h.tape, h.output, h.size, fun i hi _ => h.block i hi⟩
theorem grown_set (w : World) (g j : Nat) (u : Value) : w.grownBy (w.setCell ⟨g, j, none⟩ u) (some g) :=
  ⟨rfl, rfl, rfl, by simp [World.setCell], fun i _ hi => heap_setCell_other _ _ _ _ (fun e => hi (by rw [e]))⟩
theorem outn_ne {B g : Nat} {v : Value} (h : OutN B v) (hg : g < B) : ∀ b o sp n cp, v = .slice (some ⟨b, o, sp⟩) n cp → b ≠ g := fun b o sp n cp e => by have := h b o sp n cp e; omega
theorem OutAt.set {w : World} {v : Value} {L : List ByteArray} {g j : Nat} {u : Value} (h : OutAt w v L) (hne : ∀ b o sp n cp, v = .slice (some ⟨b, o, sp⟩) n cp → b ≠ g) : OutAt (w.setCell ⟨g, j, none⟩ u) v L := by
  rcases h with h | ⟨b, cap, x, e1, e2, e3, e4, e5⟩
  · exact .inl h
  · exact .inr ⟨b, cap, x, e1, e2, e3, e4, by rw [World.cell?_setCell_far _ _ _ _ (by show g ≠ b; exact (hne b 0 none 1 cap e1).symm)]; exact e5⟩
def closeL (c : Cfg) (first : ByteArray) (n : Nat) : List ByteArray := if n = 0 then [] else outL c.cnt c.rep c.sg first n
theorem PFil.cells {c : Cfg} {w0 w : World} {bp bo bq g n : Nat} {v1 v4 v5 : Value} {first key : ByteArray} (h : PFil c w0 w bp bo bq v1 v4 v5 g first key n) :
    w.cell? ⟨g, 0, none⟩ = some (.func (.func 26) #[] #[.pointer (some ⟨bp, 0, none⟩), .pointer (some ⟨bo, 0, none⟩)]) ∧ w.cell? ⟨g, 1, none⟩ = some (.func (.func 34) #[] #[.pointer (some ⟨bq, 0, none⟩)]) ∧
    w.cell? ⟨g, 2, none⟩ = some (.string first) ∧ w.cell? ⟨g, 3, none⟩ = some (.string key) ∧ w.cell? ⟨g, 4, none⟩ = some (.int .i64 (n : Int)) := by
  have hb := h.blk
  refine ⟨?_, ?_, ?_, ?_, ?_⟩ <;> simp [World.cell?, hb]
theorem PFil.frz {c : Cfg} {w0 w : World} {bp bo bq g n : Nat} {v1 v4 v5 : Value} {first key : ByteArray} (h : PFil c w0 w bp bo bq v1 v4 v5 g first key n) (j : Nat) : w.frozen? ⟨g, j, none⟩ = false := lrow_frozen h.blk j
theorem PFil.lt {c : Cfg} {w0 w : World} {bp bo bq g n : Nat} {v1 v4 v5 : Value} {first key : ByteArray} (h : PFil c w0 w bp bo bq v1 v4 v5 g first key n) : g < w.heap.size := (Array.getElem?_eq_some_iff.1 h.blk).1
theorem PFil.keep {c : Cfg} {w0 w w' : World} {bp bo bq g n : Nat} {v1 v4 v5 : Value} {first key : ByteArray} (h : PFil c w0 w bp bo bq v1 v4 v5 g first key n) (hb : Below w.heap.size w w') : PFil c w0 w' bp bo bq v1 v4 v5 g first key n :=
  ⟨h.own, h.le, h.bel.trans (hb.mono h.bel.size), by rw [hb.block _ h.lt]; exact h.blk⟩
theorem PFil.set2 {c : Cfg} {w0 w : World} {bp bo bq g n : Nat} {v1 v4 v5 : Value} {first key : ByteArray} (h : PFil c w0 w bp bo bq v1 v4 v5 g first key n) (x : ByteArray) : PFil c w0 (w.setCell ⟨g, 2, none⟩ (.string x)) bp bo bq v1 v4 v5 g x key n :=
  ⟨h.own, h.le, below_set h.bel h.le, by rw [heap_setCell_same _ _ _ _ _ _ h.blk]; rfl⟩
theorem PFil.set3 {c : Cfg} {w0 w : World} {bp bo bq g n : Nat} {v1 v4 v5 : Value} {first key : ByteArray} (h : PFil c w0 w bp bo bq v1 v4 v5 g first key n) (x : ByteArray) : PFil c w0 (w.setCell ⟨g, 3, none⟩ (.string x)) bp bo bq v1 v4 v5 g first x n :=
  ⟨h.own, h.le, below_set h.bel h.le, by rw [heap_setCell_same _ _ _ _ _ _ h.blk]; rfl⟩
theorem PFil.set4 {c : Cfg} {w0 w : World} {bp bo bq g n : Nat} {v1 v4 v5 : Value} {first key : ByteArray} (h : PFil c w0 w bp bo bq v1 v4 v5 g first key n) (m : Nat) (u : Int) (hu : u = (m : Int)) : PFil c w0 (w.setCell ⟨g, 4, none⟩ (.int .i64 u)) bp bo bq v1 v4 v5 g first key m := by
  subst hu
  exact ⟨h.own, h.le, below_set h.bel h.le, by rw [heap_setCell_same _ _ _ _ _ _ h.blk]; rfl⟩
theorem PFil.ownNow {c : Cfg} {w0 w : World} {bp bo bq g n : Nat} {v1 v4 v5 : Value} {first key : ByteArray} (h : PFil c w0 w bp bo bq v1 v4 v5 g first key n) : Own c w bp bo bq v1 v4 v5 := h.own.below h.bel
/-- what Close leaves -/
def CloseR (c : Cfg) (w0 : World) (bp bo bq : Nat) (v1 v4 v5 : Value) (g : Nat) (first key : ByteArray) (L : List ByteArray) (w : World) (e : Ending) (w' : World) : Prop :=
  ∃ v, e = .returned v ∧ Hid (OutAt w' v L) ∧ Hid (PFil c w0 w' bp bo bq v1 v4 v5 g first key 0) ∧ Hid (w.grownBy w' (some g)) ∧ Hid (OutN w.heap.size v)
theorem closer_is {c : Cfg} {w0 : World} {bp bo bq : Nat} {v1 v4 v5 : Value} {g : Nat} {first key : ByteArray} {L : List ByteArray} {w : World} {e : Ending} {w' : World} (h : CloseR c w0 bp bo bq v1 v4 v5 g first key L w e w') :
  ∃ v, e = .returned v ∧ Hid (OutAt w' v L) ∧ Hid (PFil c w0 w' bp bo bq v1 v4 v5 g first key 0) ∧ Hid (w.grownBy w' (some g)) ∧ Hid (OutN w.heap.size v) := h
theorem close_nil (w : World) : Calls Tryd.prog 17 #[.pointer none] w fun e w' => e = .returned (.slice none 0 0) ∧ w = w' := by
  go_enter Tryd.func17, Tryd.ntmps17
  go_wp2
  go_ret
  exact ⟨rfl, rfl⟩
theorem feed_nil (s : ByteArray) (w : World) : Calls Tryd.prog 15 #[.pointer none, .string s] w fun e w' => e = .returned (.slice none 0 0) ∧ w = w' := by
  go_enter Tryd.func15, Tryd.ntmps15
  go_wp2
  go_ret
  exact ⟨rfl, rfl⟩
set_option maxRecDepth 100000 in
set_option maxHeartbeats 8000000 in
theorem close_any (c : Cfg) (w0 w : World) (bp bo bq : Nat) (v1 v4 v5 : Value) (g n : Nat) (first key : ByteArray) (h : PFil c w0 w bp bo bq v1 v4 v5 g first key n) (ht : Tab w) (hn : n ≤ 4611686018427387904) (hs : first.size ≤ 140737488351232) :
    Calls Tryd.prog 17 #[.pointer (some ⟨g, 0, none⟩)] w (CloseR c w0 bp bo bq v1 v4 v5 g first key (closeL c first n) w) := by
  have T := Lib.hid ht; clear ht
  have SZ := Lib.hid hs; clear hs
  have H := Lib.hid h; clear h
  by_cases h0 : n = 0
  · subst h0
    obtain ⟨c0, c1, c2, c3, c4⟩ := H.out.cells
    go_enter Tryd.func17, Tryd.ntmps17
    go_wp2
    go_ret
    exact ⟨_, rfl, Lib.hid (.inl ⟨rfl, rfl⟩), H, Lib.hid (grown_below (Below.refl _ _) _), Lib.hid (outn_nil _)⟩
  · obtain ⟨c0, c1, c2, c3, c4⟩ := H.out.cells
    have f4 := H.out.frz 4
    have e4 : ((n : Int) == 0) = false := by rw [beq_eq_false_iff_ne]; omega
    have N1 : Hid (1 ≤ n) := Lib.hid (by omega)
    have EL : Hid (closeL c first n = outL c.cnt c.rep c.sg first n) := Lib.hid (by unfold closeL; rw [if_neg h0])
    have HN := Lib.hid hn; clear hn h0
    have S0 : Below w.heap.size w w.drew ∧ w.drew.cell? ⟨g, 1, none⟩ = some (.func (.func 34) #[] #[.pointer (some ⟨bq, 0, none⟩)]) ∧ w.drew.cell? ⟨g, 2, none⟩ = some (.string first) ∧ w.drew.cell? ⟨g, 4, none⟩ = some (.int .i64 (n : Int)) := ⟨(Below.refl _ _).drew, c1, c2, c4⟩
    go_enter Tryd.func17, Tryd.ntmps17
    go_wp2_with fail
    go_region_held3 (fun w' => Below w.heap.size w w' ∧ w'.cell? ⟨g, 1, none⟩ = some (.func (.func 34) #[] #[.pointer (some ⟨bq, 0, none⟩)]) ∧ w'.cell? ⟨g, 2, none⟩ = some (.string first) ∧ w'.cell? ⟨g, 4, none⟩ = some (.int .i64 (n : Int))) (first | exact S0)
      (first | (go_at_call 34; refine (print_any c.F c.B c.D c.cnt c.fold c.rep c.sg first n bq _ (H.out.keep S0.1).ownNow.q (tab_below T.out S0.1) N1.out HN.out SZ.out).mono ?_; intro e w' h1; obtain ⟨v, rfl, OV, BV, NV⟩ := outr_is h1; clear h1; have BB := Lib.hid (S0.1.trans (BV.out.mono S0.1.size)); have KK := Lib.hid (H.out.keep BB.out); obtain ⟨k0, k1, k2, k3, k4⟩ := KK.out.cells; have S0 : Below w.heap.size w w' ∧ w'.cell? ⟨g, 1, none⟩ = some (.func (.func 34) #[] #[.pointer (some ⟨bq, 0, none⟩)]) ∧ w'.cell? ⟨g, 2, none⟩ = some (.string first) ∧ w'.cell? ⟨g, 4, none⟩ = some (.int .i64 (n : Int)) := ⟨BB.out, k1, k2, k4⟩; have fz := KK.out.frz 4))
    go_wp2_with fail
    have GL := H.out.lt
    have NZ' : Hid (OutN w.heap.size v) := NV
    go_ret
    exact ⟨v, rfl, Lib.hid (by rw [EL.out]; exact OV.out.set (outn_ne NZ'.out GL)), Lib.hid (KK.out.set4 0 0 rfl), Lib.hid ((grown_below BB.out _).trans (grown_set _ _ _ _)), NZ'⟩
end Go.Proofs.YtoohbgjfhchnmaaDoor
