/- walks: the filter of the reference -/
import Derived.Test.YtoohbgjfhchnmaaDoorQw
namespace Go.Proofs.YtoohbgjfhchnmaaDoor
open Go.RowKit Go.Maps
open Lcl
abbrev rfc (c : Cfg) (v1 v4 v5 : Value) (first last : ByteArray) (n : Int) : Array Value := #[.int .i64 c.F, .int .i64 c.B, .int .i64 c.D, .bool c.cnt, .bool c.fold, .bool c.rep, .bool c.sg, .string c.n, v1, .string c.lo, .string c.up, v4, v5, .string first, .string last, .int .i64 n]
theorem rfc_cells {c : Cfg} {w : World} {g : Nat} {v1 v4 v5 : Value} {first last : ByteArray} {n : Int} {T : TypeId} (h : w.heap[g]? = some (.cells (rfc c v1 v4 v5 first last n) T (0, 0))) :
    w.cell? ⟨g, 0, none⟩ = some (.int .i64 c.F) ∧ w.cell? ⟨g, 1, none⟩ = some (.int .i64 c.B) ∧ w.cell? ⟨g, 2, none⟩ = some (.int .i64 c.D) ∧ w.cell? ⟨g, 3, none⟩ = some (.bool c.cnt) ∧ w.cell? ⟨g, 4, none⟩ = some (.bool c.fold) ∧ w.cell? ⟨g, 5, none⟩ = some (.bool c.rep) ∧ w.cell? ⟨g, 6, none⟩ = some (.bool c.sg) ∧ w.cell? ⟨g, 7, none⟩ = some (.string c.n) ∧ w.cell? ⟨g, 8, none⟩ = some (v1) ∧ w.cell? ⟨g, 9, none⟩ = some (.string c.lo) ∧ w.cell? ⟨g, 10, none⟩ = some (.string c.up) ∧ w.cell? ⟨g, 11, none⟩ = some (v4) ∧ w.cell? ⟨g, 12, none⟩ = some (v5) ∧ w.cell? ⟨g, 13, none⟩ = some (.string first) ∧ w.cell? ⟨g, 14, none⟩ = some (.string last) ∧ w.cell? ⟨g, 15, none⟩ = some (.int .i64 n) := by
  refine ⟨?_, ?_, ?_, ?_, ?_, ?_, ?_, ?_, ?_, ?_, ?_, ?_, ?_, ?_, ?_, ?_⟩ <;> simp [World.cell?, h]
/-- block g is a filter of the reference -/
structure RFil (c : Cfg) (w0 w : World) (v1 v4 v5 : Value) (g : Nat) (first last : ByteArray) (n : Nat) : Prop where
  loc : LocAt w0 v1 v4 v5 c.W c.C c.E
  le : w0.heap.size ≤ g
  bel : Below w0.heap.size w0 w
  blk : w.heap[g]? = some (.cells (rfc c v1 v4 v5 first last n) 57 (0, 0))
section
variable {c : Cfg} {w0 w w' : World} {v1 v4 v5 : Value} {g n : Nat} {first last : ByteArray}
theorem RFil.lt (h : RFil c w0 w v1 v4 v5 g first last n) : g < w.heap.size := (Array.getElem?_eq_some_iff.1 h.blk).1
theorem RFil.keep (h : RFil c w0 w v1 v4 v5 g first last n) (hb : Below w.heap.size w w') : RFil c w0 w' v1 v4 v5 g first last n :=
  ⟨h.loc, h.le, h.bel.trans (hb.mono h.bel.size), by rw [hb.block _ h.lt]; exact h.blk⟩
theorem RFil.frz (h : RFil c w0 w v1 v4 v5 g first last n) (j : Nat) : w.frozen? ⟨g, j, none⟩ = false := lrow_frozen h.blk j
theorem RFil.locNow (h : RFil c w0 w v1 v4 v5 g first last n) : LocAt w v1 v4 v5 c.W c.C c.E := h.loc.below h.bel
theorem RFil.setF (h : RFil c w0 w v1 v4 v5 g first last n) (x : ByteArray) : RFil c w0 (w.setCell ⟨g, 13, none⟩ (.string x)) v1 v4 v5 g x last n :=
  ⟨h.loc, h.le, below_set h.bel h.le, by rw [heap_setCell_same _ _ _ _ _ _ h.blk]; rfl⟩
theorem RFil.setL (h : RFil c w0 w v1 v4 v5 g first last n) (x : ByteArray) : RFil c w0 (w.setCell ⟨g, 14, none⟩ (.string x)) v1 v4 v5 g first x n :=
  ⟨h.loc, h.le, below_set h.bel h.le, by rw [heap_setCell_same _ _ _ _ _ _ h.blk]; rfl⟩
theorem RFil.setN (h : RFil c w0 w v1 v4 v5 g first last n) (m : Nat) (u : Int) (hu : u = (m : Int)) : RFil c w0 (w.setCell ⟨g, 15, none⟩ (.int .i64 u)) v1 v4 v5 g first last m := by
  subst hu
  exact ⟨h.loc, h.le, below_set h.bel h.le, by rw [heap_setCell_same _ _ _ _ _ _ h.blk]; rfl⟩
theorem RFil.held (h : RFil c w0 w v1 v4 v5 g first last n) (hb : Below w.heap.size w w') : Below w.heap.size w w' ∧ w'.cell? ⟨g, 0, none⟩ = some (.int .i64 c.F) ∧ w'.cell? ⟨g, 1, none⟩ = some (.int .i64 c.B) ∧ w'.cell? ⟨g, 2, none⟩ = some (.int .i64 c.D) ∧ w'.cell? ⟨g, 3, none⟩ = some (.bool c.cnt) ∧ w'.cell? ⟨g, 4, none⟩ = some (.bool c.fold) ∧ w'.cell? ⟨g, 5, none⟩ = some (.bool c.rep) ∧ w'.cell? ⟨g, 6, none⟩ = some (.bool c.sg) ∧ w'.cell? ⟨g, 7, none⟩ = some (.string c.n) ∧ w'.cell? ⟨g, 8, none⟩ = some (v1) ∧ w'.cell? ⟨g, 9, none⟩ = some (.string c.lo) ∧ w'.cell? ⟨g, 10, none⟩ = some (.string c.up) ∧ w'.cell? ⟨g, 11, none⟩ = some (v4) ∧ w'.cell? ⟨g, 12, none⟩ = some (v5) ∧ w'.cell? ⟨g, 13, none⟩ = some (.string first) ∧ w'.cell? ⟨g, 14, none⟩ = some (.string last) ∧ w'.cell? ⟨g, 15, none⟩ = some (.int .i64 (n : Int)) := by
  obtain ⟨c0, c1, c2, c3, c4, c5, c6, c7, c8, c9, c10, c11, c12, c13, c14, c15⟩ := rfc_cells (h.keep hb).blk
  exact ⟨hb, c0, c1, c2, c3, c4, c5, c6, c7, c8, c9, c10, c11, c12, c13, c14, c15⟩
end
def RCloseR (c : Cfg) (w0 : World) (v1 v4 v5 : Value) (g : Nat) (first last : ByteArray) (L : List ByteArray) (w : World) (e : Ending) (w' : World) : Prop :=
  ∃ v, e = .returned v ∧ Hid (OutAt w' v L) ∧ Hid (RFil c w0 w' v1 v4 v5 g first last 0) ∧ Hid (w.grownBy w' (some g)) ∧ Hid (OutN w.heap.size v)
theorem rcloser_is {c : Cfg} {w0 : World} {v1 v4 v5 : Value} {g : Nat} {first last : ByteArray} {L : List ByteArray} {w : World} {e : Ending} {w' : World} (h : RCloseR c w0 v1 v4 v5 g first last L w e w') :
  ∃ v, e = .returned v ∧ Hid (OutAt w' v L) ∧ Hid (RFil c w0 w' v1 v4 v5 g first last 0) ∧ Hid (w.grownBy w' (some g)) ∧ Hid (OutN w.heap.size v) := h
set_option maxRecDepth 100000 in
set_option maxHeartbeats 16000000 in
theorem rclose_any (c : Cfg) (w0 w : World) (v1 v4 v5 : Value) (g n : Nat) (first last : ByteArray) (h : RFil c w0 w v1 v4 v5 g first last n) (hn : n ≤ 4611686018427387904) (hs : first.size ≤ 140737488351232) :
    Calls Tryd.prog 18 #[.pointer (some ⟨g, 0, none⟩)] w (RCloseR c w0 v1 v4 v5 g first last (closeL c first n) w) := by
  have SZ := Lib.hid hs; clear hs
  have H := Lib.hid h; clear h
  by_cases h0 : n = 0
  · subst h0
    obtain ⟨-, c0, c1, c2, c3, c4, c5, c6, c7, c8, c9, c10, c11, c12, c13, c14, c15⟩ := H.out.held (Below.refl _ _)
    go_enter Tryd.func18, Tryd.ntmps18
    go_wp2
    go_ret
    exact ⟨_, rfl, Lib.hid (.inl ⟨rfl, rfl⟩), H, Lib.hid (grown_below (Below.refl _ _) _), Lib.hid (outn_nil _)⟩
  · obtain ⟨-, c0, c1, c2, c3, c4, c5, c6, c7, c8, c9, c10, c11, c12, c13, c14, c15⟩ := H.out.held (Below.refl _ _)
    have e4 : ((n : Int) == 0) = false := by rw [beq_eq_false_iff_ne]; omega
    have N1 : Hid (1 ≤ n) := Lib.hid (by omega)
    have EL : Hid (closeL c first n = outL c.cnt c.rep c.sg first n) := Lib.hid (by unfold closeL; rw [if_neg h0])
    have HN := Lib.hid hn; clear hn h0
    have S0 := H.out.held ((Below.refl w.heap.size w).drew)
    go_enter Tryd.func18, Tryd.ntmps18
    go_wp2_with fail
    go_region_held3 (fun w' => Below w.heap.size w w' ∧ w'.cell? ⟨g, 0, none⟩ = some (.int .i64 c.F) ∧ w'.cell? ⟨g, 1, none⟩ = some (.int .i64 c.B) ∧ w'.cell? ⟨g, 2, none⟩ = some (.int .i64 c.D) ∧ w'.cell? ⟨g, 3, none⟩ = some (.bool c.cnt) ∧ w'.cell? ⟨g, 4, none⟩ = some (.bool c.fold) ∧ w'.cell? ⟨g, 5, none⟩ = some (.bool c.rep) ∧ w'.cell? ⟨g, 6, none⟩ = some (.bool c.sg) ∧ w'.cell? ⟨g, 7, none⟩ = some (.string c.n) ∧ w'.cell? ⟨g, 8, none⟩ = some (v1) ∧ w'.cell? ⟨g, 9, none⟩ = some (.string c.lo) ∧ w'.cell? ⟨g, 10, none⟩ = some (.string c.up) ∧ w'.cell? ⟨g, 11, none⟩ = some (v4) ∧ w'.cell? ⟨g, 12, none⟩ = some (v5) ∧ w'.cell? ⟨g, 13, none⟩ = some (.string first) ∧ w'.cell? ⟨g, 14, none⟩ = some (.string last) ∧ w'.cell? ⟨g, 15, none⟩ = some (.int .i64 (n : Int))) (first | exact S0)
      (first | (go_at_call 29; refine (output_any c.F c.B c.D c.cnt c.fold c.rep c.sg first n _ N1.out HN.out SZ.out).mono ?_; intro e w' h1; obtain ⟨v, rfl, OV, BV, NV⟩ := outr_is h1; clear h1; have BB := Lib.hid (S0.1.trans (BV.out.mono S0.1.size)); have KK := Lib.hid (H.out.keep BB.out); have S0 := H.out.held BB.out; have fz := KK.out.frz 15))
    go_wp2_with fail
    have GL := H.out.lt
    have NZ' : Hid (OutN w.heap.size v) := NV
    go_ret
    exact ⟨v, rfl, Lib.hid (by rw [EL.out]; exact OV.out.set (outn_ne NZ'.out GL)), Lib.hid (KK.out.setN 0 0 rfl), Lib.hid ((grown_below BB.out _).trans (grown_set _ _ _ _)), NZ'⟩
/-- the reference's filter stands for a state -/
def RF (c : Cfg) (w0 w : World) (v1 v4 v5 : Value) (g : Nat) (st : St) : Prop := ∃ last, RFil c w0 w v1 v4 v5 g st.first last st.n ∧ (0 < st.n → (c.K last).data.toList = st.key.data.toList) ∧ last.size ≤ 140737488351232
def RStepR (c : Cfg) (w0 : World) (v1 v4 v5 : Value) (g : Nat) (st : St) (L : List ByteArray) (w : World) (e : Ending) (w' : World) : Prop :=
  ∃ v, e = .returned v ∧ Hid (OutAt w' v L) ∧ Hid (RF c w0 w' v1 v4 v5 g st) ∧ Hid (w.grownBy w' (some g)) ∧ Hid (OutN w.heap.size v)
theorem rstepr_is {c : Cfg} {w0 : World} {v1 v4 v5 : Value} {g : Nat} {st : St} {L : List ByteArray} {w : World} {e : Ending} {w' : World} (h : RStepR c w0 v1 v4 v5 g st L w e w') :
  ∃ v, e = .returned v ∧ Hid (OutAt w' v L) ∧ Hid (RF c w0 w' v1 v4 v5 g st) ∧ Hid (w.grownBy w' (some g)) ∧ Hid (OutN w.heap.size v) := h
theorem rsame_is (c : Cfg) (hc : c.Ok) (v1 v4 v5 : Value) (a b : ByteArray) (r : Bool) (w : World) (hL : LocAt w v1 v4 v5 c.W c.C c.E) (ha : a.size ≤ 140737488351232) (hb : b.size ≤ 140737488351232) (hr : Hid (sameB c a b = r)) :
    Calls Tryd.prog 24 #[c.sp, c.lv v1 v4 v5, .string a, .string b] w fun e w' => e = .returned (.bool r) ∧ Below w.heap.size w w' := by rw [← hr.out]; exact rsame_any c hc v1 v4 v5 a b w hL ha hb
set_option maxRecDepth 100000 in
set_option maxHeartbeats 16000000 in
theorem rfeed_any (c : Cfg) (hc : c.Ok) (w0 w : World) (v1 v4 v5 : Value) (g : Nat) (st : St) (line : ByteArray) (h : RF c w0 w v1 v4 v5 g st) (hn : st.n ≤ 4611686018427387903) (hs : st.first.size ≤ 140737488351232) (hl : line.size ≤ 140737488351232) :
    Calls Tryd.prog 16 #[.pointer (some ⟨g, 0, none⟩), .string line] w (RStepR c w0 v1 v4 v5 g (feedS c st line) (feedL c st line) w) := by
  obtain ⟨last, h, hk, hz⟩ := h
  have SZ := Lib.hid hs; clear hs
  have LZ := Lib.hid hl; clear hl
  have AZ := Lib.hid hz; clear hz
  have HC := Lib.hid hc; clear hc
  obtain ⟨first, key, n⟩ := st
  have H := Lib.hid h; clear h
  have HK := Lib.hid hk; clear hk
  have tn : n ≤ 4611686018427387903 := by simp only at hn; omega
  clear hn
  by_cases h0 : n = 0
  · subst h0
    have hsm : same c ⟨first, key, 0⟩ line = false := rfl
    have ES : Hid (feedS c ⟨first, key, 0⟩ line = ⟨line, c.K line, 1⟩) := Lib.hid (by unfold feedS; rw [hsm]; rfl)
    have EL : Hid (feedL c ⟨first, key, 0⟩ line = []) := Lib.hid (by unfold feedL; rw [hsm]; rfl)
    clear hsm
    obtain ⟨-, c0, c1, c2, c3, c4, c5, c6, c7, c8, c9, c10, c11, c12, c13, c14, c15⟩ := H.out.held (Below.refl _ _)
    have f13 := H.out.frz 13
    have f14 := H.out.frz 14
    have f15 := H.out.frz 15
    go_enter Tryd.func16, Tryd.ntmps16
    go_wp2_with fail
    go_quiet (fail)
    go_wp2_with fail
    have K0 := H.out.keep (below_drewN (Below.refl w.heap.size w) nq)
    go_ret
    exact ⟨_, rfl, Lib.hid (by rw [EL.out]; exact .inl ⟨rfl, rfl⟩), Lib.hid (by rw [ES.out]; exact ⟨line, ((K0.setF line).setL line).setN 1 1 rfl, fun _ => rfl, LZ.out⟩), Lib.hid ((((grown_below (below_drewN (Below.refl w.heap.size w) nq) _).trans (grown_set _ _ _ _)).trans (grown_set _ _ _ _)).trans (grown_set _ _ _ _)), Lib.hid (outn_nil _)⟩
  · have n0 : 0 < (n : Int) := by omega
    have nd : decide (0 < (n : Int)) = true := decide_eq_true n0
    have np : 0 < n := by omega
    have e4 : ((n : Int) == 0) = false := by rw [beq_eq_false_iff_ne]; omega
    have KE := Lib.hid (HK.out (by show 0 < n; omega))
    obtain ⟨r, hr⟩ : ∃ r, sameB c last line = r := ⟨_, rfl⟩
    have SM : Hid (same c ⟨first, key, n⟩ line = r) := Lib.hid (by
      unfold same
      rw [decide_eq_true (show 0 < (⟨first, key, n⟩ : St).n by show 0 < n; omega), Bool.true_and, ← hr]
      unfold sameB
      rw [KE.out, decide_eq_decide]
      exact eq_comm)
    have HR := Lib.hid hr
    clear hr h0
    obtain ⟨-, c0, c1, c2, c3, c4, c5, c6, c7, c8, c9, c10, c11, c12, c13, c14, c15⟩ := H.out.held (Below.refl _ _)
    have S0 := H.out.held ((Below.refl w.heap.size w).drew)
    cases r with
    | true =>
      have ES : Hid (feedS c ⟨first, key, n⟩ line = ⟨first, key, n + 1⟩) := Lib.hid (by unfold feedS; rw [SM.out]; rfl)
      have EL : Hid (feedL c ⟨first, key, n⟩ line = []) := Lib.hid (by unfold feedL; rw [SM.out]; rfl)
      go_enter Tryd.func16, Tryd.ntmps16
      go_wp2_with fail
      go_region_held3 (fun w' => Below w.heap.size w w' ∧ w'.cell? ⟨g, 0, none⟩ = some (.int .i64 c.F) ∧ w'.cell? ⟨g, 1, none⟩ = some (.int .i64 c.B) ∧ w'.cell? ⟨g, 2, none⟩ = some (.int .i64 c.D) ∧ w'.cell? ⟨g, 3, none⟩ = some (.bool c.cnt) ∧ w'.cell? ⟨g, 4, none⟩ = some (.bool c.fold) ∧ w'.cell? ⟨g, 5, none⟩ = some (.bool c.rep) ∧ w'.cell? ⟨g, 6, none⟩ = some (.bool c.sg) ∧ w'.cell? ⟨g, 7, none⟩ = some (.string c.n) ∧ w'.cell? ⟨g, 8, none⟩ = some (v1) ∧ w'.cell? ⟨g, 9, none⟩ = some (.string c.lo) ∧ w'.cell? ⟨g, 10, none⟩ = some (.string c.up) ∧ w'.cell? ⟨g, 11, none⟩ = some (v4) ∧ w'.cell? ⟨g, 12, none⟩ = some (v5) ∧ w'.cell? ⟨g, 13, none⟩ = some (.string first) ∧ w'.cell? ⟨g, 14, none⟩ = some (.string last) ∧ w'.cell? ⟨g, 15, none⟩ = some (.int .i64 (n : Int))) (first | exact S0)
        (first | (go_at_call 24; refine (rsame_is c HC.out v1 v4 v5 last line true _ (H.out.keep S0.1).locNow AZ.out LZ.out HR).mono ?_; rintro e w' ⟨rfl, hb⟩; have BB := Lib.hid (S0.1.trans (hb.mono S0.1.size)); have KK := Lib.hid (H.out.keep BB.out); have S0 := H.out.held BB.out; obtain ⟨-, k0, k1, k2, k3, k4, k5, k6, k7, k8, k9, k10, k11, k12, k13, k14, k15⟩ := H.out.held BB.out; have f14 := KK.out.frz 14; have f15 := KK.out.frz 15))
      go_wp2_with fail
      go_ret
      exact ⟨_, rfl, Lib.hid (by rw [EL.out]; exact .inl ⟨rfl, rfl⟩), Lib.hid (by rw [ES.out]; exact ⟨line, (KK.out.setL line).setN (n + 1) _ (by omega), fun _ => (by have h1 := HR.out; unfold sameB at h1; rw [← of_decide_eq_true h1]; exact KE.out), LZ.out⟩), Lib.hid (((grown_below BB.out _).trans (grown_set _ _ _ _)).trans (grown_set _ _ _ _)), Lib.hid (outn_nil _)⟩
    | false =>
      have ES : Hid (feedS c ⟨first, key, n⟩ line = ⟨line, c.K line, 1⟩) := Lib.hid (by unfold feedS; rw [SM.out]; rfl)
      have EL : Hid (feedL c ⟨first, key, n⟩ line = closeL c first n) := Lib.hid (by unfold feedL; rw [SM.out]; rfl)
      go_enter Tryd.func16, Tryd.ntmps16
      go_wp2_with fail
      go_region_held3 (fun w' => Below w.heap.size w w' ∧ w'.cell? ⟨g, 0, none⟩ = some (.int .i64 c.F) ∧ w'.cell? ⟨g, 1, none⟩ = some (.int .i64 c.B) ∧ w'.cell? ⟨g, 2, none⟩ = some (.int .i64 c.D) ∧ w'.cell? ⟨g, 3, none⟩ = some (.bool c.cnt) ∧ w'.cell? ⟨g, 4, none⟩ = some (.bool c.fold) ∧ w'.cell? ⟨g, 5, none⟩ = some (.bool c.rep) ∧ w'.cell? ⟨g, 6, none⟩ = some (.bool c.sg) ∧ w'.cell? ⟨g, 7, none⟩ = some (.string c.n) ∧ w'.cell? ⟨g, 8, none⟩ = some (v1) ∧ w'.cell? ⟨g, 9, none⟩ = some (.string c.lo) ∧ w'.cell? ⟨g, 10, none⟩ = some (.string c.up) ∧ w'.cell? ⟨g, 11, none⟩ = some (v4) ∧ w'.cell? ⟨g, 12, none⟩ = some (v5) ∧ w'.cell? ⟨g, 13, none⟩ = some (.string first) ∧ w'.cell? ⟨g, 14, none⟩ = some (.string last) ∧ w'.cell? ⟨g, 15, none⟩ = some (.int .i64 (n : Int))) (first | exact S0)
        (first | (go_at_call 24; refine (rsame_is c HC.out v1 v4 v5 last line false _ (H.out.keep S0.1).locNow AZ.out LZ.out HR).mono ?_; rintro e w1 ⟨rfl, hb⟩; have BB := Lib.hid (S0.1.trans (hb.mono S0.1.size)); have KK := Lib.hid (H.out.keep BB.out); have S0 := H.out.held BB.out))
      go_wp2_with fail
      refine (rclose_any c w0 w1 v1 v4 v5 g n first last KK.out (by omega) SZ.out).mono ?_
      intro e w2 h2
      obtain ⟨v, rfl, OV, K2, G2, NV⟩ := rcloser_is h2
      clear h2 c0 c1 c2 c3 c4 c5 c6 c7 c8 c9 c10 c11 c12 c13 c14 c15 S0
      obtain ⟨-, c0, c1, c2, c3, c4, c5, c6, c7, c8, c9, c10, c11, c12, c13, c14, c15⟩ := K2.out.held (Below.refl _ _)
      have f13 := K2.out.frz 13
      have f14 := K2.out.frz 14
      have f15 := K2.out.frz 15
      go_wp2_with fail
      have NE := outn_ne NV.out KK.out.lt
      have NV2 : Hid (OutN w.heap.size v) := Lib.hid (fun a o sp m cp e => Nat.le_trans BB.out.size (NV.out a o sp m cp e))
      go_ret
      exact ⟨v, rfl, Lib.hid (by rw [EL.out]; exact ((OV.out.set NE).set NE).set NE), Lib.hid (by rw [ES.out]; exact ⟨line, ((K2.out.setF line).setL line).setN 1 1 rfl, fun _ => rfl, LZ.out⟩), Lib.hid ((((grown_below BB.out _).trans G2.out).trans (grown_set _ _ _ _)).trans ((grown_set _ _ _ _).trans (grown_set _ _ _ _))), NV2⟩
end Go.Proofs.YtoohbgjfhchnmaaDoor
