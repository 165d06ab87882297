/- four copies of a specification, their marks set -/
import Derived.Test.YtoohbgjfhchnmaaDoorRl
namespace Go.Proofs.YtoohbgjfhchnmaaDoor
open Go.RowKit Go.Maps
open Lcl
abbrev W2g (c : Cfg) (v1 v4 v5 : Value) (w : World) : World := (w.alloc (.cells (c.mk3 false false false).cells 23)).alloc (.cells (c.lcells v1 v4 v5) 28)
/-- the four copies, their marks set; below them all is as it was -/
structure GW (c : Cfg) (v1 v4 v5 : Value) (w : World) (g7 g8 g9 g10 : Nat) (w' : World) : Prop where
  bel : Below (W2g c v1 v4 v5 w).heap.size (W2g c v1 v4 v5 w) w'
  b7 : Bk w' g7 (.int .i64 c.F) (.int .i64 c.B) (.int .i64 c.D) (.bool true) (.bool c.fold) (.bool false) (.bool false)
  b8 : Bk w' g8 (.int .i64 c.F) (.int .i64 c.B) (.int .i64 c.D) (.bool false) (.bool c.fold) (.bool true) (.bool false)
  b9 : Bk w' g9 (.int .i64 c.F) (.int .i64 c.B) (.int .i64 c.D) (.bool false) (.bool c.fold) (.bool false) (.bool true)
  b10 : Bk w' g10 (.int .i64 c.F) (.int .i64 c.B) (.int .i64 c.D) (.bool false) (.bool c.fold) (.bool true) (.bool true)
section
variable {c : Cfg} {v1 v4 v5 : Value} {w w' w'' : World} {g7 g8 g9 g10 : Nat}
theorem GW.step (h : GW c v1 v4 v5 w g7 g8 g9 g10 w') (hb : Below w'.heap.size w' w'') : GW c v1 v4 v5 w g7 g8 g9 g10 w'' :=
  ⟨h.bel.trans (hb.mono h.bel.size), h.b7.below hb, h.b8.below hb, h.b9.below hb, h.b10.below hb⟩
theorem GW.out (h : GW c v1 v4 v5 w g7 g8 g9 g10 w') : Below w.heap.size w w' := below_step (below_step h.bel)
theorem GW.pcells (h : GW c v1 v4 v5 w g7 g8 g9 g10 w') : w'.cell? ⟨w.heap.size, 0, none⟩ = some (.int .i64 c.F) ∧ w'.cell? ⟨w.heap.size, 1, none⟩ = some (.int .i64 c.B) ∧ w'.cell? ⟨w.heap.size, 2, none⟩ = some (.int .i64 c.D) ∧ w'.cell? ⟨w.heap.size, 3, none⟩ = some (.bool false) ∧ w'.cell? ⟨w.heap.size, 4, none⟩ = some (.bool c.fold) ∧ w'.cell? ⟨w.heap.size, 5, none⟩ = some (.bool false) ∧ w'.cell? ⟨w.heap.size, 6, none⟩ = some (.bool false) :=
  spc_cells (two_blk h.bel).1
theorem GW.lcells (h : GW c v1 v4 v5 w g7 g8 g9 g10 w') : w'.cell? ⟨w.heap.size + 1, 0, none⟩ = some (.string c.n) ∧ w'.cell? ⟨w.heap.size + 1, 1, none⟩ = some v1 ∧ w'.cell? ⟨w.heap.size + 1, 2, none⟩ = some (.string c.lo) ∧ w'.cell? ⟨w.heap.size + 1, 3, none⟩ = some (.string c.up) ∧ w'.cell? ⟨w.heap.size + 1, 4, none⟩ = some v4 ∧ w'.cell? ⟨w.heap.size + 1, 5, none⟩ = some v5 :=
  lrow_cells (two_blk h.bel).2
theorem gw_start (bel : Below (W2g c v1 v4 v5 w).heap.size (W2g c v1 v4 v5 w) w')
    (k7 : Bk w' g7 (.int .i64 c.F) (.int .i64 c.B) (.int .i64 c.D) (.bool false) (.bool c.fold) (.bool false) (.bool false))
    (k8 : Bk w' g8 (.int .i64 c.F) (.int .i64 c.B) (.int .i64 c.D) (.bool false) (.bool c.fold) (.bool false) (.bool false))
    (k9 : Bk w' g9 (.int .i64 c.F) (.int .i64 c.B) (.int .i64 c.D) (.bool false) (.bool c.fold) (.bool false) (.bool false))
    (k10 : Bk w' g10 (.int .i64 c.F) (.int .i64 c.B) (.int .i64 c.D) (.bool false) (.bool c.fold) (.bool false) (.bool false))
    (B7 : (W2g c v1 v4 v5 w).heap.size ≤ g7) (B8 : (W2g c v1 v4 v5 w).heap.size ≤ g8) (B9 : (W2g c v1 v4 v5 w).heap.size ≤ g9) (B10 : (W2g c v1 v4 v5 w).heap.size ≤ g10)
    (n78 : g7 ≠ g8) (n79 : g7 ≠ g9) (n70 : g7 ≠ g10) (n89 : g8 ≠ g9) (n80 : g8 ≠ g10) (n90 : g9 ≠ g10) :
    GW c v1 v4 v5 w g7 g8 g9 g10 (((((w'.setCell ⟨g7, 3, none⟩ (.bool true)).setCell ⟨g8, 5, none⟩ (.bool true)).setCell ⟨g9, 6, none⟩ (.bool true)).setCell ⟨g10, 5, none⟩ (.bool true)).setCell ⟨g10, 6, none⟩ (.bool true)) := by
  refine ⟨below_set (below_set (below_set (below_set (below_set bel B7) B8) B9) B10) B10, ?_, ?_, ?_, ?_⟩
  · exact ((((k7.set1_3 _).far1 n78 _).far1 n79 _).far1 n70 _).far1 n70 _
  · exact ((((k8.far1 n78.symm _).set1_5 _).far1 n89 _).far1 n80 _).far1 n80 _
  · exact ((((k9.far1 n79.symm _).far1 n89.symm _).set1_6 _).far1 n90 _).far1 n90 _
  · exact ((((k10.far1 n70.symm _).far1 n80.symm _).far1 n90.symm _).set1_5 _).set1_6 _
theorem keepD (h : GW c v1 v4 v5 w g7 g8 g9 g10 w') : GW c v1 v4 v5 w g7 g8 g9 g10 w' ∧ w'.cell? ⟨g8, 0, none⟩ = some (.int .i64 c.F) ∧ w'.cell? ⟨g8, 1, none⟩ = some (.int .i64 c.B) ∧ w'.cell? ⟨g8, 2, none⟩ = some (.int .i64 c.D) ∧ w'.cell? ⟨g8, 3, none⟩ = some (.bool false) ∧ w'.cell? ⟨g8, 4, none⟩ = some (.bool c.fold) ∧ w'.cell? ⟨g8, 5, none⟩ = some (.bool true) ∧ w'.cell? ⟨g8, 6, none⟩ = some (.bool false) ∧ w'.cell? ⟨g9, 0, none⟩ = some (.int .i64 c.F) ∧ w'.cell? ⟨g9, 1, none⟩ = some (.int .i64 c.B) ∧ w'.cell? ⟨g9, 2, none⟩ = some (.int .i64 c.D) ∧ w'.cell? ⟨g9, 3, none⟩ = some (.bool false) ∧ w'.cell? ⟨g9, 4, none⟩ = some (.bool c.fold) ∧ w'.cell? ⟨g9, 5, none⟩ = some (.bool false) ∧ w'.cell? ⟨g9, 6, none⟩ = some (.bool true) ∧ w'.cell? ⟨w.heap.size + 1, 0, none⟩ = some (.string c.n) ∧ w'.cell? ⟨w.heap.size + 1, 1, none⟩ = some v1 ∧ w'.cell? ⟨w.heap.size + 1, 2, none⟩ = some (.string c.lo) ∧ w'.cell? ⟨w.heap.size + 1, 3, none⟩ = some (.string c.up) ∧ w'.cell? ⟨w.heap.size + 1, 4, none⟩ = some v4 ∧ w'.cell? ⟨w.heap.size + 1, 5, none⟩ = some v5 := by
  obtain ⟨a0, a1, a2, a3, a4, a5, a6⟩ := h.b8.cells
  obtain ⟨b0, b1, b2, b3, b4, b5, b6⟩ := h.b9.cells
  obtain ⟨l0, l1, l2, l3, l4, l5⟩ := h.lcells
  exact ⟨h, a0, a1, a2, a3, a4, a5, a6, b0, b1, b2, b3, b4, b5, b6, l0, l1, l2, l3, l4, l5⟩
end
/-- the first lines of the groups are lines -/
theorem grp_mem (K : ByteArray → ByteArray) (L : List ByteArray) : ∀ (st : St) p, p ∈ grp K st L → (st.n ≠ 0 ∧ p.1 = st.first) ∨ p.1 ∈ L := by
  have hc : ∀ (st : St) p, p ∈ closeG st → st.n ≠ 0 ∧ p.1 = st.first := by
    intro st p h
    unfold closeG at h
    split at h
    · cases h
    · rename_i hn; simp at h; subst h; exact ⟨hn, rfl⟩
  induction L with
  | nil => intro st p h; exact .inl (hc st p h)
  | cons x r ih =>
    intro st p h
    by_cases hs : (decide (0 < st.n) && decide ((K x).data.toList = st.key.data.toList)) = true
    · rw [grp_yes hs] at h
      simp only [Bool.and_eq_true, decide_eq_true_eq] at hs
      rcases ih _ p h with ⟨_, h2⟩ | h2
      · exact .inl ⟨by omega, h2⟩
      · exact .inr (List.mem_cons_of_mem _ h2)
    · rw [grp_no hs] at h
      rcases List.mem_append.1 h with h | h
      · exact .inl (hc st p h)
      · rcases ih _ p h with ⟨_, h2⟩ | h2
        · exact .inr (by rw [h2]; exact List.mem_cons_self)
        · exact .inr (List.mem_cons_of_mem _ h2)
theorem grp_mem0 {K : ByteArray → ByteArray} {L : List ByteArray} {p : ByteArray × Nat} (h : p ∈ grp K st0 L) : p.1 ∈ L := by
  rcases grp_mem K L st0 p h with ⟨h1, _⟩ | h2
  · exact absurd rfl h1
  · exact h2
/-- Lines, with its length in sight -/
abbrev LinesD (c : Cfg) (cnt rep sg : Bool) (v1 v4 v5 vl : Value) (L M : List ByteArray) (n : Nat) : Prop := ∀ w', LocAt w' v1 v4 v5 c.W c.C c.E → Tab w' → RowsAt w' vl 1 (strs L) → Calls Tryd.prog 10 #[.agg #[.int .i64 c.F, .int .i64 c.B, .int .i64 c.D, .bool cnt, .bool c.fold, .bool rep, .bool sg], .agg #[.string c.n, v1, .string c.lo, .string c.up, v4, v5], vl] w' fun e w'' => ∃ a cap, e = .returned (.slice a n cap) ∧ Hid (RowsAt w'' (.slice a n cap) 1 (strs M)) ∧ Hid (Below w'.heap.size w' w'')
theorem linesd (c : Cfg) (hc : c.Ok) (cnt rep sg : Bool) (v1 v4 v5 vl : Value) (L M : List ByteArray) (n : Nat) (n1 : NZ v1) (n4 : NZ v4) (n5 : NZ v5) (hz : ∀ x ∈ L, x.size ≤ 140737488351232) (hl : L.length * 16 ≤ 140737488351232) (hM : linesM (c.mk3 cnt rep sg) L = M) (hn : M.length = n) : Hid (LinesD c cnt rep sg v1 v4 v5 vl L M n) :=
  Lib.hid fun w' h1 h2 h3 => by
    rw [← hn, ← hM]
    refine (lines_any (c.mk3 cnt rep sg) (mk3_ok hc cnt rep sg) v1 v4 v5 vl L w' h1 n1 n4 n5 h2 h3 hz hl).mono fun e w'' h => ?_
    obtain ⟨v, rfl, hr, hb⟩ := linesr_is h
    obtain ⟨a, cap, rfl⟩ := hr.out.slS
    exact ⟨a, cap, rfl, hr, hb⟩
end Go.Proofs.YtoohbgjfhchnmaaDoor
