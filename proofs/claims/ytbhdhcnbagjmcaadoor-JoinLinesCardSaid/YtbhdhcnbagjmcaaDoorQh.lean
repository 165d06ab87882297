/- walks: the default locale of the program -/
import Derived.Test.YtbhdhcnbagjmcaaDoorQg
namespace Go.Proofs.YtbhdhcnbagjmcaaDoor
open Go.RowKit Go.Maps
open Lcl
/-- a row of bytes, the first q of which are these -/
def SR (w wr : World) (g : Nat) (l : List UInt8) : Prop :=
  wr.ownsRow w.heap.size 5 1 (.slice (some ⟨g, 0, none⟩) 256 256) 256 (Lib.byteCells l ++ List.replicate (256 - l.length) (.int .u8 0)) ∧ Below w.heap.size w wr ∧ w.heap.size ≤ g
theorem bcell_len (l : List UInt8) : (Lib.byteCells l).length = l.length := by simp [Lib.byteCells]
theorem SR.cell {w wr : World} {g : Nat} {l : List UInt8} (h : SR w wr g l) (hl : l.length < 256) : wr.cell? ⟨g, l.length, none⟩ = some (.int .u8 0) ∧ wr.frozen? ⟨g, l.length, none⟩ = false := by
  refine ⟨?_, h.1.frozenAt _⟩
  rw [h.1.cellAt l.length (by omega), List.getElem?_append_right (by rw [bcell_len]; omega), bcell_len, Nat.sub_self, List.getElem?_replicate, if_pos (by omega)]
theorem put_eq (l : List UInt8) (c : UInt8) (hl : l.length < 256) : (Lib.byteCells l ++ List.replicate (256 - l.length) (Value.int .u8 0)).set l.length (.int .u8 (c.toNat : Int)) = Lib.byteCells (l ++ [c]) ++ List.replicate (256 - (l ++ [c]).length) (.int .u8 0) := by
  rw [List.set_append_right _ _ (by rw [bcell_len]; omega), bcell_len, Nat.sub_self]
  have hr : List.replicate (256 - l.length) (Value.int .u8 0) = .int .u8 0 :: List.replicate (256 - (l ++ [c]).length) (.int .u8 0) := by
    rw [List.length_append, List.length_singleton, show 256 - l.length = (256 - (l.length + 1)) + 1 by omega, List.replicate_succ]
  rw [hr, List.set_cons_zero]
  simp [Lib.byteCells]
theorem SR.put {w wr : World} {g : Nat} {l : List UInt8} (h : SR w wr g l) (hl : l.length < 256) (c : UInt8) (u : Int) (hu : u = (c.toNat : Int)) : SR w (wr.setCell ⟨g, l.length, none⟩ (.int .u8 u)) g (l ++ [c]) := by
  subst hu
  refine ⟨?_, h.2.1.setCell h.2.2 _, h.2.2⟩
  have := (h.1.stored l.length (.int .u8 (c.toNat : Int))).1
  rw [put_eq l c hl] at this
  exact this
theorem SR.put2 {w wr : World} {g : Nat} {l : List UInt8} (h : SR w wr g l) (hl : l.length < 256) (c : UInt8) (z u : Int) (hu : u = (c.toNat : Int)) : SR w ((wr.setCell ⟨g, l.length, none⟩ (.int .u8 z)).setCell ⟨g, l.length, none⟩ (.int .u8 u)) g (l ++ [c]) := by
  have h1 := h.put hl c u hu
  refine ⟨?_, (h.2.1.setCell h.2.2 _).setCell h.2.2 _, h.2.2⟩
  have a1 := ((h.1.stored l.length (.int .u8 z)).1.stored l.length (.int .u8 u)).1
  have a2 := (h.1.stored l.length (.int .u8 u)).1
  rw [List.set_set] at a1
  subst hu
  have e : (Lib.byteCells l ++ List.replicate (256 - l.length) (Value.int .u8 0)).set l.length (.int .u8 (c.toNat : Int)) = Lib.byteCells (l ++ [c]) ++ List.replicate (256 - (l ++ [c]).length) (.int .u8 0) := put_eq l c hl
  rw [e] at a1
  exact a1
theorem made_u8 : (madeCells (Value.int IntKind.u8 0).cells (256 * 1)).toList = List.replicate 256 (Value.int .u8 0) := toList_madeCells_one _ _
theorem SR.str {w wr : World} {g : Nat} {l : List UInt8} (h : SR w wr g l) (hl : l.length = 256) : (convert 49 9 (.slice (some ⟨g, 0, none⟩) 256 256)).run Tryd.prog wr = .ok (.string ⟨l.toArray⟩) wr := by
  refine row_string (B := w.heap.size) ?_
  have := h.1
  rw [hl, Nat.sub_self, List.replicate_zero, List.append_nil] at this
  show wr.ownsRow w.heap.size 5 1 _ l.length (Lib.byteCells l)
  rw [hl]; exact this
set_option maxRecDepth 100000 in
set_option maxHeartbeats 4000000 in
theorem shifted_low (w : World) : Calls Tryd.prog 75 #[.int .u8 65, .int .u8 90, .int .i64 32] w fun e w' => e = .returned (.string ⟨(ltab 256).toArray⟩) ∧ Below w.heap.size w w' := by
  obtain ⟨i0, hi, hz0, hz1, hz2⟩ := info_parts info_u8
  go_enter Tryd.func75, Tryd.ntmps75
  go_wp2_with (first
    | (at_make; refine wpList_make_full _ rfl _ _ 49 rfl w.heap.size 5 i0 (.int .u8 0) 1 Tryd.underlying49 hi hz0 hz1 .i64 .i64 256 256 256 rfl rfl rfl rfl (by rw [hz2]; omega) (by unfold maxLen; omega) (Nat.le_refl _) ?_; intro w0 hown0 hgrow0))
  have S0 : Hid (SR w w0 w.heap.size (ltab 0)) := Lib.hid ⟨by rw [made_u8] at hown0; exact hown0, (Below.refl _ _).grown hgrow0 (Nat.le_refl _) (fun k hk => by cases hk), Nat.le_refl _⟩
  clear hown0 hgrow0
  go_wp2_with fail
  go_loopw [12] (fun i wr => ∃ q : Nat, q ≤ 256 ∧ i = .int .i64 q ∧ Hid (SR w wr w.heap.size (ltab q))) (fun i _ => 256 - (intOf i).toNat)
  case atStart => exact ⟨0, Nat.zero_le _, rfl, S0⟩
  case round =>
    clear S0
    obtain ⟨q, hq, rfl, RN⟩ := hrel
    by_cases hlt : q < 256
    · have LN := Lib.hid (ltab_len q)
      obtain ⟨c0, f0⟩ : wr.cell? ⟨w.heap.size, q, none⟩ = some (.int .u8 0) ∧ wr.frozen? ⟨w.heap.size, q, none⟩ = false := by
        have := RN.out.cell (by rw [LN.out]; exact hlt)
        rw [LN.out] at this; exact this
      rcases (show q < 65 ∨ (65 ≤ q ∧ q ≤ 90) ∨ 90 < q by omega) with g1 | ⟨g1, g2⟩ | g1
      · have LO : Hid ((q : Int) = ((UInt8.ofNat (lowC q)).toNat : Int)) := Lib.hid (by rw [u8_nat _ (by unfold lowC; split <;> omega)]; unfold lowC; split <;> omega)
        have d1 : decide (65 ≤ (q : Int)) = false := by rw [decide_eq_false_iff_not]; omega
        go_wp2
        have RN2 := Lib.hid (RN.out.put (by rw [LN.out]; exact hlt) (UInt8.ofNat (lowC q)) _ LO.out)
        rw [LN.out, ltab_snoc] at RN2
        go_roundw
        case rel => exact ⟨q + 1, by omega, by go_num, RN2⟩
        case measure => simp [intOf]; omega
      · have LO : Hid ((q : Int) + 32 = ((UInt8.ofNat (lowC q)).toNat : Int)) := Lib.hid (by rw [u8_nat _ (by unfold lowC; split <;> omega)]; unfold lowC; split <;> omega)
        have d1 : decide (65 ≤ (q : Int)) = true := by rw [decide_eq_true_iff]; omega
        have d2 : decide ((q : Int) ≤ 90) = true := by rw [decide_eq_true_iff]; omega
        go_wp2
        have RN2 := Lib.hid (RN.out.put2 (by rw [LN.out]; exact hlt) (UInt8.ofNat (lowC q)) (q : Int) _ LO.out)
        rw [LN.out, ltab_snoc] at RN2
        go_roundw
        case rel => exact ⟨q + 1, by omega, by go_num, RN2⟩
        case measure => simp [intOf]; omega
      · have LO : Hid ((q : Int) = ((UInt8.ofNat (lowC q)).toNat : Int)) := Lib.hid (by rw [u8_nat _ (by unfold lowC; split <;> omega)]; unfold lowC; split <;> omega)
        have d1 : decide (65 ≤ (q : Int)) = true := by rw [decide_eq_true_iff]; omega
        have d2 : decide ((q : Int) ≤ 90) = false := by rw [decide_eq_false_iff_not]; omega
        go_wp2
        have RN2 := Lib.hid (RN.out.put (by rw [LN.out]; exact hlt) (UInt8.ofNat (lowC q)) _ LO.out)
        rw [LN.out, ltab_snoc] at RN2
        go_roundw
        case rel => exact ⟨q + 1, by omega, by go_num, RN2⟩
        case measure => simp [intOf]; omega
    · have eq : q = 256 := by omega
      subst eq
      have RS := RN.out.str (ltab_len 256)
      go_wp2
      go_ret
      exact ⟨rfl, RN.out.2.1⟩
set_option maxRecDepth 100000 in
set_option maxHeartbeats 4000000 in
theorem shifted_upp (w : World) : Calls Tryd.prog 75 #[.int .u8 97, .int .u8 122, .int .i64 (-32)] w fun e w' => e = .returned (.string ⟨(utab 256).toArray⟩) ∧ Below w.heap.size w w' := by
  obtain ⟨i0, hi, hz0, hz1, hz2⟩ := info_parts info_u8
  go_enter Tryd.func75, Tryd.ntmps75
  go_wp2_with (first
    | (at_make; refine wpList_make_full _ rfl _ _ 49 rfl w.heap.size 5 i0 (.int .u8 0) 1 Tryd.underlying49 hi hz0 hz1 .i64 .i64 256 256 256 rfl rfl rfl rfl (by rw [hz2]; omega) (by unfold maxLen; omega) (Nat.le_refl _) ?_; intro w0 hown0 hgrow0))
  have S0 : Hid (SR w w0 w.heap.size (utab 0)) := Lib.hid ⟨by rw [made_u8] at hown0; exact hown0, (Below.refl _ _).grown hgrow0 (Nat.le_refl _) (fun k hk => by cases hk), Nat.le_refl _⟩
  clear hown0 hgrow0
  go_wp2_with fail
  go_loopw [12] (fun i wr => ∃ q : Nat, q ≤ 256 ∧ i = .int .i64 q ∧ Hid (SR w wr w.heap.size (utab q))) (fun i _ => 256 - (intOf i).toNat)
  case atStart => exact ⟨0, Nat.zero_le _, rfl, S0⟩
  case round =>
    clear S0
    obtain ⟨q, hq, rfl, RN⟩ := hrel
    by_cases hlt : q < 256
    · have LN := Lib.hid (utab_len q)
      obtain ⟨c0, f0⟩ : wr.cell? ⟨w.heap.size, q, none⟩ = some (.int .u8 0) ∧ wr.frozen? ⟨w.heap.size, q, none⟩ = false := by
        have := RN.out.cell (by rw [LN.out]; exact hlt)
        rw [LN.out] at this; exact this
      rcases (show q < 97 ∨ (97 ≤ q ∧ q ≤ 122) ∨ 122 < q by omega) with g1 | ⟨g1, g2⟩ | g1
      · have LO : Hid ((q : Int) = ((UInt8.ofNat (uppC q)).toNat : Int)) := Lib.hid (by rw [u8_nat _ (by unfold uppC; split <;> omega)]; unfold uppC; split <;> omega)
        have d1 : decide (97 ≤ (q : Int)) = false := by rw [decide_eq_false_iff_not]; omega
        go_wp2
        have RN2 := Lib.hid (RN.out.put (by rw [LN.out]; exact hlt) (UInt8.ofNat (uppC q)) _ LO.out)
        rw [LN.out, utab_snoc] at RN2
        go_roundw
        case rel => exact ⟨q + 1, by omega, by go_num, RN2⟩
        case measure => simp [intOf]; omega
      · have LO : Hid ((q : Int) - 32 = ((UInt8.ofNat (uppC q)).toNat : Int)) := Lib.hid (by rw [u8_nat _ (by unfold uppC; split <;> omega)]; unfold uppC; split <;> omega)
        have d1 : decide (97 ≤ (q : Int)) = true := by rw [decide_eq_true_iff]; omega
        have d2 : decide ((q : Int) ≤ 122) = true := by rw [decide_eq_true_iff]; omega
        go_wp2
        have RN2 := Lib.hid (RN.out.put2 (by rw [LN.out]; exact hlt) (UInt8.ofNat (uppC q)) (q : Int) _ LO.out)
        rw [LN.out, utab_snoc] at RN2
        go_roundw
        case rel => exact ⟨q + 1, by omega, by go_num, RN2⟩
        case measure => simp [intOf]; omega
      · have LO : Hid ((q : Int) = ((UInt8.ofNat (uppC q)).toNat : Int)) := Lib.hid (by rw [u8_nat _ (by unfold uppC; split <;> omega)]; unfold uppC; split <;> omega)
        have d1 : decide (97 ≤ (q : Int)) = true := by rw [decide_eq_true_iff]; omega
        have d2 : decide ((q : Int) ≤ 122) = false := by rw [decide_eq_false_iff_not]; omega
        go_wp2
        have RN2 := Lib.hid (RN.out.put (by rw [LN.out]; exact hlt) (UInt8.ofNat (uppC q)) _ LO.out)
        rw [LN.out, utab_snoc] at RN2
        go_roundw
        case rel => exact ⟨q + 1, by omega, by go_num, RN2⟩
        case measure => simp [intOf]; omega
    · have eq : q = 256 := by omega
      subst eq
      have RS := RN.out.str (utab_len 256)
      go_wp2
      go_ret
      exact ⟨rfl, RN.out.2.1⟩
end Go.Proofs.YtbhdhcnbagjmcaaDoor
