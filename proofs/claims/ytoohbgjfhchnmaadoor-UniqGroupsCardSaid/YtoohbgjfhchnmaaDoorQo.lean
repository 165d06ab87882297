/- walks: the part of a line that counts -/
import Derived.Test.YtoohbgjfhchnmaaDoorQn
namespace Go.Proofs.YtoohbgjfhchnmaaDoor
open Go.RowKit Go.Maps
open Lcl
def flL : Nat → List UInt8 → List UInt8
  | 0, l => l
  | n + 1, l => flL n (fdL l)
theorem flL_nil : ∀ n, flL n [] = []
  | 0 => rfl
  | n + 1 => flL_nil n
def cutL (F B Wd : Int) (l : List UInt8) : List UInt8 := if 0 < Wd then ((flL F.toNat l).drop B.toNat).take Wd.toNat else (flL F.toNat l).drop B.toNat
def ptS (F B Wd : Int) (fold : Bool) (n : ByteArray) (W : List Int) (lo up : ByteArray) (C : List Cl) (E : List El) (s : ByteArray) : ByteArray :=
  if fold then upS n W lo up C E ⟨(cutL F B Wd s.data.toList).toArray⟩ else ⟨(cutL F B Wd s.data.toList).toArray⟩
abbrev spv (F B Wd : Int) (cnt fold rep sg : Bool) : Value := .agg #[.int .i64 F, .int .i64 B, .int .i64 Wd, .bool cnt, .bool fold, .bool rep, .bool sg]
theorem sk_size (b : Bool) (l : List UInt8) : (skL b l).length ≤ l.length := by
  unfold skL
  exact (List.dropWhile_suffix _).length_le
theorem skS_size (b : Bool) (s : ByteArray) : (skS b s).size ≤ s.size := sk_size b s.data.toList
theorem fl_next {F : Int} {k : Nat} {t s : ByteArray} (hk : (k : Int) < F) (h : flL (F.toNat - k) t.data.toList = flL F.toNat s.data.toList) : flL (F.toNat - (k + 1)) (skS false (skS true t)).data.toList = flL F.toNat s.data.toList := by
  rw [← h, show F.toNat - k = (F.toNat - (k + 1)) + 1 by omega]
  rfl
theorem fl_end {F : Int} {k : Nat} {t s : ByteArray} (hk : ¬ (k : Int) < F ∨ t.size = 0) (h : flL (F.toNat - k) t.data.toList = flL F.toNat s.data.toList) : t.data.toList = flL F.toNat s.data.toList := by
  rw [← h]
  rcases hk with hk | hk
  · rw [show F.toNat - k = 0 by omega]; rfl
  · have : t.data.toList = [] := List.length_eq_zero_iff.1 hk
    rw [this, flL_nil]
theorem cut_1 {F B : Int} {t s : ByteArray} (h : t.data.toList = flL F.toNat s.data.toList) : (t.extract (min (max B 0) (t.size : Int)).toNat t.size).data.toList = (flL F.toNat s.data.toList).drop B.toNat := by
  rw [ext_to, h]
  have hl : (flL F.toNat s.data.toList).length = t.size := by rw [← h]; rfl
  by_cases hb : B.toNat ≤ t.size
  · rw [show (min (max B 0) (t.size : Int)).toNat = B.toNat by omega]
  · rw [show (min (max B 0) (t.size : Int)).toNat = t.size by omega, ← hl, List.drop_length, List.drop_of_length_le (by omega)]
theorem cut_2 {F B Wd : Int} {t s : ByteArray} (h : t.data.toList = flL F.toNat s.data.toList) (hw : 0 < Wd) :
    ((t.extract (min (max B 0) (t.size : Int)).toNat t.size).extract 0 (min Wd ((t.size - (min (max B 0) (t.size : Int)).toNat : Nat) : Int)).toNat) = ⟨(cutL F B Wd s.data.toList).toArray⟩ := by
  apply ba_eq
  rw [Lib.extract_data, cut_1 h, List.drop_zero, Nat.sub_zero]
  show _ = cutL F B Wd s.data.toList
  unfold cutL
  rw [if_pos hw]
  have hl : (flL F.toNat s.data.toList).length = t.size := by rw [← h]; rfl
  by_cases hc : Wd.toNat ≤ t.size - (min (max B 0) (t.size : Int)).toNat
  · rw [show (min Wd ((t.size - (min (max B 0) (t.size : Int)).toNat : Nat) : Int)).toNat = Wd.toNat by omega]
  · rw [show (min Wd ((t.size - (min (max B 0) (t.size : Int)).toNat : Nat) : Int)).toNat = t.size - (min (max B 0) (t.size : Int)).toNat by omega,
      List.take_of_length_le (by rw [List.length_drop, hl]; omega), List.take_of_length_le (by rw [List.length_drop, hl]; omega)]
theorem cut_3 {F B Wd : Int} {t s : ByteArray} (h : t.data.toList = flL F.toNat s.data.toList) (hw : ¬ 0 < Wd) :
    (t.extract (min (max B 0) (t.size : Int)).toNat t.size) = ⟨(cutL F B Wd s.data.toList).toArray⟩ := by
  apply ba_eq
  rw [cut_1 h]
  show _ = cutL F B Wd s.data.toList
  unfold cutL
  rw [if_neg hw]
theorem skL_le (b : Bool) (l : List UInt8) : (skL b l).length ≤ l.length := sk_size b l
theorem fl_le : ∀ (n : Nat) (l : List UInt8), (flL n l).length ≤ l.length
  | 0, _ => Nat.le_refl _
  | n + 1, l => Nat.le_trans (fl_le n (fdL l)) (Nat.le_trans (skL_le _ _) (skL_le _ _))
theorem cut_le (F B Wd : Int) (s : ByteArray) : (⟨(cutL F B Wd s.data.toList).toArray⟩ : ByteArray).size ≤ s.size := by
  show (cutL F B Wd s.data.toList).length ≤ s.data.toList.length
  have h := fl_le F.toNat s.data.toList
  unfold cutL
  split
  · rw [List.length_take, List.length_drop]; omega
  · rw [List.length_drop]; omega
set_option maxRecDepth 100000 in
set_option maxHeartbeats 8000000 in
theorem part_any (F B Wd : Int) (cnt fold rep sg : Bool) (n : ByteArray) (v1 : Value) (lo up : ByteArray) (v4 v5 : Value) (W : List Int) (C : List Cl) (E : List El) (s : ByteArray) (w : World) (hL : LocAt w v1 v4 v5 W C E) (hn : n.size ≤ 9223372036854775807) (hs : s.size ≤ 140737488351232)
    (hF : F ≤ 9223372036854775807) (hB : -9223372036854775808 ≤ B ∧ B ≤ 9223372036854775807) (hW : -9223372036854775808 ≤ Wd ∧ Wd ≤ 9223372036854775807) :
    Calls Tryd.prog 27 #[spv F B Wd cnt fold rep sg, lval n v1 lo up v4 v5, .string s] w fun e w' => e = .returned (.string (ptS F B Wd fold n W lo up C E s)) ∧ Below w.heap.size w w' := by
  have LO := Lib.hid (hL.below (((Below.refl w.heap.size w).alloc (Nat.le_refl _) (.cells #[.int .i64 F, .int .i64 B, .int .i64 Wd, .bool cnt, .bool fold, .bool rep, .bool sg] 23)).alloc (by rw [World.size_alloc]; omega) (.cells #[.string n, v1, .string lo, .string up, v4, v5] 28))); clear hL
  have ZN := Lib.hid hn; clear hn
  have SZ := Lib.hid hs; clear hs
  have HB := Lib.hid hB; clear hB
  have HW := Lib.hid hW; clear hW
  go_enter Tryd.func27, Tryd.ntmps27
  go_wp2_with fail
  go_loop [2, 7] (fun v i => ∃ (k : Nat) (t : ByteArray), v = .string t ∧ i = .int .i64 k ∧ t.size ≤ s.size ∧ Hid (flL (F.toNat - k) t.data.toList = flL F.toNat s.data.toList)) (fun _ i => F.toNat - (intOf i).toNat)
  case atStart => exact ⟨0, s, rfl, rfl, Nat.le_refl _, Lib.hid rfl⟩
  case round =>
    obtain ⟨k, t, rfl, rfl, hz, RF⟩ := hrel
    have TZ : Hid (t.size ≤ 140737488351232) := Lib.hid (by have := SZ.out; omega)
    have tz : t.size ≤ 9223372036854775807 := by have := SZ.out; omega
    have HZ := Lib.hid hz; clear hz
    by_cases hk : (k : Int) < F ∧ ¬ t.size = 0
    · obtain ⟨hkF, h0⟩ := hk
      have RN := Lib.hid (fl_next hkF RF.out)
      have q1 : ¬ t.toList = [] := fun e => h0 (toList_nil' e)
      have q2 : t.toList.isEmpty = false := by cases e : t.toList with
        | nil => exact absurd e q1
        | cons a r => rfl
      have H1 := Lib.hid (skS_size true t)
      have H2 := Lib.hid (skS_size false (skS true t))
      clear h0
      go_wp2_with fail
      refine (skipped_any t true _ tz).mono ?_
      rintro e w' ⟨rfl, rfl⟩
      go_wp2_with fail
      refine (skipped_any (skS true t) false _ (by have := H1.out; omega)).mono ?_
      rintro e w' ⟨rfl, rfl⟩
      go_wp2_with fail
      go_round
      case rel => exact ⟨k + 1, _, rfl, by go_num, by have := H1.out; have := H2.out; have := HZ.out; omega, RN⟩
      case measure => simp [intOf]; omega
    · have ET := Lib.hid (fl_end (by omega) RF.out)
      have ex : (¬ (k : Int) < F) ∨ ((k : Int) < F ∧ t.size = 0) := by omega
      clear hk RF
      have tE : (¬ (k : Int) < F) ∨ ((k : Int) < F ∧ t.toList = []) := by
        rcases ex with hx | ⟨hx, h0⟩
        · exact .inl hx
        · exact .inr ⟨hx, toList_nil h0⟩
      clear ex
      rcases tE with hx | ⟨hx, h0⟩
      all_goals
        by_cases hw : 0 < Wd
        all_goals cases fold
        · have tw : 0 < Wd := hw
          have EC := Lib.hid (cut_2 (B := B) ET.out hw)
          have EU : Hid (ptS F B Wd false n W lo up C E s = ⟨(cutL F B Wd s.data.toList).toArray⟩) := Lib.hid rfl
          go_wp2_with fail
          go_ret
          exact ⟨ret_str (by rw [EU.out, EC.out]), ((Below.refl w.heap.size w).alloc (Nat.le_refl _) _).alloc (by rw [World.size_alloc]; omega) _⟩
        · have tw : 0 < Wd := hw
          have EC := Lib.hid (cut_2 (B := B) ET.out hw)
          have CZ := Lib.hid (cut_le F B Wd s)
          have EU : Hid (ptS F B Wd true n W lo up C E s = upS n W lo up C E ⟨(cutL F B Wd s.data.toList).toArray⟩) := Lib.hid rfl
          go_wp2_with fail
          refine (upper_any n v1 lo up v4 v5 W C E _ _ LO.out ZN.out (by rw [EC.out]; exact Nat.le_trans CZ.out SZ.out)).mono ?_
          rintro e w' ⟨rfl, hb⟩
          go_wp2_with fail
          go_ret
          exact ⟨ret_str (by rw [EU.out, EC.out]), below_step (below_step hb)⟩
        · have tw : ¬ 0 < Wd := hw
          have EC := Lib.hid (cut_3 (B := B) ET.out hw)
          have EU : Hid (ptS F B Wd false n W lo up C E s = ⟨(cutL F B Wd s.data.toList).toArray⟩) := Lib.hid rfl
          go_wp2_with fail
          go_ret
          exact ⟨ret_str (by rw [EU.out, EC.out]), ((Below.refl w.heap.size w).alloc (Nat.le_refl _) _).alloc (by rw [World.size_alloc]; omega) _⟩
        · have tw : ¬ 0 < Wd := hw
          have EC := Lib.hid (cut_3 (B := B) ET.out hw)
          have CZ := Lib.hid (cut_le F B Wd s)
          have EU : Hid (ptS F B Wd true n W lo up C E s = upS n W lo up C E ⟨(cutL F B Wd s.data.toList).toArray⟩) := Lib.hid rfl
          go_wp2_with fail
          refine (upper_any n v1 lo up v4 v5 W C E _ _ LO.out ZN.out (by rw [EC.out]; exact Nat.le_trans CZ.out SZ.out)).mono ?_
          rintro e w' ⟨rfl, hb⟩
          go_wp2_with fail
          go_ret
          exact ⟨ret_str (by rw [EU.out, EC.out]), below_step (below_step hb)⟩
end Go.Proofs.YtoohbgjfhchnmaaDoor
