/- walks: the part of a line that counts, the reference -/
import Derived.Test.YtoohbgjfhchnmaaDoorQo
namespace Go.Proofs.YtoohbgjfhchnmaaDoor
open Go.RowKit Go.Maps
open Lcl
theorem rc_0 {F B : Int} {t s : ByteArray} (h : t.data.toList = flL F.toNat s.data.toList) (hb : ¬ 0 < B) : t.data.toList = (flL F.toNat s.data.toList).drop B.toNat := by
  rw [show B.toNat = 0 by omega, List.drop_zero, h]
theorem rc_1 {F B : Int} {t s : ByteArray} (h : t.data.toList = flL F.toNat s.data.toList) (hb : (t.size : Int) < B) : ([] : List UInt8) = (flL F.toNat s.data.toList).drop B.toNat := by
  have hl : (flL F.toNat s.data.toList).length = t.size := by rw [← h]; rfl
  rw [List.drop_of_length_le (by omega)]
theorem rc_2 {F B : Int} {t s : ByteArray} (h : t.data.toList = flL F.toNat s.data.toList) : (t.extract B.toNat t.size).data.toList = (flL F.toNat s.data.toList).drop B.toNat := by
  rw [ext_to, h]
theorem rw_0 {F B Wd : Int} {u s : ByteArray} (h : u.data.toList = (flL F.toNat s.data.toList).drop B.toNat) (hw : ¬ 0 < Wd) : u = ⟨(cutL F B Wd s.data.toList).toArray⟩ := by
  apply ba_eq
  show _ = cutL F B Wd s.data.toList
  unfold cutL
  rw [if_neg hw, h]
theorem rw_1 {F B Wd : Int} {u s : ByteArray} (h : u.data.toList = (flL F.toNat s.data.toList).drop B.toNat) (hw : 0 < Wd) (hl : ¬ Wd < (u.size : Int)) : u = ⟨(cutL F B Wd s.data.toList).toArray⟩ := by
  apply ba_eq
  show _ = cutL F B Wd s.data.toList
  unfold cutL
  rw [if_pos hw, ← h, List.take_of_length_le (by rw [len_of]; omega)]
theorem rw_2 {F B Wd : Int} {u s : ByteArray} (h : u.data.toList = (flL F.toNat s.data.toList).drop B.toNat) (hw : 0 < Wd) : u.extract 0 Wd.toNat = ⟨(cutL F B Wd s.data.toList).toArray⟩ := by
  apply ba_eq
  show _ = cutL F B Wd s.data.toList
  unfold cutL
  rw [if_pos hw, Lib.extract_data, h, List.drop_zero, Nat.sub_zero]
theorem fd_size (t : ByteArray) : (⟨(fdL t.data.toList).toArray⟩ : ByteArray).size ≤ t.size := Nat.le_trans (skL_le _ _) (skL_le _ _)
theorem fl_nextr {F : Int} {k : Nat} {t s : ByteArray} (hk : (k : Int) < F) (h : flL (F.toNat - k) t.data.toList = flL F.toNat s.data.toList) : flL (F.toNat - (k + 1)) (⟨(fdL t.data.toList).toArray⟩ : ByteArray).data.toList = flL F.toNat s.data.toList := by
  rw [← h, show F.toNat - k = (F.toNat - (k + 1)) + 1 by omega]
  rfl
set_option maxRecDepth 100000 in
set_option maxHeartbeats 16000000 in
theorem rpart_any (F B Wd : Int) (cnt fold rep sg : Bool) (n : ByteArray) (v1 : Value) (lo up : ByteArray) (v4 v5 : Value) (W : List Int) (C : List Cl) (E : List El) (s : ByteArray) (w : World) (hL : LocAt w v1 v4 v5 W C E) (hn : n.size ≤ 9223372036854775807) (hs : s.size ≤ 140737488351232)
    (hF : F ≤ 9223372036854775807) (hB : B ≤ 9223372036854775807) (hW : Wd ≤ 9223372036854775807) :
    Calls Tryd.prog 31 #[spv F B Wd cnt fold rep sg, lval n v1 lo up v4 v5, .string s] w fun e w' => e = .returned (.string (ptS F B Wd fold n W lo up C E s)) ∧ Below w.heap.size w w' := by
  have LO := Lib.hid (hL.below (((Below.refl w.heap.size w).alloc (Nat.le_refl _) (.cells #[.int .i64 F, .int .i64 B, .int .i64 Wd, .bool cnt, .bool fold, .bool rep, .bool sg] 23)).alloc (by rw [World.size_alloc]; omega) (.cells #[.string n, v1, .string lo, .string up, v4, v5] 28))); clear hL
  have ZN := Lib.hid hn; clear hn
  have SZ := Lib.hid hs; clear hs
  go_enter Tryd.func31, Tryd.ntmps31
  go_wp2_with fail
  go_loop [2, 7] (fun v i => ∃ (k : Nat) (t : ByteArray), v = .string t ∧ i = .int .i64 k ∧ t.size ≤ s.size ∧ Hid (flL (F.toNat - k) t.data.toList = flL F.toNat s.data.toList)) (fun _ i => F.toNat - (intOf i).toNat)
  case atStart => exact ⟨0, s, rfl, rfl, Nat.le_refl _, Lib.hid rfl⟩
  case round =>
    obtain ⟨k, t, rfl, rfl, hz, RF⟩ := hrel
    have tz : t.size ≤ 9223372036854775807 := by have := SZ.out; omega
    have HZ := Lib.hid hz; clear hz
    by_cases hk : (k : Int) < F ∧ 0 < t.size
    · obtain ⟨hkF, h0⟩ := hk
      have RN := Lib.hid (fl_nextr hkF RF.out)
      have H1 := Lib.hid (fd_size t)
      go_wp2_with fail
      refine (rfield_any t _ tz).mono ?_
      rintro e w' ⟨rfl, rfl⟩
      go_wp2_with fail
      go_round
      case rel => exact ⟨k + 1, _, rfl, by go_num, by have := H1.out; have := HZ.out; omega, RN⟩
      case measure => simp [intOf]; omega
    · have ET := Lib.hid (fl_end (by omega) RF.out)
      have tE : (¬ (k : Int) < F) ∨ ((k : Int) < F ∧ ¬ 0 < t.size) := by omega
      clear hk RF
      rcases tE with hx | ⟨hx, h0⟩
      · by_cases b0 : 0 < B
        · by_cases b1 : (t.size : Int) < B
          · skip
            have HU := Lib.hid (show (ByteArray.empty).data.toList = (flL F.toNat s.data.toList).drop B.toNat from rc_1 ET.out b1)
            by_cases w0 : 0 < Wd
            · have w1 : ¬ Wd < 0 := by omega
              cases fold with
              | false =>
                have EC := Lib.hid (rw_1 HU.out w0 (by show ¬ Wd < ((0 : Nat) : Int); omega))
                have EU : Hid (ptS F B Wd false n W lo up C E s = ⟨(cutL F B Wd s.data.toList).toArray⟩) := Lib.hid rfl
                go_wp2_with fail
                go_ret
                exact ⟨ret_str (by rw [EU.out, EC.out]), ((Below.refl w.heap.size w).alloc (Nat.le_refl _) _).alloc (by rw [World.size_alloc]; omega) _⟩
              | true =>
                have EC := Lib.hid (rw_1 HU.out w0 (by show ¬ Wd < ((0 : Nat) : Int); omega))
                have CZ := Lib.hid (cut_le F B Wd s)
                have EU : Hid (ptS F B Wd true n W lo up C E s = upS n W lo up C E ⟨(cutL F B Wd s.data.toList).toArray⟩) := Lib.hid rfl
                go_wp2_with fail
                refine (rupper_any n v1 lo up v4 v5 W C E _ _ LO.out ZN.out (by rw [EC.out]; exact Nat.le_trans CZ.out SZ.out)).mono ?_
                rintro e w' ⟨rfl, hb⟩
                go_wp2_with fail
                go_ret
                exact ⟨ret_str (by rw [EU.out, EC.out]), below_step (below_step hb)⟩
            · skip
              cases fold with
              | false =>
                have EC := Lib.hid (rw_0 HU.out w0)
                have EU : Hid (ptS F B Wd false n W lo up C E s = ⟨(cutL F B Wd s.data.toList).toArray⟩) := Lib.hid rfl
                go_wp2_with fail
                go_ret
                exact ⟨ret_str (by rw [EU.out, EC.out]), ((Below.refl w.heap.size w).alloc (Nat.le_refl _) _).alloc (by rw [World.size_alloc]; omega) _⟩
              | true =>
                have EC := Lib.hid (rw_0 HU.out w0)
                have CZ := Lib.hid (cut_le F B Wd s)
                have EU : Hid (ptS F B Wd true n W lo up C E s = upS n W lo up C E ⟨(cutL F B Wd s.data.toList).toArray⟩) := Lib.hid rfl
                go_wp2_with fail
                refine (rupper_any n v1 lo up v4 v5 W C E _ _ LO.out ZN.out (by rw [EC.out]; exact Nat.le_trans CZ.out SZ.out)).mono ?_
                rintro e w' ⟨rfl, hb⟩
                go_wp2_with fail
                go_ret
                exact ⟨ret_str (by rw [EU.out, EC.out]), below_step (below_step hb)⟩
          · skip
            have HU := Lib.hid (rc_2 (B := B) ET.out)
            by_cases w0 : 0 < Wd
            · by_cases w1 : Wd < ((t.size - B.toNat : Nat) : Int)
              · skip
                cases fold with
                | false =>
                  have EC := Lib.hid (rw_2 HU.out w0)
                  have EU : Hid (ptS F B Wd false n W lo up C E s = ⟨(cutL F B Wd s.data.toList).toArray⟩) := Lib.hid rfl
                  go_wp2_with fail
                  go_ret
                  exact ⟨ret_str (by rw [EU.out, EC.out]), ((Below.refl w.heap.size w).alloc (Nat.le_refl _) _).alloc (by rw [World.size_alloc]; omega) _⟩
                | true =>
                  have EC := Lib.hid (rw_2 HU.out w0)
                  have CZ := Lib.hid (cut_le F B Wd s)
                  have EU : Hid (ptS F B Wd true n W lo up C E s = upS n W lo up C E ⟨(cutL F B Wd s.data.toList).toArray⟩) := Lib.hid rfl
                  go_wp2_with fail
                  refine (rupper_any n v1 lo up v4 v5 W C E _ _ LO.out ZN.out (by rw [EC.out]; exact Nat.le_trans CZ.out SZ.out)).mono ?_
                  rintro e w' ⟨rfl, hb⟩
                  go_wp2_with fail
                  go_ret
                  exact ⟨ret_str (by rw [EU.out, EC.out]), below_step (below_step hb)⟩
              · skip
                cases fold with
                | false =>
                  have EC := Lib.hid (rw_1 HU.out w0 (by rw [show (t.extract B.toNat t.size).size = t.size - B.toNat by rw [← len_of, ext_to, List.length_drop]; rfl]; exact w1))
                  have EU : Hid (ptS F B Wd false n W lo up C E s = ⟨(cutL F B Wd s.data.toList).toArray⟩) := Lib.hid rfl
                  go_wp2_with fail
                  go_ret
                  exact ⟨ret_str (by rw [EU.out, EC.out]), ((Below.refl w.heap.size w).alloc (Nat.le_refl _) _).alloc (by rw [World.size_alloc]; omega) _⟩
                | true =>
                  have EC := Lib.hid (rw_1 HU.out w0 (by rw [show (t.extract B.toNat t.size).size = t.size - B.toNat by rw [← len_of, ext_to, List.length_drop]; rfl]; exact w1))
                  have CZ := Lib.hid (cut_le F B Wd s)
                  have EU : Hid (ptS F B Wd true n W lo up C E s = upS n W lo up C E ⟨(cutL F B Wd s.data.toList).toArray⟩) := Lib.hid rfl
                  go_wp2_with fail
                  refine (rupper_any n v1 lo up v4 v5 W C E _ _ LO.out ZN.out (by rw [EC.out]; exact Nat.le_trans CZ.out SZ.out)).mono ?_
                  rintro e w' ⟨rfl, hb⟩
                  go_wp2_with fail
                  go_ret
                  exact ⟨ret_str (by rw [EU.out, EC.out]), below_step (below_step hb)⟩
            · skip
              cases fold with
              | false =>
                have EC := Lib.hid (rw_0 HU.out w0)
                have EU : Hid (ptS F B Wd false n W lo up C E s = ⟨(cutL F B Wd s.data.toList).toArray⟩) := Lib.hid rfl
                go_wp2_with fail
                go_ret
                exact ⟨ret_str (by rw [EU.out, EC.out]), ((Below.refl w.heap.size w).alloc (Nat.le_refl _) _).alloc (by rw [World.size_alloc]; omega) _⟩
              | true =>
                have EC := Lib.hid (rw_0 HU.out w0)
                have CZ := Lib.hid (cut_le F B Wd s)
                have EU : Hid (ptS F B Wd true n W lo up C E s = upS n W lo up C E ⟨(cutL F B Wd s.data.toList).toArray⟩) := Lib.hid rfl
                go_wp2_with fail
                refine (rupper_any n v1 lo up v4 v5 W C E _ _ LO.out ZN.out (by rw [EC.out]; exact Nat.le_trans CZ.out SZ.out)).mono ?_
                rintro e w' ⟨rfl, hb⟩
                go_wp2_with fail
                go_ret
                exact ⟨ret_str (by rw [EU.out, EC.out]), below_step (below_step hb)⟩
        · skip
          have HU := Lib.hid (rc_0 ET.out b0)
          by_cases w0 : 0 < Wd
          · by_cases w1 : Wd < (t.size : Int)
            · skip
              cases fold with
              | false =>
                have EC := Lib.hid (rw_2 HU.out w0)
                have EU : Hid (ptS F B Wd false n W lo up C E s = ⟨(cutL F B Wd s.data.toList).toArray⟩) := Lib.hid rfl
                go_wp2_with fail
                go_ret
                exact ⟨ret_str (by rw [EU.out, EC.out]), ((Below.refl w.heap.size w).alloc (Nat.le_refl _) _).alloc (by rw [World.size_alloc]; omega) _⟩
              | true =>
                have EC := Lib.hid (rw_2 HU.out w0)
                have CZ := Lib.hid (cut_le F B Wd s)
                have EU : Hid (ptS F B Wd true n W lo up C E s = upS n W lo up C E ⟨(cutL F B Wd s.data.toList).toArray⟩) := Lib.hid rfl
                go_wp2_with fail
                refine (rupper_any n v1 lo up v4 v5 W C E _ _ LO.out ZN.out (by rw [EC.out]; exact Nat.le_trans CZ.out SZ.out)).mono ?_
                rintro e w' ⟨rfl, hb⟩
                go_wp2_with fail
                go_ret
                exact ⟨ret_str (by rw [EU.out, EC.out]), below_step (below_step hb)⟩
            · skip
              cases fold with
              | false =>
                have EC := Lib.hid (rw_1 HU.out w0 w1)
                have EU : Hid (ptS F B Wd false n W lo up C E s = ⟨(cutL F B Wd s.data.toList).toArray⟩) := Lib.hid rfl
                go_wp2_with fail
                go_ret
                exact ⟨ret_str (by rw [EU.out, EC.out]), ((Below.refl w.heap.size w).alloc (Nat.le_refl _) _).alloc (by rw [World.size_alloc]; omega) _⟩
              | true =>
                have EC := Lib.hid (rw_1 HU.out w0 w1)
                have CZ := Lib.hid (cut_le F B Wd s)
                have EU : Hid (ptS F B Wd true n W lo up C E s = upS n W lo up C E ⟨(cutL F B Wd s.data.toList).toArray⟩) := Lib.hid rfl
                go_wp2_with fail
                refine (rupper_any n v1 lo up v4 v5 W C E _ _ LO.out ZN.out (by rw [EC.out]; exact Nat.le_trans CZ.out SZ.out)).mono ?_
                rintro e w' ⟨rfl, hb⟩
                go_wp2_with fail
                go_ret
                exact ⟨ret_str (by rw [EU.out, EC.out]), below_step (below_step hb)⟩
          · skip
            cases fold with
            | false =>
              have EC := Lib.hid (rw_0 HU.out w0)
              have EU : Hid (ptS F B Wd false n W lo up C E s = ⟨(cutL F B Wd s.data.toList).toArray⟩) := Lib.hid rfl
              go_wp2_with fail
              go_ret
              exact ⟨ret_str (by rw [EU.out, EC.out]), ((Below.refl w.heap.size w).alloc (Nat.le_refl _) _).alloc (by rw [World.size_alloc]; omega) _⟩
            | true =>
              have EC := Lib.hid (rw_0 HU.out w0)
              have CZ := Lib.hid (cut_le F B Wd s)
              have EU : Hid (ptS F B Wd true n W lo up C E s = upS n W lo up C E ⟨(cutL F B Wd s.data.toList).toArray⟩) := Lib.hid rfl
              go_wp2_with fail
              refine (rupper_any n v1 lo up v4 v5 W C E _ _ LO.out ZN.out (by rw [EC.out]; exact Nat.le_trans CZ.out SZ.out)).mono ?_
              rintro e w' ⟨rfl, hb⟩
              go_wp2_with fail
              go_ret
              exact ⟨ret_str (by rw [EU.out, EC.out]), below_step (below_step hb)⟩
      · by_cases b0 : 0 < B
        · have b1 : (t.size : Int) < B := by omega
          have HU := Lib.hid (show (ByteArray.empty).data.toList = (flL F.toNat s.data.toList).drop B.toNat from rc_1 ET.out b1)
          by_cases w0 : 0 < Wd
          · have w1 : ¬ Wd < 0 := by omega
            cases fold with
            | false =>
              have EC := Lib.hid (rw_1 HU.out w0 (by show ¬ Wd < ((0 : Nat) : Int); omega))
              have EU : Hid (ptS F B Wd false n W lo up C E s = ⟨(cutL F B Wd s.data.toList).toArray⟩) := Lib.hid rfl
              go_wp2_with fail
              go_ret
              exact ⟨ret_str (by rw [EU.out, EC.out]), ((Below.refl w.heap.size w).alloc (Nat.le_refl _) _).alloc (by rw [World.size_alloc]; omega) _⟩
            | true =>
              have EC := Lib.hid (rw_1 HU.out w0 (by show ¬ Wd < ((0 : Nat) : Int); omega))
              have CZ := Lib.hid (cut_le F B Wd s)
              have EU : Hid (ptS F B Wd true n W lo up C E s = upS n W lo up C E ⟨(cutL F B Wd s.data.toList).toArray⟩) := Lib.hid rfl
              go_wp2_with fail
              refine (rupper_any n v1 lo up v4 v5 W C E _ _ LO.out ZN.out (by rw [EC.out]; exact Nat.le_trans CZ.out SZ.out)).mono ?_
              rintro e w' ⟨rfl, hb⟩
              go_wp2_with fail
              go_ret
              exact ⟨ret_str (by rw [EU.out, EC.out]), below_step (below_step hb)⟩
          · skip
            cases fold with
            | false =>
              have EC := Lib.hid (rw_0 HU.out w0)
              have EU : Hid (ptS F B Wd false n W lo up C E s = ⟨(cutL F B Wd s.data.toList).toArray⟩) := Lib.hid rfl
              go_wp2_with fail
              go_ret
              exact ⟨ret_str (by rw [EU.out, EC.out]), ((Below.refl w.heap.size w).alloc (Nat.le_refl _) _).alloc (by rw [World.size_alloc]; omega) _⟩
            | true =>
              have EC := Lib.hid (rw_0 HU.out w0)
              have CZ := Lib.hid (cut_le F B Wd s)
              have EU : Hid (ptS F B Wd true n W lo up C E s = upS n W lo up C E ⟨(cutL F B Wd s.data.toList).toArray⟩) := Lib.hid rfl
              go_wp2_with fail
              refine (rupper_any n v1 lo up v4 v5 W C E _ _ LO.out ZN.out (by rw [EC.out]; exact Nat.le_trans CZ.out SZ.out)).mono ?_
              rintro e w' ⟨rfl, hb⟩
              go_wp2_with fail
              go_ret
              exact ⟨ret_str (by rw [EU.out, EC.out]), below_step (below_step hb)⟩
        · skip
          have HU := Lib.hid (rc_0 ET.out b0)
          by_cases w0 : 0 < Wd
          · have w1 : ¬ Wd < (t.size : Int) := by omega
            cases fold with
            | false =>
              have EC := Lib.hid (rw_1 HU.out w0 w1)
              have EU : Hid (ptS F B Wd false n W lo up C E s = ⟨(cutL F B Wd s.data.toList).toArray⟩) := Lib.hid rfl
              go_wp2_with fail
              go_ret
              exact ⟨ret_str (by rw [EU.out, EC.out]), ((Below.refl w.heap.size w).alloc (Nat.le_refl _) _).alloc (by rw [World.size_alloc]; omega) _⟩
            | true =>
              have EC := Lib.hid (rw_1 HU.out w0 w1)
              have CZ := Lib.hid (cut_le F B Wd s)
              have EU : Hid (ptS F B Wd true n W lo up C E s = upS n W lo up C E ⟨(cutL F B Wd s.data.toList).toArray⟩) := Lib.hid rfl
              go_wp2_with fail
              refine (rupper_any n v1 lo up v4 v5 W C E _ _ LO.out ZN.out (by rw [EC.out]; exact Nat.le_trans CZ.out SZ.out)).mono ?_
              rintro e w' ⟨rfl, hb⟩
              go_wp2_with fail
              go_ret
              exact ⟨ret_str (by rw [EU.out, EC.out]), below_step (below_step hb)⟩
          · skip
            cases fold with
            | false =>
              have EC := Lib.hid (rw_0 HU.out w0)
              have EU : Hid (ptS F B Wd false n W lo up C E s = ⟨(cutL F B Wd s.data.toList).toArray⟩) := Lib.hid rfl
              go_wp2_with fail
              go_ret
              exact ⟨ret_str (by rw [EU.out, EC.out]), ((Below.refl w.heap.size w).alloc (Nat.le_refl _) _).alloc (by rw [World.size_alloc]; omega) _⟩
            | true =>
              have EC := Lib.hid (rw_0 HU.out w0)
              have CZ := Lib.hid (cut_le F B Wd s)
              have EU : Hid (ptS F B Wd true n W lo up C E s = upS n W lo up C E ⟨(cutL F B Wd s.data.toList).toArray⟩) := Lib.hid rfl
              go_wp2_with fail
              refine (rupper_any n v1 lo up v4 v5 W C E _ _ LO.out ZN.out (by rw [EC.out]; exact Nat.le_trans CZ.out SZ.out)).mono ?_
              rintro e w' ⟨rfl, hb⟩
              go_wp2_with fail
              go_ret
              exact ⟨ret_str (by rw [EU.out, EC.out]), below_step (below_step hb)⟩
end Go.Proofs.YtoohbgjfhchnmaaDoor
