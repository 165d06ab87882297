/- walks: the reference's group of lines with equal join fields (written by gen_pc.py) -/
import Derived.Test.YtbhdhcnbagjmcaaDoorPw
import Derived.Test.YtbhdhcnbagjmcaaDoorPq
namespace Go.Proofs.YtbhdhcnbagjmcaaDoor
open Go.RowKit
open Jn Lcl
theorem cat3 (z s y : ByteArray) : (z ++ s ++ y).data.toList = z.data.toList ++ (s.data.toList ++ y.data.toList) := by simp
theorem join_take (R : List (List UInt8)) (sp y : List UInt8) (i : Nat) (h : R[i]? = some y) : Lib.join (R.take (i + 1)) sp = if i = 0 then y else Lib.join (R.take i) sp ++ (sp ++ y) := by
  rw [List.take_add_one, h]
  by_cases h0 : i = 0
  · subst h0; rw [if_pos rfl]; simp [Lib.join]
  · rw [if_neg h0]
    cases hR : R.take i with
    | nil =>
      rcases List.take_eq_nil_iff.1 hR with h1 | h1
      · exact absurd h1 h0
      · rw [h1] at h; cases h
    | cons x r =>
      show Lib.join (x :: (r ++ [y])) sp = _
      rw [join_cons, join_cons, List.flatMap_append, List.append_assoc]
      simp
theorem grM_self (key : List UInt8 → List UInt8) (x : List UInt8) (r : List (List UInt8)) : grpN key (x :: r) = grM key (key x) (x :: r) := by
  rw [grM_yes rfl, show grpN key (x :: r) = 1 + grM key (key x) r from rfl]; omega
set_option maxRecDepth 100000 in
set_option maxHeartbeats 4000000 in
theorem rgroup_any (lines : List ByteArray) (v vl : Value) (i0 : Nat) (n sep : Int) (w : World) (hv : Strs w v lines) (hl : DLoc w vl) (hs : ∀ x ∈ lines, x.size ≤ 1048576) (hi : i0 < lines.length) (hq12 : lines.length ≤ 12) :
    Calls Tryd.prog 42 #[vl, v, .int .i64 i0, .int .i64 n, .int .i64 sep] w fun e w' => e = .returned (.int .i64 (grpN (keyL sep n) ((lines.map (·.data.toList)).drop i0) : Nat)) ∧ Hid (Below w.heap.size w w') := by
  obtain ⟨v1, rfl, hL⟩ := hl
  obtain ⟨q, hq⟩ : ∃ q, lines.length = q := ⟨_, rfl⟩
  have HQ := Lib.hid hq
  rw [hq] at hi hq12
  have B0 : Hid (Below w.heap.size w (w.alloc (.cells #[.string dNm, v1, .string dLo, .string dUp, .slice none 0 0, .slice none 0 0] 30))) := Lib.hid ((Below.refl w.heap.size w).alloc (Nat.le_refl _) _)
  have LA := Lib.hid (hL.below B0.out)
  have HV := Lib.hid (Strs.below hv B0.out)
  have HS := Lib.hid hs
  have N1 := heap_alloc_new w (.cells #[.string dNm, v1, .string dLo, .string dUp, .slice none 0 0, .slice none 0 0] 30)
  have D0 : Hid ((w.alloc (.cells #[.string dNm, v1, .string dLo, .string dUp, .slice none 0 0, .slice none 0 0] 30)).cell? ⟨w.heap.size, 0, none⟩ = some (.string dNm)) := Lib.hid (blk_cellx N1 0 _ rfl)
  have D1 : Hid ((w.alloc (.cells #[.string dNm, v1, .string dLo, .string dUp, .slice none 0 0, .slice none 0 0] 30)).cell? ⟨w.heap.size, 1, none⟩ = some (v1)) := Lib.hid (blk_cellx N1 1 _ rfl)
  have D2 : Hid ((w.alloc (.cells #[.string dNm, v1, .string dLo, .string dUp, .slice none 0 0, .slice none 0 0] 30)).cell? ⟨w.heap.size, 2, none⟩ = some (.string dLo)) := Lib.hid (blk_cellx N1 2 _ rfl)
  have D3 : Hid ((w.alloc (.cells #[.string dNm, v1, .string dLo, .string dUp, .slice none 0 0, .slice none 0 0] 30)).cell? ⟨w.heap.size, 3, none⟩ = some (.string dUp)) := Lib.hid (blk_cellx N1 3 _ rfl)
  have D4 : Hid ((w.alloc (.cells #[.string dNm, v1, .string dLo, .string dUp, .slice none 0 0, .slice none 0 0] 30)).cell? ⟨w.heap.size, 4, none⟩ = some (.slice none 0 0)) := Lib.hid (blk_cellx N1 4 _ rfl)
  have D5 : Hid ((w.alloc (.cells #[.string dNm, v1, .string dLo, .string dUp, .slice none 0 0, .slice none 0 0] 30)).cell? ⟨w.heap.size, 5, none⟩ = some (.slice none 0 0)) := Lib.hid (blk_cellx N1 5 _ rfl)
  clear N1 hv hL hq hs
  obtain ⟨a, cap, rfl, -, -, hc⟩ := HV.out
  rw [HQ.out]
  rw [HQ.out] at HV
  rcases hc with h0 | ⟨g, o, rfl, hg, hc⟩
  · exfalso; have := HQ.out; rw [h0] at this; simp at this; omega
  have HC := Lib.hid hc
  obtain ⟨y, hy⟩ : ∃ y, lines[i0]? = some y := ⟨_, List.getElem?_eq_getElem (by rw [HQ.out]; exact hi)⟩
  have E1 := Lib.hid (hc i0 y hy)
  have m0 : (lines.map (·.data.toList))[i0]? = some y.data.toList := by rw [List.getElem?_map, hy]; rfl
  have HK : Hid (grpN (keyL sep n) ((lines.map (·.data.toList)).drop i0) = grM (keyL sep n) (keyL sep n y.data.toList) ((lines.map (·.data.toList)).drop i0)) := Lib.hid (by rw [drop_get m0]; exact grM_self _ _ _)
  have SY := Lib.hid (HS.out y (List.mem_of_getElem? hy))
  clear hc hg hy m0
  go_enter Tryd.func42, Tryd.ntmps42
  go_wp2_with fail
  go_loopw [11] (fun i wr => ∃ k : Nat, i = .int .i64 (k : Int) ∧ i0 ≤ k ∧ k ≤ q ∧ Hid (grpN (keyL sep n) ((lines.map (·.data.toList)).drop i0) + i0 = k + grM (keyL sep n) (keyL sep n y.data.toList) ((lines.map (·.data.toList)).drop k)) ∧ Hid (Below (w.alloc (.cells #[.string dNm, v1, .string dLo, .string dUp, .slice none 0 0, .slice none 0 0] 30)).heap.size (w.alloc (.cells #[.string dNm, v1, .string dLo, .string dUp, .slice none 0 0, .slice none 0 0] 30)) wr)) (fun i _ => q + 1 - (intOf i).toNat)
  case atStart => exact ⟨i0, rfl, Nat.le_refl _, by omega, Lib.hid (by rw [HK.out]; omega), Lib.hid (Below.refl _ _)⟩
  case round =>
    obtain ⟨k, rfl, hk1, hk, HU, BK⟩ := hrel
    clear HK
    by_cases hlt : k < q
    · obtain ⟨x, hx⟩ : ∃ x, lines[k]? = some x := ⟨_, List.getElem?_eq_getElem (by rw [HQ.out]; exact hlt)⟩
      have e0 := Lib.hid (kp BK.out (HC.out k x hx))
      have e1 := Lib.hid (kp BK.out E1.out)
      have d0 := Lib.hid (kp BK.out D0.out)
      have d1 := Lib.hid (kp BK.out D1.out)
      have d2 := Lib.hid (kp BK.out D2.out)
      have d3 := Lib.hid (kp BK.out D3.out)
      have d4 := Lib.hid (kp BK.out D4.out)
      have d5 := Lib.hid (kp BK.out D5.out)
      have SX := Lib.hid (HS.out x (List.mem_of_getElem? hx))
      have KX := Lib.hid (fun W => key_any x n sep W SX.out)
      have KY := Lib.hid (fun W => key_any y n sep W SY.out)
      have m1 : (lines.map (·.data.toList))[k]? = some x.data.toList := by rw [List.getElem?_map, hx]; rfl
      have DR := Lib.hid (drop_get m1)
      have VL := Lib.hid (show DLoc wr (lval dNm v1 dLo dUp (.slice none 0 0) (.slice none 0 0)) from ⟨v1, rfl, LA.out.below BK.out⟩)
      have S0 := keep8 (Below.refl wr.heap.size wr).drew d0.out d1.out d2.out d3.out d4.out d5.out e0.out e1.out
      have j3 : IntKind.i64.wrap (k : Int) = (k : Int) := IntWalk.i64_in _ (by omega)
      have j4 : IntKind.i64.wrap (i0 : Int) = (i0 : Int) := IntWalk.i64_in _ (by omega)
      have p0 : (0 : Int) ≤ (k : Int) := by omega
      have p1 : (k : Int) < (q : Int) := by omega
      have p2 : (0 : Int) ≤ (i0 : Int) := by omega
      have p3 : (i0 : Int) < (q : Int) := by omega
      clear hx m1
      by_cases hkey : keyL sep n x.data.toList = keyL sep n y.data.toList
      · have HU2 : Hid (grpN (keyL sep n) ((lines.map (·.data.toList)).drop i0) + i0 = (k + 1) + grM (keyL sep n) (keyL sep n y.data.toList) ((lines.map (·.data.toList)).drop (k + 1))) := Lib.hid (by rw [HU.out, DR.out, grM_yes hkey]; omega)
        obtain ⟨u, hu⟩ : ∃ u, bA (keyL sep n y.data.toList) = u := ⟨_, rfl⟩
        have ZU : Hid (u.size ≤ 1048576) := Lib.hid (by rw [← hu]; exact key_sz _ _ _ SY.out)
        have CMP := Lib.hid (fun vl W h => drcompare_any vl u u W h ZU.out ZU.out)
        rw [cmpD_refl] at CMP
        rw [hkey, hu] at KX
        rw [hu] at KY
        clear HU DR hkey hu
        go_wp2_with fail
        go_region_held3 (fun w' => Below wr.heap.size wr w' ∧ w'.cell? ⟨w.heap.size, 0, none⟩ = some (.string dNm) ∧ w'.cell? ⟨w.heap.size, 1, none⟩ = some (v1) ∧ w'.cell? ⟨w.heap.size, 2, none⟩ = some (.string dLo) ∧ w'.cell? ⟨w.heap.size, 3, none⟩ = some (.string dUp) ∧ w'.cell? ⟨w.heap.size, 4, none⟩ = some (.slice none 0 0) ∧ w'.cell? ⟨w.heap.size, 5, none⟩ = some (.slice none 0 0) ∧ w'.cell? ⟨g, o + k, none⟩ = some (.string x) ∧ w'.cell? ⟨g, o + i0, none⟩ = some (.string y)) (first | exact S0)
          (first | (go_at_call 31; (first | (with_reducible refine (KX.out _).mono ?_) | (with_reducible refine (KY.out _).mono ?_)); rintro _ w1 ⟨rfl, B1⟩; have S0 := keep8 (S0.1.trans (B1.out.mono S0.1.size)) d0.out d1.out d2.out d3.out d4.out d5.out e0.out e1.out) | (go_at_call 30; (with_reducible refine (CMP.out _ _ (VL.out.below S0.1)).mono ?_); rintro _ w1 ⟨rfl, B1⟩; have S0 := keep8 (S0.1.trans (B1.out.mono S0.1.size)) d0.out d1.out d2.out d3.out d4.out d5.out e0.out e1.out))
        go_wp2_with fail
        go_roundw
        case rel => exact ⟨k + 1, by go_num, by omega, by omega, HU2, Lib.hid (BK.out.trans (S0.1.mono BK.out.size))⟩
        case measure => simp [intOf]; omega
      · have HU2 : Hid (grpN (keyL sep n) ((lines.map (·.data.toList)).drop i0) + i0 = k) := Lib.hid (by rw [HU.out, DR.out, grM_no hkey]; omega)
        obtain ⟨kx, hkx⟩ : ∃ kx, bA (keyL sep n x.data.toList) = kx := ⟨_, rfl⟩
        obtain ⟨ky, hky⟩ : ∃ ky, bA (keyL sep n y.data.toList) = ky := ⟨_, rfl⟩
        have ZX : Hid (kx.size ≤ 1048576) := Lib.hid (by rw [← hkx]; exact key_sz _ _ _ SX.out)
        have ZY : Hid (ky.size ≤ 1048576) := Lib.hid (by rw [← hky]; exact key_sz _ _ _ SY.out)
        rw [hkx] at KX
        rw [hky] at KY
        obtain ⟨c, hcm⟩ : ∃ c, cmpD kx.data.toList ky.data.toList = c := ⟨_, rfl⟩
        have CMP := Lib.hid (fun vl W h => drcompare_any vl kx ky W h ZX.out ZY.out)
        rw [hcm] at CMP
        have c0 : (c == 0) = false := beq_eq_false_iff_ne.2 (fun e => hkey (by rw [e] at hcm; have := cmpD_eq hcm; rw [← hkx, ← hky] at this; simpa using this))
        clear HU DR hkey hkx hky hcm
        go_wp2_with fail
        go_region_held3 (fun w' => Below wr.heap.size wr w' ∧ w'.cell? ⟨w.heap.size, 0, none⟩ = some (.string dNm) ∧ w'.cell? ⟨w.heap.size, 1, none⟩ = some (v1) ∧ w'.cell? ⟨w.heap.size, 2, none⟩ = some (.string dLo) ∧ w'.cell? ⟨w.heap.size, 3, none⟩ = some (.string dUp) ∧ w'.cell? ⟨w.heap.size, 4, none⟩ = some (.slice none 0 0) ∧ w'.cell? ⟨w.heap.size, 5, none⟩ = some (.slice none 0 0) ∧ w'.cell? ⟨g, o + k, none⟩ = some (.string x) ∧ w'.cell? ⟨g, o + i0, none⟩ = some (.string y)) (first | exact S0)
          (first | (go_at_call 31; (first | (with_reducible refine (KX.out _).mono ?_) | (with_reducible refine (KY.out _).mono ?_)); rintro _ w1 ⟨rfl, B1⟩; have S0 := keep8 (S0.1.trans (B1.out.mono S0.1.size)) d0.out d1.out d2.out d3.out d4.out d5.out e0.out e1.out) | (go_at_call 30; (with_reducible refine (CMP.out _ _ (VL.out.below S0.1)).mono ?_); rintro _ w1 ⟨rfl, B1⟩; have S0 := keep8 (S0.1.trans (B1.out.mono S0.1.size)) d0.out d1.out d2.out d3.out d4.out d5.out e0.out e1.out))
        go_wp2_with fail
        go_ret
        exact ⟨by rw [show (k : Int) - (i0 : Int) = (grpN (keyL sep n) ((lines.map (·.data.toList)).drop i0) : Nat) from (by have := HU2.out; omega)]; rfl, Lib.hid (B0.out.trans ((BK.out.trans (S0.1.mono BK.out.size)).mono B0.out.size))⟩
    · obtain rfl : k = q := by omega
      have HU2 : Hid (grpN (keyL sep n) ((lines.map (·.data.toList)).drop i0) + i0 = k) := Lib.hid (by rw [HU.out, List.drop_eq_nil_of_le (by rw [List.length_map, HQ.out]; exact Nat.le_refl _)]; rfl)
      clear HU
      go_wp2_with fail
      go_quiet (fail)
      go_wp2_with fail
      go_ret
      exact ⟨by rw [show (k : Int) - (i0 : Int) = (grpN (keyL sep n) ((lines.map (·.data.toList)).drop i0) : Nat) from (by have := HU2.out; omega)]; rfl, Lib.hid (B0.out.trans ((BK.out.trans ((bel_drewN _ _).mono BK.out.size)).mono B0.out.size))⟩
end Go.Proofs.YtbhdhcnbagjmcaaDoor
