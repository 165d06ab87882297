/- walks: get, field, key; the default locale; Compare in it -/
import Derived.Test.YtbhdhcnbagjmcaaDoorPd
import Derived.Test.YtbhdhcnbagjmcaaDoorZh
import Derived.Test.YtbhdhcnbagjmcaaDoorQi
import Derived.Test.YtbhdhcnbagjmcaaDoorCa
namespace Go.Proofs.YtbhdhcnbagjmcaaDoor
open Go.RowKit
open Jn Lcl
theorem getL_lo {L : List (List UInt8)} {n : Int} (h : n < 1) : getL L n = [] := if_pos h
theorem getL_hi {L : List (List UInt8)} {n : Int} (h1 : ¬ n < 1) (h : (L.length : Int) < n) : getL L n = [] := by
  unfold getL; rw [if_neg h1, List.getD_eq_getElem?_getD, List.getElem?_eq_none (by omega)]; rfl
theorem getL_at {L : List (List UInt8)} {k : Nat} (h : k < L.length) : getL L ((k : Int) + 1) = L[k] := by
  unfold getL; rw [if_neg (by omega), show ((k : Int) + 1 - 1).toNat = k by omega, List.getD_eq_getElem?_getD, List.getElem?_eq_getElem h]; rfl
set_option maxRecDepth 100000 in
theorem get_any (L : List (List UInt8)) (v : Value) (n : Int) (w : World) (h : LSt w v L) :
    Calls Tryd.prog 28 #[v, .int .i64 n] w fun e w' => e = .returned (.string (bA (getL L n))) ∧ w' = w := by
  have hl := Strs.len h
  rw [List.length_map] at hl
  unfold maxLen at hl
  obtain ⟨m, hm⟩ : ∃ m, L.length = m := ⟨_, rfl⟩
  have HM := Lib.hid hm
  by_cases h1 : n < 1
  · have G := Lib.hid (getL_lo (L := L) h1)
    obtain ⟨a, cap, rfl, -⟩ := h
    rw [List.length_map, hm]
    clear hm hl
    go_enter Tryd.func28, Tryd.ntmps28
    go_wp2_with fail
    go_ret
    exact ⟨by rw [G.out]; rfl, rfl⟩
  · by_cases h2 : (m : Int) < n
    · have G := Lib.hid (getL_hi (L := L) h1 (by rw [hm]; exact h2))
      obtain ⟨a, cap, rfl, -⟩ := h
      rw [List.length_map, hm]
      clear hm hl
      go_enter Tryd.func28, Tryd.ntmps28
      go_wp2_with fail
      go_ret
      exact ⟨by rw [G.out]; rfl, rfl⟩
    · obtain ⟨k, rfl⟩ : ∃ k : Nat, n = (k : Int) + 1 := ⟨(n - 1).toNat, by omega⟩
      have hk : k < L.length := by omega
      have G := Lib.hid (getL_at hk)
      obtain ⟨g, o, cap, rfl, -, -, -, hc⟩ := Strs.cons h (fun e => by rw [List.map_eq_nil_iff] at e; rw [e] at hk; exact absurd hk (Nat.not_lt_zero _))
      have c0 := hc k (bA L[k]) (by rw [List.getElem?_map, List.getElem?_eq_getElem hk]; rfl)
      rw [List.length_map, hm]
      rw [hm] at hk hl
      have i1 : (k : Int) + 1 - 1 = k := by omega
      clear hm h hc h1 h2
      go_enter Tryd.func28, Tryd.ntmps28
      go_wp2_with fail
      go_ret
      exact ⟨by rw [G.out]; rfl, rfl⟩
set_option maxRecDepth 100000 in
theorem field_any (L : List (List UInt8)) (v : Value) (n : Int) (w : World) (b : Bool) (h : LSt w v L) (hb : Hid (decide (1 ≤ n ∧ n ≤ (L.length : Int)) = b)) :
    Calls Tryd.prog 53 #[v, .int .i64 n] w fun e w' => e = .returned (.tuple #[.string (bA (getL L n)), .bool b]) ∧ w' = w := by
  have hl := Strs.len h
  rw [List.length_map] at hl
  unfold maxLen at hl
  obtain ⟨m, hm⟩ : ∃ m, L.length = m := ⟨_, rfl⟩
  have HM := Lib.hid hm
  by_cases h1 : n < 1
  · have G := Lib.hid (getL_lo (L := L) h1)
    obtain rfl : b = false := by rw [← hb.out]; exact decide_eq_false (fun h => by omega)
    obtain ⟨a, cap, rfl, -⟩ := h
    rw [List.length_map, hm]
    clear hb hm hl
    go_enter Tryd.func53, Tryd.ntmps53
    go_wp2_with fail
    go_ret2
    exact ⟨by rw [G.out]; rfl, rfl⟩
  · by_cases h2 : (m : Int) < n
    · have G := Lib.hid (getL_hi (L := L) h1 (by rw [hm]; exact h2))
      obtain rfl : b = false := by rw [← hb.out]; exact decide_eq_false (fun h => by omega)
      obtain ⟨a, cap, rfl, -⟩ := h
      rw [List.length_map, hm]
      clear hb hm hl
      go_enter Tryd.func53, Tryd.ntmps53
      go_wp2_with fail
      go_ret2
      exact ⟨by rw [G.out]; rfl, rfl⟩
    · obtain ⟨k, rfl⟩ : ∃ k : Nat, n = (k : Int) + 1 := ⟨(n - 1).toNat, by omega⟩
      have hk : k < L.length := by omega
      have G := Lib.hid (getL_at hk)
      obtain rfl : b = true := by rw [← hb.out]; exact decide_eq_true (by omega)
      obtain ⟨g, o, cap, rfl, -, -, -, hc⟩ := Strs.cons h (fun e => by rw [List.map_eq_nil_iff] at e; rw [e] at hk; exact absurd hk (Nat.not_lt_zero _))
      have c0 := hc k (bA L[k]) (by rw [List.getElem?_map, List.getElem?_eq_getElem hk]; rfl)
      rw [List.length_map, hm]
      rw [hm] at hk hl
      have i1 : (k : Int) + 1 - 1 = k := by omega
      clear hb hm h hc h1 h2
      go_enter Tryd.func53, Tryd.ntmps53
      go_wp2_with fail
      go_ret2
      exact ⟨by rw [G.out]; rfl, rfl⟩
set_option maxRecDepth 100000 in
theorem key_any (s : ByteArray) (n sep : Int) (w : World) (hs : s.size ≤ 1048576) :
    Calls Tryd.prog 31 #[.string s, .int .i64 n, .int .i64 sep] w fun e w' => e = .returned (.string (bA (keyL sep n s.data.toList))) ∧ Hid (Below w.heap.size w w') := by
  have HS := Lib.hid hs
  clear hs
  unfold keyL
  obtain ⟨L, hL⟩ : ∃ L, fieldsL sep s.data.toList = L := ⟨_, rfl⟩
  have RF := fun w => rfields_any s sep w HS.out
  rw [hL] at RF ⊢
  have RF := Lib.hid RF
  clear hL
  go_enter Tryd.func31, Tryd.ntmps31
  go_wp2_with (first | (go_at_call 10; refine (RF.out _).mono ?_; rintro _ w1 ⟨v, rfl, F1, B1⟩) | (go_at_call 53; refine (field_any L _ _ _ _ F1.out.1 (Lib.hid rfl)).mono ?_; rintro _ w2 ⟨rfl, rfl⟩))
  go_ret
  exact ⟨rfl, B1⟩
/-- the comparison in the default locale -/
def cmpD (a b : List UInt8) : Int := locC ⟨#[112, 111, 115, 105, 120]⟩ (wtab 256) ⟨(ltab 256).toArray⟩ ⟨(utab 256).toArray⟩ [] [] (bA a) (bA b)
def dLo : ByteArray := ⟨(ltab 256).toArray⟩
def dUp : ByteArray := ⟨(utab 256).toArray⟩
def dNm : ByteArray := ⟨#[112, 111, 115, 105, 120]⟩
/-- a value that is the default locale -/
def DLoc (w : World) (v : Value) : Prop := ∃ v1, v = lval dNm v1 dLo dUp (.slice none 0 0) (.slice none 0 0) ∧ LocAt w v1 (.slice none 0 0) (.slice none 0 0) (wtab 256) [] []
theorem DLoc.below {w w' : World} {v : Value} (h : DLoc w v) (hb : Below w.heap.size w w') : DLoc w' v := by
  obtain ⟨v1, e, h⟩ := h; exact ⟨v1, e, h.below hb⟩
theorem dcompare_any (v : Value) (a b : ByteArray) (w : World) (h : DLoc w v) (ha : a.size ≤ 1048576) (hb : b.size ≤ 1048576) :
    Calls Tryd.prog 29 #[v, .string a, .string b] w fun e w' => e = .returned (.int .i64 (cmpD a.data.toList b.data.toList)) ∧ Hid (Below w.heap.size w w') := by
  obtain ⟨v1, rfl, hL⟩ := h
  refine (compare_any dNm v1 dLo dUp _ _ _ _ _ a b w hL (by show (5 : Nat) ≤ _; omega) ha hb).mono fun e w' h => ⟨?_, Lib.hid h.2⟩
  rw [h.1]; unfold cmpD; rw [bA_data, bA_data]; rfl
theorem drcompare_any (v : Value) (a b : ByteArray) (w : World) (h : DLoc w v) (ha : a.size ≤ 1048576) (hb : b.size ≤ 1048576) :
    Calls Tryd.prog 30 #[v, .string a, .string b] w fun e w' => e = .returned (.int .i64 (cmpD a.data.toList b.data.toList)) ∧ Hid (Below w.heap.size w w') := by
  obtain ⟨v1, rfl, hL⟩ := h
  refine (rcompare_any dNm v1 dLo dUp _ _ _ _ _ a b w hL (by show (5 : Nat) ≤ _; omega) ha hb).mono fun e w' h => ⟨?_, Lib.hid h.2⟩
  rw [h.1]; unfold cmpD; rw [bA_data, bA_data]; rfl
theorem cmpD_vals (a b : List UInt8) : cmpD a b = -1 ∨ cmpD a b = 0 ∨ cmpD a b = 1 := cmpS_vals _ _ _ _
theorem cmpD_swap (a b : List UInt8) : cmpD b a = - cmpD a b := cmpS_swap _ _ _ _
theorem cmpD_refl (a : List UInt8) : cmpD a a = 0 := cmpS_refl _ _ _
theorem cmpD_eq {a b : List UInt8} (h : cmpD a b = 0) : a = b := by
  have := cmpS_eq _ _ _ _ h
  simpa using this
theorem cmpD_trans {a b c : List UInt8} (h1 : cmpD a b ≤ 0) (h2 : cmpD b c ≤ 0) : cmpD a c ≤ 0 ∧ (cmpD a c = 0 → cmpD a b = 0 ∧ cmpD b c = 0) := cmpS_trans _ _ _ _ _ h1 h2
end Go.Proofs.YtbhdhcnbagjmcaaDoor
