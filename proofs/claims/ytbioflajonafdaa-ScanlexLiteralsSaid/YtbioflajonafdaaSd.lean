/- walks: divides, closing -/
import Derived.Test.YtbioflajonafdaaSc
namespace Go.Proofs.Ytbioflajonafdaa
open Go.RowKit
open Tx
theorem divides_none (p : Nat) (s : ByteArray) (at_ : Int) (v : Value) (er pos : Int) (w : World) (h : LX p s at_ v [] er pos w) :
    Calls Try.prog 43 #[.pointer (some ⟨p, 0, none⟩)] w fun e w' => e = .returned (.bool false) ∧ Below w.heap.size w w' := by
  obtain ⟨c0, c1, c2, -, -, -⟩ := h.cells
  have hv : ∃ cp gg, v = .slice gg 0 cp := by
    rcases h.own.2 with ⟨hv, -⟩ | ⟨g, cap, cur, hv, -⟩
    · exact ⟨0, none, hv⟩
    · exact ⟨cap, _, hv⟩
  obtain ⟨cp, gg, rfl⟩ := hv
  clear h
  go_enter Try.func43, Try.ntmps43
  go_wp2_with fail
  go_ret
  exact ⟨rfl, Below.refl _ _⟩
theorem strs_new (w : World) (T : TypeId) (L : List ByteArray) (hl : L.length ≤ 1024) (xs : Array Value) (hx : xs = (L.map Value.string).toArray) : Strs (w.alloc (.cells xs T (0, 0))) (.slice (some ⟨w.heap.size, 0, none⟩) L.length L.length) L :=
  Strs.block (by rw [hx]; exact heap_alloc_new w _) (by unfold maxLen; omega)
set_option maxHeartbeats 1000000 in
theorem divides_some (p : Nat) (s : ByteArray) (at_ : Int) (T : List Tok) (t : Tok) (v : Value) (er pos : Int) (w : World) (h : LX p s at_ v (T ++ [t]) er pos w) (hl : T.length + 1 ≤ 1048576) :
    Calls Try.prog 43 #[.pointer (some ⟨p, 0, none⟩)] w fun e w' => e = .returned (.bool (dvs (T ++ [t]))) ∧ Below w.heap.size w w' := by
  have HX := Lib.hid h
  have HL := Lib.hid hl
  obtain ⟨c0, c1, c2, -, -, -⟩ := h.cells
  obtain ⟨g, cap, hv, hg, k0, -⟩ := h.last
  subst hv
  clear h
  have i1 : ¬ ((T.length : Int) + 1 = 0) := by omega
  have i2 : (0 : Int) ≤ (T.length : Int) := by omega
  have i3 : (T.length : Int) < (T.length : Int) + 1 := by omega
  have wr2 : IntKind.i64.wrap (T.length : Int) = (T.length : Int) := by rw [IntKind.wrap_i64]; omega
  have wr : IntKind.i64.wrap ((T.length : Int) + 1 - 1) = (T.length : Int) := by rw [IntKind.wrap_i64]; omega
  obtain ⟨k, x, n, b⟩ := t
  simp only at k0
  by_cases h1 : k = 1
  · subst h1
    have DV : dvs (T ++ [⟨1, x, n, b⟩]) = true := by simp [dvs]
    rw [DV]
    go_enter Try.func43, Try.ntmps43
    go_wp2_with fail
    go_quiet (fail)
    go_wp2_with fail
    go_ret
    exact ⟨rfl, tx_below_drewN (Below.refl _ _) _⟩
  by_cases h2 : k = 2
  · subst h2
    have DV : dvs (T ++ [⟨2, x, n, b⟩]) = true := by simp [dvs]
    rw [DV]
    go_enter Try.func43, Try.ntmps43
    go_wp2_with fail
    go_quiet (fail)
    go_wp2_with fail
    go_ret
    exact ⟨rfl, tx_below_drewN (Below.refl _ _) _⟩
  by_cases h3 : k = 3
  · subst h3
    have DV : dvs (T ++ [⟨3, x, n, b⟩]) = true := by simp [dvs]
    rw [DV]
    go_enter Try.func43, Try.ntmps43
    go_wp2_with fail
    go_quiet (fail)
    go_wp2_with fail
    go_ret
    exact ⟨rfl, tx_below_drewN (Below.refl _ _) _⟩
  by_cases h4 : k = 4
  · subst h4
    have DV : dvs (T ++ [⟨4, x, n, b⟩]) = true := by simp [dvs]
    rw [DV]
    go_enter Try.func43, Try.ntmps43
    go_wp2_with fail
    go_quiet (fail)
    go_wp2_with fail
    go_ret
    exact ⟨rfl, tx_below_drewN (Below.refl _ _) _⟩
  · have DV : dvs (T ++ [⟨k, x, n, b⟩]) = aft dvL (T ++ [⟨k, x, n, b⟩]) := by simp [dvs, h1, h2, h3, h4]
    rw [DV]
    have e1 : (k == 1) = false := by rw [beq_eq_false_iff_ne]; exact h1
    have e2 : (k == 2) = false := by rw [beq_eq_false_iff_ne]; exact h2
    have e3 : (k == 3) = false := by rw [beq_eq_false_iff_ne]; exact h3
    have e4 : (k == 4) = false := by rw [beq_eq_false_iff_ne]; exact h4
    go_enter Try.func43, Try.ntmps43
    go_wp2_with fail
    go_quiet (fail)
    go_wp2_with (go_at_call 37; refine (after_any p s at_ (T ++ [⟨k, x, n, b⟩]) _ er pos _ (HX.out.below ((tx_below_drewN (Below.refl _ _) nq).alloc (by simp) _)) (by simpa using HL.out) _ [⟨#[41]⟩, ⟨#[93]⟩, ⟨#[43, 43]⟩, ⟨#[45, 45]⟩] (by decide) (strs_new _ _ _ (by decide) _ rfl) _ rfl).mono ?_; rintro e w2 ⟨rfl, -, hb⟩)
    go_ret
    exact ⟨rfl, ((tx_below_drewN (Below.refl _ _) nq).alloc (by simp) _).trans (hb.mono (by simp))⟩
theorem divides_any (p : Nat) (s : ByteArray) (at_ : Int) (T : List Tok) (v : Value) (er pos : Int) (w : World) (h : LX p s at_ v T er pos w) (hl : T.length ≤ 1048576) (r : Bool) (hr : dvs T = r) :
    Calls Try.prog 43 #[.pointer (some ⟨p, 0, none⟩)] w fun e w' => e = .returned (.bool r) ∧ LX p s at_ v T er pos w' ∧ Below w.heap.size w w' := by
  rcases List.eq_nil_or_concat T with rfl | ⟨T0, t, rfl⟩
  · refine (divides_none p s at_ v er pos w h).mono fun e w' ⟨h1, h2⟩ => ⟨by rw [h1, ← hr]; rfl, h.below h2, h2⟩
  · rw [List.concat_eq_append] at h hr hl ⊢
    refine (divides_some p s at_ T0 t v er pos w h (by simpa using hl)).mono fun e w' ⟨h1, h2⟩ => ⟨by rw [h1, hr], h.below h2, h2⟩
def clzI (s : ByteArray) (c i : Nat) : Int := match clz s c i with
  | none => -1
  | some e => (e : Int)
theorem clzI_eq (s : ByteArray) (c i : Nat) : clzI s c i = if s.size ≤ i then -1 else if pk s i = c then (i : Int) else if pk s i = 10 then -1
    else if pk s i = 92 then (if pk s (i + 1) = 10 then -1 else clzI s c (i + 2)) else clzI s c (i + 1) := by
  unfold clzI
  rw [clz_eq]
  by_cases h0 : s.size ≤ i
  · rw [if_pos h0, if_pos h0]
  · rw [if_neg h0, if_neg h0]
    by_cases h1 : pk s i = c
    · rw [if_pos h1, if_pos h1]
    · rw [if_neg h1, if_neg h1]
      by_cases h2 : pk s i = 10
      · rw [if_pos h2, if_pos h2]
      · rw [if_neg h2, if_neg h2]
        by_cases h3 : pk s i = 92
        · rw [if_pos h3, if_pos h3]
          by_cases h4 : pk s (i + 1) = 10
          · rw [if_pos h4, if_pos h4]
          · rw [if_neg h4, if_neg h4]
        · rw [if_neg h3, if_neg h3]
set_option maxHeartbeats 1000000 in
theorem closing_any (p : Nat) (s : ByteArray) (at_ c : Nat) (v : Value) (T : List Tok) (er pos : Int) (w : World) (h : LX p s at_ v T er pos w) (hs : s.size ≤ 8192) (ha : at_ < s.size) (r : Int) (hr : clzI s c (at_ + 1) = r) :
    Calls Try.prog 58 #[.pointer (some ⟨p, 0, none⟩), .int .u8 (c : Int)] w fun e w' => e = .returned (.int .i64 r) ∧ LX p s at_ v T er pos w' ∧ Below w.heap.size w w' := by
  refine Calls.mono (R := fun e w' => e = .returned (.int .i64 r) ∧ Below w.heap.size w w') ?_ fun e w' ⟨h1, h2⟩ => ⟨h1, h.below h2, h2⟩
  obtain ⟨c0, c1, -, -, -, -⟩ := h.cells
  clear h
  have wr0 : IntKind.i64.wrap ((at_ : Int) + 1) = (at_ : Int) + 1 := by rw [IntKind.wrap_i64]; omega
  have HR := Lib.hid hr
  clear hr
  go_enter Try.func58, Try.ntmps58
  go_wp2_with fail
  go_loop [5] (fun i => ∃ j : Nat, i = .int .i64 j ∧ j ≤ s.size + 1 ∧ Hid (clzI s c j = r)) (fun i => s.size + 2 - (intOf i).toNat)
  case atStart => exact ⟨at_ + 1, by go_num, by omega, HR⟩
  case round =>
    obtain ⟨j, rfl, hj, HJ⟩ := hrel
    have E := Lib.hid (clzI_eq s c j)
    have wr1 : IntKind.i64.wrap ((j : Int) + 1) = (j : Int) + 1 := by rw [IntKind.wrap_i64]; omega
    by_cases hlt : j < s.size
    · have i1 : (0 : Int) ≤ (j : Int) := by omega
      have i2 : (j : Int) < (s.size : Int) := by omega
      have PK := Lib.hid (pk_at hlt)
      by_cases k1 : s[j].toNat = c
      · have R : Hid (r = j) := Lib.hid (by rw [← HJ.out, E.out, if_neg (by omega), if_pos (by rw [PK.out]; exact k1)])
        have t1 : ((s[j].toNat : Int) == (c : Int)) = true := by rw [beq_iff_eq]; omega
        go_wp2_with fail
        go_ret
        exact ⟨by rw [R.out]; rfl, Below.refl _ _⟩
      have t1 : ((s[j].toNat : Int) == (c : Int)) = false := by rw [beq_eq_false_iff_ne]; omega
      by_cases k2 : s[j].toNat = 10
      · have R : Hid (r = -1) := Lib.hid (by rw [← HJ.out, E.out, if_neg (by omega), if_neg (by rw [PK.out]; exact k1), if_pos (by rw [PK.out]; exact k2)])
        have t2 : ((s[j].toNat : Int) == 10) = true := by rw [beq_iff_eq]; omega
        go_wp2_with fail
        go_ret
        exact ⟨by rw [R.out]; rfl, Below.refl _ _⟩
      have t2 : ((s[j].toNat : Int) == 10) = false := by rw [beq_eq_false_iff_ne]; omega
      by_cases k3 : s[j].toNat = 92
      · have t3 : ((s[j].toNat : Int) == 92) = true := by rw [beq_iff_eq]; omega
        have wr2 : IntKind.i64.wrap ((j : Int) + 1 + 1) = (j : Int) + 1 + 1 := by rw [IntKind.wrap_i64]; omega
        by_cases hl1 : j + 1 < s.size
        · have PK1 := Lib.hid (pk_at hl1)
          have i3 : (0 : Int) ≤ (j : Int) + 1 := by omega
          have i4 : (j : Int) + 1 < (s.size : Int) := by omega
          by_cases k4 : s[j + 1].toNat = 10
          · have R : Hid (r = -1) := Lib.hid (by rw [← HJ.out, E.out, if_neg (by omega), if_neg (by rw [PK.out]; exact k1), if_neg (by rw [PK.out]; exact k2), if_pos (by rw [PK.out]; exact k3), if_pos (by rw [PK1.out]; exact k4)])
            have t4 : ((s[j + 1].toNat : Int) == 10) = true := by rw [beq_iff_eq]; omega
            go_wp2_with fail
            go_ret
            exact ⟨by rw [R.out]; rfl, Below.refl _ _⟩
          · have R : Hid (clzI s c (j + 2) = r) := Lib.hid (by rw [← HJ.out, E.out, if_neg (by omega), if_neg (by rw [PK.out]; exact k1), if_neg (by rw [PK.out]; exact k2), if_pos (by rw [PK.out]; exact k3), if_neg (by rw [PK1.out]; exact k4)])
            have t4 : ((s[j + 1].toNat : Int) == 10) = false := by rw [beq_eq_false_iff_ne]; omega
            go_wp2_with fail
            go_round
            case rel => exact ⟨j + 2, by go_num, by omega, R⟩
            case measure => simp [intOf]; omega
        · have R : Hid (clzI s c (j + 2) = r) := Lib.hid (by rw [← HJ.out, E.out, if_neg (by omega), if_neg (by rw [PK.out]; exact k1), if_neg (by rw [PK.out]; exact k2), if_pos (by rw [PK.out]; exact k3), if_neg (by rw [pk_ge (by omega)]; decide)])
          have i4 : ¬ (j : Int) + 1 < (s.size : Int) := by omega
          go_wp2_with fail
          go_round
          case rel => exact ⟨j + 2, by go_num, by omega, R⟩
          case measure => simp [intOf]; omega
      · have t3 : ((s[j].toNat : Int) == 92) = false := by rw [beq_eq_false_iff_ne]; omega
        have R : Hid (clzI s c (j + 1) = r) := Lib.hid (by rw [← HJ.out, E.out, if_neg (by omega), if_neg (by rw [PK.out]; exact k1), if_neg (by rw [PK.out]; exact k2), if_neg (by rw [PK.out]; exact k3)])
        go_wp2_with fail
        go_round
        case rel => exact ⟨j + 1, by go_num, by omega, R⟩
        case measure => simp [intOf]; omega
    · have i2 : ¬ (j : Int) < (s.size : Int) := by omega
      have R : Hid (r = -1) := Lib.hid (by rw [← HJ.out, E.out, if_pos (by omega)])
      go_wp2_with fail
      go_ret
      exact ⟨by rw [R.out]; rfl, Below.refl _ _⟩
end Go.Proofs.Ytbioflajonafdaa
