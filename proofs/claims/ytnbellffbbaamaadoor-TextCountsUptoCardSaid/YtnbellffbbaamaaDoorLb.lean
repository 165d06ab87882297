/- walks: the law on counts -/
import Derived.Test.YtnbellffbbaamaaDoorLa
import Derived.Test.YtnbellffbbaamaaDoorLplain2
namespace Go.Proofs.YtnbellffbbaamaaDoor
open Go.RowKit
open Tx
theorem into_any (s : ByteArray) (a : Int) (k : Nat) (w : World) (hs : Hid (s.size ≤ 1048576)) (hk : Hid (clamp a s.size = k)) :
    Calls Tryd.prog 19 #[.string s, .int .i64 a] w fun e w' => e = .returned (.int .i64 (k : Int)) ∧ w = w' := by
  have S := hs.out
  have K := hk.out
  by_cases h1 : a < 0
  · obtain rfl : k = 0 := by rw [← K]; exact clamp_lo _ _ (by omega)
    go_enter Tryd.func19, Tryd.ntmps19
    go_wp2_with fail
    go_ret
    exact ⟨rfl, rfl⟩
  · by_cases h2 : (s.size : Int) < a
    · obtain rfl : k = s.size := by rw [← K]; exact clamp_hi _ _ (by omega)
      go_enter Tryd.func19, Tryd.ntmps19
      go_wp2_with fail
      go_ret
      exact ⟨rfl, rfl⟩
    · obtain rfl : a = (k : Int) := by rw [← K]; unfold clamp; omega
      clear K
      go_enter Tryd.func19, Tryd.ntmps19
      go_wp2_with fail
      go_ret
      exact ⟨rfl, rfl⟩
theorem pos_is (s : ByteArray) (a la ca : Int) (w : World) (hs : Hid (s.size ≤ 1048576)) (h : Hid (lineAt s a = la ∧ colAt s a = ca)) :
    Calls Tryd.prog 17 #[.string s, .int .i64 a] w fun e w' => e = .returned (vpos la ca) ∧ Below w.heap.size w w' := by
  rw [← h.out.1, ← h.out.2]; exact position_any s a w (by have := hs.out; omega)
theorem two_below (w : World) (o p : Obj) : Below w.heap.size w ((w.alloc o).alloc p) :=
  ((Below.refl w.heap.size w).alloc (Nat.le_refl _) o).alloc (by simp) p
theorem two_cells {w w' : World} {a b c d : Value} {T U : TypeId} (hb : Below ((w.alloc (.cells #[a, b] T)).alloc (.cells #[c, d] U)).heap.size ((w.alloc (.cells #[a, b] T)).alloc (.cells #[c, d] U)) w') :
    w'.cell? ⟨w.heap.size, 0, none⟩ = some a ∧ w'.cell? ⟨w.heap.size, 1, none⟩ = some b ∧ w'.cell? ⟨w.heap.size + 1, 0, none⟩ = some c ∧ w'.cell? ⟨w.heap.size + 1, 1, none⟩ = some d ∧ Below w.heap.size w w' := by
  have s1 : (w.alloc (.cells #[a, b] T)).heap.size = w.heap.size + 1 := by simp
  have h2 := heap_alloc_new (w.alloc (.cells #[a, b] T)) (.cells #[c, d] U)
  have h1 : ((w.alloc (.cells #[a, b] T)).alloc (.cells #[c, d] U)).heap[w.heap.size]? = some (.cells #[a, b] T (0, 0)) := by
    rw [Below.heap_alloc _ _ _ (by omega)]; exact heap_alloc_new w _
  rw [s1] at h2
  have l1 := (Array.getElem?_eq_some_iff.1 h1).1
  have l2 := (Array.getElem?_eq_some_iff.1 h2).1
  have k1 : w'.heap[w.heap.size]? = some (.cells #[a, b] T (0, 0)) := by rw [hb.block _ l1]; exact h1
  have k2 : w'.heap[w.heap.size + 1]? = some (.cells #[c, d] U (0, 0)) := by rw [hb.block _ l2]; exact h2
  refine ⟨?_, ?_, ?_, ?_, (two_below w _ _).trans (hb.mono (two_below w _ _).size)⟩
  all_goals simp [World.cell?, k1, k2]
set_option maxHeartbeats 2000000 in
theorem law_counts (s : ByteArray) (a b : Int) (m : Int) (w : World) (hm : w.cell? ⟨0, 0, none⟩ = some (.int .i64 m)) (hs : s.size ≤ 1048576) :
    Calls Tryd.prog 6 #[.string s, .int .i64 a, .int .i64 b] w fun e w' => e = .returned (.bool true) ∧ Below w.heap.size w w' := by
  have H := Lib.hid hm; clear hm
  have S := Lib.hid hs; clear hs
  obtain ⟨ka, hka⟩ : ∃ k, clamp a s.size = k := ⟨_, rfl⟩
  obtain ⟨kb, hkb⟩ : ∃ k, clamp b s.size = k := ⟨_, rfl⟩
  have A1 := clamp_le a s.size
  have B1 := clamp_le b s.size
  obtain ⟨la, hla⟩ : ∃ x, lineAt s a = x := ⟨_, rfl⟩
  obtain ⟨ca, hca⟩ : ∃ x, colAt s a = x := ⟨_, rfl⟩
  obtain ⟨lb, hlb⟩ : ∃ x, lineAt s b = x := ⟨_, rfl⟩
  obtain ⟨cb, hcb⟩ : ∃ x, colAt s b = x := ⟨_, rfl⟩
  have PA := Lib.hid (And.intro hla hca)
  have PB := Lib.hid (And.intro hlb hcb)
  have KA := Lib.hid hka
  have KB := Lib.hid hkb
  have CF := Lib.hid (fun L hL => count_facts s ka (by omega) L hL)
  have LX : (la < lb ∧ ka < kb) ∨ (la = lb ∧ ca < cb ∧ ka < kb) ∨ (la = lb ∧ ¬ ca < cb ∧ ¬ ka < kb) ∨ (lb < la ∧ ¬ ka < kb) := by
    rw [hka] at A1; rw [hkb] at B1
    unfold lineAt at hla hlb
    unfold colAt at hca hcb
    rw [hka] at hla hca
    rw [hkb] at hlb hcb
    rcases Nat.lt_or_ge ka kb with h | h
    · rcases place_le s ka kb (by omega) B1 with p | ⟨p, q⟩
      · left; omega
      · right; left; omega
    · rcases place_le s kb ka h A1 with p | ⟨p, q⟩
      · right; right; right; omega
      · right; right; left; omega
  unfold lineAt at hla
  unfold colAt at hca
  rw [hka] at hla hca A1
  rw [hkb] at B1
  rw [hla, hca] at CF
  clear hla hca hlb hcb hka hkb
  have AB := Lib.hid (And.intro A1 B1); clear A1 B1
  go_enter Tryd.func6, Tryd.ntmps6
  go_wp2_with (first
    | (go_at_call 17; (first | (with_reducible refine (pos_is s a la ca _ S PA).mono ?_; rintro e w1 ⟨rfl, hb1⟩) | (with_reducible refine (pos_is s b lb cb _ S PB).mono ?_; rintro e w2 ⟨rfl, hb2⟩)))
    | (go_at_call 14; refine (lines_any s m _ (max_below (max_below (max_below H.out hb1) hb2) (two_below _ _ _)) S.out).mono ?_; rintro e w3 ⟨v, L, rfl, hL, hS, hb3⟩; obtain ⟨d1, d2, d3, d4, hb4⟩ := two_cells hb3; obtain ⟨q, c, rfl, rfl, e3, e4⟩ := CF.out L hL; have b1 := fullB_ge (L.take q); rw [List.length_take, Nat.min_eq_left e3] at b1; have b2 := AB.out; have b3 := S.out; have b4 : c ≤ 1048576 := (by omega); have b5 : q ≤ 1048576 := (by omega); have HS := Lib.hid hS; have E4 := Lib.hid e4; have B4 := Lib.hid (hb1.trans ((hb2.trans (hb4.mono hb2.size)).mono hb1.size)); have MX := Lib.hid (max_below H.out B4.out); have KK : Hid (ka ≤ 1048576 ∧ q ≤ L.length) := Lib.hid (by omega); clear hb1 hb2 hb3 hb4 hS hL e4 e3 CF b1 b2 b3))
  go_loop [11, 12] (fun n i => ∃ (j x : Nat), i = .int .i64 j ∧ n = .int .i64 x ∧ j ≤ q ∧ Hid (x = c + fullB (L.take j))) (fun _ i => q - (intOf i).toNat)
  case atStart => exact ⟨0, c, rfl, by go_num, by omega, Lib.hid (by simp [fullB])⟩
  case round =>
    obtain ⟨j, x, rfl, rfl, jq, X⟩ := hrel
    have bx : x ≤ 1048576 := by
      have h1 := fullB_le L j q jq
      have h2 := KK.out; have h3 := X.out; have h4 := E4.out; omega
    by_cases hlt : j < q
    · have x1 : j < L.length := by have := KK.out; omega
      obtain ⟨g, o, cap, rfl, _, _, _, hc⟩ := HS.out.cons (by intro e; rw [e] at x1; simp at x1)
      have k1 := hc j _ (List.getElem?_eq_getElem x1)
      have sn := fullB_snoc L j x1
      have h1 := fullB_le L (j + 1) q (by omega)
      have h2 := KK.out; have h3 := X.out; have h4 := E4.out
      have b6 : x + L[j].size + 1 ≤ 1048576 := by omega
      have X' : Hid (x + L[j].size + 1 = c + fullB (L.take (j + 1))) := Lib.hid (by omega)
      obtain ⟨y, hy⟩ : ∃ y, L[j] = y := ⟨_, rfl⟩
      rw [hy] at k1 b6 X'
      clear hc sn h1 h3 h4 hy
      go_wp2_with fail
      go_round
      case rel => exact ⟨j + 1, x + y.size + 1, by go_num, by go_num, by omega, X'⟩
      case measure => simp [intOf]; omega
    · obtain rfl : j = q := by omega
      obtain rfl : x = ka := by have := X.out; have := E4.out; omega
      clear hlt
      rcases LX with ⟨l1, l2⟩ | ⟨rfl, l1, l2⟩ | ⟨rfl, l1, l2⟩ | ⟨l1, l2⟩
      all_goals go_wp2_with (first
        | (go_at_call 19; (first | (with_reducible refine (into_any s a x _ S KA).mono ?_; rintro e w4 ⟨rfl, rfl⟩) | (with_reducible refine (into_any s b kb _ S KB).mono ?_; rintro e w5 ⟨rfl, rfl⟩)))
        | (go_at_call 13; refine (awake_any m _ MX.out).mono ?_; rintro e w4 ⟨rfl, hb5⟩))
      all_goals go_ret
      all_goals exact ⟨by first | rfl | (show Ending.returned (.bool (!decide _)) = _; rw [decide_eq_false (by omega)]; rfl), B4.out.trans (hb5.mono B4.out.size)⟩
end Go.Proofs.YtnbellffbbaamaaDoor
