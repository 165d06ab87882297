/- walks: marks, both (written by gen_vf.py) -/
import Derived.Test.YtnkpigibjicmaaaDoorVe
namespace Go.Proofs.YtnkpigibjicmaaaDoor
open Go.RowKit Go.Maps
open Pt
def idxI : Nat → List Ln → Int
  | _, [] => -1
  | i, x :: r => if x.2 = true then (i : Int) else idxI (i + 1) r
theorem ends_idx (last : Bool) : ∀ (l : List Ln) (i : Nat), endsB last l = (decide (idxI i l < 0) || (last && decide (idxI i l = (i : Int) + l.length - 1)))
  | [], i => by simp [endsB, idxI]
  | [x], i => by
    cases hx : x.2 with
    | true => simp [endsB, idxI, hx]; omega
    | false => simp [endsB, idxI, hx]
  | x :: y :: r, i => by
    cases hx : x.2 with
    | true =>
      simp only [endsB, idxI, hx, if_true, Bool.not_true, Bool.false_and, List.length_cons]
      have h1 : ¬ (i : Int) < 0 := by omega
      have h2 : ¬ (i : Int) = (i : Int) + ((r.length + 1 + 1 : Nat) : Int) - 1 := by omega
      rw [decide_eq_false h1, decide_eq_false h2]; simp
    | false =>
      have e : idxI i (x :: y :: r) = idxI (i + 1) (y :: r) := by simp [idxI, hx]
      rw [show endsB last (x :: y :: r) = endsB last (y :: r) by simp [endsB, hx], e, ends_idx last (y :: r) (i + 1)]
      have : ((i + 1 : Nat) : Int) + ((y :: r).length : Int) - 1 = (i : Int) + ((x :: y :: r).length : Int) - 1 := by simp; omega
      rw [this]
theorem idxI_lt : ∀ (l : List Ln) (i : Nat), -1 ≤ idxI i l ∧ idxI i l < i + l.length ∨ idxI i l = -1
  | [], _ => .inr rfl
  | x :: r, i => by
    simp only [idxI]
    split
    · exact .inl ⟨by omega, by simp; omega⟩
    · rcases idxI_lt r (i + 1) with h | h
      · exact .inl ⟨h.1, by have := h.2; simp only [List.length_cons]; omega⟩
      · exact .inr h
theorem bare_any (x : Ln) (w : World) : Calls Tryd.prog 68 #[.agg #[.string x.1, .bool x.2]] w fun e w' => e = .returned (.bool x.2) ∧ Hid (Below w.heap.size w w') := by
  have B0 := Lib.hid ((Below.refl w.heap.size w).alloc (Nat.le_refl _) (.cells #[.string x.1, .bool x.2] 95))
  go_enter Tryd.func68, Tryd.ntmps68
  go_wp2_with fail
  go_ret
  exact ⟨rfl, B0⟩
set_option maxRecDepth 100000 in
set_option maxHeartbeats 2000000 in
theorem index_any (l : List Ln) (v : Value) (w : World) (hv : RowsAt w v 2 (l.map rowL)) (hl : l.length ≤ 1048576) :
    Calls Tryd.prog 67 #[v, .func (.func 68) #[] #[]] w fun e w' => e = .returned (.int .i64 (idxI 0 l)) ∧ Hid (Below w.heap.size w w') := by
  obtain ⟨n, hn⟩ : ∃ n, l.length = n := ⟨_, rfl⟩
  have HN := Lib.hid hn
  obtain ⟨a, cap, rfl, c1, c2, hc⟩ := hv.sl (n := n) (by rw [List.length_map]; exact hn)
  have HC := Lib.hid hc
  rw [hn] at hl
  unfold maxLen at c2
  clear hv hn hc
  go_enter Tryd.func67, Tryd.ntmps67
  go_wp2_with fail
  go_loopw [8] (fun i wr => ∃ j : Nat, i = .int .i64 j ∧ j ≤ n ∧ Hid (idxI 0 l = idxI j (l.drop j)) ∧ Hid (Below w.heap.size w wr)) (fun i _ => n - (intOf i).toNat)
  case atStart => exact ⟨0, rfl, Nat.zero_le _, Lib.hid rfl, Lib.hid (Below.refl _ _)⟩
  case round =>
    obtain ⟨j, rfl, hj, HI, BK⟩ := hrel
    by_cases hlt : j < n
    · obtain ⟨x, hx⟩ : ∃ x, l[j]? = some x := ⟨_, List.getElem?_eq_getElem (by rw [HN.out]; exact hlt)⟩
      rcases HC.out with h0 | ⟨g, o, rfl, -, hcc⟩
      · omega
      have m1 : (l.map rowL)[j]? = some (rowL x) := by rw [List.getElem?_map, hx]; rfl
      have d0 := kp BK.out (hcc j _ m1 0 _ rfl)
      have d1 := kp BK.out (hcc j _ m1 1 _ rfl)
      rw [Nat.add_zero] at d0
      have DR := Lib.hid (drop_get hx)
      have p0 : (0 : Int) ≤ (j : Int) := by omega
      have p1 : (j : Int) < (n : Int) := by omega
      have p2 : IntKind.i64.wrap (j : Int) = (j : Int) := IntWalk.i64_in _ (by omega)
      clear hcc m1 hx
      have CB := Lib.hid (fun W => bare_any x W)
      obtain ⟨xt, xn⟩ := x
      simp only at d0 d1 CB
      cases xn with
      | true =>
        have E : Hid (idxI 0 l = (j : Int)) := Lib.hid (by rw [HI.out, DR.out]; rfl)
        clear HI DR
        go_wp2_with (go_at_call 68; refine (CB.out _).mono ?_; rintro _ w3 ⟨rfl, B3⟩)
        go_ret
        exact ⟨by rw [E.out]; rfl, Lib.hid (BK.out.trans (B3.out.mono BK.out.size))⟩
      | false =>
        have E : Hid (idxI 0 l = idxI (j + 1) (l.drop (j + 1))) := Lib.hid (by rw [HI.out, DR.out]; rfl)
        clear HI DR
        go_wp2_with (go_at_call 68; refine (CB.out _).mono ?_; rintro _ w3 ⟨rfl, B3⟩)
        go_roundw
        case rel => exact ⟨j + 1, by go_num, by omega, E, Lib.hid (BK.out.trans (B3.out.mono BK.out.size))⟩
        case measure => simp [intOf]; omega
    · obtain rfl : j = n := by omega
      have E : Hid (idxI 0 l = -1) := Lib.hid (by rw [HI.out, List.drop_eq_nil_of_le (by rw [HN.out]; exact Nat.le_refl _)]; rfl)
      go_wp2_with fail
      go_ret
      exact ⟨by rw [E.out]; rfl, BK⟩
set_option maxRecDepth 100000 in
set_option maxHeartbeats 2000000 in
theorem ends_any (l : List Ln) (v : Value) (last : Bool) (w : World) (hv : RowsAt w v 2 (l.map rowL)) (hl : l.length ≤ 1048576) :
    Calls Tryd.prog 48 #[v, .bool last] w fun e w' => e = .returned (.bool (endsB last l)) ∧ Hid (Below w.heap.size w w') := by
  have CI := Lib.hid (index_any l v w hv hl)
  have E := ends_idx last l 0
  have hI := idxI_lt l 0
  obtain ⟨k, hk⟩ : ∃ k, idxI 0 l = k := ⟨_, rfl⟩
  rw [hk] at CI E hI
  rw [E]
  obtain ⟨n, hn⟩ : ∃ n, l.length = n := ⟨_, rfl⟩
  obtain ⟨a, cap, rfl, -, -, -⟩ := hv.sl (n := n) (by rw [List.length_map]; exact hn)
  rw [hn] at hl hI ⊢
  clear hv hn E hk
  by_cases h0 : k < 0
  · have t0 : decide (k < 0) = true := decide_eq_true h0
    rw [t0]
    go_enter Tryd.func48, Tryd.ntmps48
    go_wp2_with (go_at_call 67; refine CI.out.mono ?_; rintro _ w3 ⟨rfl, B3⟩)
    go_ret
    exact ⟨rfl, B3⟩
  · have t0 : decide (k < 0) = false := decide_eq_false h0
    rw [t0]
    cases last with
    | false =>
      go_enter Tryd.func48, Tryd.ntmps48
      go_wp2_with (go_at_call 67; refine CI.out.mono ?_; rintro _ w3 ⟨rfl, B3⟩)
      go_ret
      exact ⟨rfl, B3⟩
    | true =>
      by_cases h1 : k = (n : Int) - 1
      · have t1 : (k == (n : Int) - 1) = true := beq_iff_eq.2 h1
        rw [decide_eq_true (by omega)]
        go_enter Tryd.func48, Tryd.ntmps48
        go_wp2_with (go_at_call 67; refine CI.out.mono ?_; rintro _ w3 ⟨rfl, B3⟩)
        go_ret
        exact ⟨rfl, B3⟩
      · have t1 : (k == (n : Int) - 1) = false := beq_eq_false_iff_ne.2 h1
        rw [decide_eq_false (by omega)]
        go_enter Tryd.func48, Tryd.ntmps48
        go_wp2_with (go_at_call 67; refine CI.out.mono ?_; rintro _ w3 ⟨rfl, B3⟩)
        go_ret
        exact ⟨rfl, B3⟩
theorem ends_no {last : Bool} {x : Ln} {r : List Ln} (h : x.2 = false) : endsB last (x :: r) = endsB last r := by
  cases r <;> simp [endsB, h]
theorem ends_mid {last : Bool} {x y : Ln} {r : List Ln} (h : x.2 = true) : endsB last (x :: y :: r) = false := by simp [endsB, h]
set_option maxRecDepth 100000 in
set_option maxHeartbeats 2000000 in
theorem marks_any (l : List Ln) (v : Value) (last : Bool) (w : World) (hv : RowsAt w v 2 (l.map rowL)) (hl : l.length ≤ 1048576) :
    Calls Tryd.prog 51 #[v, .bool last] w fun e w' => e = .returned (.bool (endsB last l)) ∧ w' = w := by
  obtain ⟨n, hn⟩ : ∃ n, l.length = n := ⟨_, rfl⟩
  have HN := Lib.hid hn
  obtain ⟨a, cap, rfl, c1, c2, hc⟩ := hv.sl (n := n) (by rw [List.length_map]; exact hn)
  have HC := Lib.hid hc
  rw [hn] at hl
  unfold maxLen at c2
  clear hv hn hc
  go_enter Tryd.func51, Tryd.ntmps51
  go_wp2_with fail
  go_loop [5] (fun i => ∃ j : Nat, i = .int .i64 j ∧ j ≤ n ∧ Hid (endsB last l = endsB last (l.drop j))) (fun i => n - (intOf i).toNat)
  case atStart => exact ⟨0, rfl, Nat.zero_le _, Lib.hid rfl⟩
  case round =>
    obtain ⟨j, rfl, hj, HI⟩ := hrel
    have BK := Lib.hid (Below.refl w.heap.size w)
    by_cases hlt : j < n
    · obtain ⟨x, hx⟩ : ∃ x, l[j]? = some x := ⟨_, List.getElem?_eq_getElem (by rw [HN.out]; exact hlt)⟩
      rcases HC.out with h0 | ⟨g, o, rfl, -, hcc⟩
      · omega
      have m1 : (l.map rowL)[j]? = some (rowL x) := by rw [List.getElem?_map, hx]; rfl
      have d0 := kp BK.out (hcc j _ m1 0 _ rfl)
      have d1 := kp BK.out (hcc j _ m1 1 _ rfl)
      rw [Nat.add_zero] at d0
      have DR := Lib.hid (drop_get hx)
      have p0 : (0 : Int) ≤ (j : Int) := by omega
      have p1 : (j : Int) < (n : Int) := by omega
      have p2 : IntKind.i64.wrap (j : Int) = (j : Int) := IntWalk.i64_in _ (by omega)
      clear hcc m1 hx
      have LD : Hid ((l.drop (j + 1)).length = n - (j + 1)) := Lib.hid (by rw [List.length_drop, HN.out])
      obtain ⟨xt, xn⟩ := x
      simp only at d0 d1
      cases xn with
      | false =>
        have E : Hid (endsB last l = endsB last (l.drop (j + 1))) := Lib.hid (by rw [HI.out, DR.out]; exact ends_no rfl)
        clear HI DR
        go_wp2_with fail
        go_round
        case rel => exact ⟨j + 1, by go_num, by omega, E⟩
        case measure => simp [intOf]; omega
      | true =>
        by_cases h1 : j + 1 < n
        · have E : Hid (endsB last l = false) := Lib.hid (by
            rw [HI.out, DR.out]
            cases hd : l.drop (j + 1) with
            | nil => have := LD.out; rw [hd] at this; simp at this; omega
            | cons y r => exact ends_mid rfl)
          have t1 : (j : Int) < (n : Int) - 1 := by omega
          clear HI DR
          go_wp2_with fail
          go_ret
          exact ⟨by rw [E.out]; rfl, rfl⟩
        · have E : Hid (endsB last l = last) := Lib.hid (by
            rw [HI.out, DR.out, List.eq_nil_of_length_eq_zero (l := l.drop (j + 1)) (by rw [LD.out]; omega)]
            simp [endsB])
          have t1 : ¬ (j : Int) < (n : Int) - 1 := by omega
          have E2 : Hid (endsB last (l.drop (j + 1)) = true) := Lib.hid (by rw [List.eq_nil_of_length_eq_zero (l := l.drop (j + 1)) (by rw [LD.out]; omega)]; rfl)
          cases last with
          | false =>
            go_wp2_with fail
            go_ret
            exact ⟨by rw [E.out]; rfl, rfl⟩
          | true =>
            go_wp2_with fail
            go_round
            case rel => exact ⟨j + 1, by go_num, by omega, Lib.hid (by rw [E.out, E2.out])⟩
            case measure => simp [intOf]; omega
    · obtain rfl : j = n := by omega
      have E : Hid (endsB last l = true) := Lib.hid (by rw [HI.out, List.drop_eq_nil_of_le (by rw [HN.out]; exact Nat.le_refl _)]; rfl)
      go_wp2_with fail
      go_ret
      exact ⟨by rw [E.out]; rfl, rfl⟩
end Go.Proofs.YtnkpigibjicmaaaDoor
