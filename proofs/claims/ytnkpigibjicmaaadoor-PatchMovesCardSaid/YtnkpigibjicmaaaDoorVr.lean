/- walks: slices.Equal of lines (written by gen_vr.py) -/
import Derived.Test.YtnkpigibjicmaaaDoorVq
namespace Go.Proofs.YtnkpigibjicmaaaDoor
open Go.RowKit Go.Maps
open Pt
set_option maxRecDepth 100000 in
set_option maxHeartbeats 4000000 in
theorem lequal_any (l m : List Ln) (u x : Value) (w : World) (hu : RowsAt w u 2 (l.map rowL)) (hx : RowsAt w x 2 (m.map rowL)) (hl : l.length ≤ 1048576) :
    Calls Tryd.prog 76 #[u, x] w fun e w' => e = .returned (.bool (decide (l = m))) ∧ Hid (Below w.heap.size w w') := by
  by_cases hne : l.length = m.length
  rotate_left
  · obtain ⟨ua, uc, rfl, u1, u2, -⟩ := hu.sl (n := l.length) (by rw [List.length_map])
    obtain ⟨xa, xc, rfl, x1, x2, -⟩ := hx.sl (n := m.length) (by rw [List.length_map])
    have t0 : ((l.length : Int) != (m.length : Int)) = true := bne_iff_ne.2 (by omega)
    have E := Lib.hid (decide_eq_false (fun e : l = m => hne (by rw [e])))
    obtain ⟨a, ha⟩ : ∃ a, l.length = a := ⟨_, rfl⟩
    obtain ⟨b, hb⟩ : ∃ b, m.length = b := ⟨_, rfl⟩
    rw [ha, hb] at t0
    rw [ha, hb]
    clear hu hx ha hb hne
    go_enter Tryd.func76, Tryd.ntmps76
    go_wp2_with fail
    go_ret
    exact ⟨by rw [E.out]; rfl, Lib.hid (Below.refl _ _)⟩
  obtain ⟨n, hn⟩ : ∃ n, l.length = n := ⟨_, rfl⟩
  have HN := Lib.hid (And.intro hn (hne.symm.trans hn))
  obtain ⟨ua, uc, rfl, u1, u2, hcu⟩ := hu.sl (n := n) (by rw [List.length_map]; exact hn)
  obtain ⟨xa, xc, rfl, x1, x2, hcx⟩ := hx.sl (n := n) (by rw [List.length_map]; exact hne.symm.trans hn)
  have HU := Lib.hid hcu
  have HX := Lib.hid hcx
  rw [hn] at hl
  unfold maxLen at u2 x2
  clear hu hx hn hcu hcx hne
  go_enter Tryd.func76, Tryd.ntmps76
  go_wp2_with fail
  go_loopw [13] (fun i wr => ∃ j : Nat, i = .int .i64 j ∧ j ≤ n ∧ Hid (l.take j = m.take j) ∧ Hid (Below w.heap.size w wr)) (fun i _ => n - (intOf i).toNat)
  case atStart => exact ⟨0, rfl, Nat.zero_le _, Lib.hid rfl, Lib.hid (Below.refl _ _)⟩
  case round =>
    obtain ⟨j, rfl, hj, HI, BK⟩ := hrel
    by_cases hlt : j < n
    · obtain ⟨x, hx⟩ : ∃ x, l[j]? = some x := ⟨_, List.getElem?_eq_getElem (by rw [HN.out.1]; exact hlt)⟩
      obtain ⟨y, hy⟩ : ∃ y, m[j]? = some y := ⟨_, List.getElem?_eq_getElem (by rw [HN.out.2]; exact hlt)⟩
      rcases HU.out with h0 | ⟨g, o, rfl, -, hcc⟩
      · omega
      rcases HX.out with h0 | ⟨g2, o2, rfl, -, hcc2⟩
      · omega
      have m1 : (l.map rowL)[j]? = some (rowL x) := by rw [List.getElem?_map, hx]; rfl
      have m2 : (m.map rowL)[j]? = some (rowL y) := by rw [List.getElem?_map, hy]; rfl
      have d0 := kp BK.out (hcc j _ m1 0 _ rfl)
      have d1 := kp BK.out (hcc j _ m1 1 _ rfl)
      rw [Nat.add_zero] at d0
      have e0 := kp BK.out (hcc2 j _ m2 0 _ rfl)
      have e1 := kp BK.out (hcc2 j _ m2 1 _ rfl)
      rw [Nat.add_zero] at e0
      have p0 : (0 : Int) ≤ (j : Int) := by omega
      have p1 : (j : Int) < (n : Int) := by omega
      have p2 : IntKind.i64.wrap (j : Int) = (j : Int) := IntWalk.i64_in _ (by omega)
      have NE : Hid (x ≠ y → decide (l = m) = false) := Lib.hid (fun h => decide_eq_false (fun e => by subst e; rw [hx] at hy; exact h (Option.some.inj hy)))
      have EQ : Hid (x = y → l.take (j + 1) = m.take (j + 1)) := Lib.hid (fun h => by rw [take_get hx, take_get hy, HI.out, h])
      obtain ⟨xt, xn⟩ := x
      obtain ⟨yt, yn⟩ := y
      simp only at d0 d1 e0 e1
      clear hcc hcc2 m1 m2 hx hy
      by_cases hxy : xt = yt
      · subst hxy
        by_cases hb : xn = yn
        · subst hb
          have E := Lib.hid (EQ.out rfl)
          go_wp2_with fail
          go_quiet (fail)
          go_wp2_with fail
          go_roundw
          case rel => exact ⟨j + 1, by go_num, by omega, E, Lib.hid (BK.out.trans ((bel_dn wr _).mono BK.out.size))⟩
          case measure => simp [intOf]; omega
        · have E := Lib.hid (NE.out (fun e => hb (by cases e; rfl)))
          have tb : (xn == yn) = false := beq_eq_false_iff_ne.2 hb
          go_wp2_with fail
          go_quiet (fail)
          go_wp2_with fail
          go_ret
          exact ⟨by rw [E.out]; rfl, Lib.hid (BK.out.trans ((bel_dn wr _).mono BK.out.size))⟩
      · have E := Lib.hid (NE.out (fun e => hxy (by cases e; rfl)))
        have ts := strs_ne hxy
        clear hxy
        go_wp2_with fail
        go_quiet (fail)
        go_wp2_with fail
        go_ret
        exact ⟨by rw [E.out]; rfl, Lib.hid (BK.out.trans ((bel_dn wr _).mono BK.out.size))⟩
    · obtain rfl : j = n := by omega
      have E : Hid (decide (l = m) = true) := Lib.hid (decide_eq_true (by have := HI.out; rwa [List.take_of_length_le (by rw [HN.out.1]; exact Nat.le_refl _), List.take_of_length_le (by rw [HN.out.2]; exact Nat.le_refl _)] at this))
      go_wp2_with fail
      go_ret
      exact ⟨by rw [E.out]; rfl, BK⟩
end Go.Proofs.YtnkpigibjicmaaaDoor
