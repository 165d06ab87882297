/- walks: is a part there? the reference's (written by gen_vs.py) -/
import Derived.Test.YtnkpigibjicmaaaDoorVr
namespace Go.Proofs.YtnkpigibjicmaaaDoor
open Go.RowKit Go.Maps
open Pt
set_option maxRecDepth 100000 in
set_option maxHeartbeats 4000000 in
theorem requal_any (l m : List Ln) (t : Nat) (u x : Value) (w : World) (hu : RowsAt w u 2 (l.map rowL)) (hx : RowsAt w x 2 (m.map rowL)) (hl : l.length ≤ 1048576) (ht : t + m.length ≤ l.length) :
    Calls Tryd.prog 62 #[u, .int .i64 t, x] w fun e w' => e = .returned (.bool (decide ((l.drop t).take m.length = m))) ∧ Hid (Below w.heap.size w w') := by
  obtain ⟨n, hn⟩ : ∃ n, l.length = n := ⟨_, rfl⟩
  obtain ⟨k, hk⟩ : ∃ k, m.length = k := ⟨_, rfl⟩
  have HN := Lib.hid (And.intro hn hk)
  obtain ⟨ua, uc, rfl, u1, u2, hcu⟩ := hu.sl (n := n) (by rw [List.length_map]; exact hn)
  obtain ⟨xa, xc, rfl, x1, x2, hcx⟩ := hx.sl (n := k) (by rw [List.length_map]; exact hk)
  have HU := Lib.hid hcu
  have HX := Lib.hid hcx
  rw [hn] at hl
  rw [hn, hk] at ht
  rw [hk]
  unfold maxLen at u2 x2
  clear hu hx hn hk hcu hcx
  go_enter Tryd.func62, Tryd.ntmps62
  go_wp2_with fail
  go_loopw [7] (fun i wr => ∃ j : Nat, i = .int .i64 j ∧ j ≤ k ∧ Hid ((l.drop t).take j = m.take j) ∧ Hid (Below w.heap.size w wr)) (fun i _ => k - (intOf i).toNat)
  case atStart => exact ⟨0, rfl, Nat.zero_le _, Lib.hid rfl, Lib.hid (Below.refl _ _)⟩
  case round =>
    obtain ⟨j, rfl, hj, HI, BK⟩ := hrel
    by_cases hlt : j < k
    · obtain ⟨x, hx⟩ : ∃ x, l[t + j]? = some x := ⟨_, List.getElem?_eq_getElem (by rw [HN.out.1]; omega)⟩
      obtain ⟨y, hy⟩ : ∃ y, m[j]? = some y := ⟨_, List.getElem?_eq_getElem (by rw [HN.out.2]; exact hlt)⟩
      rcases HU.out with h0 | ⟨g, o, rfl, -, hcc⟩
      · omega
      rcases HX.out with h0 | ⟨g2, o2, rfl, -, hcc2⟩
      · omega
      have m1 : (l.map rowL)[t + j]? = some (rowL x) := by rw [List.getElem?_map, hx]; rfl
      have m2 : (m.map rowL)[j]? = some (rowL y) := by rw [List.getElem?_map, hy]; rfl
      have d0 := kp BK.out (hcc (t + j) _ m1 0 _ rfl)
      have d1 := kp BK.out (hcc (t + j) _ m1 1 _ rfl)
      rw [Nat.add_zero] at d0
      have e0 := kp BK.out (hcc2 j _ m2 0 _ rfl)
      have e1 := kp BK.out (hcc2 j _ m2 1 _ rfl)
      rw [Nat.add_zero] at e0
      have p0 : (0 : Int) ≤ (j : Int) := by omega
      have p1 : (j : Int) < (k : Int) := by omega
      have p2 : IntKind.i64.wrap (j : Int) = (j : Int) := IntWalk.i64_in _ (by omega)
      have p3 : IntKind.i64.wrap ((t : Int) + (j : Int)) = (t : Int) + (j : Int) := IntWalk.i64_in _ (by omega)
      have p4 : (0 : Int) ≤ (t : Int) + (j : Int) := by omega
      have p5 : (t : Int) + (j : Int) < (n : Int) := by omega
      have p6 : ((t : Int) + (j : Int)).toNat = t + j := by omega
      have NE : Hid (x ≠ y → decide ((l.drop t).take k = m) = false) := Lib.hid (fun h => decide_eq_false (fun e => by
        have e2 := congrArg (fun z : List Ln => z[j]?) e
        simp only [List.getElem?_take, List.getElem?_drop, hx, hy, if_pos hlt] at e2
        exact h (Option.some.inj e2)))
      have EQ : Hid (x = y → (l.drop t).take (j + 1) = m.take (j + 1)) := Lib.hid (fun h => by rw [take_get (l := l.drop t) (x := x) (by rw [List.getElem?_drop]; exact hx), take_get hy, HI.out, h])
      obtain ⟨xt, xn⟩ := x
      obtain ⟨yt, yn⟩ := y
      simp only at d0 d1 e0 e1
      clear hcc hcc2 m1 m2 hx hy
      by_cases hxy : xt = yt
      · subst hxy
        by_cases hb : xn = yn
        · subst hb
          have E := Lib.hid (EQ.out rfl)
          go_wp2_with fail
          go_quiet (fail)
          go_wp2_with fail
          go_roundw
          case rel => exact ⟨j + 1, by go_num, by omega, E, Lib.hid (BK.out.trans ((bel_dn wr _).mono BK.out.size))⟩
          case measure => simp [intOf]; omega
        · have E := Lib.hid (NE.out (fun e => hb (by cases e; rfl)))
          have tb : (xn == yn) = false := beq_eq_false_iff_ne.2 hb
          go_wp2_with fail
          go_quiet (fail)
          go_wp2_with fail
          go_ret
          exact ⟨by rw [E.out]; rfl, Lib.hid (BK.out.trans ((bel_dn wr _).mono BK.out.size))⟩
      · have E := Lib.hid (NE.out (fun e => hxy (by cases e; rfl)))
        have ts := strs_ne hxy
        clear hxy
        go_wp2_with fail
        go_quiet (fail)
        go_wp2_with fail
        go_ret
        exact ⟨by rw [E.out]; rfl, Lib.hid (BK.out.trans ((bel_dn wr _).mono BK.out.size))⟩
    · obtain rfl : j = k := by omega
      have E : Hid (decide ((l.drop t).take j = m) = true) := Lib.hid (decide_eq_true (by rw [HI.out, List.take_of_length_le (by rw [HN.out.2]; exact Nat.le_refl _)]))
      go_wp2_with fail
      go_ret
      exact ⟨by rw [E.out]; rfl, BK⟩
end Go.Proofs.YtnkpigibjicmaaaDoor
