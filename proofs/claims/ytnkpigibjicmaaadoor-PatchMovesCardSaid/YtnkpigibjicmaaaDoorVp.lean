/- walks: equal lists of places (written by gen_vp.py) -/
import Derived.Test.YtnkpigibjicmaaaDoorVo
namespace Go.Proofs.YtnkpigibjicmaaaDoor
open Go.RowKit Go.Maps
open Pt
abbrev rowG (x : Int × Int × Int) : List Value := [.int .i64 x.1, .int .i64 x.2.1, .int .i64 x.2.2]
set_option maxRecDepth 100000 in
set_option maxHeartbeats 4000000 in
theorem placed_eq (l : List (Int × Int × Int)) (u x : Value) (w : World) (hu : RowsAt w u 3 (l.map rowG)) (hx : RowsAt w x 3 (l.map rowG)) (hl : l.length ≤ 1048576) :
    Calls Tryd.prog 13 #[u, x] w fun e w' => e = .returned (.bool true) ∧ Hid (Below w.heap.size w w') := by
  obtain ⟨n, hn⟩ : ∃ n, l.length = n := ⟨_, rfl⟩
  have HN := Lib.hid hn
  obtain ⟨ua, uc, rfl, u1, u2, hcu⟩ := hu.sl (n := n) (by rw [List.length_map]; exact hn)
  obtain ⟨xa, xc, rfl, x1, x2, hcx⟩ := hx.sl (n := n) (by rw [List.length_map]; exact hn)
  have HU := Lib.hid hcu
  have HX := Lib.hid hcx
  rw [hn] at hl
  unfold maxLen at u2 x2
  clear hu hx hn hcu hcx
  go_enter Tryd.func13, Tryd.ntmps13
  go_wp2_with fail
  go_loopw [5] (fun i wr => ∃ j : Nat, i = .int .i64 j ∧ j ≤ n ∧ Hid (Below w.heap.size w wr)) (fun i _ => n - (intOf i).toNat)
  case atStart => exact ⟨0, rfl, Nat.zero_le _, Lib.hid (Below.refl _ _)⟩
  case round =>
    obtain ⟨j, rfl, hj, BK⟩ := hrel
    by_cases hlt : j < n
    · obtain ⟨x, hx⟩ : ∃ x, l[j]? = some x := ⟨_, List.getElem?_eq_getElem (by rw [HN.out]; exact hlt)⟩
      rcases HU.out with h0 | ⟨g, o, rfl, -, hcc⟩
      · omega
      rcases HX.out with h0 | ⟨g2, o2, rfl, -, hcc2⟩
      · omega
      have m1 : (l.map rowG)[j]? = some (rowG x) := by rw [List.getElem?_map, hx]; rfl
      have d0 := kp BK.out (hcc j _ m1 0 _ rfl)
      have d1 := kp BK.out (hcc j _ m1 1 _ rfl)
      have d2 := kp BK.out (hcc j _ m1 2 _ rfl)
      rw [Nat.add_zero] at d0
      have e0 := kp BK.out (hcc2 j _ m1 0 _ rfl)
      have e1 := kp BK.out (hcc2 j _ m1 1 _ rfl)
      have e2 := kp BK.out (hcc2 j _ m1 2 _ rfl)
      rw [Nat.add_zero] at e0
      have p0 : (0 : Int) ≤ (j : Int) := by omega
      have p1 : (j : Int) < (n : Int) := by omega
      have p2 : IntKind.i64.wrap (j : Int) = (j : Int) := IntWalk.i64_in _ (by omega)
      obtain ⟨xo, xt, xn⟩ := x
      clear hcc hcc2 m1 hx
      go_wp2_with fail
      go_quiet (fail)
      go_wp2_with fail
      go_roundw
      case rel => exact ⟨j + 1, by go_num, by omega, Lib.hid (BK.out.trans ((bel_dn wr _).mono BK.out.size))⟩
      case measure => simp [intOf]; omega
    · obtain rfl : j = n := by omega
      go_wp2_with fail
      go_ret
      exact ⟨rfl, BK⟩
end Go.Proofs.YtnkpigibjicmaaaDoor
