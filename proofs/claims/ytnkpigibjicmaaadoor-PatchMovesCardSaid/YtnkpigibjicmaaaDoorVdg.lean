/- walks: the lines of both files, the first line (written by gen_vdg.py) -/
import Derived.Test.YtnkpigibjicmaaaDoorVdf
namespace Go.Proofs.YtnkpigibjicmaaaDoor
open Go.RowKit Go.Maps
open Pt
def nA (l : List DL) : Nat := l.countP fun x => decide (x.1 ≠ 3)
def nB (l : List DL) : Nat := l.countP fun x => decide (x.1 ≠ 2)
set_option maxRecDepth 100000 in
set_option maxHeartbeats 2000000 in
theorem count_any (l : List DL) (v : Value) (w : World) (hv : RowsAt w v 3 (l.map rowD)) (hl : l.length ≤ 100000) :
    Calls Tryd.prog 40 #[v] w fun e w' => e = .returned (.tuple #[.int .i64 (nA l : Nat), .int .i64 (nB l : Nat)]) ∧ w = w' := by
  obtain ⟨n, hn⟩ : ∃ n, l.length = n := ⟨_, rfl⟩
  have HN := Lib.hid hn
  obtain ⟨a, cap, rfl, c1, c2, hc⟩ := hv.sl (n := n) (by rw [List.length_map]; exact hn)
  have HC := Lib.hid hc
  rw [hn] at hl
  unfold maxLen at c2
  clear hv hn hc
  go_enter Tryd.func40, Tryd.ntmps40
  go_wp2_with fail
  go_loop [4, 5, 6] (fun x y i => ∃ j p q : Nat, x = .int .i64 p ∧ y = .int .i64 q ∧ i = .int .i64 j ∧ j ≤ n ∧ Hid (p + nA (l.drop j) = nA l ∧ q + nB (l.drop j) = nB l ∧ p ≤ j ∧ q ≤ j)) (fun _ _ i => n - (intOf i).toNat)
  case atStart => exact ⟨0, 0, 0, rfl, rfl, rfl, Nat.zero_le _, Lib.hid ⟨by simp, by simp, by omega, by omega⟩⟩
  case round =>
    obtain ⟨j, p, q, rfl, rfl, rfl, hj, HE⟩ := hrel
    have hp := HE.out.2.2.1
    have hq := HE.out.2.2.2
    by_cases hlt : j < n
    · obtain ⟨x, hx⟩ : ∃ x, l[j]? = some x := ⟨_, List.getElem?_eq_getElem (by rw [HN.out]; exact hlt)⟩
      rcases HC.out with h0 | ⟨g, o, rfl, -, hcc⟩
      · omega
      have m1 : (l.map rowD)[j]? = some (rowD x) := by rw [List.getElem?_map, hx]; rfl
      have d0 := hcc j _ m1 0 _ rfl
      rw [Nat.add_zero] at d0
      have DA : Hid (nA (l.drop j) = nA (l.drop (j + 1)) + (if x.1 = 3 then 0 else 1)) := Lib.hid (by
        rw [drop_get hx]; unfold nA; rw [List.countP_cons]; by_cases e : x.1 = 3 <;> simp [e])
      have DB : Hid (nB (l.drop j) = nB (l.drop (j + 1)) + (if x.1 = 2 then 0 else 1)) := Lib.hid (by
        rw [drop_get hx]; unfold nB; rw [List.countP_cons]; by_cases e : x.1 = 2 <;> simp [e])
      have p0 : (0 : Int) ≤ (j : Int) := by omega
      have p1 : (j : Int) < (n : Int) := by omega
      have p2 : IntKind.i64.wrap (j : Int) = (j : Int) := IntWalk.i64_in _ (by omega)
      obtain ⟨xo, xt, xn⟩ := x
      simp only at d0 DA DB
      clear hcc m1 hx
      by_cases h3 : xo = 3
      · subst h3
        have E : Hid (p + nA (l.drop (j + 1)) = nA l ∧ q + 1 + nB (l.drop (j + 1)) = nB l ∧ p ≤ j + 1 ∧ q + 1 ≤ j + 1) := Lib.hid (by
          have h1 := HE.out; have h2 := DA.out; have h3 := DB.out; simp at h2 h3; omega)
        clear DA DB
        go_wp2_with fail
        go_round
        case rel => exact ⟨j + 1, p, q + 1, by go_num, by go_num, by go_num, by omega, E⟩
        case measure => simp [intOf]; omega
      · have t3 : (xo == 3) = false := beq_eq_false_iff_ne.2 h3
        by_cases h2 : xo = 2
        · subst h2
          have E : Hid (p + 1 + nA (l.drop (j + 1)) = nA l ∧ q + nB (l.drop (j + 1)) = nB l ∧ p + 1 ≤ j + 1 ∧ q ≤ j + 1) := Lib.hid (by
            have h1 := HE.out; have h2 := DA.out; have h3 := DB.out; simp at h2 h3; omega)
          clear DA DB
          go_wp2_with fail
          go_round
          case rel => exact ⟨j + 1, p + 1, q, by go_num, by go_num, by go_num, by omega, E⟩
          case measure => simp [intOf]; omega
        · have t2 : (xo == 2) = false := beq_eq_false_iff_ne.2 h2
          have E : Hid (p + 1 + nA (l.drop (j + 1)) = nA l ∧ q + 1 + nB (l.drop (j + 1)) = nB l ∧ p + 1 ≤ j + 1 ∧ q + 1 ≤ j + 1) := Lib.hid (by
            have h1 := HE.out; have h4 := DA.out; have h5 := DB.out; rw [if_neg h3] at h4; rw [if_neg h2] at h5; omega)
          clear DA DB h2 h3
          go_wp2_with fail
          go_round
          case rel => exact ⟨j + 1, p + 1, q + 1, by go_num, by go_num, by go_num, by omega, E⟩
          case measure => simp [intOf]; omega
    · obtain rfl : j = n := by omega
      have FE : Hid (nA l = p ∧ nB l = q) := Lib.hid (by
        have h := HE.out
        rw [List.drop_eq_nil_of_le (by rw [HN.out]; exact Nat.le_refl _)] at h
        simp [nA, nB] at h ⊢; omega)
      go_wp2_with fail
      go_ret2
      exact ⟨by rw [FE.out.1, FE.out.2]; rfl, rfl⟩
end Go.Proofs.YtnkpigibjicmaaaDoor
