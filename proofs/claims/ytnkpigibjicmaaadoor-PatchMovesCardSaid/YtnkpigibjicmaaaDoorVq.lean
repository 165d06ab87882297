/- walks: the context lines at the beginning (written by gen_vq.py) -/
import Derived.Test.YtnkpigibjicmaaaDoorVp
namespace Go.Proofs.YtnkpigibjicmaaaDoor
open Go.RowKit Go.Maps
open Pt
theorem ctx_zero (l : List DL) : ctx l 0 = 0 := by unfold ctx; simp
theorem ctx_nil (f : Nat) : ctx [] f = 0 := by unfold ctx; simp
theorem ctx_yes {x : DL} {r : List DL} {f : Nat} (h : x.1 = 1) : ctx (x :: r) (f + 1) = ctx r f + 1 := by
  unfold ctx; rw [List.take_succ_cons, List.takeWhile_cons_of_pos (by simpa using h)]; rfl
theorem ctx_no {x : DL} {r : List DL} {f : Nat} (h : ¬ x.1 = 1) : ctx (x :: r) f = 0 := by
  unfold ctx
  cases f with
  | zero => simp
  | succ f => rw [List.take_succ_cons, List.takeWhile_cons_of_neg (by simpa using h)]; rfl
theorem ctx_le (l : List DL) (f : Nat) : ctx l f ≤ l.length ∧ ctx l f ≤ f := by
  unfold ctx
  have h := (List.takeWhile_sublist (l := l.take f) fun x => decide (x.1 = 1)).length_le
  rw [List.length_take] at h
  omega
set_option maxRecDepth 100000 in
set_option maxHeartbeats 2000000 in
theorem context_any (l : List DL) (v : Value) (f : Nat) (w : World) (hv : RowsAt w v 3 (l.map rowD)) (hl : l.length ≤ 1048576) (hf : f ≤ 1048576) :
    Calls Tryd.prog 61 #[v, .int .i64 f] w fun e w' => e = .returned (.int .i64 (ctx l f : Nat)) ∧ w' = w := by
  obtain ⟨n, hn⟩ : ∃ n, l.length = n := ⟨_, rfl⟩
  have HN := Lib.hid hn
  obtain ⟨a, cap, rfl, c1, c2, hc⟩ := hv.sl (n := n) (by rw [List.length_map]; exact hn)
  have HC := Lib.hid hc
  rw [hn] at hl
  unfold maxLen at c2
  clear hv hn hc
  go_enter Tryd.func61, Tryd.ntmps61
  go_wp2_with fail
  go_loop [5] (fun i => ∃ j : Nat, i = .int .i64 j ∧ j ≤ n ∧ j ≤ f ∧ Hid (ctx l f = j + ctx (l.drop j) (f - j))) (fun i => n - (intOf i).toNat)
  case atStart => exact ⟨0, rfl, Nat.zero_le _, Nat.zero_le _, Lib.hid (by simp)⟩
  case round =>
    obtain ⟨j, rfl, hj, hjf, HI⟩ := hrel
    by_cases hlt : j < n
    · obtain ⟨x, hx⟩ : ∃ x, l[j]? = some x := ⟨_, List.getElem?_eq_getElem (by rw [HN.out]; exact hlt)⟩
      rcases HC.out with h0 | ⟨g, o, rfl, -, hcc⟩
      · omega
      have m1 : (l.map rowD)[j]? = some (rowD x) := by rw [List.getElem?_map, hx]; rfl
      have d0 := hcc j _ m1 0 _ rfl
      rw [Nat.add_zero] at d0
      have DR := Lib.hid (drop_get hx)
      have p0 : (0 : Int) ≤ (j : Int) := by omega
      have p1 : (j : Int) < (n : Int) := by omega
      have p2 : IntKind.i64.wrap (j : Int) = (j : Int) := IntWalk.i64_in _ (by omega)
      obtain ⟨xo, xt, xn⟩ := x
      clear hcc m1 hx
      by_cases hf2 : j < f
      · have q1 : (j : Int) < (f : Int) := by omega
        by_cases h1 : xo = 1
        · subst h1
          have E : Hid (ctx l f = (j + 1) + ctx (l.drop (j + 1)) (f - (j + 1))) := Lib.hid (by rw [HI.out, DR.out, show f - j = (f - (j + 1)) + 1 by omega, ctx_yes rfl]; omega)
          go_wp2_with fail
          go_round
          case rel => exact ⟨j + 1, by go_num, by omega, by omega, E⟩
          case measure => simp [intOf]; omega
        · have t1 : (xo == 1) = false := beq_eq_false_iff_ne.2 h1
          have E : Hid (ctx l f = j) := Lib.hid (by rw [HI.out, DR.out, ctx_no h1]; omega)
          clear h1
          go_wp2_with fail
          go_ret
          exact ⟨by rw [E.out]; rfl, rfl⟩
      · have q1 : ¬ (j : Int) < (f : Int) := by omega
        have E : Hid (ctx l f = j) := Lib.hid (by rw [HI.out, show f - j = 0 by omega, ctx_zero]; omega)
        go_wp2_with fail
        go_ret
        exact ⟨by rw [E.out]; rfl, rfl⟩
    · obtain rfl : j = n := by omega
      have E : Hid (ctx l f = j) := Lib.hid (by rw [HI.out, List.drop_eq_nil_of_le (by rw [HN.out]; exact Nat.le_refl _), ctx_nil]; omega)
      go_wp2_with fail
      go_ret
      exact ⟨by rw [E.out]; rfl, rfl⟩
end Go.Proofs.YtnkpigibjicmaaaDoor
