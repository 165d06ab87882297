/- walks: few hunks (written by gen_vn.py) -/
import Derived.Test.YtnkpigibjicmaaaDoorVm
namespace Go.Proofs.YtnkpigibjicmaaaDoor
open Go.RowKit Go.Maps
open Pt
set_option maxRecDepth 100000 in
set_option maxHeartbeats 4000000 in
theorem few_any (old new : ByteArray) (L : List HV) (v : Value) (w : World) (hv : HksAt w v L) (hz : ∀ p ∈ L, ∀ x ∈ p.1.ls, x.2.1.size ≤ 9223372036854775807) :
    Calls Tryd.prog 9 #[.agg #[.string old, .string new, v]] w fun e w' => e = .returned (.bool (fewPB L)) ∧ Hid (Below w.heap.size w w') := by
  obtain ⟨n, hn⟩ : ∃ n, L.length = n := ⟨_, rfl⟩
  have HN := Lib.hid hn
  have HVH := Lib.hid hv
  have HZ := Lib.hid hz
  obtain ⟨a, cap, rfl, c1, c2, hc⟩ := hv.rows.sl (n := n) (by rw [List.length_map]; exact hn)
  have HC := Lib.hid hc
  unfold maxLen at c2
  have B0 : Hid (Below w.heap.size w (w.alloc (.cells #[.string old, .string new, .slice a n cap] 24))) := Lib.hid ((Below.refl _ _).alloc (Nat.le_refl _) _)
  have Y2 := Lib.hid (blk_cellx (heap_alloc_new w (.cells #[.string old, .string new, .slice a n cap] 24)) 2 _ rfl)
  clear hv hn hc hz
  go_enter Tryd.func9, Tryd.ntmps9
  go_wp2_with fail
  go_loop [3] (fun i => ∃ j : Nat, i = .int .i64 j ∧ j ≤ n ∧ j ≤ 8 ∧ Hid ((L.take j).all (fun p => fewLB p.1.ls) = true)) (fun i => n - (intOf i).toNat)
  case atStart => exact ⟨0, rfl, Nat.zero_le _, Nat.zero_le _, Lib.hid rfl⟩
  case round =>
    obtain ⟨j, rfl, hj, hj8, HA⟩ := hrel
    have y2 := Y2.out
    by_cases hlt : j < n
    · obtain ⟨x, hx⟩ : ∃ x, L[j]? = some x := ⟨_, List.getElem?_eq_getElem (by rw [HN.out]; exact hlt)⟩
      by_cases h8 : 8 ≤ j
      · have E : Hid (fewPB L = false) := Lib.hid (by unfold fewPB; rw [HN.out, decide_eq_false (by omega)]; rfl)
        obtain rfl : j = 8 := by omega
        clear hx
        go_wp2_with fail
        go_ret
        exact ⟨by rw [E.out]; rfl, B0⟩
      · have t8 : decide ((8 : Int) ≤ (j : Int)) = false := decide_eq_false (by omega)
        have hmem := List.mem_of_getElem? hx
        rcases HC.out with h0 | ⟨g, o, rfl, -, hcc⟩
        · omega
        have m1 : (L.map rowH)[j]? = some (rowH x) := by rw [List.getElem?_map, hx]; rfl
        have d4 := kp B0.out (hcc j _ m1 4 _ rfl)
        have HX := Lib.hid ((HVH.out.each x hmem).below B0.out)
        have ZX := Lib.hid (HZ.out x hmem)
        have NO := Lib.hid (few_no hx)
        have TK : Hid ((L.take (j + 1)).all (fun p => fewLB p.1.ls) = ((L.take j).all (fun p => fewLB p.1.ls) && fewLB x.1.ls)) := Lib.hid (by rw [take_get hx, List.all_append]; simp)
        have p0 : (0 : Int) ≤ (j : Int) := by omega
        have p1 : (j : Int) < (n : Int) := by omega
        have p2 : IntKind.i64.wrap (j : Int) = (j : Int) := IntWalk.i64_in _ (by omega)
        obtain ⟨⟨fa, la, fb, lb, ls⟩, u⟩ := x
        simp only at d4 HX ZX NO TK
        clear hcc m1 hx hmem
        obtain ⟨un, hun⟩ : ∃ n, ls.length = n := ⟨_, rfl⟩
        obtain ⟨ua, uc, rfl, e1, e2, hcU⟩ := HX.out.sl (n := un) (by rw [List.length_map]; exact hun)
        have HU := Lib.hid hcU
        have LU := Lib.hid hun
        unfold maxLen at e2
        clear hcU hun
        by_cases h20 : 20 < un
        · have t20 : decide ((20 : Int) < (un : Int)) = true := decide_eq_true (by omega)
          have E : Hid (fewPB L = false) := Lib.hid (NO.out (by unfold fewLB; rw [LU.out, decide_eq_false (by omega)]; rfl))
          go_wp2_with fail
          go_ret
          exact ⟨by rw [E.out]; rfl, B0⟩
        · have t20 : decide ((20 : Int) < (un : Int)) = false := decide_eq_false (by omega)
          go_wp2_with fail
          go_loop [4] (fun i => ∃ k : Nat, i = .int .i64 k ∧ k ≤ un ∧ Hid ((ls.take k).all (fun x => decide (x.2.1.size ≤ 40)) = true)) (fun i => un - (intOf i).toNat)
          case atStart => exact ⟨0, rfl, Nat.zero_le _, Lib.hid rfl⟩
          case round =>
            obtain ⟨k, rfl, hk, HK⟩ := hrel
            by_cases hlk : k < un
            · obtain ⟨y, hy⟩ : ∃ y, ls[k]? = some y := ⟨_, List.getElem?_eq_getElem (by rw [LU.out]; exact hlk)⟩
              rcases HU.out with h0 | ⟨g2, o2, rfl, -, hcc⟩
              · omega
              have m1 : (ls.map rowD)[k]? = some (rowD y) := by rw [List.getElem?_map, hy]; rfl
              have f1 := hcc k _ m1 1 _ rfl
              have zy := ZX.out y (List.mem_of_getElem? hy)
              have q0 : (0 : Int) ≤ (k : Int) := by omega
              have q1 : (k : Int) < (un : Int) := by omega
              have q2 : IntKind.i64.wrap (k : Int) = (k : Int) := IntWalk.i64_in _ (by omega)
              have TY : Hid ((ls.take (k + 1)).all (fun x => decide (x.2.1.size ≤ 40)) = ((ls.take k).all (fun x => decide (x.2.1.size ≤ 40)) && decide (y.2.1.size ≤ 40))) := Lib.hid (by rw [take_get hy, List.all_append]; simp)
              have BAD : Hid (¬ y.2.1.size ≤ 40 → fewPB L = false) := Lib.hid (fun hb => NO.out (by unfold fewLB; rw [show (ls.all fun x => decide (x.2.1.size ≤ 40)) = false from List.all_eq_false.2 ⟨y, List.mem_of_getElem? hy, by simpa using hb⟩, Bool.and_false]))
              obtain ⟨yo, yt, yn⟩ := y
              simp only at f1 zy TY BAD
              clear hcc m1 hy
              by_cases h40 : yt.size ≤ 40
              · have t40 : decide ((40 : Int) < (yt.size : Int)) = false := decide_eq_false (by omega)
                have OK : Hid ((ls.take (k + 1)).all (fun x => decide (x.2.1.size ≤ 40)) = true) := Lib.hid (by rw [TY.out, HK.out, decide_eq_true h40]; rfl)
                go_wp2_with fail
                go_round
                case rel => exact ⟨k + 1, by go_num, by omega, OK⟩
                case measure => simp [intOf]; omega
              · have t40 : decide ((40 : Int) < (yt.size : Int)) = true := decide_eq_true (by omega)
                have E := Lib.hid (BAD.out h40)
                go_wp2_with fail
                go_ret
                exact ⟨by rw [E.out]; rfl, B0⟩
            · obtain rfl : k = un := by omega
              have FX : Hid (fewLB ls = true) := Lib.hid (by unfold fewLB; rw [LU.out, decide_eq_true (by omega), Bool.true_and]; have := HK.out; rwa [List.take_of_length_le (by rw [LU.out]; exact Nat.le_refl _)] at this)
              go_wp2_with fail
              go_round
              case rel => exact ⟨j + 1, by go_num, by omega, by omega, Lib.hid (by rw [TK.out, HA.out, FX.out]; rfl)⟩
              case measure => simp [intOf]; omega
    · obtain rfl : j = n := by omega
      have E : Hid (fewPB L = true) := Lib.hid (by unfold fewPB; rw [HN.out, decide_eq_true hj8, Bool.true_and]; have := HA.out; rwa [List.take_of_length_le (by rw [HN.out]; exact Nat.le_refl _)] at this)
      go_wp2_with fail
      go_ret
      exact ⟨by rw [E.out]; rfl, B0⟩
end Go.Proofs.YtnkpigibjicmaaaDoor
