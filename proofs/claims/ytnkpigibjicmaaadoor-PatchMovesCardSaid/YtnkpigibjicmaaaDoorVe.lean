/- walks: parts of lines, where they begin, marks; both (written by gen_ve.py) -/
import Derived.Test.YtnkpigibjicmaaaDoorVd
import Derived.Test.YtnkpigibjicmaaaDoorVrev
import Derived.BigQuiet
import Derived.BigGuard
import Derived.BigCall
namespace Go.Proofs.YtnkpigibjicmaaaDoor
open Go.RowKit Go.Maps
open Pt
abbrev bA (l : List UInt8) : ByteArray := ⟨l.toArray⟩
abbrev rowD (x : DL) : List Value := [.int .i64 x.1, .string x.2.1, .bool x.2.2]
abbrev rowL (x : Ln) : List Value := [.string x.1, .bool x.2]
theorem rtP : RT 63 95 (.agg #[.string ⟨#[]⟩, .bool false]) 2 24 := ⟨Tryd.underlying63, by kernel_rfl, rfl, by omega, by omega⟩
theorem rtR : RT 70 108 (.agg #[.string ⟨#[]⟩, .bool false]) 2 24 := ⟨Tryd.underlying70, by kernel_rfl, rfl, by omega, by omega⟩
theorem rtD : RT 36 59 (.agg #[.int .i64 0, .string ⟨#[]⟩, .bool false]) 3 32 := ⟨Tryd.underlying36, by kernel_rfl, rfl, by omega, by omega⟩
theorem rtH : RT 22 38 (.agg #[.int .i64 0, .int .i64 0, .int .i64 0, .int .i64 0, .slice none 0 0]) 5 56 := ⟨Tryd.underlying22, by kernel_rfl, rfl, by omega, by omega⟩
theorem rtG : RT 27 44 (.agg #[.int .i64 0, .int .i64 0, .int .i64 0]) 3 24 := ⟨Tryd.underlying27, by kernel_rfl, rfl, by omega, by omega⟩
theorem one_D {x : DL} : ∀ u ∈ rowD x, u.oneCell' = true := by intro u hu; simp at hu; rcases hu with rfl | rfl | rfl <;> rfl
theorem one_L {x : Ln} : ∀ u ∈ rowL x, u.oneCell' = true := by intro u hu; simp at hu; rcases hu with rfl | rfl <;> rfl
theorem side_len (op : Int) (l : List DL) : (sideP op l).length ≤ l.length := by
  unfold sideP; rw [List.length_map]; exact List.length_filter_le _ _
theorem side_snoc (op : Int) (l : List DL) (x : DL) : sideP op (l ++ [x]) = sideP op l ++ if x.1 = op ∨ x.1 = 1 then [x.2] else [] := by
  rw [side_app, side_cons]; simp [sideP]
set_option maxRecDepth 100000 in
set_option maxHeartbeats 2000000 in
theorem side_any (l : List DL) (v : Value) (op : Int) (w : World) (hv : RowsAt w v 3 (l.map rowD)) (hl : l.length ≤ 1048576) :
    Calls Tryd.prog 49 #[v, .int .i64 op] w fun e w' => ∃ v', e = .returned v' ∧ Hid (OwnR w' w.heap.size 95 2 v' ((sideP op l).map rowL)) ∧ Hid (Below w.heap.size w w') := by
  obtain ⟨n, hn⟩ : ∃ n, l.length = n := ⟨_, rfl⟩
  have HN := Lib.hid hn
  obtain ⟨a, cap, rfl, c1, c2, hc⟩ := hv.sl (n := n) (by rw [List.length_map]; exact hn)
  have HC := Lib.hid hc
  rw [hn] at hl
  unfold maxLen at c2
  clear hv hn hc
  go_enter Tryd.func49, Tryd.ntmps49
  go_wp2_with fail
  go_loopw [5, 10] (fun v i wr => ∃ j : Nat, i = .int .i64 j ∧ j ≤ n ∧ Hid (OwnR wr w.heap.size 95 2 v ((sideP op (l.take j)).map rowL)) ∧ Hid (Below w.heap.size w wr)) (fun _ i _ => n - (intOf i).toNat)
  case atStart => exact ⟨0, rfl, Nat.zero_le _, Lib.hid (OwnR.nil _ _ _ _), Lib.hid (Below.refl _ _)⟩
  case round =>
    obtain ⟨j, rfl, hj, OW, BK⟩ := hrel
    by_cases hlt : j < n
    · obtain ⟨x, hx⟩ : ∃ x, l[j]? = some x := ⟨_, List.getElem?_eq_getElem (by rw [HN.out]; exact hlt)⟩
      rcases HC.out with h0 | ⟨g, o, rfl, -, hcc⟩
      · omega
      have m1 : (l.map rowD)[j]? = some (rowD x) := by rw [List.getElem?_map, hx]; rfl
      have d0 := kp BK.out (hcc j _ m1 0 _ rfl)
      have d1 := kp BK.out (hcc j _ m1 1 _ rfl)
      have d2 := kp BK.out (hcc j _ m1 2 _ rfl)
      rw [Nat.add_zero] at d0
      have TK := Lib.hid (side_snoc op (l.take j) x)
      rw [← take_get hx] at TK
      have p0 : (0 : Int) ≤ (j : Int) := by omega
      have p1 : (j : Int) < (n : Int) := by omega
      have p2 : IntKind.i64.wrap (j : Int) = (j : Int) := IntWalk.i64_in _ (by omega)
      have LN : Hid (((sideP op (l.take j)).map rowL).length ≤ 1048576) := Lib.hid (by rw [List.length_map]; have := side_len op (l.take j); rw [List.length_take] at this; omega)
      obtain ⟨xo, xt, xn⟩ := x
      clear hcc m1 hx
      by_cases h1 : xo = op
      · obtain rfl := h1
        have BX := Lib.hid (BK.out.alloc BK.out.size (.cells #[.int .i64 xo, .string xt, .bool xn] 59))
        have OX := Lib.hid (OW.out.below ((Below.refl wr.heap.size wr).alloc (Nat.le_refl _) (.cells #[.int .i64 xo, .string xt, .bool xn] 59)))
        rw [if_pos (.inl rfl)] at TK
        go_wp2_with (first | (at_builtin; (first | (refine append_row rtP rfl _ _ rfl _ ((sideP xo (l.take j)).map rowL) #[.string xt, .bool xn] w.heap.size w _ OX.out rfl (one_L (x := (xt, xn))) BX.out BX.out.size LN.out (by simp [Act.eval]) (by simp [Act.eval]) ?_; intro v2 w2 own2 bel2) | go_in)))
        go_roundw
        case rel => exact ⟨j + 1, by go_num, by omega, Lib.hid (by rw [TK.out, List.map_append]; exact own2.out), bel2⟩
        case measure => simp [intOf] <;> omega
      · have t1 : (xo == op) = false := beq_eq_false_iff_ne.2 h1
        by_cases h2 : xo = 1
        · subst h2
          have BX := Lib.hid (BK.out.alloc BK.out.size (.cells #[.int .i64 1, .string xt, .bool xn] 59))
          have OX := Lib.hid (OW.out.below ((Below.refl wr.heap.size wr).alloc (Nat.le_refl _) (.cells #[.int .i64 1, .string xt, .bool xn] 59)))
          rw [if_pos (.inr rfl)] at TK
          go_wp2_with (first | (at_builtin; (first | (refine append_row rtP rfl _ _ rfl _ ((sideP op (l.take j)).map rowL) #[.string xt, .bool xn] w.heap.size w _ OX.out rfl (one_L (x := (xt, xn))) BX.out BX.out.size LN.out (by simp [Act.eval]) (by simp [Act.eval]) ?_; intro v2 w2 own2 bel2) | go_in)))
          go_roundw
          case rel => exact ⟨j + 1, by go_num, by omega, Lib.hid (by rw [TK.out, List.map_append]; exact own2.out), bel2⟩
          case measure => simp [intOf] <;> omega
        · have t2 : (xo == 1) = false := beq_eq_false_iff_ne.2 h2
          rw [if_neg (fun e => e.elim h1 h2), List.append_nil] at TK
          go_wp2_with fail
          go_roundw
          case rel => exact ⟨j + 1, by go_num, by omega, Lib.hid (by rw [TK.out]; exact OW.out.below ((Below.refl wr.heap.size wr).alloc (Nat.le_refl _) _)), Lib.hid (BK.out.alloc BK.out.size _)⟩
          case measure => simp [intOf] <;> omega
    · obtain rfl : j = n := by omega
      have TN : l.take j = l := List.take_of_length_le (by rw [HN.out]; exact Nat.le_refl _)
      rw [TN] at OW
      clear TN
      go_wp2_with fail
      go_ret
      exact ⟨_, rfl, OW, BK⟩
set_option maxRecDepth 100000 in
set_option maxHeartbeats 2000000 in
theorem part_any (l : List DL) (v : Value) (op : Int) (w : World) (hv : RowsAt w v 3 (l.map rowD)) (hl : l.length ≤ 1048576) :
    Calls Tryd.prog 33 #[v, .int .i64 op] w fun e w' => ∃ v', e = .returned v' ∧ Hid (OwnR w' w.heap.size 108 2 v' ((sideP op l).map rowL)) ∧ Hid (Below w.heap.size w w') := by
  obtain ⟨n, hn⟩ : ∃ n, l.length = n := ⟨_, rfl⟩
  have HN := Lib.hid hn
  obtain ⟨a, cap, rfl, c1, c2, hc⟩ := hv.sl (n := n) (by rw [List.length_map]; exact hn)
  have HC := Lib.hid hc
  rw [hn] at hl
  unfold maxLen at c2
  clear hv hn hc
  go_enter Tryd.func33, Tryd.ntmps33
  go_wp2_with fail
  go_loopw [5, 6] (fun v i wr => ∃ j : Nat, i = .int .i64 j ∧ j ≤ n ∧ Hid (OwnR wr w.heap.size 108 2 v ((sideP op (l.take j)).map rowL)) ∧ Hid (Below w.heap.size w wr)) (fun _ i _ => n - (intOf i).toNat)
  case atStart => exact ⟨0, rfl, Nat.zero_le _, Lib.hid (OwnR.nil _ _ _ _), Lib.hid (Below.refl _ _)⟩
  case round =>
    obtain ⟨j, rfl, hj, OW, BK⟩ := hrel
    by_cases hlt : j < n
    · obtain ⟨x, hx⟩ : ∃ x, l[j]? = some x := ⟨_, List.getElem?_eq_getElem (by rw [HN.out]; exact hlt)⟩
      rcases HC.out with h0 | ⟨g, o, rfl, -, hcc⟩
      · omega
      have m1 : (l.map rowD)[j]? = some (rowD x) := by rw [List.getElem?_map, hx]; rfl
      have d0 := kp BK.out (hcc j _ m1 0 _ rfl)
      have d1 := kp BK.out (hcc j _ m1 1 _ rfl)
      have d2 := kp BK.out (hcc j _ m1 2 _ rfl)
      rw [Nat.add_zero] at d0
      have TK := Lib.hid (side_snoc op (l.take j) x)
      rw [← take_get hx] at TK
      have p0 : (0 : Int) ≤ (j : Int) := by omega
      have p1 : (j : Int) < (n : Int) := by omega
      have p2 : IntKind.i64.wrap (j : Int) = (j : Int) := IntWalk.i64_in _ (by omega)
      have LN : Hid (((sideP op (l.take j)).map rowL).length ≤ 1048576) := Lib.hid (by rw [List.length_map]; have := side_len op (l.take j); rw [List.length_take] at this; omega)
      obtain ⟨xo, xt, xn⟩ := x
      clear hcc m1 hx
      by_cases h2 : xo = 1
      · subst h2
        rw [if_pos (.inr rfl)] at TK
        go_wp2_with fail
        go_region_law (first | (refine step_row rtR rfl (.tmp 28) (.tmp 40) rfl _ ((sideP op (l.take j)).map rowL) (sideP op (l.take j)).length (by rw [List.length_map]) #[.string xt, .bool xn] w.heap.size w _ (OW.out.below (Below.drew (Below.refl wr.heap.size wr))) rfl (one_L (x := (xt, xn))) BK.out.drew BK.out.drew.size LN.out (by simp [Act.eval]) (by simp [Act.eval]) ?_; intro g2 k2 w2 own2 bel2))
        all_goals go_wp2_with fail
        all_goals
          go_roundw
          case rel => exact ⟨j + 1, by go_num, by omega, Lib.hid (by rw [TK.out, List.map_append]; exact own2.out), bel2⟩
          case measure => simp [intOf] <;> omega
      · have t2 : (xo == 1) = false := beq_eq_false_iff_ne.2 h2
        by_cases h1 : xo = op
        · obtain rfl := h1
          rw [if_pos (.inl rfl)] at TK
          go_wp2_with fail
          go_region_law (first | (refine step_row rtR rfl (.tmp 28) (.tmp 40) rfl _ ((sideP xo (l.take j)).map rowL) (sideP xo (l.take j)).length (by rw [List.length_map]) #[.string xt, .bool xn] w.heap.size w _ (OW.out.below (Below.drew (Below.refl wr.heap.size wr))) rfl (one_L (x := (xt, xn))) BK.out.drew BK.out.drew.size LN.out (by simp [Act.eval]) (by simp [Act.eval]) ?_; intro g2 k2 w2 own2 bel2))
          all_goals go_wp2_with fail
          all_goals
            go_roundw
            case rel => exact ⟨j + 1, by go_num, by omega, Lib.hid (by rw [TK.out, List.map_append]; exact own2.out), bel2⟩
            case measure => simp [intOf] <;> omega
        · have t1 : (xo == op) = false := beq_eq_false_iff_ne.2 h1
          rw [if_neg (fun e => e.elim h1 h2), List.append_nil] at TK
          go_wp2_with fail
          go_roundw
          case rel => exact ⟨j + 1, by go_num, by omega, Lib.hid (by rw [TK.out]; exact OW.out), BK⟩
          case measure => simp [intOf] <;> omega
    · obtain rfl : j = n := by omega
      have TN : l.take j = l := List.take_of_length_le (by rw [HN.out]; exact Nat.le_refl _)
      rw [TN] at OW
      clear TN
      go_wp2_with fail
      go_ret
      exact ⟨_, rfl, OW, BK⟩
theorem begin_any (f n : Int) (w : World) (h1 : 0 ≤ n) (h2 : 0 ≤ f) (h3 : f ≤ 2147483648) : Calls Tryd.prog 47 #[.int .i64 f, .int .i64 n] w fun e w' => e = .returned (.int .i64 (beginP f n)) ∧ w = w' := by
  by_cases h0 : n = 0
  · subst h0
    unfold beginP
    rw [if_pos rfl]
    go_enter Tryd.func47, Tryd.ntmps47
    go_wp2_with fail
    go_ret
    exact ⟨rfl, rfl⟩
  · have t1 : (n == 0) = false := beq_eq_false_iff_ne.2 h0
    unfold beginP
    rw [if_neg h0]
    clear h0
    go_enter Tryd.func47, Tryd.ntmps47
    go_wp2_with fail
    go_ret
    exact ⟨rfl, rfl⟩
theorem rbegin_any (f n : Int) (w : World) (h1 : 0 ≤ n) (h2 : 0 ≤ f) (h3 : f ≤ 2147483648) : Calls Tryd.prog 32 #[.int .i64 f, .int .i64 n] w fun e w' => e = .returned (.int .i64 (beginP f n)) ∧ w = w' := by
  by_cases h0 : n = 0
  · subst h0
    unfold beginP
    rw [if_pos rfl]
    go_enter Tryd.func32, Tryd.ntmps32
    go_wp2_with fail
    go_ret
    exact ⟨rfl, rfl⟩
  · have t1 : decide (0 < n) = true := decide_eq_true (by omega)
    unfold beginP
    rw [if_neg h0]
    clear h0
    go_enter Tryd.func32, Tryd.ntmps32
    go_wp2_with fail
    go_ret
    exact ⟨rfl, rfl⟩
end Go.Proofs.YtnkpigibjicmaaaDoor
