/- walks: the table of costs (written by gen_vdb.py) -/
import Derived.Test.YtnkpigibjicmaaaDoorVda
import Derived.Test.YtnkpigibjicmaaaDoorVca
import Derived.Test.YtnkpigibjicmaaaDoorStrs
import Derived.Test.YtnkpigibjicmaaaDoorVh
namespace Go.Proofs.YtnkpigibjicmaaaDoor
open Go.RowKit Go.Maps
open Pt
theorem rtI : RT 123 3 (.int .i64 0) 1 8 := ⟨Tryd.underlying123, by kernel_rfl, rfl, by omega, by omega⟩
/-- the table of costs, how far it is filled: the rows behind the last but p, and in the next row the places behind the last but q -/
def CT (w : World) (g : Nat) (a b : List ByteArray) (p q : Nat) : Prop := ∃ cs : Array Value, w.heap[g]? = some (.cells cs 3 (0, 0)) ∧ cs.size = (a.length + 1) * (b.length + 1) ∧
  ∀ i j, i ≤ a.length → j ≤ b.length → (a.length < i + p ∨ (i + p = a.length ∧ b.length < j + q)) → cs[i * (b.length + 1) + j]? = some (.int .i64 (cost (a.drop i) (b.drop j) : Nat))
theorem tab_lt {i j n m : Nat} (hi : i ≤ n) (hj : j ≤ m) : i * (m + 1) + j < (n + 1) * (m + 1) := by
  have := Nat.mul_le_mul_right (m + 1) hi
  rw [Nat.add_mul]; omega
theorem tab_ne {i j i' j' m : Nat} (hj : j ≤ m) (hj' : j' ≤ m) (h : i * (m + 1) + j = i' * (m + 1) + j') : i = i' ∧ j = j' := by
  rcases Nat.lt_trichotomy i i' with hl | rfl | hl
  · have := Nat.mul_le_mul_right (m + 1) (show i + 1 ≤ i' from hl)
    rw [Nat.add_mul] at this; omega
  · omega
  · have := Nat.mul_le_mul_right (m + 1) (show i' + 1 ≤ i from hl)
    rw [Nat.add_mul] at this; omega
theorem CT.made (w : World) (z : Array Value) (a b : List ByteArray) (N : Nat) (hN : (a.length + 1) * (b.length + 1) = N) : CT (w.alloc (.cells (madeCells z N) 3)) w.heap.size a b 0 0 := ⟨_, heap_alloc_new w _, by rw [size_madeCells, hN], fun i j hi hj h => by omega⟩
theorem CT.at {w : World} {g : Nat} {a b : List ByteArray} {p q : Nat} (h : CT w g a b p q) (i j : Nat) (hi : i ≤ a.length) (hj : j ≤ b.length) (hd : a.length < i + p ∨ (i + p = a.length ∧ b.length < j + q)) : w.cell? ⟨g, i * (b.length + 1) + j, none⟩ = some (.int .i64 (cost (a.drop i) (b.drop j) : Nat)) := by
  obtain ⟨cs, h1, -, h3⟩ := h
  exact blk_cellx h1 _ _ (h3 i j hi hj hd)
theorem CT.cell {w : World} {g : Nat} {a b : List ByteArray} {p q : Nat} (h : CT w g a b p q) (t : Nat) (ht : t < (a.length + 1) * (b.length + 1)) : ∃ y, w.cell? ⟨g, t, none⟩ = some y := by
  obtain ⟨cs, h1, h2, -⟩ := h
  exact ⟨_, blk_cellx h1 t _ (Array.getElem?_eq_getElem (by omega))⟩
theorem CT.fr {w : World} {g : Nat} {a b : List ByteArray} {p q : Nat} (h : CT w g a b p q) (t : Nat) : w.frozen? ⟨g, t, none⟩ = false := by
  obtain ⟨cs, h1, -⟩ := h
  simp [World.frozen?, h1]
theorem CT.lt {w : World} {g : Nat} {a b : List ByteArray} {p q : Nat} (h : CT w g a b p q) : g < w.heap.size := by
  obtain ⟨cs, h1, -⟩ := h
  exact (Array.getElem?_eq_some_iff.1 h1).1
theorem CT.below {w w' : World} {g : Nat} {a b : List ByteArray} {p q : Nat} (h : CT w g a b p q) (hb : Below w.heap.size w w') : CT w' g a b p q := by
  have hl := h.lt
  obtain ⟨cs, h1, h2⟩ := h
  exact ⟨cs, (hb.block g hl).trans h1, h2⟩
theorem CT.row {w : World} {g : Nat} {a b : List ByteArray} {p : Nat} (h : CT w g a b p (b.length + 1)) : CT w g a b (p + 1) 0 := by
  obtain ⟨cs, h1, h2, h3⟩ := h
  exact ⟨cs, h1, h2, fun i j hi hj hd => h3 i j hi hj (by omega)⟩
theorem CT.set {w : World} {g : Nat} {a b : List ByteArray} {p q : Nat} (h : CT w g a b p q) (i j : Nat) (hi : i + p = a.length) (hj : j + q = b.length) (v : Value) (hv : v = .int .i64 (cost (a.drop i) (b.drop j) : Nat)) : CT (w.setCell ⟨g, i * (b.length + 1) + j, none⟩ v) g a b p (q + 1) := by
  obtain ⟨cs, h1, h2, h3⟩ := h
  refine ⟨_, blk_set h1 _ v, by simpa using h2, fun i' j' hi' hj' hd => ?_⟩
  by_cases e : i = i' ∧ j = j'
  · obtain ⟨rfl, rfl⟩ := e
    rw [Array.getElem?_setIfInBounds_self_of_lt (by rw [h2]; exact tab_lt hi' hj'), hv]
  · rw [Array.getElem?_setIfInBounds_ne (fun he => e (tab_ne (by omega) hj' he))]
    exact h3 i' j' hi' hj' (by omega)
set_option maxRecDepth 100000 in
set_option maxHeartbeats 4000000 in
theorem costs_any (a b : List ByteArray) (va vb : Value) (w : World) (ha : Strs w va a) (hb : Strs w vb b) (hn : a.length ≤ 1000) (hm : b.length ≤ 1000) :
    Calls Tryd.prog 72 #[va, vb] w fun e w' => ∃ g : Nat, e = .returned (.slice (some ⟨g, 0, none⟩) ((a.length + 1) * (b.length + 1)) ((a.length + 1) * (b.length + 1))) ∧ Hid (w.heap.size ≤ g) ∧ Hid (CT w' g a b (a.length + 1) 0) ∧ Hid (Below w.heap.size w w') := by
  obtain ⟨n, hln⟩ : ∃ n, a.length = n := ⟨_, rfl⟩
  obtain ⟨m, hlm⟩ : ∃ m, b.length = m := ⟨_, rfl⟩
  have HN := Lib.hid (And.intro hln hlm)
  obtain ⟨aa, ac, rfl, a1, a2, a3⟩ := ha
  obtain ⟨ba, bc, rfl, b1, b2, b3⟩ := hb
  have HA := Lib.hid a3
  have HB := Lib.hid b3
  unfold maxLen at a2 b2
  rw [hln] at hn a1 ⊢
  rw [hlm] at hm b1 ⊢
  obtain ⟨N, hN⟩ : ∃ N, (n + 1) * (m + 1) = N := ⟨_, rfl⟩
  have hN2 : N ≤ 1002001 := by rw [← hN]; exact Nat.mul_le_mul (show n + 1 ≤ 1001 by omega) (show m + 1 ≤ 1001 by omega)
  have HNN := Lib.hid hN
  have e0 : IntKind.i64.wrap ((n : Int) + 1) = (n : Int) + 1 := IntWalk.i64_in _ (by omega)
  obtain ⟨wd, hwd⟩ : ∃ wd, m + 1 = wd := ⟨_, rfl⟩
  have e1 : IntKind.i64.wrap ((m : Int) + 1) = (wd : Int) := (IntWalk.i64_in _ (by omega)).trans (by omega)
  have e3 : ((n : Int) + 1) * (wd : Int) = (N : Int) := by rw [← hN, ← hwd]; push_cast; rfl
  have e2 : IntKind.i64.wrap (((n : Int) + 1) * (wd : Int)) = (N : Int) := by rw [e3]; exact IntWalk.i64_in _ (by omega)
  have hmk := fun W => make_rows rtI N (by omega) W
  rw [hN]
  have TM : Hid (CT (w.alloc (.cells (madeCells #[Value.int .i64 0] N) 3)) w.heap.size a b 0 0) := Lib.hid (CT.made w _ a b N (by rw [hln, hlm]; exact hN))
  have BL := Lib.hid ((Below.refl w.heap.size w).alloc (Nat.le_refl _) (.cells (madeCells #[Value.int .i64 0] N) 3))
  have HW := Lib.hid hwd
  clear a3 b3 hln hlm hN e3 a2 b2 hwd a1 b1
  go_enter Tryd.func72, Tryd.ntmps72
  go_wp2_with fail
  go_loopw [7, 8, 9] (fun x _ _ wr => ∃ p : Nat, x = .int .i64 ((n : Int) - (p : Int)) ∧ p ≤ n + 1 ∧ Hid (CT wr w.heap.size a b p 0) ∧ Hid (Below w.heap.size w wr)) (fun x _ _ _ => (intOf x + 1).toNat)
  case atStart => exact ⟨0, by simp, by omega, TM, BL⟩
  case round =>
    obtain ⟨p, rfl, hp, HT, BK⟩ := hrel
    by_cases hpn : p ≤ n
    rotate_left
    · obtain rfl : p = n + 1 := by omega
      have q0 : ¬ (0 : Int) ≤ (n : Int) - ((n + 1 : Nat) : Int) := by omega
      go_wp2_with fail
      go_ret
      exact ⟨_, rfl, Lib.hid (Nat.le_refl _), HT, BK⟩
    obtain ⟨i, hi⟩ : ∃ i, i + p = n := ⟨n - p, by omega⟩
    rw [show (n : Int) - (p : Int) = (i : Int) by omega]
    have q0 : (0 : Int) ≤ (i : Int) := by omega
    go_wp2_with fail
    go_loopw [8, 9] (fun y _ wr2 => ∃ q : Nat, y = .int .i64 ((m : Int) - (q : Int)) ∧ q ≤ m + 1 ∧ Hid (CT wr2 w.heap.size a b p q) ∧ Hid (Below w.heap.size w wr2)) (fun y _ _ => (intOf y + 1).toNat)
    case atStart => exact ⟨0, by simp, by omega, HT, BK⟩
    case round =>
      clear HT BK
      obtain ⟨q, rfl, hq, HT, BK⟩ := hrel
      by_cases hqm : q ≤ m
      rotate_left
      · obtain rfl : q = m + 1 := by omega
        have q1 : ¬ (0 : Int) ≤ (m : Int) - ((m + 1 : Nat) : Int) := by omega
        have q2 : IntKind.i64.wrap ((i : Int) - 1) = (i : Int) - 1 := IntWalk.i64_in _ (by omega)
        go_wp2_with fail
        go_roundw
        case rel => exact ⟨p + 1, by first | rfl | (simp; omega), by omega, Lib.hid (CT.row (by rw [HN.out.2]; exact HT.out)), BK⟩
        case measure => simp [intOf]
      obtain ⟨j, hj⟩ : ∃ j, j + q = m := ⟨m - q, by omega⟩
      rw [show (m : Int) - (q : Int) = (j : Int) by omega]
      have q1 : (0 : Int) ≤ (j : Int) := by omega
      obtain ⟨R0, hR0⟩ : ∃ R0, i * (m + 1) = R0 := ⟨_, rfl⟩
      obtain ⟨R1, hR1⟩ : ∃ R1, (i + 1) * (m + 1) = R1 := ⟨_, rfl⟩
      have l0 : R0 + j < N := by rw [← HNN.out, ← hR0]; exact tab_lt (by omega) (by omega)
      have l1 : R1 = R0 + wd := by rw [← hR1, ← hR0, ← HW.out, Nat.add_mul, Nat.one_mul]
      have g1 : IntKind.i64.wrap ((i : Int) * (wd : Int)) = (R0 : Int) := by
        have : (i : Int) * (wd : Int) = (R0 : Int) := by rw [← hR0, ← HW.out]; push_cast; rfl
        rw [this]; exact IntWalk.i64_in _ (by omega)
      have g2 : IntKind.i64.wrap (((i : Int) + 1) * (wd : Int)) = (R1 : Int) := by
        have : ((i : Int) + 1) * (wd : Int) = (R1 : Int) := by rw [← hR1, ← HW.out]; push_cast; rfl
        rw [this]; exact IntWalk.i64_in _ (by have := HW.out; omega)
      obtain ⟨T0, hT0⟩ : ∃ T, R0 + j = T := ⟨_, rfl⟩
      obtain ⟨T1, hT1⟩ : ∃ T, R1 + j = T := ⟨_, rfl⟩
      have g3 : IntKind.i64.wrap ((i : Int) + 1) = (i : Int) + 1 := IntWalk.i64_in _ (by omega)
      have g4 : IntKind.i64.wrap ((R0 : Int) + (j : Int)) = (T0 : Int) := (IntWalk.i64_in _ (by omega)).trans (by omega)
      have g5 : IntKind.i64.wrap ((R1 : Int) + (j : Int)) = (T1 : Int) := (IntWalk.i64_in _ (by have := HW.out; omega)).trans (by omega)
      have z1 : (0 : Int) ≤ (T1 : Int) := by omega
      have z0 : (0 : Int) ≤ (T0 : Int) := by omega
      obtain ⟨B0, hB0⟩ : ∃ B, (n - i) + (m - j) = B := ⟨_, rfl⟩
      have g6 : IntKind.i64.wrap ((n : Int) - (i : Int)) = (n : Int) - (i : Int) := IntWalk.i64_in _ (by omega)
      have g7 : IntKind.i64.wrap ((n : Int) - (i : Int) + (m : Int)) = (n : Int) - (i : Int) + (m : Int) := IntWalk.i64_in _ (by omega)
      have g8 : IntKind.i64.wrap ((n : Int) - (i : Int) + (m : Int) - (j : Int)) = (B0 : Int) := (IntWalk.i64_in _ (by omega)).trans (by omega)
      obtain ⟨DD, hDD⟩ : ∃ D, (if i < n then cost (a.drop (i + 1)) (b.drop j) + 1 else n + m) = D := ⟨_, rfl⟩
      have HDD := Lib.hid hDD
      obtain ⟨RR, hRR⟩ : ∃ D, (if j < m then cost (a.drop i) (b.drop (j + 1)) + 1 else n + m) = D := ⟨_, rfl⟩
      have HRR := Lib.hid hRR
      obtain ⟨EE, hEE⟩ : ∃ D, (if ∃ x, a[i]? = some x ∧ b[j]? = some x then cost (a.drop (i + 1)) (b.drop (j + 1)) else n + m) = D := ⟨_, rfl⟩
      have HEE := Lib.hid hEE
      clear hDD hRR hEE
      go_upto_region 10 with (fail)
      go_cut [57] from 31 to 58 (fun u w' => ∃ bo : Bool, u = .bool bo ∧ Hid (bo = true ↔ DD < B0) ∧ wr = w')
      · by_cases hin : i < n
        · have c1 := HT.out.at (i + 1) j (by rw [HN.out.1]; omega) (by rw [HN.out.2]; omega) (.inl (by rw [HN.out.1]; omega))
          rw [HN.out.2, hR1, hT1] at c1
          have hd := HDD.out
          rw [if_pos hin] at hd
          obtain ⟨cD, hcD⟩ : ∃ c, cost (a.drop (i + 1)) (b.drop j) = c := ⟨_, rfl⟩
          rw [hcD] at c1 hd
          have hcl := cost_le _ (a.drop (i + 1)) (b.drop j) (Nat.le_refl _)
          rw [hcD, List.length_drop, List.length_drop, HN.out.1, HN.out.2] at hcl
          have HD2 := Lib.hid hd
          have k1 : IntKind.i64.wrap ((cD : Int) + 1) = (cD : Int) + 1 := IntWalk.i64_in _ (by omega)
          have z2 : (T1 : Int) < (N : Int) := by
            have := tab_lt (n := n) (m := m) (show i + 1 ≤ n from hin) (show j ≤ m by omega)
            rw [HNN.out, hR1] at this; omega
          have k2 : (i : Int) < (n : Int) := by omega
          clear hcD hd hcl hR1 hR0 hT1 hT0 l0 l1 hB0
          by_cases hlt : cD + 1 < B0
          · have k3 : (cD : Int) + 1 < (B0 : Int) := by omega
            go_wp2_with fail
            go_meet
            case rel => exact ⟨true, rfl, Lib.hid ⟨(fun _ => by have := HD2.out; omega), (fun _ => rfl)⟩, rfl⟩
          · have k3 : ¬ (cD : Int) + 1 < (B0 : Int) := by omega
            go_wp2_with fail
            go_meet
            case rel => exact ⟨false, rfl, Lib.hid ⟨(fun h => by cases h), (fun h => by have := HD2.out; omega)⟩, rfl⟩
        · have k2 : ¬ (i : Int) < (n : Int) := by omega
          have hd := HDD.out
          rw [if_neg hin] at hd
          have HD2 := Lib.hid (And.intro hd hB0)
          clear hd hR1 hR0 hT1 hT0 l0 l1 hB0
          go_wp2_with fail
          go_meet
          case rel => exact ⟨false, rfl, Lib.hid ⟨(fun h => by cases h), (fun h => by have := HD2.out; omega)⟩, rfl⟩
      obtain ⟨bo, rfl, HBO, rfl⟩ := hcut
      refine ‹∀ (a : Act) (w : World), Code.wp _ _ _ a w → _› _ _ ?_
      go_cut [9] from 57 to 68 (fun u w' => u = .int .i64 ((min B0 DD : Nat) : Int) ∧ wr = w')
      · cases bo with
        | true =>
          have hlt := HBO.out.1 rfl
          have hin : i < n := Decidable.byContradiction fun h => by
            have hd := HDD.out
            rw [if_neg h] at hd; omega
          have c1 := HT.out.at (i + 1) j (by rw [HN.out.1]; omega) (by rw [HN.out.2]; omega) (.inl (by rw [HN.out.1]; omega))
          rw [HN.out.2, hR1, hT1] at c1
          have hd := HDD.out
          rw [if_pos hin] at hd
          obtain ⟨cD, hcD⟩ : ∃ c, cost (a.drop (i + 1)) (b.drop j) = c := ⟨_, rfl⟩
          rw [hcD] at c1 hd
          have k1 : IntKind.i64.wrap ((cD : Int) + 1) = (cD : Int) + 1 := IntWalk.i64_in _ (by omega)
          have z2 : (T1 : Int) < (N : Int) := by
            have := tab_lt (n := n) (m := m) (show i + 1 ≤ n from hin) (show j ≤ m by omega)
            rw [HNN.out, hR1] at this; omega
          have k2 : (i : Int) < (n : Int) := by omega
          have ME := Lib.hid (show min B0 DD = cD + 1 by omega)
          clear hcD hd hlt hR1 hR0 hT1 hT0 l0 l1 hB0
          go_wp2_with fail
          go_meet
          case rel => exact ⟨by rw [ME.out]; go_num, rfl⟩
        | false =>
          have hlt : ¬ DD < B0 := fun h => by have := HBO.out.2 h; cases this
          have ME := Lib.hid (show min B0 DD = B0 by omega)
          clear hlt hR1 hR0 hT1 hT0 l0 l1 hB0
          go_wp2_with fail
          go_meet
          case rel => exact ⟨by rw [ME.out], rfl⟩
      obtain ⟨rfl, rfl⟩ := hcut
      clear HBO
      obtain ⟨x1, hx1⟩ : ∃ x, min B0 DD = x := ⟨_, rfl⟩
      rw [hx1]
      have HX1 := Lib.hid hx1.symm
      have kb1 : x1 ≤ n + m := by omega
      clear hx1
      refine ‹∀ (a : Act) (w : World), Code.wp _ _ _ a w → _› _ _ ?_
      go_upto_region 12 with (fail)
      go_cut [85] from 68 to 86 (fun u w' => ∃ bo : Bool, u = .bool bo ∧ Hid (bo = true ↔ RR < x1) ∧ wr = w')
      · by_cases hin : j < m
        · have c1 := HT.out.at i (j + 1) (by rw [HN.out.1]; omega) (by rw [HN.out.2]; omega) (.inr ⟨by rw [HN.out.1]; omega, by rw [HN.out.2]; omega⟩)
          rw [HN.out.2, hR0, ← Nat.add_assoc, hT0] at c1
          have hd := HRR.out
          rw [if_pos hin] at hd
          obtain ⟨cD, hcD⟩ : ∃ c, cost (a.drop i) (b.drop (j + 1)) = c := ⟨_, rfl⟩
          rw [hcD] at c1 hd
          have hcl := cost_le _ (a.drop i) (b.drop (j + 1)) (Nat.le_refl _)
          rw [hcD, List.length_drop, List.length_drop, HN.out.1, HN.out.2] at hcl
          have HD2 := Lib.hid hd
          have k1 : IntKind.i64.wrap ((cD : Int) + 1) = (cD : Int) + 1 := IntWalk.i64_in _ (by omega)
          have z2 : (T0 : Int) + 1 < (N : Int) := by
            have := tab_lt (n := n) (m := m) (show i ≤ n by omega) (show j + 1 ≤ m by omega)
            rw [HNN.out, hR0] at this; omega
          have k2 : (j : Int) < (m : Int) := by omega
          have k4 : IntKind.i64.wrap ((T0 : Int) + 1) = (T0 : Int) + 1 := IntWalk.i64_in _ (by omega)
          have z3 : (0 : Int) ≤ (T0 : Int) + 1 := by omega
          have z4 : ((T0 : Int) + 1).toNat = T0 + 1 := by omega
          clear hcD hd hcl hR1 hR0 hT1 hT0 l0 l1 hB0
          by_cases hlt : cD + 1 < x1
          · have k3 : (cD : Int) + 1 < (x1 : Int) := by omega
            go_wp2_with fail
            go_meet
            case rel => exact ⟨true, rfl, Lib.hid ⟨(fun _ => by have := HD2.out; omega), (fun _ => rfl)⟩, rfl⟩
          · have k3 : ¬ (cD : Int) + 1 < (x1 : Int) := by omega
            go_wp2_with fail
            go_meet
            case rel => exact ⟨false, rfl, Lib.hid ⟨(fun h => by cases h), (fun h => by have := HD2.out; omega)⟩, rfl⟩
        · have k2 : ¬ (j : Int) < (m : Int) := by omega
          have hd := HRR.out
          rw [if_neg hin] at hd
          have HD2 := Lib.hid (And.intro hd hB0)
          clear hd hR1 hR0 hT1 hT0 l0 l1 hB0
          go_wp2_with fail
          go_meet
          case rel => exact ⟨false, rfl, Lib.hid ⟨(fun h => by cases h), (fun h => by have := HD2.out; omega)⟩, rfl⟩
      obtain ⟨bo, rfl, HBO, rfl⟩ := hcut
      refine ‹∀ (a : Act) (w : World), Code.wp _ _ _ a w → _› _ _ ?_
      go_cut [9] from 85 to 96 (fun u w' => u = .int .i64 ((min x1 RR : Nat) : Int) ∧ wr = w')
      · cases bo with
        | true =>
          have hlt := HBO.out.1 rfl
          have hin : j < m := Decidable.byContradiction fun h => by
            have hd := HRR.out
            rw [if_neg h] at hd; omega
          have c1 := HT.out.at i (j + 1) (by rw [HN.out.1]; omega) (by rw [HN.out.2]; omega) (.inr ⟨by rw [HN.out.1]; omega, by rw [HN.out.2]; omega⟩)
          rw [HN.out.2, hR0, ← Nat.add_assoc, hT0] at c1
          have hd := HRR.out
          rw [if_pos hin] at hd
          obtain ⟨cD, hcD⟩ : ∃ c, cost (a.drop i) (b.drop (j + 1)) = c := ⟨_, rfl⟩
          rw [hcD] at c1 hd
          have k1 : IntKind.i64.wrap ((cD : Int) + 1) = (cD : Int) + 1 := IntWalk.i64_in _ (by omega)
          have z2 : (T0 : Int) + 1 < (N : Int) := by
            have := tab_lt (n := n) (m := m) (show i ≤ n by omega) (show j + 1 ≤ m by omega)
            rw [HNN.out, hR0] at this; omega
          have k2 : (j : Int) < (m : Int) := by omega
          have k4 : IntKind.i64.wrap ((T0 : Int) + 1) = (T0 : Int) + 1 := IntWalk.i64_in _ (by omega)
          have z3 : (0 : Int) ≤ (T0 : Int) + 1 := by omega
          have z4 : ((T0 : Int) + 1).toNat = T0 + 1 := by omega
          have ME := Lib.hid (show min x1 RR = cD + 1 by omega)
          clear hcD hd hlt hR1 hR0 hT1 hT0 l0 l1 hB0
          go_wp2_with fail
          go_meet
          case rel => exact ⟨by rw [ME.out]; go_num, rfl⟩
        | false =>
          have hlt : ¬ RR < x1 := fun h => by have := HBO.out.2 h; cases this
          have ME := Lib.hid (show min x1 RR = x1 by omega)
          clear hlt hR1 hR0 hT1 hT0 l0 l1 hB0
          go_wp2_with fail
          go_meet
          case rel => exact ⟨by rw [ME.out], rfl⟩
      obtain ⟨rfl, rfl⟩ := hcut
      clear HBO
      obtain ⟨x2, hx2⟩ : ∃ x, min x1 RR = x := ⟨_, rfl⟩
      rw [hx2]
      have HX2 := Lib.hid hx2.symm
      have kb2 : x2 ≤ n + m := by omega
      clear hx2
      refine ‹∀ (a : Act) (w : World), Code.wp _ _ _ a w → _› _ _ ?_
      go_upto_region 14 with (fail)
      go_cut [130] from 96 to 131 (fun u w' => ∃ bo : Bool, u = .bool bo ∧ Hid (bo = true ↔ EE < x2) ∧ Hid (Below wr.heap.size wr w'))
      · by_cases hin : i < n
        rotate_left
        · have k2 : ¬ (i : Int) < (n : Int) := by omega
          have hd := HEE.out
          rw [if_neg (by rintro ⟨x, h1, -⟩; have := (List.getElem?_eq_some_iff.1 h1).1; rw [HN.out.1] at this; exact hin this)] at hd
          have HD2 := Lib.hid (And.intro hd hB0)
          clear hd hR1 hR0 hT1 hT0 l0 l1 hB0
          go_wp2_with fail
          go_quiet (fail)
          go_wp2_with fail
          go_meet
          case rel => exact ⟨false, rfl, Lib.hid ⟨(fun h => by cases h), (fun h => by have := HD2.out; omega)⟩, Lib.hid (bel_dn wr _)⟩
        have k2 : (i : Int) < (n : Int) := by omega
        by_cases hjn : j < m
        rotate_left
        · have k4 : ¬ (j : Int) < (m : Int) := by omega
          have hd := HEE.out
          rw [if_neg (by rintro ⟨x, -, h1⟩; have := (List.getElem?_eq_some_iff.1 h1).1; rw [HN.out.2] at this; exact hjn this)] at hd
          have HD2 := Lib.hid (And.intro hd hB0)
          clear hd hR1 hR0 hT1 hT0 l0 l1 hB0
          go_wp2_with fail
          go_quiet (fail)
          go_wp2_with fail
          go_meet
          case rel => exact ⟨false, rfl, Lib.hid ⟨(fun h => by cases h), (fun h => by have := HD2.out; omega)⟩, Lib.hid (bel_dn wr _)⟩
        have k4 : (j : Int) < (m : Int) := by omega
        obtain ⟨x, hx⟩ : ∃ x, a[i]? = some x := ⟨_, List.getElem?_eq_getElem (by rw [HN.out.1]; exact hin)⟩
        obtain ⟨y, hy⟩ : ∃ y, b[j]? = some y := ⟨_, List.getElem?_eq_getElem (by rw [HN.out.2]; exact hjn)⟩
        rcases HA.out with h0 | ⟨ga, oa, rfl, -, hca⟩
        · have := HN.out.1; rw [h0] at this; simp at this; omega
        rcases HB.out with h0 | ⟨gb, ob, rfl, -, hcb⟩
        · have := HN.out.2; rw [h0] at this; simp at this; omega
        have ca := kp BK.out (hca i x hx)
        have cb := kp BK.out (hcb j y hy)
        clear hca hcb
        by_cases hxy : x = y
        · subst hxy
          have c1 := HT.out.at (i + 1) (j + 1) (by rw [HN.out.1]; omega) (by rw [HN.out.2]; omega) (.inl (by rw [HN.out.1]; omega))
          rw [HN.out.2, hR1, ← Nat.add_assoc, hT1] at c1
          have hd := HEE.out
          rw [if_pos ⟨x, hx, hy⟩] at hd
          obtain ⟨cD, hcD⟩ : ∃ c, cost (a.drop (i + 1)) (b.drop (j + 1)) = c := ⟨_, rfl⟩
          rw [hcD] at c1 hd
          have HD2 := Lib.hid hd
          have z2 : (T1 : Int) + 1 < (N : Int) := by
            have := tab_lt (n := n) (m := m) (show i + 1 ≤ n from hin) (show j + 1 ≤ m from hjn)
            rw [HNN.out, hR1] at this; omega
          have z3 : (0 : Int) ≤ (T1 : Int) + 1 := by omega
          have k5 : IntKind.i64.wrap ((T1 : Int) + 1) = (T1 : Int) + 1 := IntWalk.i64_in _ (by omega)
          have z4 : ((T1 : Int) + 1).toNat = T1 + 1 := by omega
          clear hcD hd hx hy hR1 hR0 hT1 hT0 l0 l1 hB0
          by_cases hlt : cD < x2
          · have k3 : (cD : Int) < (x2 : Int) := by omega
            go_wp2_with fail
            go_quiet (fail)
            go_wp2_with fail
            go_meet
            case rel => exact ⟨true, rfl, Lib.hid ⟨(fun _ => by have := HD2.out; omega), (fun _ => rfl)⟩, Lib.hid (bel_dn wr _)⟩
          · have k3 : ¬ (cD : Int) < (x2 : Int) := by omega
            go_wp2_with fail
            go_quiet (fail)
            go_wp2_with fail
            go_meet
            case rel => exact ⟨false, rfl, Lib.hid ⟨(fun h => by cases h), (fun h => by have := HD2.out; omega)⟩, Lib.hid (bel_dn wr _)⟩
        · have ts := strs_ne hxy
          have hd := HEE.out
          rw [if_neg (by rintro ⟨z, h1, h2⟩; rw [hx] at h1; rw [hy] at h2; cases h1; cases h2; exact hxy rfl)] at hd
          have HD2 := Lib.hid (And.intro hd hB0)
          clear hd hx hy hxy hR1 hR0 hT1 hT0 l0 l1 hB0
          go_wp2_with fail
          go_quiet (fail)
          go_wp2_with fail
          go_meet
          case rel => exact ⟨false, rfl, Lib.hid ⟨(fun h => by cases h), (fun h => by have := HD2.out; omega)⟩, Lib.hid (bel_dn wr _)⟩
      obtain ⟨bo, rfl, HBO, HB3⟩ := hcut
      refine ‹∀ (a : Act) (w : World), Code.wp _ _ _ a w → _› _ _ ?_
      replace BK := Lib.hid (BK.out.trans (HB3.out.mono BK.out.size))
      replace HT := Lib.hid (HT.out.below HB3.out)
      clear HB3
      go_cut [9] from 130 to 141 (fun u w' => u = .int .i64 ((min x2 EE : Nat) : Int) ∧ wc = w')
      · cases bo with
        | true =>
          have hlt := HBO.out.1 rfl
          have hq : ∃ x, a[i]? = some x ∧ b[j]? = some x := Decidable.byContradiction fun h => by
            have hd := HEE.out
            rw [if_neg h] at hd; omega
          have hd := HEE.out
          rw [if_pos hq] at hd
          obtain ⟨x, hx, hy⟩ := hq
          have hin := (List.getElem?_eq_some_iff.1 hx).1
          have hjn := (List.getElem?_eq_some_iff.1 hy).1
          rw [HN.out.1] at hin
          rw [HN.out.2] at hjn
          have c1 := HT.out.at (i + 1) (j + 1) (by rw [HN.out.1]; omega) (by rw [HN.out.2]; omega) (.inl (by rw [HN.out.1]; omega))
          rw [HN.out.2, hR1, ← Nat.add_assoc, hT1] at c1
          obtain ⟨cD, hcD⟩ : ∃ c, cost (a.drop (i + 1)) (b.drop (j + 1)) = c := ⟨_, rfl⟩
          rw [hcD] at c1 hd
          have z2 : (T1 : Int) + 1 < (N : Int) := by
            have := tab_lt (n := n) (m := m) (show i + 1 ≤ n from hin) (show j + 1 ≤ m from hjn)
            rw [HNN.out, hR1] at this; omega
          have z3 : (0 : Int) ≤ (T1 : Int) + 1 := by omega
          have k5 : IntKind.i64.wrap ((T1 : Int) + 1) = (T1 : Int) + 1 := IntWalk.i64_in _ (by omega)
          have z4 : ((T1 : Int) + 1).toNat = T1 + 1 := by omega
          have ME := Lib.hid (show min x2 EE = cD by omega)
          clear hcD hd hlt hx hy hR1 hR0 hT1 hT0 l0 l1 hB0
          go_wp2_with fail
          go_meet
          case rel => exact ⟨by rw [ME.out], rfl⟩
        | false =>
          have hlt : ¬ EE < x2 := fun h => by have := HBO.out.2 h; cases this
          have ME := Lib.hid (show min x2 EE = x2 by omega)
          clear hlt hR1 hR0 hT1 hT0 l0 l1 hB0
          go_wp2_with fail
          go_meet
          case rel => exact ⟨by rw [ME.out], rfl⟩
      obtain ⟨rfl, rfl⟩ := hcut
      clear HBO
      obtain ⟨x3, hx3⟩ : ∃ x, min x2 EE = x := ⟨_, rfl⟩
      rw [hx3]
      have HX3 := Lib.hid hx3.symm
      clear hx3
      refine ‹∀ (a : Act) (w : World), Code.wp _ _ _ a w → _› _ _ ?_
      obtain ⟨y0, e9⟩ := HT.out.cell T0 (by rw [HN.out.1, HN.out.2, HNN.out, ← hT0]; exact l0)
      have f9 := HT.out.fr T0
      have z5 : (T0 : Int) < (N : Int) := by omega
      have E := Lib.hid (cost_best (a.drop i) (b.drop j) DD RR EE (fun x a' e => by
          have := HDD.out
          have hin : i < n := by
            have := congrArg List.length e
            rw [List.length_drop, HN.out.1] at this
            simp at this; omega
          rw [if_pos hin] at this
          rw [← this, ← List.drop_drop, e]; rfl) (fun x b' e => by
          have := HRR.out
          have hin : j < m := by
            have := congrArg List.length e
            rw [List.length_drop, HN.out.2] at this
            simp at this; omega
          rw [if_pos hin] at this
          rw [← this, ← List.drop_drop, e]; rfl) (fun x a' y b' e1 e2 e3 => by
          have := HEE.out
          have h1 : a[i]? = some x := by have := congrArg (·[0]?) e1; simpa using this
          have h2 : b[j]? = some y := by have := congrArg (·[0]?) e2; simpa using this
          rw [if_pos ⟨x, h1, by rw [e3]; exact h2⟩] at this
          rw [← this, ← List.drop_drop, ← List.drop_drop, e1, e2]; rfl) (fun e => by
          have := HDD.out
          rw [if_neg (by have := congrArg List.length e; rw [List.length_drop, HN.out.1] at this; simp at this; omega)] at this
          rw [List.length_drop, List.length_drop, HN.out.1, HN.out.2]; omega) (fun e => by
          have := HRR.out
          rw [if_neg (by have := congrArg List.length e; rw [List.length_drop, HN.out.2] at this; simp at this; omega)] at this
          rw [List.length_drop, List.length_drop, HN.out.1, HN.out.2]; omega) (fun e => by
          have := HEE.out
          rw [if_neg (by rintro ⟨x, h1, h2⟩; exact e x _ x _ (drop_get h1) (drop_get h2) rfl)] at this
          rw [List.length_drop, List.length_drop, HN.out.1, HN.out.2]; omega))
      have HX : Hid (x3 = cost (a.drop i) (b.drop j)) := Lib.hid (by
        rw [← E.out, List.length_drop, List.length_drop, HN.out.1, HN.out.2, hB0, HX3.out, HX2.out, HX1.out])
      have ST := Lib.hid (HT.out.set i j (by rw [HN.out.1]; exact hi) (by rw [HN.out.2]; exact hj) (.int .i64 (x3 : Int)) (by rw [HX.out]))
      rw [HN.out.2, hR0, hT0] at ST
      have SB := Lib.hid (fun v => BK.out.setCell (p := ⟨w.heap.size, T0, none⟩) (Nat.le_refl _) v)
      have q2 : IntKind.i64.wrap ((j : Int) - 1) = (j : Int) - 1 := IntWalk.i64_in _ (by omega)
      clear hR0 hR1 hT0 hT1 l0 l1 hB0 E
      go_wp2_with fail
      go_roundw
      case rel => exact ⟨q + 1, by first | rfl | (simp; omega), by omega, ST, SB.out _⟩
      case measure => simp [intOf]
end Go.Proofs.YtnkpigibjicmaaaDoor
