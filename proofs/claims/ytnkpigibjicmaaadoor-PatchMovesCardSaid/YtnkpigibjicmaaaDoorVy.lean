/- walks: a hunk's lines without context, both (written by gen_vy.py) -/
import Derived.Test.YtnkpigibjicmaaaDoorVq
import Derived.Test.YtnkpigibjicmaaaDoorVplain2
import Derived.Deep.CutBlock
namespace Go.Proofs.YtnkpigibjicmaaaDoor
open Go.RowKit Go.Maps
open Pt
/-- a list without its first rows -/
theorem RowsAt.from {w : World} {g o cap k n : Nat} {l : List (List Value)} (h : RowsAt w (.slice (some ⟨g, o, none⟩) n cap) k l) (hn : l.length = n) (x : Nat) (hx : x ≤ n) (A : Option Addr) (hA : (cap = x ∧ A = some ⟨g, o, none⟩) ∨ A = some ⟨g, o + x * k, none⟩) : RowsAt w (.slice A (n - x) (cap - x)) k (l.drop x) := by
  rcases h with ⟨rfl, a, h⟩ | ⟨g2, o2, cap2, e, h1, h2, hg, hc⟩
  · cases h
    obtain rfl : x = 0 := by omega
    exact .inl ⟨rfl, A, rfl⟩
  · cases e
    rcases hA with ⟨e, rfl⟩ | rfl
    · refine .inr ⟨g, o, cap - x, by rw [List.length_drop], by rw [List.length_drop]; omega, by omega, hg, fun j y hj i z hi => ?_⟩
      rw [List.drop_eq_nil_of_le (by omega)] at hj; simp at hj
    · refine .inr ⟨g, o + x * k, cap - x, by rw [List.length_drop], by rw [List.length_drop]; omega, by omega, hg, fun j y hj i z hi => ?_⟩
      rw [List.getElem?_drop] at hj
      have := hc (x + j) y hj i z hi
      rw [Nat.add_mul] at this
      rw [show o + x * k + j * k + i = o + (x * k + j * k) + i by omega]
      exact this
/-- a list without its last rows -/
theorem RowsAt.upto {w : World} {a : Option Addr} {cap k n : Nat} {l : List (List Value)} (h : RowsAt w (.slice a n cap) k l) (hn : l.length = n) (m : Nat) (hm : m ≤ n) : RowsAt w (.slice a m cap) k (l.take m) := by
  rcases h with ⟨rfl, a2, h⟩ | ⟨g2, o2, cap2, e, h1, h2, hg, hc⟩
  · cases h
    obtain rfl : m = 0 := by omega
    exact .inl ⟨by simp, _, rfl⟩
  · cases e
    refine .inr ⟨g2, o2, cap, by rw [List.length_take, Nat.min_eq_left (by omega)], by rw [List.length_take]; omega, h2, hg, fun j y hj i z hi => ?_⟩
    rw [List.getElem?_take] at hj
    split at hj
    · exact hc j y hj i z hi
    · cases hj
theorem trimP_nil (f : Nat) : trimP [] f = [] := by simp [trimP]
set_option maxRecDepth 100000 in
set_option maxHeartbeats 4000000 in
theorem trimmed_any (l : List DL) (v : Value) (f : Nat) (w : World) (hv : RowsAt w v 3 (l.map rowD)) (hl : l.length ≤ 1048576) (hf : f ≤ 1048576) :
    Calls Tryd.prog 56 #[v, .int .i64 f] w fun e w' => ∃ v', e = .returned (.tuple #[v', .int .i64 (ctx l f : Nat)]) ∧ Hid (∀ W, RowsAt W v 3 (l.map rowD) → RowsAt W v' 3 ((trimP l f).map rowD)) ∧ w = w' := by
  obtain ⟨n, hn⟩ : ∃ n, l.length = n := ⟨_, rfl⟩
  have HN := Lib.hid hn
  have HV := Lib.hid hv
  obtain ⟨a, cap, rfl, c1, c2, hc⟩ := hv.sl (n := n) (by rw [List.length_map]; exact hn)
  have HC := Lib.hid hc
  rw [hn] at hl
  unfold maxLen at c2
  have HX := Lib.hid (ctx_le l f)
  obtain ⟨x, hx⟩ : ∃ x, ctx l f = x := ⟨_, rfl⟩
  have E := Lib.hid hx
  rw [hx] at HX ⊢
  have hxn : x ≤ n := by have := HX.out.1; omega
  clear hv hn hc hx
  go_enter Tryd.func56, Tryd.ntmps56
  go_upto_block 0 with (fail)
  go_cut [6] from 8 to 27 (fun u w' => u = .int .i64 x ∧ w = w')
  · go_wp2_with fail
    go_loop [6] (fun i => ∃ j : Nat, i = .int .i64 j ∧ j ≤ n ∧ j ≤ f ∧ Hid (x = j + ctx (l.drop j) (f - j))) (fun i => n - (intOf i).toNat)
    case atStart => exact ⟨0, rfl, Nat.zero_le _, Nat.zero_le _, Lib.hid (by simpa using E.out.symm)⟩
    case round =>
      obtain ⟨j, rfl, hj, hjf, HI⟩ := hrel
      by_cases hlt : j < n
      · obtain ⟨y, hy⟩ : ∃ y, l[j]? = some y := ⟨_, List.getElem?_eq_getElem (by rw [HN.out]; exact hlt)⟩
        rcases HC.out with h0 | ⟨g, o, rfl, -, hcc⟩
        · omega
        have m1 : (l.map rowD)[j]? = some (rowD y) := by rw [List.getElem?_map, hy]; rfl
        have d0 := hcc j _ m1 0 _ rfl
        rw [Nat.add_zero] at d0
        have DR := Lib.hid (drop_get hy)
        have p0 : (0 : Int) ≤ (j : Int) := by omega
        have p1 : (j : Int) < (n : Int) := by omega
        have p2 : IntKind.i64.wrap (j : Int) = (j : Int) := IntWalk.i64_in _ (by omega)
        obtain ⟨yo, yt, yn⟩ := y
        clear hcc m1 hy
        by_cases hf2 : j < f
        · have q1 : (j : Int) < (f : Int) := by omega
          by_cases h1 : yo = 1
          · subst h1
            have E2 : Hid (x = (j + 1) + ctx (l.drop (j + 1)) (f - (j + 1))) := Lib.hid (by rw [HI.out, DR.out, show f - j = (f - (j + 1)) + 1 by omega, ctx_yes rfl]; omega)
            go_wp2_with fail
            go_round
            case rel => exact ⟨j + 1, by go_num, by omega, by omega, E2⟩
            case measure => simp [intOf]; omega
          · have t1 : (yo == 1) = false := beq_eq_false_iff_ne.2 h1
            have E2 : Hid (x = j) := Lib.hid (by rw [HI.out, DR.out, ctx_no h1]; omega)
            clear h1
            go_wp2_with fail
            go_meet
            case rel => exact ⟨by rw [E2.out], rfl⟩
        · have q1 : ¬ (j : Int) < (f : Int) := by omega
          have E2 : Hid (x = j) := Lib.hid (by rw [HI.out, show f - j = 0 by omega, ctx_zero]; omega)
          go_wp2_with fail
          go_meet
          case rel => exact ⟨by rw [E2.out], rfl⟩
      · obtain rfl : j = n := by omega
        have E2 : Hid (x = j) := Lib.hid (by rw [HI.out, List.drop_eq_nil_of_le (by rw [HN.out]; exact Nat.le_refl _), ctx_nil]; omega)
        go_wp2_with fail
        go_meet
        case rel => exact ⟨by rw [E2.out], rfl⟩
  obtain ⟨rfl, rfl⟩ := hcut
  go_upto_region 4 with (fail)
  go_cut [0] from 27 to 30 (fun u w' => ∃ (A : Option Addr) (m c : Nat), u = .slice A m c ∧ Hid (∀ W, RowsAt W (.slice a n cap) 3 (l.map rowD) → RowsAt W (.slice A m c) 3 ((l.drop x).map rowD)) ∧ Hid (m = n - x) ∧ w = w')
  · rcases (show (n = 0 ∧ cap = 0) ∨ ∃ g o, a = some ⟨g, o, none⟩ from by
      rcases HV.out with ⟨-, a2, h⟩ | ⟨g, o, c2, e, -⟩
      · cases h; exact .inl ⟨rfl, rfl⟩
      · cases e; exact .inr ⟨g, o, rfl⟩) with ⟨rfl, rfl⟩ | ⟨g, o, rfl⟩
    · obtain rfl : x = 0 := by omega
      rcases a with _ | b
      · go_wp2_with fail
        go_meet
        case rel => exact ⟨_, _, _, rfl, Lib.hid (fun W hW => by rw [List.drop_zero]; exact hW), Lib.hid rfl, rfl⟩
      · go_wp2_with fail
        go_meet
        case rel => exact ⟨_, _, _, rfl, Lib.hid (fun W hW => by rw [List.drop_zero]; exact hW), Lib.hid rfl, rfl⟩
    · have HF := Lib.hid (fun W (hW : RowsAt W (.slice (some ⟨g, o, none⟩) n cap) 3 (l.map rowD)) A hA => RowsAt.from hW (by rw [List.length_map]; exact HN.out) x hxn A hA)
      have p0 : (0 : Int) ≤ (x : Int) := by omega
      have p1 : (x : Int) ≤ (n : Int) := by omega
      have p2 : (x : Int) ≤ (cap : Int) := by omega
      by_cases hcx : cap = x
      · have e1 : n - x = 0 := by omega
        go_wp2_with fail
        go_meet
        case rel => exact ⟨_, _, _, rfl, Lib.hid (fun W hW => by rw [List.map_drop]; have h5 := HF.out W hW _ (.inl ⟨hcx, rfl⟩); rw [e1, show cap - x = 0 by omega] at h5; exact h5), Lib.hid e1.symm, rfl⟩
      · go_wp2_with fail
        go_meet
        case rel => exact ⟨_, _, _, rfl, Lib.hid (fun W hW => by rw [List.map_drop]; exact HF.out W hW _ (.inr rfl)), Lib.hid rfl, rfl⟩
  obtain ⟨A, m, c, rfl, HRW, HM, rfl⟩ := hcut
  have HR := Lib.hid (HRW.out w HV.out)
  obtain ⟨D, hD⟩ : ∃ D, l.drop x = D := ⟨_, rfl⟩
  have HD : Hid (D.length = m) := Lib.hid (by rw [← hD, List.length_drop, HM.out, HN.out])
  rw [hD] at HR HRW
  have TD : Hid (trimP l f = D.take (m - ctx D.reverse f)) := Lib.hid (by unfold trimP; rw [E.out, hD, HD.out])
  have hm1 : m ≤ 1048576 := by rw [HM.out]; omega
  clear HM hD
  go_upto_block 2 with (fail)
  go_cut [0] from 30 to 55 (fun u w' => ∃ q : Nat, u = .slice A q c ∧ Hid (q = m - ctx D.reverse f) ∧ w = w')
  · go_wp2_with fail
    go_loop [0, 7] (fun u y => ∃ j q : Nat, u = .slice A q c ∧ y = .int .i64 j ∧ j + q = m ∧ j ≤ f ∧ Hid (ctx D.reverse f = j + ctx (D.reverse.drop j) (f - j))) (fun _ y => f - (intOf y).toNat)
    case atStart => exact ⟨0, m, rfl, rfl, by omega, by omega, Lib.hid (by simp)⟩
    case round =>
      obtain ⟨j, q, rfl, rfl, hjq, hjf, HI⟩ := hrel
      by_cases hf2 : j < f
      · have q1 : (j : Int) < (f : Int) := by omega
        by_cases hq0 : q = 0
        · subst hq0
          have E2 : Hid (0 = m - ctx D.reverse f) := Lib.hid (by rw [HI.out]; omega)
          go_wp2_with fail
          go_meet
          case rel => exact ⟨0, rfl, E2, rfl⟩
        · obtain ⟨r, rfl⟩ : ∃ r, q = r + 1 := ⟨q - 1, by omega⟩
          obtain ⟨y, hy⟩ : ∃ y, D[r]? = some y := ⟨_, List.getElem?_eq_getElem (by rw [HD.out]; omega)⟩
          obtain ⟨g, o, rfl, -, -, hcap, hcc⟩ := HR.out.at rfl (show (D.map rowD)[r]? = some (rowD y) by rw [List.getElem?_map, hy]; rfl)
          have d0 := hcc 0 _ rfl
          rw [Nat.add_zero] at d0
          have DR : Hid (D.reverse.drop j = y :: D.reverse.drop (j + 1)) := Lib.hid (drop_get (by rw [rev_at _ _ (by rw [HD.out]; omega), HD.out, show m - 1 - j = r by omega]; exact hy))
          have p0 : (0 : Int) ≤ (r : Int) := by omega
          have p1 : (0 : Int) < ((r + 1 : Nat) : Int) := by omega
          have p2 : IntKind.i64.wrap (r : Int) = (r : Int) := IntWalk.i64_in _ (by omega)
          have p3 : ((r + 1 : Nat) : Int) - 1 = (r : Int) := by omega
          have p4 : r + 1 ≤ c := by
            rcases HR.out with ⟨-, a2, h⟩ | ⟨g2, o2, c3, e, h3, h4, -⟩
            · cases h; omega
            · cases e; rw [List.length_map, HD.out] at h3; omega
          obtain ⟨yo, yt, yn⟩ := y
          clear hcc hy
          by_cases h1 : yo = 1
          · subst h1
            have E2 : Hid (ctx D.reverse f = (j + 1) + ctx (D.reverse.drop (j + 1)) (f - (j + 1))) := Lib.hid (by rw [HI.out, DR.out, show f - j = (f - (j + 1)) + 1 by omega, ctx_yes rfl]; omega)
            go_wp2_with fail
            go_round
            case rel => exact ⟨j + 1, r, by go_num, by go_num, by omega, by omega, E2⟩
            case measure => simp [intOf]; omega
          · have t1 : (yo == 1) = false := beq_eq_false_iff_ne.2 h1
            have E2 : Hid (r + 1 = m - ctx D.reverse f) := Lib.hid (by rw [HI.out, DR.out, ctx_no h1]; omega)
            clear h1
            go_wp2_with fail
            go_meet
            case rel => exact ⟨r + 1, rfl, E2, rfl⟩
      · have q1 : ¬ (j : Int) < (f : Int) := by omega
        have E2 : Hid (q = m - ctx D.reverse f) := Lib.hid (by rw [HI.out, show f - j = 0 by omega, ctx_zero]; omega)
        go_wp2_with fail
        go_meet
        case rel => exact ⟨q, rfl, E2, rfl⟩
  obtain ⟨q, rfl, HQ, rfl⟩ := hcut
  go_wp2_with fail
  go_ret2
  refine ⟨_, rfl, Lib.hid (fun W hW => ?_), rfl⟩
  rw [TD.out, ← HQ.out, List.map_take]
  exact (HRW.out W hW).upto (by rw [List.length_map]; exact HD.out) q (by rw [HQ.out]; omega)
theorem rowD_len2 {l : List DL} : ∀ x ∈ l.map rowD, x.length = 3 := by intro x hx; obtain ⟨y, -, rfl⟩ := List.mem_map.1 hx; rfl
theorem OwnR.sl2 {w : World} {B k : Nat} {T : TypeId} {v : Value} {l : List (List Value)} (h : OwnR w B T k v l) : ∃ a c, v = .slice a l.length c := h.sl
set_option maxRecDepth 100000 in
set_option maxHeartbeats 4000000 in
theorem reduced_any (l : List DL) (v : Value) (f : Nat) (w : World) (hv : RowsAt w v 3 (l.map rowD)) (hl : l.length ≤ 1048576) (hf : f ≤ 1048576) :
    Calls Tryd.prog 31 #[v, .int .i64 f] w fun e w' => ∃ v', e = .returned (.tuple #[v', .int .i64 (ctx l f : Nat)]) ∧ Hid (∀ W, RowsAt W v 3 (l.map rowD) → RowsAt W v' 3 ((trimP l f).map rowD)) ∧ Hid (Below w.heap.size w w') := by
  obtain ⟨n, hn⟩ : ∃ n, l.length = n := ⟨_, rfl⟩
  have HN := Lib.hid hn
  have HV := Lib.hid hv
  have CX := Lib.hid (context_any l v f w hv hl hf)
  obtain ⟨a, cap, rfl, c1, c2, hc⟩ := hv.sl (n := n) (by rw [List.length_map]; exact hn)
  have HC := Lib.hid hc
  rw [hn] at hl
  unfold maxLen at c2
  have HX := Lib.hid (ctx_le l f)
  obtain ⟨x, hx⟩ : ∃ x, ctx l f = x := ⟨_, rfl⟩
  have E := Lib.hid hx
  rw [hx] at HX CX ⊢
  have hxn : x ≤ n := by have := HX.out.1; omega
  have TL : Hid (((l.drop x).reverse).length = n - x) := Lib.hid (by rw [List.length_reverse, List.length_drop, HN.out])
  clear hv hn hc hx
  go_enter Tryd.func31, Tryd.ntmps31
  go_wp2_with (go_at_call 61; refine CX.out.mono ?_; rintro _ w1 ⟨rfl, h1⟩; replace h1 := h1.symm; subst h1)
  go_loopw [7, 8] (fun b i wr => ∃ j : Nat, i = .int .i64 ((n : Int) - 1 - j) ∧ j + x ≤ n ∧ Hid (OwnR wr w.heap.size 59 3 b ((((l.drop x).reverse).take j).map rowD)) ∧ Hid (Below w.heap.size w wr)) (fun _ i _ => (intOf i + 1).toNat)
  case atStart => exact ⟨0, by simp, by omega, Lib.hid (OwnR.nil _ _ _ _), Lib.hid (Below.refl _ _)⟩
  case round =>
    obtain ⟨j, rfl, hj, OW, BK⟩ := hrel
    by_cases hlt : j + x < n
    · obtain ⟨y, hy⟩ : ∃ y, l[n - 1 - j]? = some y := ⟨_, List.getElem?_eq_getElem (by rw [HN.out]; omega)⟩
      rcases HC.out with h0 | ⟨g, o, rfl, -, hcc⟩
      · omega
      have m1 : (l.map rowD)[n - 1 - j]? = some (rowD y) := by rw [List.getElem?_map, hy]; rfl
      have d0 := kp BK.out (hcc _ _ m1 0 _ rfl)
      have d1 := kp BK.out (hcc _ _ m1 1 _ rfl)
      have d2 := kp BK.out (hcc _ _ m1 2 _ rfl)
      rw [Nat.add_zero] at d0
      have TK : Hid ((((l.drop x).reverse).take (j + 1)).map rowD = (((l.drop x).reverse).take j).map rowD ++ [rowD y]) := Lib.hid (by
        rw [take_get (x := y) (by rw [rev_at _ _ (by rw [List.length_drop, HN.out]; omega), List.length_drop, HN.out, List.getElem?_drop, show x + (n - x - 1 - j) = n - 1 - j by omega]; exact hy), List.map_append]; rfl)
      have LR : Hid (((((l.drop x).reverse).take j).map rowD).length ≤ 1048576) := Lib.hid (by rw [List.length_map, List.length_take]; omega)
      obtain ⟨q, hq⟩ : ∃ q : Nat, n - 1 - j = q := ⟨_, rfl⟩
      have hq2 : (n : Int) - 1 - (j : Int) = (q : Int) := by omega
      rw [hq] at d0 d1 d2
      rw [hq2]
      have hq3 : q < n := by omega
      have hq4 : (x : Int) ≤ (q : Int) := by omega
      have p0 : (0 : Int) ≤ (q : Int) := by omega
      have p1 : (q : Int) < (n : Int) := by omega
      have p2 : IntKind.i64.wrap (q : Int) = (q : Int) := IntWalk.i64_in _ (by omega)
      obtain ⟨yo, yt, yn⟩ := y
      clear hcc m1 hy hq
      go_wp2_with (first | (at_builtin; (refine append_row rtD rfl _ _ rfl _ _ #[.int .i64 yo, .string yt, .bool yn] w.heap.size w _ OW.out rfl (one_D (x := (yo, yt, yn))) BK.out BK.out.size LR.out (by simp [Act.eval]) (by simp [Act.eval]) ?_; intro v3 w3 own3 bel3)))
      go_roundw
      case rel => exact ⟨j + 1, by first | rfl | (congr 1; omega), by omega, Lib.hid (by rw [TK.out]; exact own3.out), bel3⟩
      case measure => simp [intOf]; try omega
    · have hj2 : j + x = n := by omega
      have q4 : ¬ (x : Int) ≤ (n : Int) - 1 - (j : Int) := by omega
      have TA : Hid (((l.drop x).reverse).take j = (l.drop x).reverse) := Lib.hid (List.take_of_length_le (by rw [TL.out]; omega))
      have OW2 : Hid (OwnR wr w.heap.size 59 3 u7 ((l.drop x).reverse.map rowD)) := Lib.hid (by rw [← TA.out]; exact OW.out)
      have CY := Lib.hid (context_any (l.drop x).reverse u7 f wr (OW2.out.rows rowD_len2) (by rw [TL.out]; omega) hf)
      have HY := Lib.hid (ctx_le (l.drop x).reverse f)
      obtain ⟨r, hr⟩ : ∃ r, ctx (l.drop x).reverse f = r := ⟨_, rfl⟩
      have TD : Hid (trimP l f = (l.drop x).take (n - x - r)) := Lib.hid (by unfold trimP; rw [E.out, hr, List.length_drop, HN.out])
      rw [hr] at CY HY
      have hrx : r + x ≤ n := by have h1 := HY.out.1; have h2 := TL.out; omega
      obtain ⟨z, hz⟩ : ∃ z, n - r = z := ⟨_, rfl⟩
      have hz2 : (n : Int) - (r : Int) = (z : Int) := by omega
      have hz3 : n - x - r = z - x := by omega
      have hz4 : x ≤ z := by omega
      have hz5 : z ≤ cap := by omega
      have hz6 : n - x - r ≤ n - x := by omega
      obtain ⟨b7, c7, e7⟩ := OW.out.sl
      obtain ⟨n7, hn7⟩ : ∃ n, ((((l.drop x).reverse).take j).map rowD).length = n := ⟨_, rfl⟩
      rw [hn7] at e7
      clear hn7
      subst e7
      clear hr hz hj hj2 hlt
      rw [hz3] at TD
      rw [hz3] at hz6
      have q5 : (x : Int) ≤ (z : Int) := by omega
      have q6 : (z : Int) ≤ (cap : Int) := by omega
      have q7 : (0 : Int) ≤ (x : Int) := by omega
      rcases (show (n = 0 ∧ cap = 0) ∨ ∃ g o, a = some ⟨g, o, none⟩ from by
        rcases HV.out with ⟨-, a2, h⟩ | ⟨g, o, c2, e, -⟩
        · cases h; exact .inl ⟨rfl, rfl⟩
        · cases e; exact .inr ⟨g, o, rfl⟩) with ⟨rfl, rfl⟩ | ⟨g, o, rfl⟩
      · obtain rfl : x = 0 := by omega
        obtain rfl : z = 0 := by omega
        obtain rfl : r = 0 := by omega
        rcases a with _ | b
        · go_wp2_with (go_at_call 61; refine CY.out.mono ?_; rintro _ w1 ⟨rfl, h1⟩; replace h1 := h1.symm; subst h1)
          go_ret2
          refine ⟨_, rfl, Lib.hid (fun W hW => ?_), BK⟩
          rw [TD.out]
          exact .inl ⟨by simp, _, rfl⟩
        · go_wp2_with (go_at_call 61; refine CY.out.mono ?_; rintro _ w1 ⟨rfl, h1⟩; replace h1 := h1.symm; subst h1)
          go_ret2
          refine ⟨_, rfl, Lib.hid (fun W hW => ?_), BK⟩
          rw [TD.out]
          exact .inl ⟨by simp, _, rfl⟩
      · have HF := Lib.hid (fun W (hW : RowsAt W (.slice (some ⟨g, o, none⟩) n cap) 3 (l.map rowD)) A hA => RowsAt.upto (RowsAt.from hW (by rw [List.length_map]; exact HN.out) x hxn A hA) (by rw [List.length_drop, List.length_map, HN.out]) (z - x) hz6)
        by_cases hcx : cap = x
        · obtain rfl : z = x := by omega
          have e1 : cap - z = 0 := by omega
          go_wp2_with (go_at_call 61; refine CY.out.mono ?_; rintro _ w1 ⟨rfl, h1⟩; replace h1 := h1.symm; subst h1)
          go_ret2
          refine ⟨_, rfl, Lib.hid (fun W hW => ?_), BK⟩
          have h5 := HF.out W hW _ (.inl ⟨hcx, rfl⟩)
          rw [TD.out, List.map_take, List.map_drop]
          first | exact h5 | (rw [e1] at h5; exact h5) | (rw [Nat.sub_self, e1] at h5; rw [Nat.sub_self]; exact h5)
        · go_wp2_with (go_at_call 61; refine CY.out.mono ?_; rintro _ w1 ⟨rfl, h1⟩; replace h1 := h1.symm; subst h1)
          go_ret2
          refine ⟨_, rfl, Lib.hid (fun W hW => ?_), BK⟩
          have h5 := HF.out W hW _ (.inr rfl)
          rw [TD.out, List.map_take, List.map_drop]
          exact h5
end Go.Proofs.YtnkpigibjicmaaaDoor
