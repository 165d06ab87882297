/- walks: is a part there? the nearest place, the program's (written by gen_vx.py) -/
import Derived.Test.YtnkpigibjicmaaaDoorVu
import Derived.Test.YtnkpigibjicmaaaDoorVy
import Derived.WalkMore
namespace Go.Proofs.YtnkpigibjicmaaaDoor
open Go.RowKit Go.Maps
open Pt
set_option maxRecDepth 100000 in
set_option maxHeartbeats 4000000 in
theorem fits_any (pb : Nat) (old p : List Ln) (low : Nat) (mv t : Int) (vo vv x : Value) (w : World) (hb : w.heap[pb]? = some (.cells #[vo, vv, .int .i64 low, .int .i64 mv] 66 (0, 0))) (ho : RowsAt w vo 2 (old.map rowL)) (hx : RowsAt w x 2 (p.map rowL)) (hl : old.length ≤ 1048576) (hp : p.length ≤ 1048576) (ht : -1152921504606846976 ≤ t ∧ t ≤ 1152921504606846976) :
    Calls Tryd.prog 70 #[.pointer (some ⟨pb, 0, none⟩), x, .int .i64 t] w fun e w' => e = .returned (.bool (fitZ old low p t)) ∧ Hid (Below w.heap.size w w') := by
  obtain ⟨n, hn⟩ : ∃ n, old.length = n := ⟨_, rfl⟩
  obtain ⟨k, hk⟩ : ∃ k, p.length = k := ⟨_, rfl⟩
  have HN := Lib.hid (And.intro hn hk)
  have HO := Lib.hid ho
  have HX := Lib.hid hx
  obtain ⟨oa, oc, rfl, o1, o2, -⟩ := ho.sl (n := n) (by rw [List.length_map]; exact hn)
  obtain ⟨xa, xc, rfl, x1, x2, -⟩ := hx.sl (n := k) (by rw [List.length_map]; exact hk)
  rw [hn] at hl
  rw [hk] at hp
  have c0 := blk_cellx hb 0 _ rfl
  have c2 := blk_cellx hb 2 _ rfl
  have ht1 := ht.1
  have ht2 := ht.2
  unfold maxLen at o2
  clear hb ho hx hn hk ht x1 x2
  by_cases h1 : (low : Int) ≤ t
  rotate_left
  · have E : Hid (fitZ old low p t = false) := Lib.hid (by
      unfold fitZ
      by_cases h0 : 0 ≤ t
      · cases hf : fitB old low p t.toNat with
        | false => simp
        | true => have := fitB_bd hf; omega
      · rw [decide_eq_false h0]; rfl)
    go_enter Tryd.func70, Tryd.ntmps70
    go_wp2_with fail
    go_ret
    exact ⟨by rw [E.out]; rfl, Lib.hid (Below.refl _ _)⟩
  obtain ⟨T, rfl⟩ : ∃ T : Nat, t = (T : Int) := ⟨t.toNat, by omega⟩
  by_cases h2 : T + k ≤ n
  rotate_left
  · have E : Hid (fitZ old low p (T : Int) = false) := Lib.hid (by
      rw [fitZ_nat]
      cases hf : fitB old low p T with
      | false => rfl
      | true => have h3 := (fitB_bd hf).2; rw [HN.out.1, HN.out.2] at h3; exact absurd h3 h2)
    have q2 : ¬ (T : Int) ≤ (n : Int) - (k : Int) := by omega
    go_enter Tryd.func70, Tryd.ntmps70
    go_wp2_with fail
    go_ret
    exact ⟨by rw [E.out]; rfl, Lib.hid (Below.refl _ _)⟩
  have q2 : (T : Int) ≤ (n : Int) - (k : Int) := by omega
  obtain ⟨bb, hbb⟩ : ∃ b, decide ((old.drop T).take k = p) = b := ⟨_, rfl⟩
  have HBB := Lib.hid hbb
  have E : Hid (fitZ old low p (T : Int) = bb) := Lib.hid (by
    rw [← hbb, fitZ_nat]; unfold fitB
    rw [decide_eq_true (show low ≤ T by omega), decide_eq_true (show T + p.length ≤ old.length by rw [HN.out.1, HN.out.2]; exact h2), HN.out.2]; rfl)
  clear hbb
  have TL : Hid (((old.drop T).take k).length ≤ 1048576) := Lib.hid (by rw [List.length_take]; omega)
  have q3 : (T : Int) + (k : Int) ≤ (oc : Int) := by omega
  have q4 : (0 : Int) ≤ (T : Int) := by omega
  have q5 : (T : Int) ≤ (T : Int) + (k : Int) := by omega
  rcases (show (n = 0 ∧ oc = 0) ∨ ∃ g o, oa = some ⟨g, o, none⟩ from by
    rcases HO.out with ⟨-, a2, h⟩ | ⟨g, o, c3, e, -⟩
    · cases h; exact .inl ⟨rfl, rfl⟩
    · cases e; exact .inr ⟨g, o, rfl⟩) with ⟨rfl, rfl⟩ | ⟨g, o, rfl⟩
  · obtain rfl : T = 0 := by omega
    obtain rfl : k = 0 := by omega
    obtain rfl : low = 0 := by omega
    have LE : Hid (∀ W, Below w.heap.size w W → Calls Tryd.prog 76 #[.slice oa 0 0, .slice xa 0 xc] W fun e w' => e = .returned (.bool bb) ∧ Hid (Below W.heap.size W w')) := Lib.hid (fun W hb => by rw [← HBB.out]; exact lequal_any _ p _ _ W (.inl ⟨by simp, _, rfl⟩) (HX.out.below hb) TL.out)
    clear h1 h2 q2 q3 q4 q5 ht1 ht2
    rcases oa with _ | b
    · go_enter Tryd.func70, Tryd.ntmps70
      go_wp2_with (go_at_call 76; (with_reducible refine (LE.out _ (Below.refl _ _)).mono ?_); rintro _ w3 ⟨rfl, B3⟩)
      go_ret
      exact ⟨by rw [E.out]; rfl, B3⟩
    · go_enter Tryd.func70, Tryd.ntmps70
      go_wp2_with (go_at_call 76; (with_reducible refine (LE.out _ (Below.refl _ _)).mono ?_); rintro _ w3 ⟨rfl, B3⟩)
      go_ret
      exact ⟨by rw [E.out]; rfl, B3⟩
  · have HF := Lib.hid (fun A hA => RowsAt.upto (RowsAt.from HO.out (by rw [List.length_map]; exact HN.out.1) T (by omega) A hA) (by rw [List.length_drop, List.length_map, HN.out.1]) k (by omega))
    have LE0 : Hid (∀ A, ((oc = T ∧ A = some ⟨g, o, none⟩) ∨ A = some ⟨g, o + T * 2, none⟩) → ∀ W, Below w.heap.size w W → Calls Tryd.prog 76 #[.slice A k (oc - T), .slice xa k xc] W fun e w' => e = .returned (.bool bb) ∧ Hid (Below W.heap.size W w')) := Lib.hid (fun A hA W hb => by rw [← HBB.out]; exact lequal_any ((old.drop T).take k) p (.slice A k (oc - T)) (.slice xa k xc) W (by rw [List.map_take, List.map_drop]; exact (HF.out A hA).below hb) (HX.out.below hb) TL.out)
    have q6 : (T : Int) + (k : Int) - (T : Int) = (k : Int) := by omega
    by_cases hcx : oc = T
    · have LE := Lib.hid (LE0.out _ (.inl ⟨hcx, rfl⟩))
      obtain rfl : k = 0 := by omega
      rw [show oc - T = 0 by omega] at LE
      go_enter Tryd.func70, Tryd.ntmps70
      go_wp2_with (go_at_call 76; (with_reducible refine (LE.out _ (Below.refl _ _)).mono ?_); rintro _ w3 ⟨rfl, B3⟩)
      go_ret
      exact ⟨by rw [E.out]; rfl, B3⟩
    · have LE := Lib.hid (LE0.out _ (.inr rfl))
      go_enter Tryd.func70, Tryd.ntmps70
      go_wp2_with (go_at_call 76; (with_reducible refine (LE.out _ (Below.refl _ _)).mono ?_); rintro _ w3 ⟨rfl, B3⟩)
      go_ret
      exact ⟨by rw [E.out]; rfl, B3⟩
theorem idx0 (a b : Int) (W : World) : (Instr.index 120 (.agg #[.int .i64 a, .int .i64 b]) (.int .i64 0)).run Tryd.prog W = .ok (.int .i64 a) W := by kernel_rfl
theorem idx1 (a b : Int) (W : World) : (Instr.index 120 (.agg #[.int .i64 a, .int .i64 b]) (.int .i64 1)).run Tryd.prog W = .ok (.int .i64 b) W := by kernel_rfl
set_option maxRecDepth 100000 in
set_option maxHeartbeats 4000000 in
theorem find_any (pb : Nat) (old p : List Ln) (low : Nat) (mv want : Int) (vo vv x : Value) (w : World) (hb : w.heap[pb]? = some (.cells #[vo, vv, .int .i64 low, .int .i64 mv] 66 (0, 0))) (ho : RowsAt w vo 2 (old.map rowL)) (hx : RowsAt w x 2 (p.map rowL)) (hl : old.length ≤ 1048576) (hp : p.length ≤ 1048576) (hlow : low ≤ 1048576) (hw : -1125899906842624 ≤ want ∧ want ≤ 1125899906842624) :
    Calls Tryd.prog 57 #[.pointer (some ⟨pb, 0, none⟩), x, .int .i64 want] w fun e w' => e = .returned (.tuple #[.int .i64 (optI (findP old low want p)), .bool (decide (0 ≤ optI (findP old low want p)))]) ∧ Hid (Below w.heap.size w w') := by
  have pbl : pb < w.heap.size := (Array.getElem?_eq_some_iff.1 hb).1
  have FT := Lib.hid (fun t (ht : -1152921504606846976 ≤ t ∧ t ≤ 1152921504606846976) W (hbl : Below w.heap.size w W) => fits_any pb old p low mv t vo vv x W ((hbl.block pb pbl).trans hb) (ho.below hbl) (hx.below hbl) hl hp ht)
  obtain ⟨n, hn⟩ : ∃ n, old.length = n := ⟨_, rfl⟩
  obtain ⟨k, hk⟩ : ∃ k, p.length = k := ⟨_, rfl⟩
  have HN := Lib.hid (And.intro hn hk)
  obtain ⟨oa, oc, rfl, o1, o2, -⟩ := ho.sl (n := n) (by rw [List.length_map]; exact hn)
  obtain ⟨xa, xc, rfl, x1, x2, -⟩ := hx.sl (n := k) (by rw [List.length_map]; exact hk)
  rw [hn] at hl
  rw [hk] at hp
  have HB := Lib.hid hb
  have c0 := blk_cellx hb 0 _ rfl
  have c2 := blk_cellx hb 2 _ rfl
  have hw1 := hw.1
  have hw2 := hw.2
  clear hb ho hx hn hk hw x1 x2 o1 o2
  go_enter Tryd.func57, Tryd.ntmps57
  go_wp2_with fail
  go_step3
  go_wp2_with fail
  go_step3
  go_upto_region 3 with (fail)
  go_cut [10] from 21 to 31 (fun u w' => ∃ X : Int, u = .int .i64 X ∧ Hid (FarF old low p want X) ∧ 0 ≤ X ∧ X ≤ 1125899910000000 ∧ w = w')
  · go_wp2_with fail
    all_goals (go_meet; case rel => exact ⟨_, rfl, Lib.hid (FarF.start (by rw [HN.out.1, HN.out.2]; omega)), by omega, by omega, rfl⟩)
  obtain ⟨X, rfl, S0, hx0, hx1, rfl⟩ := hcut
  go_wp2_with fail
  go_loopw [9, 10, 12] (fun f i t wr => ∃ F : Int, f = .int .i64 (-1) ∧ i = .int .i64 F ∧ 0 ≤ F ∧ F ≤ 1125899920000000 ∧ Hid (FarF old low p want F) ∧ Hid (Below w.heap.size w wr)) (fun _ i _ _ => (1125899930000000 - intOf i).toNat)
  case atStart => exact ⟨X, rfl, rfl, hx0, by omega, S0, Lib.hid (Below.refl _ _)⟩
  case round =>
    obtain ⟨F, rfl, rfl, hF0, hF1, HF, BK⟩ := hrel
    have c2r := kp BK.out c2
    go_upto_region 4 with (fail)
    go_cut [42] from 31 to 43 (fun u w' => ∃ b : Bool, u = .bool b ∧ Hid (b = false → want - (low : Int) < F ∧ (n : Int) - (k : Int) - want < F) ∧ Hid (b = true → F ≤ want - (low : Int) ∨ F ≤ (n : Int) - (k : Int) - want) ∧ wr = w')
    · go_wp2_with fail
      all_goals (go_meet; case rel => exact ⟨_, rfl, Lib.hid (fun h => by have := of_decide_eq_false h; omega), Lib.hid (fun h => by have := of_decide_eq_true h; omega), rfl⟩)
    obtain ⟨b, rfl, HB0, HB1, rfl⟩ := hcut
    cases b with
    | false =>
      have E : Hid (findP old low want p = none) := Lib.hid (HF.out.none (HB0.out rfl).1 (by rw [HN.out.1, HN.out.2]; exact (HB0.out rfl).2))
      go_wp2_with fail
      go_ret2
      exact ⟨by rw [E.out]; rfl, BK⟩
    | true =>
      have hF2 : F ≤ 1125899910000000 := by have := HB1.out rfl; omega
      have FP := Lib.hid (fun W hbl => FT.out (want + F) (by omega) W hbl)
      have FM := Lib.hid (fun W hbl => FT.out (want - F) (by omega) W hbl)
      obtain ⟨bP, hbP⟩ : ∃ b, fitZ old low p (want + F) = b := ⟨_, rfl⟩
      obtain ⟨bM, hbM⟩ : ∃ b, fitZ old low p (want - F) = b := ⟨_, rfl⟩
      rw [hbP] at FP
      rw [hbM] at FM
      have HP := Lib.hid hbP
      have ix0 := idx0
      have ix1 := idx1
      have HM := Lib.hid hbM
      clear hbP hbM c2r
      go_wp2_with fail
      go_loopw [9, 12, 52] (fun f t q wr2 => ∃ K : Nat, f = .int .i64 (-1) ∧ q = .int .i64 K ∧ K ≤ 2 ∧ (1 ≤ K → bP = false) ∧ (2 ≤ K → bM = false) ∧ Hid (Below w.heap.size w wr2)) (fun _ _ q _ => 2 - (intOf q).toNat)
      case atStart => exact ⟨0, rfl, rfl, by omega, by omega, by omega, BK⟩
      case round =>
        obtain ⟨K, rfl, rfl, hK, hk1, hk2, BI⟩ := hrel
        rcases (show K = 0 ∨ K = 1 ∨ K = 2 by omega) with rfl | rfl | rfl
        · cases bP with
          | true =>
            obtain ⟨t, ht1, ht2⟩ := HF.out.plus hF0 HP.out
            have pos : (0 : Int) ≤ want + F := by omega
            have E := Lib.hid (And.intro ht1 ht2)
            clear ht1 ht2
            go_wp2_with (go_at_call 70; (with_reducible refine (FP.out _ BI.out).mono ?_); rintro _ w3 ⟨rfl, B3⟩)
            simp only [Exit.noGoto_ret]
            go_ret2
            exact ⟨by rw [E.out.2]; show _ = Ending.returned (.tuple #[.int .i64 (t : Int), .bool (decide ((0 : Int) ≤ (t : Int)))]); rw [E.out.1, decide_eq_true (by omega)]; rfl, Lib.hid (BI.out.trans (B3.out.mono BI.out.size))⟩
          | false =>
            go_wp2_with (go_at_call 70; (with_reducible refine (FP.out _ BI.out).mono ?_); rintro _ w3 ⟨rfl, B3⟩)
            go_roundw
            case rel => exact ⟨1, rfl, by go_num, by omega, (fun _ => by trivial), by omega, Lib.hid (BI.out.trans (B3.out.mono BI.out.size))⟩
            case measure => simp [intOf]
        · obtain rfl := hk1 (by omega)
          cases bM with
          | true =>
            obtain ⟨t, ht1, ht2⟩ := HF.out.minus hF0 HP.out HM.out
            have pos : F ≤ want := by omega
            have E := Lib.hid (And.intro ht1 ht2)
            clear ht1 ht2
            go_wp2_with (go_at_call 70; (with_reducible refine (FM.out _ BI.out).mono ?_); rintro _ w3 ⟨rfl, B3⟩)
            simp only [Exit.noGoto_ret]
            go_ret2
            exact ⟨by rw [E.out.2]; show _ = Ending.returned (.tuple #[.int .i64 (t : Int), .bool (decide ((0 : Int) ≤ (t : Int)))]); rw [E.out.1, decide_eq_true (by omega)]; rfl, Lib.hid (BI.out.trans (B3.out.mono BI.out.size))⟩
          | false =>
            go_wp2_with (go_at_call 70; (with_reducible refine (FM.out _ BI.out).mono ?_); rintro _ w3 ⟨rfl, B3⟩)
            go_roundw
            case rel => exact ⟨2, rfl, by go_num, by omega, (fun _ => by trivial), (fun _ => by trivial), Lib.hid (BI.out.trans (B3.out.mono BI.out.size))⟩
            case measure => simp [intOf]
        · obtain rfl := hk1 (by omega)
          obtain rfl := hk2 (by omega)
          have N := Lib.hid (HF.out.next HP.out HM.out)
          go_wp2_with fail
          go_roundw
          case rel => exact ⟨F + 1, rfl, by go_num, by omega, by omega, N, BI⟩
          case measure => simp [intOf]; omega
end Go.Proofs.YtnkpigibjicmaaaDoor
