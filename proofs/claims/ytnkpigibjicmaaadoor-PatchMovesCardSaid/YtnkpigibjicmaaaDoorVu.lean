/- walks: the nearest place, the reference's (written by gen_vu.py) -/
import Derived.Test.YtnkpigibjicmaaaDoorVt
namespace Go.Proofs.YtnkpigibjicmaaaDoor
open Go.RowKit Go.Maps
open Pt
def optI : Option Nat → Int
  | none => -1
  | some b => b
theorem findL_more (old : List Ln) (low : Nat) (want : Int) (p : List Ln) (n : Nat) (h : old.length < low + n + p.length) : ∀ k, findL old low want p (n + k) = findL old low want p n
  | 0 => rfl
  | k + 1 => by
    have hf : fitB old low p (low + (n + k)) = false := by
      unfold fitB
      rw [show decide (low + (n + k) + p.length ≤ old.length) = false from decide_eq_false (by omega)]
      simp
    show findL old low want p ((n + k) + 1) = _
    rw [← findL_more old low want p n h k]
    simp only [findL, hf]
    cases findL old low want p (n + k) <;> simp
set_option maxRecDepth 100000 in
set_option maxHeartbeats 4000000 in
theorem rfind_any (l p : List Ln) (low : Nat) (want : Int) (u x : Value) (w : World) (hu : RowsAt w u 2 (l.map rowL)) (hx : RowsAt w x 2 (p.map rowL)) (hl : l.length ≤ 1048576) (hp : p.length ≤ 1048576) (hlow : low ≤ l.length) (hw : -1152921504606846976 ≤ want ∧ want ≤ 1152921504606846976) :
    Calls Tryd.prog 34 #[u, .int .i64 low, .int .i64 want, x] w fun e w' => e = .returned (.tuple #[.int .i64 (optI (findP l low want p)), .bool (decide (0 ≤ optI (findP l low want p)))]) ∧ Hid (Below w.heap.size w w') := by
  obtain ⟨n, hn⟩ : ∃ n, l.length = n := ⟨_, rfl⟩
  obtain ⟨k, hk⟩ : ∃ k, p.length = k := ⟨_, rfl⟩
  have HN := Lib.hid (And.intro hn hk)
  have QC0 := Lib.hid (fun t (h : t + p.length ≤ l.length) W (hb : Below w.heap.size w W) => requal_any l p t u x W (hu.below hb) (hx.below hb) hl h)
  obtain ⟨ua, uc, rfl, -, -, -⟩ := hu.sl (n := n) (by rw [List.length_map]; exact hn)
  obtain ⟨xa, xc, rfl, -, -, -⟩ := hx.sl (n := k) (by rw [List.length_map]; exact hk)
  rw [hn] at hl hlow
  rw [hk] at hp
  have hw1 := hw.1
  have hw2 := hw.2
  clear hu hx hn hk hw
  go_enter Tryd.func34, Tryd.ntmps34
  go_wp2_with fail
  go_loopw [10, 11] (fun b t wr => ∃ (i : Nat) (o : Option Nat), t = .int .i64 ((low + i : Nat) : Int) ∧ b = .int .i64 (optI o) ∧ low + i ≤ n + 1 ∧ Hid (findL l low want p i = o) ∧ (∀ c, o = some c → c ≤ n) ∧ Hid (Below w.heap.size w wr)) (fun _ t _ => n + 1 - (intOf t).toNat)
  case atStart => exact ⟨0, none, rfl, rfl, by omega, Lib.hid rfl, (fun c h => by cases h), Lib.hid (Below.refl _ _)⟩
  case round =>
    obtain ⟨i, o, rfl, rfl, hi, HO, hc, BK⟩ := hrel
    by_cases hk2 : low + i + k ≤ n
    · have QC := Lib.hid (QC0.out (low + i) (by rw [HN.out.1, HN.out.2]; exact hk2))
      obtain ⟨b0, hb0⟩ : ∃ b, decide ((l.drop (low + i)).take p.length = p) = b := ⟨_, rfl⟩
      have FIT : Hid (fitB l low p (low + i) = b0) := Lib.hid (by
        unfold fitB
        rw [decide_eq_true (show low ≤ low + i by omega), decide_eq_true (show low + i + p.length ≤ l.length by rw [HN.out.1, HN.out.2]; exact hk2), hb0]; rfl)
      rw [hb0] at QC
      clear hb0
      have ST : Hid (findL l low want p (i + 1) = match findL l low want p i with | none => if fitB l low p (low + i) then some (low + i) else none | some b => if fitB l low p (low + i) && better want (low + i) b then some (low + i) else some b) := Lib.hid rfl
      have p0 : IntKind.i64.wrap (((low + i : Nat) : Int) + (k : Int)) = ((low + i : Nat) : Int) + (k : Int) := IntWalk.i64_in _ (by omega)
      have p1 : decide (((low + i : Nat) : Int) + (k : Int) ≤ (n : Int)) = true := decide_eq_true (by omega)
      have p3 : IntKind.i64.wrap (((low + i : Nat) : Int) + 1) = ((low + i : Nat) : Int) + 1 := IntWalk.i64_in _ (by omega)
      obtain ⟨T, hT⟩ : ∃ T : Nat, low + i = T := ⟨_, rfl⟩
      rw [hT] at QC FIT ST p0 p1 p3 hk2 ⊢
      have FT := Lib.hid (fun W => far_any (T : Int) want W (by omega) (by omega))
      cases b0 with
      | false =>
        have E : Hid (findL l low want p (i + 1) = o) := Lib.hid (by rw [ST.out, HO.out, FIT.out]; cases o <;> simp)
        go_wp2_with (first | (go_at_call 62; (with_reducible refine (QC.out _ BK.out).mono ?_); rintro _ w3 ⟨rfl, B3⟩) | (go_at_call 63; (first | (with_reducible refine (FT.out _).mono ?_) | (with_reducible refine (FB.out _).mono ?_)); rintro _ w4 ⟨rfl, h4⟩; replace h4 := h4.symm; subst h4))
        go_roundw
        case rel => exact ⟨i + 1, o, by rw [← hT]; go_num, rfl, by omega, E, by first | exact hc | (intro c h; cases h; omega), Lib.hid (BK.out.trans (B3.out.mono BK.out.size))⟩
        case measure => simp [intOf]; omega
      | true =>
        cases o with
        | none =>
          have E : Hid (findL l low want p (i + 1) = some T) := Lib.hid (by rw [ST.out, HO.out, FIT.out]; simp)
          go_wp2_with (first | (go_at_call 62; (with_reducible refine (QC.out _ BK.out).mono ?_); rintro _ w3 ⟨rfl, B3⟩) | (go_at_call 63; (first | (with_reducible refine (FT.out _).mono ?_) | (with_reducible refine (FB.out _).mono ?_)); rintro _ w4 ⟨rfl, h4⟩; replace h4 := h4.symm; subst h4))
          go_roundw
          case rel => exact ⟨i + 1, some T, by rw [← hT]; go_num, rfl, by omega, E, by first | exact hc | (intro c h; cases h; omega), Lib.hid (BK.out.trans (B3.out.mono BK.out.size))⟩
          case measure => simp [intOf]; omega
        | some b =>
          have hbn := hc b rfl
          have FB := Lib.hid (fun W => far_any (b : Int) want W (by omega) (by omega))
          obtain ⟨ft, hft⟩ : ∃ f, Pt.far (T : Int) want = f := ⟨_, rfl⟩
          obtain ⟨fb, hfb⟩ : ∃ f, Pt.far (b : Int) want = f := ⟨_, rfl⟩
          rw [hft] at FT
          rw [hfb] at FB
          have BT : Hid (better want T b = (decide (ft < fb) || (decide (ft = fb) && decide (b < T)))) := Lib.hid (by unfold better; rw [hft, hfb])
          clear hft hfb
          have hopt : optI (some b) = (b : Int) := rfl
          rw [hopt]
          have n0 : decide ((b : Int) < 0) = false := decide_eq_false (by omega)
          by_cases a1 : ft < fb
          · have t1 : decide (ft < fb) = true := decide_eq_true a1
            have E : Hid (findL l low want p (i + 1) = some T) := Lib.hid (by rw [ST.out, HO.out]; simp only; rw [FIT.out, BT.out, t1]; simp)
            clear hopt
            go_wp2_with (first | (go_at_call 62; (with_reducible refine (QC.out _ BK.out).mono ?_); rintro _ w3 ⟨rfl, B3⟩) | (go_at_call 63; (first | (with_reducible refine (FT.out _).mono ?_) | (with_reducible refine (FB.out _).mono ?_)); rintro _ w4 ⟨rfl, h4⟩; replace h4 := h4.symm; subst h4))
            go_roundw
            case rel => exact ⟨i + 1, some T, by rw [← hT]; go_num, rfl, by omega, E, by first | exact hc | (intro c h; cases h; omega), Lib.hid (BK.out.trans (B3.out.mono BK.out.size))⟩
            case measure => simp [intOf]; omega
          · have t1 : decide (ft < fb) = false := decide_eq_false a1
            by_cases a2 : ft = fb
            · have t2 : (ft == fb) = true := beq_iff_eq.2 a2
              by_cases a3 : b < T
              · have t3 : decide ((b : Int) < (T : Int)) = true := decide_eq_true (by omega)
                have E : Hid (findL l low want p (i + 1) = some T) := Lib.hid (by rw [ST.out, HO.out]; simp only; rw [FIT.out, BT.out, decide_eq_true a2, decide_eq_true a3]; simp)
                clear hopt a1 a2
                go_wp2_with (first | (go_at_call 62; (with_reducible refine (QC.out _ BK.out).mono ?_); rintro _ w3 ⟨rfl, B3⟩) | (go_at_call 63; (first | (with_reducible refine (FT.out _).mono ?_) | (with_reducible refine (FB.out _).mono ?_)); rintro _ w4 ⟨rfl, h4⟩; replace h4 := h4.symm; subst h4))
                go_roundw
                case rel => exact ⟨i + 1, some T, by rw [← hT]; go_num, rfl, by omega, E, by first | exact hc | (intro c h; cases h; omega), Lib.hid (BK.out.trans (B3.out.mono BK.out.size))⟩
                case measure => simp [intOf]; omega
              · have t3 : decide ((b : Int) < (T : Int)) = false := decide_eq_false (by omega)
                have E : Hid (findL l low want p (i + 1) = some b) := Lib.hid (by rw [ST.out, HO.out]; simp only; rw [FIT.out, BT.out, t1, decide_eq_false a3]; simp)
                clear hopt a1 a2
                go_wp2_with (first | (go_at_call 62; (with_reducible refine (QC.out _ BK.out).mono ?_); rintro _ w3 ⟨rfl, B3⟩) | (go_at_call 63; (first | (with_reducible refine (FT.out _).mono ?_) | (with_reducible refine (FB.out _).mono ?_)); rintro _ w4 ⟨rfl, h4⟩; replace h4 := h4.symm; subst h4))
                go_roundw
                case rel => exact ⟨i + 1, some b, by rw [← hT]; go_num, rfl, by omega, E, by first | exact hc | (intro c h; cases h; omega), Lib.hid (BK.out.trans (B3.out.mono BK.out.size))⟩
                case measure => simp [intOf]; omega
            · have t2 : (ft == fb) = false := beq_eq_false_iff_ne.2 a2
              have E : Hid (findL l low want p (i + 1) = some b) := Lib.hid (by rw [ST.out, HO.out]; simp only; rw [FIT.out, BT.out, t1, decide_eq_false a2]; simp)
              clear hopt a1 a2
              go_wp2_with (first | (go_at_call 62; (with_reducible refine (QC.out _ BK.out).mono ?_); rintro _ w3 ⟨rfl, B3⟩) | (go_at_call 63; (first | (with_reducible refine (FT.out _).mono ?_) | (with_reducible refine (FB.out _).mono ?_)); rintro _ w4 ⟨rfl, h4⟩; replace h4 := h4.symm; subst h4))
              go_roundw
              case rel => exact ⟨i + 1, some b, by rw [← hT]; go_num, rfl, by omega, E, by first | exact hc | (intro c h; cases h; omega), Lib.hid (BK.out.trans (B3.out.mono BK.out.size))⟩
              case measure => simp [intOf]; omega
    · have p0 : IntKind.i64.wrap (((low + i : Nat) : Int) + (k : Int)) = ((low + i : Nat) : Int) + (k : Int) := IntWalk.i64_in _ (by omega)
      have p1 : decide (((low + i : Nat) : Int) + (k : Int) ≤ (n : Int)) = false := decide_eq_false (by omega)
      have E : Hid (findP l low want p = o) := Lib.hid (by
        unfold findP
        rw [← HO.out]
        rcases Nat.le_total i (l.length + 1 - low) with h | h
        · obtain ⟨d, hd⟩ := Nat.exists_eq_add_of_le h
          rw [hd]
          exact findL_more l low want p i (by rw [HN.out.1, HN.out.2]; omega) d
        · have hh : i = l.length + 1 - low := by rw [HN.out.1] at h ⊢; omega
          rw [← hh])
      go_wp2_with fail
      go_ret2
      exact ⟨by rw [E.out]; rfl, BK⟩
end Go.Proofs.YtnkpigibjicmaaaDoor
