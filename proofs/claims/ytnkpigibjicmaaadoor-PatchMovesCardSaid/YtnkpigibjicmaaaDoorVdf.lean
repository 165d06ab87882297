/- walks: the lines of a text with their line feeds (written by gen_vdf.py) -/
import Derived.Test.YtnkpigibjicmaaaDoorVde
namespace Go.Proofs.YtnkpigibjicmaaaDoor
open Go.RowKit Go.Maps
open Pt Tx
/-- a line with its line feed -/
def fedS (x : Ln) : ByteArray := if x.2 then x.1 else x.1 ++ ⟨#[10]⟩
set_option maxRecDepth 100000 in
set_option maxHeartbeats 2000000 in
theorem fed_any (s : ByteArray) (w : World) (hs : s.size ≤ 100000) :
    Calls Tryd.prog 38 #[.string s] w fun e w' => ∃ v, e = .returned v ∧ Hid (Strs w' v ((lnsP s).map fedS)) ∧ Hid (Below w.heap.size w w') := by
  have RL := Lib.hid (rlines_any s w (by omega))
  go_enter Tryd.func38, Tryd.ntmps38
  go_upto_region 2 with (first | (go_at_call 16; (with_reducible refine RL.out.mono ?_); rintro _ w1 ⟨v1, L, rfl, hL, hO, B1⟩))
  have HL := Lib.hid hL
  have LP := Lib.hid (lns_eq hL)
  have B1 := Lib.hid B1
  obtain ⟨n, hn⟩ : ∃ n, L.length = n := ⟨_, rfl⟩
  have HN := Lib.hid hn
  have hn2 : n ≤ 100001 := by
    have h1 := lin_len s.data.toList
    rw [← hL, List.length_map, hn] at h1
    have h3 : s.data.toList.length = s.size := by simp
    omega
  have hS := hO.strs
  obtain ⟨a, cap, e0, h1, h2, hc⟩ := hS
  rw [hn] at e0 h1
  subst e0
  have HC := Lib.hid hc
  unfold maxLen at h2
  obtain ⟨E, hE⟩ : ∃ E, linE s.data.toList = E := ⟨_, rfl⟩
  rw [hE, hn] at LP
  rw [hE]
  clear hL hn hO hc hE
  go_wp2_with fail
  go_loopw [5, 6] (fun v x wr => ∃ (j : Nat) (Lf : List ByteArray), x = .int .i64 j ∧ j ≤ n ∧ Hid (OwnS wr w1.heap.size v Lf) ∧ Hid (Lf ++ (lnsN n E j (L.drop j)).map fedS = (lnsP s).map fedS ∧ Lf.length = j) ∧ Hid (Below w1.heap.size w1 wr)) (fun _ x _ => n - (intOf x).toNat)
  case atStart => exact ⟨0, [], rfl, Nat.zero_le _, Lib.hid ⟨rfl, .inl ⟨rfl, rfl⟩⟩, Lib.hid ⟨by rw [List.nil_append, List.drop_zero, LP.out], rfl⟩, Lib.hid (Below.refl _ _)⟩
  case round =>
    obtain ⟨j, Lf, rfl, hj, OW, HE, BK⟩ := hrel
    have LN : Hid (Lf.length ≤ 1048576) := Lib.hid (by rw [HE.out.2]; omega)
    by_cases hlt : j < n
    · obtain ⟨x, hx⟩ : ∃ x, L[j]? = some x := ⟨_, List.getElem?_eq_getElem (by rw [HN.out]; exact hlt)⟩
      rcases HC.out with h0 | ⟨g, o, rfl, -, hcc⟩
      · have := HN.out; rw [h0] at this; simp at this; omega
      have c0 := kp BK.out (hcc j x hx)
      have ST : Hid (Lf ++ fedS (x, decide (j + 1 = n) && !E) :: (lnsN n E (j + 1) (L.drop (j + 1))).map fedS = (lnsP s).map fedS) := Lib.hid (by rw [← HE.out.1, drop_get hx]; rfl)
      have p0 : (0 : Int) ≤ (j : Int) := by omega
      have p1 : (j : Int) < (n : Int) := by omega
      have p2 : IntKind.i64.wrap (j : Int) = (j : Int) := IntWalk.i64_in _ (by omega)
      have p3 : IntKind.i64.wrap ((j : Int) + 1) = (j : Int) + 1 := IntWalk.i64_in _ (by omega)
      have p5 : x.size ≤ 100000 := by
        have h1 : x.data.toList ∈ lin s.data.toList := by rw [← HL.out]; exact List.mem_map.2 ⟨x, List.mem_of_getElem? hx, rfl⟩
        have h2 := lin_mem h1
        have h3 : x.data.toList.length = x.size := by simp
        have h4 : s.data.toList.length = s.size := by simp
        omega
      clear hcc hx
      cases E with
      | true =>
        have E : Hid ((Lf ++ [x ++ ⟨#[10]⟩]) ++ (lnsN n true (j + 1) (L.drop (j + 1))).map fedS = (lnsP s).map fedS ∧ (Lf ++ [x ++ ⟨#[10]⟩]).length = j + 1) := Lib.hid ⟨by rw [← ST.out, List.append_assoc]; simp [fedS], by simp [HE.out.2]⟩
        go_wp2_with (first | (at_builtin; (refine append_strs rfl (.tmp 26) (.tmp 32) rfl _ Lf _ w1.heap.size w1 _ OW.out BK.out BK.out.size LN.out (by simp [Act.eval]) (by simp [Act.eval]) ?_; intro v3 w3 own3 bel3)))
        go_roundw
        case rel => exact ⟨j + 1, Lf ++ [_], by go_num, by omega, own3, E, bel3⟩
        case measure => simp [intOf]; omega
      | false =>
        by_cases hl : j + 1 = n
        · have p4 : ¬ (j : Int) + 1 < (n : Int) := by omega
          have E : Hid ((Lf ++ [x]) ++ (lnsN n false (j + 1) (L.drop (j + 1))).map fedS = (lnsP s).map fedS ∧ (Lf ++ [x]).length = j + 1) := Lib.hid ⟨by rw [← ST.out, List.append_assoc]; simp [fedS, hl], by simp [HE.out.2]⟩
          go_wp2_with (first | (at_builtin; (refine append_strs rfl (.tmp 34) (.tmp 39) rfl _ Lf _ w1.heap.size w1 _ OW.out BK.out BK.out.size LN.out (by simp [Act.eval]) (by simp [Act.eval]) ?_; intro v3 w3 own3 bel3)))
          go_roundw
          case rel => exact ⟨j + 1, Lf ++ [_], by go_num, by omega, own3, E, bel3⟩
          case measure => simp [intOf]; omega
        · have p4 : (j : Int) + 1 < (n : Int) := by omega
          have E : Hid ((Lf ++ [x ++ ⟨#[10]⟩]) ++ (lnsN n false (j + 1) (L.drop (j + 1))).map fedS = (lnsP s).map fedS ∧ (Lf ++ [x ++ ⟨#[10]⟩]).length = j + 1) := Lib.hid ⟨by rw [← ST.out, List.append_assoc]; simp [fedS, hl], by simp [HE.out.2]⟩
          go_wp2_with (first | (at_builtin; (refine append_strs rfl (.tmp 26) (.tmp 32) rfl _ Lf _ w1.heap.size w1 _ OW.out BK.out BK.out.size LN.out (by simp [Act.eval]) (by simp [Act.eval]) ?_; intro v3 w3 own3 bel3)))
          go_roundw
          case rel => exact ⟨j + 1, Lf ++ [_], by go_num, by omega, own3, E, bel3⟩
          case measure => simp [intOf]; omega
    · obtain rfl : j = n := by omega
      have FE : Hid (Lf = (lnsP s).map fedS) := Lib.hid (by
        have := HE.out.1
        rw [List.drop_eq_nil_of_le (by rw [HN.out]; exact Nat.le_refl _)] at this
        rw [← this]; simp [lnsN])
      go_wp2_with fail
      go_ret
      exact ⟨u5, rfl, Lib.hid (by rw [← FE.out]; exact OW.out.strs), Lib.hid (B1.out.trans (BK.out.mono B1.out.size))⟩
end Go.Proofs.YtnkpigibjicmaaaDoor
