/- walks: the program's lines -/
import Derived.Test.YtnkpigibjicmaaaDoorVo
import Derived.Test.YtnkpigibjicmaaaDoorVca
namespace Go.Proofs.YtnkpigibjicmaaaDoor
open Go.RowKit Go.Maps
open Pt Tx
theorem rowL_len2 {l : List Ln} : ∀ x ∈ l.map rowL, x.length = 2 := by intro x hx; obtain ⟨y, -, rfl⟩ := List.mem_map.1 hx; rfl
set_option maxRecDepth 100000 in
set_option maxHeartbeats 4000000 in
theorem plns_any (s : ByteArray) (m : Int) (w : World) (hm : w.cell? ⟨0, 0, none⟩ = some (.int .i64 m)) (hs : s.size ≤ 100000) :
    Calls Tryd.prog 27 #[.string s] w fun e w' => ∃ v L, e = .returned v ∧ Hid (L.map (·.data.toList) = lin s.data.toList) ∧ Hid (RowsAt w' v 2 ((lnsN L.length (linE s.data.toList) 0 L).map rowL)) ∧ Hid (Below w.heap.size w w') := by
  have CL := Lib.hid (lines_any s m w hm (by omega))
  obtain ⟨E, hE⟩ : ∃ E, linE s.data.toList = E := ⟨_, rfl⟩
  rw [hE] at CL ⊢
  clear hE hm
  have HS := Lib.hid hs
  clear hs
  go_enter Tryd.func27, Tryd.ntmps27
  go_upto_region 2 with (go_at_call 55; refine CL.out.mono ?_; rintro _ w2 ⟨v2, L, rfl, hL, hO, B2⟩)
  obtain ⟨n, hn⟩ : ∃ n, L.length = n := ⟨_, rfl⟩
  have HL := Lib.hid hL
  have HN := Lib.hid hn
  have BB := Lib.hid B2
  obtain ⟨a, cap, e0, h1, h2, hc⟩ := hO
  rw [hn] at e0 h1
  subst e0
  have HC := Lib.hid hc
  unfold maxLen at h2
  have n62 : n ≤ 100001 := by
    have h1 := lin_len s.data.toList
    rw [← HL.out, List.length_map, HN.out] at h1
    have h2 := HS.out
    have h3 : s.data.toList.length = s.size := by simp
    omega
  have hmk := fun W => make_rows rtP n (by omega) W
  have BM : Hid (BlkR (w2.alloc (.cells (madeCells (Value.agg #[.string ⟨#[]⟩, .bool false]).cells (n * 2)) 95)) w2.heap.size 2 n 95 []) := Lib.hid (BlkR.made w2 _ 2 n _)
  have BL := Lib.hid ((Below.refl w2.heap.size w2).alloc (Nat.le_refl _) (.cells (madeCells (Value.agg #[.string ⟨#[]⟩, .bool false]).cells (n * 2)) 95))
  clear hc hL hn B2
  go_wp2_with fail
  go_loopw [18] (fun i wr => ∃ (j : Nat) (R : List Ln), i = .int .i64 j ∧ j ≤ n ∧ Hid (lnsN n E 0 L = R ++ lnsN n E j (L.drop j) ∧ R.length = j) ∧ Hid (BlkR wr w2.heap.size 2 n 95 (R.map rowL)) ∧ Hid (Below w2.heap.size w2 wr)) (fun i _ => n - (intOf i).toNat)
  case atStart => exact ⟨0, [], rfl, Nat.zero_le _, Lib.hid ⟨rfl, rfl⟩, BM, BL⟩
  case round =>
    obtain ⟨j, R, rfl, hj, HR, BR, BK⟩ := hrel
    by_cases hlt : j < n
    · obtain ⟨x, hx⟩ : ∃ x, L[j]? = some x := ⟨_, List.getElem?_eq_getElem (by rw [HN.out]; exact hlt)⟩
      rcases HC.out with h0 | ⟨g, o, rfl, -, hcc⟩
      · have := HN.out; rw [h0] at this; simp at this; omega
      have c0 := kp BK.out (hcc j x hx)
      have ST : Hid (lnsN n E 0 L = (R ++ [(x, decide (j + 1 = n) && !E)]) ++ lnsN n E (j + 1) (L.drop (j + 1))) := Lib.hid (by rw [HR.out.1, drop_get hx, List.append_assoc]; rfl)
      have p0 : (0 : Int) ≤ (j : Int) := by omega
      have p1 : (j : Int) < (n : Int) := by omega
      have p2 : IntKind.i64.wrap (j : Int) = (j : Int) := IntWalk.i64_in _ (by omega)
      obtain ⟨y0, e0⟩ := BR.out.cell (j * 2) (by omega)
      obtain ⟨y1, e1⟩ := BR.out.cell (j * 2 + 1) (by omega)
      have f0 := BR.out.fr (j * 2)
      have f1 := BR.out.fr (j * 2 + 1)
      have PU := Lib.hid (fun b => BR.out.push2 rowL_len2 j (by rw [List.length_map]; exact HR.out.2) hlt (.string x) (.bool b))
      have PB := Lib.hid (fun u v => (BK.out.setCell (p := ⟨w2.heap.size, j * 2, none⟩) (Nat.le_refl _) u).setCell (p := ⟨w2.heap.size, j * 2 + 1, none⟩) (Nat.le_refl _) v)
      clear hcc hx
      by_cases hl : j + 1 = n
      · have t1 : ((j : Int) == (n : Int) - 1) = true := beq_iff_eq.2 (by omega)
        rw [decide_eq_true hl, Bool.true_and] at ST
        cases E with
        | true =>
          go_wp2_with fail
          go_roundw
          case rel => exact ⟨j + 1, R ++ [(x, false)], by go_num, by omega, Lib.hid ⟨ST.out, by rw [List.length_append, HR.out.2]; rfl⟩, Lib.hid (by rw [List.map_append]; exact PU.out false), Lib.hid (PB.out _ _)⟩
          case measure => simp [intOf]; omega
        | false =>
          go_wp2_with fail
          go_roundw
          case rel => exact ⟨j + 1, R ++ [(x, true)], by go_num, by omega, Lib.hid ⟨ST.out, by rw [List.length_append, HR.out.2]; rfl⟩, Lib.hid (by rw [List.map_append]; exact PU.out true), Lib.hid (PB.out _ _)⟩
          case measure => simp [intOf]; omega
      · have t1 : ((j : Int) == (n : Int) - 1) = false := beq_eq_false_iff_ne.2 (by omega)
        rw [decide_eq_false hl, Bool.false_and] at ST
        cases E with
        | true =>
          go_wp2_with fail
          go_roundw
          case rel => exact ⟨j + 1, R ++ [(x, false)], by go_num, by omega, Lib.hid ⟨ST.out, by rw [List.length_append, HR.out.2]; rfl⟩, Lib.hid (by rw [List.map_append]; exact PU.out false), Lib.hid (PB.out _ _)⟩
          case measure => simp [intOf]; omega
        | false =>
          go_wp2_with fail
          go_roundw
          case rel => exact ⟨j + 1, R ++ [(x, false)], by go_num, by omega, Lib.hid ⟨ST.out, by rw [List.length_append, HR.out.2]; rfl⟩, Lib.hid (by rw [List.map_append]; exact PU.out false), Lib.hid (PB.out _ _)⟩
          case measure => simp [intOf]; omega
    · obtain rfl : j = n := by omega
      have EQ : Hid (lnsN j E 0 L = R) := Lib.hid (by rw [HR.out.1, List.drop_eq_nil_of_le (by rw [HN.out]; exact Nat.le_refl _)]; simp [lnsN])
      go_wp2_with fail
      go_ret
      exact ⟨_, L, rfl, HL, Lib.hid (by rw [HN.out, EQ.out]; exact BR.out.rows (by rw [List.length_map]; exact HR.out.2) (by unfold maxLen; omega)), Lib.hid (BB.out.trans (BK.out.mono BB.out.size))⟩
end Go.Proofs.YtnkpigibjicmaaaDoor
