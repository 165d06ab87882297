/- walks: the reference's lines; equal places (written by gen_vo.py) -/
import Derived.Test.YtnkpigibjicmaaaDoorVn
namespace Go.Proofs.YtnkpigibjicmaaaDoor
open Go.RowKit Go.Maps
open Pt Tx
/-- the lines with their marks, n in all -/
def lnsN (n : Nat) (E : Bool) : Nat → List ByteArray → List Ln
  | _, [] => []
  | i, x :: r => (x, decide (i + 1 = n) && !E) :: lnsN n E (i + 1) r
theorem lnsN_len (n : Nat) (E : Bool) : ∀ (l : List ByteArray) (i : Nat), (lnsN n E i l).length = l.length
  | [], _ => rfl
  | x :: r, i => by simp [lnsN, lnsN_len n E r (i + 1)]
theorem full_ge : ∀ L : List (List UInt8), L.length ≤ full L
  | [] => Nat.le_refl _
  | x :: r => by rw [full_cons, List.length_cons]; have := full_ge r; omega
theorem lin_len (l : List UInt8) : (lin l).length ≤ l.length + 1 := by
  obtain ⟨out, cur, e⟩ := spl_ex l
  obtain ⟨h1, -⟩ := spl_size l out cur e
  have h2 := full_ge out
  rw [(lin_of e).1]
  split
  · omega
  · rw [List.length_append, List.length_singleton]; omega
set_option maxRecDepth 100000 in
set_option maxHeartbeats 4000000 in
theorem rlns_any (s : ByteArray) (w : World) (hs : s.size ≤ 100000) :
    Calls Tryd.prog 30 #[.string s] w fun e w' => ∃ v L, e = .returned v ∧ Hid (L.map (·.data.toList) = lin s.data.toList) ∧ Hid (OwnR w' w.heap.size 108 2 v ((lnsN L.length (linE s.data.toList) 0 L).map rowL)) ∧ Hid (Below w.heap.size w w') := by
  have CL := Lib.hid (rlines_any s w (by omega))
  obtain ⟨E, hE⟩ : ∃ E, linE s.data.toList = E := ⟨_, rfl⟩
  rw [hE] at CL ⊢
  clear hE
  have HS := Lib.hid hs
  go_enter Tryd.func30, Tryd.ntmps30
  go_wp2_with (go_at_call 16; refine CL.out.mono ?_; rintro _ w2 ⟨v2, L, rfl, hL, hO, B2⟩)
  obtain ⟨n, hn⟩ : ∃ n, L.length = n := ⟨_, rfl⟩
  have HL := Lib.hid hL
  have HN := Lib.hid hn
  have HO := Lib.hid hO
  have BB := Lib.hid B2
  obtain ⟨a, cap, e0, h1, h2, hc⟩ := hO.strs
  rw [hn] at e0 h1
  subst e0
  have HC := Lib.hid hc
  unfold maxLen at h2
  have n62 : n ≤ 4611686018427387904 := by
    have h1 := lin_len s.data.toList
    rw [← HL.out, List.length_map, HN.out] at h1
    have h2 := HS.out
    have h3 : s.data.toList.length = s.size := by simp
    omega
  clear hc hO hL hn B2
  go_wp2_with fail
  go_loopw [5, 6] (fun v i wr => ∃ (j : Nat) (R : List Ln), i = .int .i64 j ∧ j ≤ n ∧ Hid (lnsN n E 0 L = R ++ lnsN n E j (L.drop j) ∧ R.length = j) ∧ Hid (OwnR wr w2.heap.size 108 2 v (R.map rowL)) ∧ Hid (Below w2.heap.size w2 wr)) (fun _ i _ => n - (intOf i).toNat)
  case atStart => exact ⟨0, [], rfl, Nat.zero_le _, Lib.hid ⟨rfl, rfl⟩, Lib.hid (OwnR.nil _ _ _ _), Lib.hid (Below.refl _ _)⟩
  case round =>
    obtain ⟨j, R, rfl, hj, HR, OW, BK⟩ := hrel
    by_cases hlt : j < n
    · obtain ⟨x, hx⟩ : ∃ x, L[j]? = some x := ⟨_, List.getElem?_eq_getElem (by rw [HN.out]; exact hlt)⟩
      rcases HC.out with h0 | ⟨g, o, rfl, -, hcc⟩
      · have := HN.out; rw [h0] at this; simp at this; omega
      have c0 := kp BK.out (hcc j x hx)
      have BW := Lib.hid (BB.out.trans (BK.out.mono BB.out.size))
      have LR : Hid ((R.map rowL).length ≤ 1048576) := Lib.hid (by rw [List.length_map, HR.out.2]; have h1 := lin_len s.data.toList; rw [← HL.out, List.length_map, HN.out] at h1; have h2 := HS.out; have h3 : s.data.toList.length = s.size := (by simp); omega)
      have ST : Hid (lnsN n E 0 L = (R ++ [(x, decide (j + 1 = n) && !E)]) ++ lnsN n E (j + 1) (L.drop (j + 1))) := Lib.hid (by rw [HR.out.1, drop_get hx, List.append_assoc]; rfl)
      have p0 : (0 : Int) ≤ (j : Int) := by omega
      have p1 : (j : Int) < (n : Int) := by omega
      have p2 : IntKind.i64.wrap (j : Int) = (j : Int) := IntWalk.i64_in _ (by omega)
      clear hcc hx
      by_cases hl : j + 1 = n
      · have t1 : ((j : Int) == (n : Int) - 1) = true := beq_iff_eq.2 (by omega)
        rw [decide_eq_true hl, Bool.true_and] at ST
        cases E with
        | true =>
          go_wp2_with (first | (at_builtin; (first | (refine append_row rtR rfl _ _ rfl _ (R.map rowL) #[.string x, .bool false] w2.heap.size w2 _ OW.out rfl (one_L (x := (x, false))) BK.out BK.out.size LR.out (by simp [Act.eval]) (by simp [Act.eval]) ?_; intro v3 w3 own3 bel3) | go_in)))
          go_roundw
          case rel => exact ⟨j + 1, R ++ [(x, false)], by go_num, by omega, Lib.hid ⟨ST.out, by rw [List.length_append, HR.out.2]; rfl⟩, Lib.hid (by rw [List.map_append]; exact own3.out), bel3⟩
          case measure => simp [intOf]; omega
        | false =>
          go_wp2_with (first | (at_builtin; (first | (refine append_row rtR rfl _ _ rfl _ (R.map rowL) #[.string x, .bool true] w2.heap.size w2 _ OW.out rfl (one_L (x := (x, true))) BK.out BK.out.size LR.out (by simp [Act.eval]) (by simp [Act.eval]) ?_; intro v3 w3 own3 bel3) | go_in)))
          go_roundw
          case rel => exact ⟨j + 1, R ++ [(x, true)], by go_num, by omega, Lib.hid ⟨ST.out, by rw [List.length_append, HR.out.2]; rfl⟩, Lib.hid (by rw [List.map_append]; exact own3.out), bel3⟩
          case measure => simp [intOf]; omega
      · have t1 : ((j : Int) == (n : Int) - 1) = false := beq_eq_false_iff_ne.2 (by omega)
        rw [decide_eq_false hl, Bool.false_and] at ST
        go_wp2_with (first | (at_builtin; (first | (refine append_row rtR rfl _ _ rfl _ (R.map rowL) #[.string x, .bool false] w2.heap.size w2 _ OW.out rfl (one_L (x := (x, false))) BK.out BK.out.size LR.out (by simp [Act.eval]) (by simp [Act.eval]) ?_; intro v3 w3 own3 bel3) | go_in)))
        go_roundw
        case rel => exact ⟨j + 1, R ++ [(x, false)], by go_num, by omega, Lib.hid ⟨ST.out, by rw [List.length_append, HR.out.2]; rfl⟩, Lib.hid (by rw [List.map_append]; exact own3.out), bel3⟩
        case measure => simp [intOf]; omega
    · obtain rfl : j = n := by omega
      have EQ : Hid (lnsN j E 0 L = R) := Lib.hid (by rw [HR.out.1, List.drop_eq_nil_of_le (by rw [HN.out]; exact Nat.le_refl _)]; simp [lnsN])
      go_wp2_with fail
      go_ret
      exact ⟨_, L, rfl, HL, Lib.hid (by rw [HN.out, EQ.out]; exact OW.out.mono BB.out.size), Lib.hid (BB.out.trans (BK.out.mono BB.out.size))⟩
end Go.Proofs.YtnkpigibjicmaaaDoor
