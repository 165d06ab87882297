/- walks: the law on lines and Join -/
import Derived.Test.YtnbellffbbaamaaDoorJa
namespace Go.Proofs.YtnbellffbbaamaaDoor
open Go.RowKit
open Tx
def noNl (x : ByteArray) : Bool := decide ((10 : UInt8) ∉ x.data.toList)
def plainB (L : List ByteArray) (e : Bool) : Bool := L.all noNl && (e || decide ((L.getLastD ⟨#[]⟩).data.toList ≠ []))
theorem plainB_lin {L : List ByteArray} {e : Bool} (h : plainB L e = true) : lin (joinL L e) = L.map (·.data.toList) ∧ linE (joinL L e) = e := by
  unfold plainB at h
  rw [Bool.and_eq_true, List.all_eq_true] at h
  obtain ⟨h1, h2⟩ := h
  refine lin_joinL L e (fun x hx => of_decide_eq_true (h1 x hx)) ?_
  rw [Bool.or_eq_true, decide_eq_true_eq] at h2
  rcases h2 with h2 | h2
  · exact .inl h2
  · right
    have hne : L ≠ [] := by rintro rfl; simp at h2
    refine ⟨L.dropLast, L.getLast hne, (List.dropLast_concat_getLast hne).symm, ?_⟩
    rw [List.getLastD_eq_getLast?, List.getLast?_eq_some_getLast hne] at h2
    exact h2
set_option maxHeartbeats 1000000 in
theorem plain_any (v : Value) (L : List ByteArray) (e0 : Bool) (w : World) (hS : Strs w v L) (hs : fullB L ≤ 1048576) :
    Calls Tryd.prog 15 #[v, .bool e0] w fun e w' => e = .returned (.bool (plainB L e0)) ∧ w = w' := by
  by_cases h0 : L = []
  · subst h0
    obtain ⟨a, cap, rfl⟩ := hS.nil
    clear hS hs
    cases e0
    · go_enter Tryd.func15, Tryd.ntmps15
      go_wp2_with fail
      go_loop [5] (fun i => i = .int .i64 0) (fun _ => 0)
      case atStart => rfl
      case round => subst hrel; go_wp2_with fail; go_ret; exact ⟨rfl, rfl⟩
    · go_enter Tryd.func15, Tryd.ntmps15
      go_wp2_with fail
      go_loop [5] (fun i => i = .int .i64 0) (fun _ => 0)
      case atStart => rfl
      case round => subst hrel; go_wp2_with fail; go_ret; exact ⟨rfl, rfl⟩
  · obtain ⟨g, o, cap, rfl, hl, hm, hg, hc⟩ := hS.cons h0
    obtain ⟨r, z, hrz⟩ : ∃ r z, L = r ++ [z] := ⟨L.dropLast, L.getLast h0, (List.dropLast_concat_getLast h0).symm⟩
    obtain ⟨p, hp⟩ : ∃ p, r.length = p := ⟨_, rfl⟩
    have hn : L.length = p + 1 := by rw [hrz, List.length_append, hp]; rfl
    have kz : w.cell? ⟨g, o + p, none⟩ = some (.string z) := hc p z (by rw [hrz, ← hp]; simp)
    have BN : p + 1 ≤ 1048576 := by have := fullB_ge L; omega
    have PB : Hid (plainB L e0 = (L.all noNl && (e0 || decide (z.data.toList ≠ [])))) := Lib.hid (by unfold plainB; rw [hrz]; simp)
    have YS : ∀ j (h : j < L.length), L[j].size ≤ 1048576 := fun j h => by
      have h1 := fullB_snoc L j h
      have h2 := fullB_le L (j + 1) L.length (by omega)
      rw [List.take_length] at h2; omega
    rw [hn] at hl ⊢
    have HC := Lib.hid (And.intro hc (And.intro YS hn))
    clear hS hs h0 hrz hp hn YS hc hg
    go_enter Tryd.func15, Tryd.ntmps15
    go_wp2_with fail
    go_loop [5] (fun i => ∃ j : Nat, i = .int .i64 j ∧ j ≤ p + 1 ∧ Hid ((L.take j).all noNl = true)) (fun i => p + 1 - (intOf i).toNat)
    case atStart => exact ⟨0, rfl, by omega, Lib.hid rfl⟩
    case round =>
      obtain ⟨j, rfl, jq, A⟩ := hrel
      by_cases hlt : j < p + 1
      · have x1 : j < L.length := by have := HC.out.2.2; omega
        have k1 := HC.out.1 j _ (List.getElem?_eq_getElem x1)
        have ys := HC.out.2.1 j x1
        have mem := List.getElem_mem x1
        have tk := List.take_succ_eq_append_getElem x1
        obtain ⟨y, hy⟩ : ∃ y, L[j] = y := ⟨_, rfl⟩
        rw [hy] at k1 ys mem tk
        have TK := Lib.hid (And.intro tk mem)
        clear x1 hy mem tk
        go_wp2_with fail
        go_loop [6] (fun i => ∃ q : Nat, i = .int .i64 q ∧ q ≤ y.size ∧ Hid ((10 : UInt8) ∉ y.data.toList.take q)) (fun i => y.size - (intOf i).toNat)
        case atStart => exact ⟨0, rfl, by omega, Lib.hid (by simp)⟩
        case round =>
          obtain ⟨q, rfl, qy, NQ⟩ := hrel
          by_cases hq : q < y.size
          · have ts := take_snoc y q hq
            by_cases hc10 : y[q] = 10
            · have t1 := (is_nl _).1 hc10
              have t2 : ((y[q].toNat : Int) == 10) = true := by rw [t1]; rfl
              have NP : Hid (plainB L e0 = false) := Lib.hid (by
                rw [PB.out]
                have : L.all noNl = false := by
                  rw [List.all_eq_false]
                  refine ⟨y, TK.out.2, ?_⟩
                  unfold noNl
                  rw [decide_eq_true_eq]
                  intro hh
                  exact hh (List.mem_of_mem_take (i := q + 1) (by rw [ts, hc10]; simp))
                rw [this]; rfl)
              clear ts hc10 t1
              go_wp2_with fail
              go_ret
              exact ⟨by rw [NP.out]; rfl, rfl⟩
            · have t2 : ((y[q].toNat : Int) == 10) = false := by rw [beq_eq_false_iff_ne]; exact fun e => hc10 ((is_nl _).2 e)
              have NQ2 : Hid ((10 : UInt8) ∉ y.data.toList.take (q + 1)) := Lib.hid (by
                rw [ts, List.mem_append, not_or]
                exact ⟨NQ.out, by simp; exact fun e => hc10 e.symm⟩)
              clear ts hc10
              go_wp2_with fail
              go_round
              case rel => exact ⟨q + 1, by go_num, by omega, NQ2⟩
              case measure => simp [intOf]; omega
          · have NY : Hid ((L.take (j + 1)).all noNl = true) := Lib.hid (by
              rw [TK.out.1, List.all_append, A.out]
              have := NQ.out
              rw [List.take_of_length_le (by rw [← size_len]; omega)] at this
              simp [noNl, this])
            go_wp2_with fail
            go_round
            case rel => exact ⟨j + 1, by go_num, by omega, NY⟩
            case measure => simp [intOf]; omega
      · have PB2 : Hid (plainB L e0 = (e0 || decide (z.data.toList ≠ []))) := Lib.hid (by
          have h := A.out
          rw [List.take_of_length_le (by have := HC.out.2.2; omega)] at h
          rw [PB.out, h]; rfl)
        have zz : (z.toList != []) = !decide (z.data.toList = []) := by rw [Lib.toList_data]; by_cases h : z.data.toList = [] <;> simp [h]
        by_cases hz : z.data.toList = []
        · rw [hz] at zz
          have z1 : (z.toList == []) = true := by rw [Lib.toList_data, hz]; rfl
          have HZ := Lib.hid hz; clear hz
          cases e0
          all_goals go_wp2_with fail
          all_goals go_ret
          all_goals exact ⟨by rw [PB2.out]; simp [HZ.out], rfl⟩
        · have z1 : (z.toList == []) = false := by rw [Lib.toList_data, beq_eq_false_iff_ne]; exact hz
          have HZ := Lib.hid hz; clear hz
          cases e0
          all_goals go_wp2_with fail
          all_goals go_ret
          all_goals exact ⟨by rw [PB2.out]; simp [HZ.out], rfl⟩
theorem lin_fullB (l : List UInt8) (L : List ByteArray) (h : L.map (·.data.toList) = lin l) : fullB L ≤ l.length + 1 := by
  rw [fullB_full, h]
  obtain ⟨out, cur, e⟩ := spl_ex l
  obtain ⟨f1, _⟩ := lin_of e
  obtain ⟨a1, _⟩ := spl_size l out cur e
  rw [f1]
  split
  · omega
  · have : full (out ++ [cur]) = full out + cur.length + 1 := by simp [full]; omega
    omega
theorem data_inj {L M : List ByteArray} (h : L.map (·.data.toList) = M.map (·.data.toList)) : L = M := by
  induction L generalizing M with
  | nil => cases M with
    | nil => rfl
    | cons y r => simp at h
  | cons x r ih => cases M with
    | nil => simp at h
    | cons y t =>
      rw [List.map_cons, List.map_cons, List.cons.injEq] at h
      rw [str_ext h.1, ih h.2]
theorem same_yes (v1 v2 : Value) (L1 L2 : List ByteArray) (w : World) (h1 : Strs w v1 L1) (h2 : Strs w v2 L2) (h : L1.map (·.data.toList) = L2.map (·.data.toList)) :
    Calls Tryd.prog 16 #[v1, v2] w fun e w' => e = .returned (.bool true) ∧ Below w.heap.size w w' := by
  have := same_any v1 v2 L1 L2 w h1 h2
  rw [decide_eq_true (data_inj h)] at this
  exact this
theorem plain_is (v : Value) (L : List ByteArray) (e0 b : Bool) (w : World) (hS : Strs w v L) (hs : fullB L ≤ 1048576) (hb : Hid (plainB L e0 = b)) :
    Calls Tryd.prog 15 #[v, .bool e0] w fun e w' => e = .returned (.bool b) ∧ w = w' := by
  rw [← hb.out]; exact plain_any v L e0 w hS hs
theorem lines_is (s : ByteArray) (e0 : Bool) (m : Int) (w : World) (hm : w.cell? ⟨0, 0, none⟩ = some (.int .i64 m)) (hs : s.size ≤ 1048576) (he : linE s.data.toList = e0) :
    Calls Tryd.prog 14 #[.string s] w fun e w' => ∃ v L, e = .returned (.tuple #[v, .bool e0]) ∧ L.map (·.data.toList) = lin s.data.toList ∧ Strs w' v L ∧ Below w.heap.size w w' := by
  rw [← he]; exact lines_any s m w hm hs
set_option maxHeartbeats 2000000 in
theorem law_joins (s : ByteArray) (v : Value) (L : List ByteArray) (e0 : Bool) (m : Int) (w : World) (hm : w.cell? ⟨0, 0, none⟩ = some (.int .i64 m)) (hs : s.size ≤ 1048575) (hS : Strs w v L) (hL : fullB L ≤ 1048576) :
    Calls Tryd.prog 4 #[.string s, v, .bool e0] w fun e w' => e = .returned (.bool true) ∧ Below w.heap.size w w' := by
  have H := Lib.hid hm; clear hm
  have S := Lib.hid hs; clear hs
  have ST := Lib.hid hS; clear hS
  have F := Lib.hid hL; clear hL
  obtain ⟨b1, hb1⟩ : ∃ b, linE s.data.toList = b := ⟨_, rfl⟩
  have E1 := Lib.hid hb1; clear hb1
  cases hp : plainB L e0
  · have P := Lib.hid hp; clear hp
    go_enter Tryd.func4, Tryd.ntmps4
    go_wp2_with (first
      | (go_at_call 14; refine (lines_is s b1 m _ H.out (by have := S.out; omega) E1.out).mono ?_; rintro e w1 ⟨v1, L1, rfl, hl1, hs1, hb1⟩)
      | (go_at_call 11; refine (join_any v1 L1 b1 s _ hs1 (by have := lin_fullB _ _ hl1; have := S.out; rw [← size_len] at *; omega) (str_ext (by show _ = joinL L1 b1; rw [← E1.out]; exact (joinL_lin _ _ hl1).symm))).mono ?_; rintro e w2 ⟨rfl, hb2⟩)
      | (go_at_call 15; refine (plain_is v L e0 false _ ((ST.out.below hb1).below hb2) F.out P).mono ?_; rintro e w3 ⟨rfl, rfl⟩)
      | (go_at_call 13; refine (awake_any m _ (max_below (max_below H.out hb1) hb2)).mono ?_; rintro e w3 ⟨rfl, hb3⟩))
    go_ret
    exact ⟨rfl, hb1.trans ((hb2.trans (hb3.mono hb2.size)).mono hb1.size)⟩
  · have Q := Lib.hid (plainB_lin hp)
    have P := Lib.hid hp; clear hp
    obtain ⟨t, ht⟩ : ∃ t : ByteArray, t = ⟨(joinL L e0).toArray⟩ := ⟨_, rfl⟩
    have T := Lib.hid ht; clear ht
    have TS : Hid (t.size ≤ 1048576) := Lib.hid (by rw [T.out]; have := joinL_le L e0; have := F.out; show (joinL L e0).length ≤ 1048576; omega)
    go_enter Tryd.func4, Tryd.ntmps4
    go_wp2_with (first
      | (go_at_call 14; (first
          | (with_reducible refine (lines_is s b1 m _ H.out (by have := S.out; omega) E1.out).mono ?_; rintro e w1 ⟨v1, L1, rfl, hl1, hs1, hb1⟩)
          | (with_reducible refine (lines_is t e0 m _ (max_below (max_below (max_below H.out hb1) hb2) hb3) TS.out (by rw [T.out]; exact Q.out.2)).mono ?_; rintro e w4 ⟨v2, L2, rfl, hl2, hs2, hb4⟩)))
      | (go_at_call 11; (first
          | (with_reducible refine (join_any v1 L1 b1 s _ hs1 (by have := lin_fullB _ _ hl1; have := S.out; rw [← size_len] at *; omega) (str_ext (by show _ = joinL L1 b1; rw [← E1.out]; exact (joinL_lin _ _ hl1).symm))).mono ?_; rintro e w2 ⟨rfl, hb2⟩)
          | (with_reducible refine (join_any v L e0 t _ ((ST.out.below hb1).below hb2) F.out T.out).mono ?_; rintro e w3 ⟨rfl, hb3⟩)))
      | (go_at_call 15; refine (plain_is v L e0 true _ ((ST.out.below hb1).below hb2) F.out P).mono ?_; rintro e w3 ⟨rfl, rfl⟩)
      | (go_at_call 16; refine (same_yes v2 v L2 L _ hs2 ((((ST.out.below hb1).below hb2).below hb3).below hb4) (by rw [hl2, T.out]; exact Q.out.1)).mono ?_; rintro e w5 ⟨rfl, hb5⟩)
      | (go_at_call 13; refine (awake_any m _ (max_below (max_below (max_below (max_below (max_below H.out hb1) hb2) hb3) hb4) hb5)).mono ?_; rintro e w6 ⟨rfl, hb6⟩))
    go_ret
    exact ⟨rfl, hb1.trans ((hb2.trans ((hb3.trans ((hb4.trans ((hb5.trans (hb6.mono hb5.size)).mono hb4.size)).mono hb3.size)).mono hb2.size)).mono hb1.size)⟩
end Go.Proofs.YtnbellffbbaamaaDoor
