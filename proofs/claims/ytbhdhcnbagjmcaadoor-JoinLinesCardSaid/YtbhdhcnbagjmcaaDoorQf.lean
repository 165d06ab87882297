/- walks: classes and collating elements, the reference -/
import Derived.Test.YtbhdhcnbagjmcaaDoorQe
namespace Go.Proofs.YtbhdhcnbagjmcaaDoor
open Go.RowKit Go.Maps
open Lcl
theorem below_drewN {B : Nat} {a w : World} (h : Below B a w) (n : Nat) : Below B a (w.drewN n) := ⟨h.os, h.tape, h.output, h.size, h.block⟩
theorem light_is (n : Int) (b : Bool) (w : World) (hb : Hid ((decide (0 ≤ n) && decide (n ≤ 65535)) = b)) :
    Calls Tryd.prog 78 #[.int .i64 n] w fun e w' => e = .returned (.bool b) ∧ w = w' := by
  rw [← hb.out]; clear hb
  by_cases h0 : 0 ≤ n
  · rw [decide_eq_true h0, Bool.true_and]
    go_enter Tryd.func78, Tryd.ntmps78
    go_wp2
    go_ret
    exact ⟨rfl, rfl⟩
  · rw [decide_eq_false h0, Bool.false_and]
    go_enter Tryd.func78, Tryd.ntmps78
    go_wp2
    go_ret
    exact ⟨rfl, rfl⟩
theorem rname_is (s : ByteArray) (b : Bool) (w : World) (hb : Hid (nameB s.data.toList = b)) :
    Calls Tryd.prog 77 #[.string s] w fun e w' => e = .returned (.bool b) ∧ w = w' := by rw [← hb.out]; exact rname_any s w
theorem str_beq (a b : ByteArray) : (a.toList == b.toList) = decide (a.data.toList = b.data.toList) := by
  rw [Bool.eq_iff_iff, beq_iff_eq, decide_eq_true_eq, Lib.toList_data, Lib.toList_data]
/-- none of the first j strings is this one -/
def NoneOf (l : List (List UInt8)) (j : Nat) (s : List UInt8) : Prop := ¬ s ∈ l.take j
theorem NoneOf.zero (l : List (List UInt8)) (s : List UInt8) : NoneOf l 0 s := by unfold NoneOf; simp
theorem NoneOf.next {l : List (List UInt8)} {j : Nat} {s t : List UInt8} (h : NoneOf l j s) (ht : l[j]? = some t) (hne : decide (t = s) = false) : NoneOf l (j + 1) s := by
  unfold NoneOf at *
  rw [List.take_add_one, ht, List.mem_append]
  rintro (e | e)
  · exact h e
  · simp at e; subst e; simp at hne
theorem none_all {l : List (List UInt8)} {k : Nat} {s : List UInt8} (h : NoneOf l k s) : decide (s ∈ l.take k) = false := decide_eq_false h
theorem none_hit {l : List (List UInt8)} {j k : Nat} {s t : List UInt8} (ht : l[j]? = some t) (hjk : j < k) (he : decide (t = s) = true) : decide (s ∈ l.take k) = true := by
  have e := of_decide_eq_true he
  subst e
  apply decide_eq_true
  exact List.mem_of_getElem? (i := j) (by rw [List.getElem?_take, if_pos hjk]; exact ht)
/-- where the loop stands -/
structure CRR (w wr : World) (l : List Cl) (k : Nat) : Prop where
  rest : clsB [] (l.map (·.n)) = clsB ((l.map (·.n.data.toList)).take k) ((l.drop k).map (·.n))
  bel : Below w.heap.size w wr
theorem CRR.start (w : World) (l : List Cl) : CRR w w l 0 := ⟨rfl, Below.refl _ _⟩
theorem CRR.step {w wr : World} {l : List Cl} {k : Nat} {x : Cl} (h : CRR w wr l k) (hx : l[k]? = some x) :
    clsB [] (l.map (·.n)) = (nameB x.n.data.toList && !decide (x.n.data.toList ∈ (l.map (·.n.data.toList)).take k) && clsB ((l.map (·.n.data.toList)).take (k + 1)) ((l.drop (k + 1)).map (·.n))) := by
  rw [h.rest]
  have hd : l.drop k = x :: l.drop (k + 1) := by
    obtain ⟨hlt, e⟩ := List.getElem?_eq_some_iff.1 hx
    rw [List.drop_eq_getElem_cons hlt, e]
  have ht : (l.map (·.n.data.toList)).take (k + 1) = (l.map (·.n.data.toList)).take k ++ [x.n.data.toList] := by
    rw [List.take_add_one, List.getElem?_map, hx]; rfl
  rw [hd, ht, List.map_cons]
  rfl
theorem CRR.next {w wr w1 : World} {l : List Cl} {k : Nat} {x : Cl} (h : CRR w wr l k) (hx : l[k]? = some x) (hn : nameB x.n.data.toList = true) (hm : decide (x.n.data.toList ∈ (l.map (·.n.data.toList)).take k) = false)
    (hb : Below w.heap.size w w1) : CRR w w1 l (k + 1) := ⟨by rw [h.step hx, hn, hm]; rfl, hb⟩
theorem CRR.bad {w wr : World} {l : List Cl} {k : Nat} {x : Cl} (h : CRR w wr l k) (hx : l[k]? = some x) (hn : nameB x.n.data.toList = false) : clsB [] (l.map (·.n)) = false := by
  rw [h.step hx, hn]; rfl
theorem CRR.twice {w wr : World} {l : List Cl} {k : Nat} {x : Cl} (h : CRR w wr l k) (hx : l[k]? = some x) (hm : decide (x.n.data.toList ∈ (l.map (·.n.data.toList)).take k) = true) : clsB [] (l.map (·.n)) = false := by
  rw [h.step hx, hm, Bool.not_true, Bool.and_false]; rfl
theorem CRR.good {w wr : World} {l : List Cl} {k : Nat} (h : CRR w wr l k) (hk : l.length ≤ k) : clsB [] (l.map (·.n)) = true := by
  rw [h.rest, List.drop_of_length_le hk]; rfl
set_option maxHeartbeats 4000000 in
theorem rcheckClasses_any (v : Value) (l : List Cl) (w : World) (h : RowsAt w v 5 (l.map Cl.row)) :
    Calls Tryd.prog 79 #[v] w (Errs (clsOk l) w) := by
  by_cases h24 : 24 < l.length
  · have E := Lib.hid (clsOk_big h24)
    obtain ⟨a, cap, rfl, -⟩ := h
    rw [List.length_map]
    go_enter Tryd.func79, Tryd.ntmps79
    go_wp2
    go_ret
    exact ⟨3, rfl, by rw [E.out]; rfl, Below.refl _ _⟩
  · have h25 : l.length ≤ 24 := by omega
    have E := Lib.hid (clsOk_le h25)
    clear h24
    by_cases h0 : l = []
    · subst h0
      obtain ⟨a, cap, rfl⟩ := h.nil
      go_enter Tryd.func79, Tryd.ntmps79
      go_wp2
      refine wp_loop_rounds 1 ?_
      rw [rounds_succ]
      go_wp2
      go_ret
      exact ⟨0, rfl, by rw [E.out]; rfl, Below.refl _ _⟩
    · obtain ⟨g, o, cap, rfl, hc1, hc2, hg, hcell⟩ := h.cons (by simpa using h0)
      rw [List.length_map] at hc1 ⊢
      have HC := Lib.hid hcell; clear hcell
      have C1 := Lib.hid hc1; clear hc1
      have C2 := Lib.hid hc2; clear hc2
      clear h h0
      go_enter Tryd.func79, Tryd.ntmps79
      go_wp2
      go_loopw [3] (fun i wr => ∃ k : Nat, k ≤ l.length ∧ i = .int .i64 k ∧ Hid (CRR w wr l k)) (fun i _ => l.length - (intOf i).toNat)
      case atStart => exact ⟨0, Nat.zero_le _, rfl, Lib.hid (CRR.start w l)⟩
      case round =>
        obtain ⟨k, hk, rfl, RK⟩ := hrel
        by_cases hlt : k < l.length
        · obtain ⟨x, hx⟩ : ∃ x, l[k]? = some x := ⟨l[k], List.getElem?_eq_getElem hlt⟩
          have hB := RK.out.bel
          have c0 := (hB.cell (p := ⟨g, o + k * 5, none⟩) hg).trans (HC.out k _ (by rw [List.getElem?_map, hx]; rfl) 0 _ rfl)
          have HX := Lib.hid hx; clear hx hB
          obtain ⟨nb, hnb⟩ : ∃ b, nameB x.n.data.toList = b := ⟨_, rfl⟩
          have NB := Lib.hid hnb; clear hnb
          cases nb with
          | false =>
            go_wp2_with (go_at_call 77; refine (rname_is x.n false _ NB).mono ?_; rintro e w' ⟨rfl, rfl⟩)
            go_ret
            exact ⟨4, rfl, by rw [E.out, RK.out.bad HX.out NB.out]; rfl, RK.out.bel⟩
          | true =>
            go_wp2_with (go_at_call 77; refine (rname_is x.n true _ NB).mono ?_; rintro e w' ⟨rfl, rfl⟩)
            go_loopw [4] (fun i wx => ∃ j : Nat, j ≤ k ∧ i = .int .i64 j ∧ Hid (NoneOf (l.map (·.n.data.toList)) j x.n.data.toList) ∧ Hid (Below w.heap.size w wx)) (fun i _ => k - (intOf i).toNat)
            case atStart => exact ⟨0, Nat.zero_le _, rfl, Lib.hid (NoneOf.zero _ _), Lib.hid RK.out.bel⟩
            case round =>
              clear c0 
              obtain ⟨j, hj, rfl, NO, BX⟩ := hrel
              by_cases hjk : j < k
              · obtain ⟨y, hy⟩ : ∃ y, l[j]? = some y := ⟨l[j]'(by omega), List.getElem?_eq_getElem (by omega)⟩
                have hB := BX.out
                have c0 := (hB.cell (p := ⟨g, o + k * 5, none⟩) hg).trans (HC.out k _ (by rw [List.getElem?_map, HX.out]; rfl) 0 _ rfl)
                have d0 := (hB.cell (p := ⟨g, o + j * 5, none⟩) hg).trans (HC.out j _ (by rw [List.getElem?_map, hy]; rfl) 0 _ rfl)
                have hy' : (l.map (·.n.data.toList))[j]? = some y.n.data.toList := by rw [List.getElem?_map, hy]; rfl
                have HY := Lib.hid hy'
                clear hB hy hy'
                have i1 : (0 : Int) ≤ (k : Int) := by omega
                have i2 : (k : Int) < (l.length : Int) := by omega
                have i3 : (0 : Int) ≤ (j : Int) := by omega
                have i4 : (j : Int) < (l.length : Int) := by omega
                obtain ⟨b, hb⟩ : ∃ b, decide (y.n.data.toList = x.n.data.toList) = b := ⟨_, rfl⟩
                have te : (y.n.toList == x.n.toList) = b := by rw [str_beq, hb]
                have HB := Lib.hid hb; clear hb
                cases b with
                | true =>
                  have TW := Lib.hid (none_hit HY.out hjk HB.out)
                  go_wp2_with fail
                  go_quiet (fail)
                  go_wp2
                  go_ret
                  exact ⟨6, rfl, by rw [E.out, RK.out.twice HX.out TW.out]; rfl, below_drewN BX.out _⟩
                | false =>
                  have NX := Lib.hid (NO.out.next HY.out HB.out)
                  go_wp2_with fail
                  go_quiet (fail)
                  go_wp2
                  go_roundw
                  case rel => exact ⟨j + 1, by omega, by go_num, NX, Lib.hid (below_drewN BX.out _)⟩
                  case measure => simp [intOf]; omega
              · have ek : j = k := by omega
                have NM := Lib.hid (none_all (by rw [← ek]; exact NO.out : NoneOf (l.map (·.n.data.toList)) k x.n.data.toList))
                have RN := Lib.hid (RK.out.next HX.out NB.out NM.out BX.out)
                clear ek NO
                go_wp2
                go_roundw
                case rel => exact ⟨k + 1, by omega, by go_num, RN⟩
                case measure => simp [intOf]; omega
        · have EG := Lib.hid (RK.out.good (by omega))
          go_wp2
          go_ret
          exact ⟨0, rfl, by rw [E.out, EG.out]; rfl, RK.out.bel⟩
/-- where the loop stands -/
structure ERR (w wr : World) (l : List El) (k : Nat) : Prop where
  rest : elsB [] (l.map El.pr) = elsB ((l.map (·.n.data.toList)).take k) ((l.drop k).map El.pr)
  bel : Below w.heap.size w wr
theorem ERR.start (w : World) (l : List El) : ERR w w l 0 := ⟨rfl, Below.refl _ _⟩
theorem ERR.step {w wr : World} {l : List El} {k : Nat} {x : El} (h : ERR w wr l k) (hx : l[k]? = some x) :
    elsB [] (l.map El.pr) = (elB (x.n, x.w) && !decide (x.n.data.toList ∈ (l.map (·.n.data.toList)).take k) && elsB ((l.map (·.n.data.toList)).take (k + 1)) ((l.drop (k + 1)).map El.pr)) := by
  rw [h.rest]
  have hd : l.drop k = x :: l.drop (k + 1) := by
    obtain ⟨hlt, e⟩ := List.getElem?_eq_some_iff.1 hx
    rw [List.drop_eq_getElem_cons hlt, e]
  have ht : (l.map (·.n.data.toList)).take (k + 1) = (l.map (·.n.data.toList)).take k ++ [x.n.data.toList] := by
    rw [List.take_add_one, List.getElem?_map, hx]; rfl
  rw [hd, ht, List.map_cons]
  rfl
theorem ERR.next {w wr w1 : World} {l : List El} {k : Nat} {x : El} (h : ERR w wr l k) (hx : l[k]? = some x) (hn : elB (x.n, x.w) = true) (hm : decide (x.n.data.toList ∈ (l.map (·.n.data.toList)).take k) = false)
    (hb : Below w.heap.size w w1) : ERR w w1 l (k + 1) := ⟨by rw [h.step hx, hn, hm]; rfl, hb⟩
theorem ERR.bad {w wr : World} {l : List El} {k : Nat} {x : El} (h : ERR w wr l k) (hx : l[k]? = some x) (hn : elB (x.n, x.w) = false) : elsB [] (l.map El.pr) = false := by
  rw [h.step hx, hn]; rfl
theorem ERR.twice {w wr : World} {l : List El} {k : Nat} {x : El} (h : ERR w wr l k) (hx : l[k]? = some x) (hm : decide (x.n.data.toList ∈ (l.map (·.n.data.toList)).take k) = true) : elsB [] (l.map El.pr) = false := by
  rw [h.step hx, hm, Bool.not_true, Bool.and_false]; rfl
theorem ERR.good {w wr : World} {l : List El} {k : Nat} (h : ERR w wr l k) (hk : l.length ≤ k) : elsB [] (l.map El.pr) = true := by
  rw [h.rest, List.drop_of_length_le hk]; rfl
set_option maxHeartbeats 4000000 in
theorem rcheckElements_any (v : Value) (l : List El) (w : World) (h : RowsAt w v 2 (l.map El.row)) :
    Calls Tryd.prog 80 #[v] w (Errs (elsOk l) w) := by
  by_cases h64 : 64 < l.length
  · have E := Lib.hid (elsOk_big h64)
    obtain ⟨a, cap, rfl, -⟩ := h
    rw [List.length_map]
    go_enter Tryd.func80, Tryd.ntmps80
    go_wp2
    go_ret
    exact ⟨3, rfl, by rw [E.out]; rfl, Below.refl _ _⟩
  · have h65 : l.length ≤ 64 := by omega
    have E := Lib.hid (elsOk_le h65)
    clear h64
    by_cases h0 : l = []
    · subst h0
      obtain ⟨a, cap, rfl⟩ := h.nil
      go_enter Tryd.func80, Tryd.ntmps80
      go_wp2
      refine wp_loop_rounds 1 ?_
      rw [rounds_succ]
      go_wp2
      go_ret
      exact ⟨0, rfl, by rw [E.out]; rfl, Below.refl _ _⟩
    · obtain ⟨g, o, cap, rfl, hc1, hc2, hg, hcell⟩ := h.cons (by simpa using h0)
      rw [List.length_map] at hc1 ⊢
      have HC := Lib.hid hcell; clear hcell
      have C1 := Lib.hid hc1; clear hc1
      have C2 := Lib.hid hc2; clear hc2
      clear h h0
      go_enter Tryd.func80, Tryd.ntmps80
      go_wp2
      go_loopw [3] (fun i wr => ∃ k : Nat, k ≤ l.length ∧ i = .int .i64 k ∧ Hid (ERR w wr l k)) (fun i _ => l.length - (intOf i).toNat)
      case atStart => exact ⟨0, Nat.zero_le _, rfl, Lib.hid (ERR.start w l)⟩
      case round =>
        obtain ⟨k, hk, rfl, RK⟩ := hrel
        by_cases hlt : k < l.length
        · obtain ⟨x, hx⟩ : ∃ x, l[k]? = some x := ⟨l[k], List.getElem?_eq_getElem hlt⟩
          have hB := RK.out.bel
          have c0 := (hB.cell (p := ⟨g, o + k * 2, none⟩) hg).trans (HC.out k _ (by rw [List.getElem?_map, hx]; rfl) 0 _ rfl)
          have c1 := (hB.cell (p := ⟨g, o + k * 2 + 1, none⟩) hg).trans (HC.out k _ (by rw [List.getElem?_map, hx]; rfl) 1 _ rfl)
          have HX := Lib.hid hx; clear hx hB
          by_cases h2 : x.n.size = 2
          · have t2 : ((x.n.size : Int) != 2) = false := by rw [bne_eq_false_iff_eq]; omega
            obtain ⟨lb, hlb⟩ : ∃ b, (decide (0 ≤ x.w) && decide (x.w ≤ 65535)) = b := ⟨_, rfl⟩
            have LB := Lib.hid hlb; clear hlb
            cases lb with
            | false =>
              have NB : Hid (elB (x.n, x.w) = false) := Lib.hid (by unfold elB; rw [LB.out, Bool.and_false])
              clear h2
              go_wp2_with (go_at_call 78; refine (light_is x.w false _ LB).mono ?_; rintro e w' ⟨rfl, rfl⟩)
              go_ret
              exact ⟨2, rfl, by rw [E.out, RK.out.bad HX.out NB.out]; rfl, RK.out.bel⟩
            | true =>
              have NB : Hid (elB (x.n, x.w) = true) := Lib.hid (by unfold elB; rw [LB.out, Bool.and_true]; exact decide_eq_true h2)
              clear h2
              go_wp2_with (go_at_call 78; refine (light_is x.w true _ LB).mono ?_; rintro e w' ⟨rfl, rfl⟩)
              go_loopw [4] (fun i wx => ∃ j : Nat, j ≤ k ∧ i = .int .i64 j ∧ Hid (NoneOf (l.map (·.n.data.toList)) j x.n.data.toList) ∧ Hid (Below w.heap.size w wx)) (fun i _ => k - (intOf i).toNat)
              case atStart => exact ⟨0, Nat.zero_le _, rfl, Lib.hid (NoneOf.zero _ _), Lib.hid RK.out.bel⟩
              case round =>
                clear c0 c1
                obtain ⟨j, hj, rfl, NO, BX⟩ := hrel
                by_cases hjk : j < k
                · obtain ⟨y, hy⟩ : ∃ y, l[j]? = some y := ⟨l[j]'(by omega), List.getElem?_eq_getElem (by omega)⟩
                  have hB := BX.out
                  have c0 := (hB.cell (p := ⟨g, o + k * 2, none⟩) hg).trans (HC.out k _ (by rw [List.getElem?_map, HX.out]; rfl) 0 _ rfl)
                  have d0 := (hB.cell (p := ⟨g, o + j * 2, none⟩) hg).trans (HC.out j _ (by rw [List.getElem?_map, hy]; rfl) 0 _ rfl)
                  have hy' : (l.map (·.n.data.toList))[j]? = some y.n.data.toList := by rw [List.getElem?_map, hy]; rfl
                  have HY := Lib.hid hy'
                  clear hB hy hy'
                  have i1 : (0 : Int) ≤ (k : Int) := by omega
                  have i2 : (k : Int) < (l.length : Int) := by omega
                  have i3 : (0 : Int) ≤ (j : Int) := by omega
                  have i4 : (j : Int) < (l.length : Int) := by omega
                  obtain ⟨b, hb⟩ : ∃ b, decide (y.n.data.toList = x.n.data.toList) = b := ⟨_, rfl⟩
                  have te : (y.n.toList == x.n.toList) = b := by rw [str_beq, hb]
                  have HB := Lib.hid hb; clear hb
                  cases b with
                  | true =>
                    have TW := Lib.hid (none_hit HY.out hjk HB.out)
                    go_wp2_with fail
                    go_quiet (fail)
                    go_wp2
                    go_ret
                    exact ⟨6, rfl, by rw [E.out, RK.out.twice HX.out TW.out]; rfl, below_drewN BX.out _⟩
                  | false =>
                    have NX := Lib.hid (NO.out.next HY.out HB.out)
                    go_wp2_with fail
                    go_quiet (fail)
                    go_wp2
                    go_roundw
                    case rel => exact ⟨j + 1, by omega, by go_num, NX, Lib.hid (below_drewN BX.out _)⟩
                    case measure => simp [intOf]; omega
                · have ek : j = k := by omega
                  have NM := Lib.hid (none_all (by rw [← ek]; exact NO.out : NoneOf (l.map (·.n.data.toList)) k x.n.data.toList))
                  have RN := Lib.hid (RK.out.next HX.out NB.out NM.out BX.out)
                  clear ek NO
                  go_wp2
                  go_roundw
                  case rel => exact ⟨k + 1, by omega, by go_num, RN⟩
                  case measure => simp [intOf]; omega
          · have NB := Lib.hid (el_size x h2)
            have t2 : ((x.n.size : Int) != 2) = true := by rw [bne_iff_ne]; omega
            clear h2
            go_wp2
            go_ret
            exact ⟨2, rfl, by rw [E.out, RK.out.bad HX.out NB.out]; rfl, RK.out.bel⟩
        · have EG := Lib.hid (RK.out.good (by omega))
          go_wp2
          go_ret
          exact ⟨0, rfl, by rw [E.out, EG.out]; rfl, RK.out.bel⟩
end Go.Proofs.YtbhdhcnbagjmcaaDoor
