/- walks: the classes of a locale -/
import Derived.Test.YtbhdhcnbagjmcaaDoorQc
namespace Go.Proofs.YtbhdhcnbagjmcaaDoor
open Go.RowKit Go.Maps
open Lcl
/-- a class: its name, and its bits -/
structure Cl where
  n : ByteArray
  a : Int
  b : Int
  c : Int
  d : Int
abbrev Cl.row (x : Cl) : List Value := [.string x.n, .int .u64 x.a, .int .u64 x.b, .int .u64 x.c, .int .u64 x.d]
def clsOk (l : List Cl) : Bool := decide (l.length ≤ 24) && clsB [] (l.map (·.n))
theorem clsOk_big {l : List Cl} (h : 24 < l.length) : clsOk l = false := by unfold clsOk; rw [decide_eq_false (by omega), Bool.false_and]
theorem clsOk_le {l : List Cl} (h : l.length ≤ 24) : clsOk l = clsB [] (l.map (·.n)) := by unfold clsOk; rw [decide_eq_true h, Bool.true_and]
/-- where the loop stands -/
structure CR (w wr : World) (l : List Cl) (k : Nat) : Prop where
  rest : clsB [] (l.map (·.n)) = clsB ((l.take k).map (·.n.data.toList)) ((l.drop k).map (·.n))
  seen : Seen wr w.heap.size k ((l.take k).map (·.n.data.toList))
  bel : Below w.heap.size w wr
theorem CR.start (w : World) (l : List Cl) : CR w (w.alloc (.map #[] 0)) l 0 := ⟨rfl, Seen.made w, (Below.refl _ _).alloc (Nat.le_refl _) _⟩
theorem CR.step {w wr : World} {l : List Cl} {k : Nat} {x : Cl} (h : CR w wr l k) (hx : l[k]? = some x) :
    clsB [] (l.map (·.n)) = (nameB x.n.data.toList && !decide (x.n.data.toList ∈ (l.take k).map (·.n.data.toList)) && clsB ((l.take (k + 1)).map (·.n.data.toList)) ((l.drop (k + 1)).map (·.n))) := by
  rw [h.rest]
  have hd : l.drop k = x :: l.drop (k + 1) := by
    obtain ⟨hlt, e⟩ := List.getElem?_eq_some_iff.1 hx
    rw [List.drop_eq_getElem_cons hlt, e]
  have ht : l.take (k + 1) = l.take k ++ [x] := by
    rw [List.take_add_one, hx]; rfl
  rw [hd, ht, List.map_cons, List.map_append]
  rfl
theorem CR.next {w wr w1 : World} {l : List Cl} {k : Nat} {x : Cl} {o : Obj} (h : CR w wr l k) (hx : l[k]? = some x) (hn : nameB x.n.data.toList = true) (hm : decide (x.n.data.toList ∈ (l.take k).map (·.n.data.toList)) = false)
    (hs : Seen w1 w.heap.size (k + 1) ((l.take k).map (·.n.data.toList) ++ [x.n.data.toList])) (hg : (wr.alloc o).grownBy w1 (some w.heap.size)) : CR w w1 l (k + 1) := by
  refine ⟨?_, ?_, ?_⟩
  · rw [h.step hx, hn, hm]; rfl
  · have ht : l.take (k + 1) = l.take k ++ [x] := by rw [List.take_add_one, hx]; rfl
    rw [ht, List.map_append]; exact hs
  · exact (h.bel.alloc h.bel.size o).grown hg (by have := h.bel.size; simp; omega) (fun j hj => by cases hj; exact Nat.le_refl _)
theorem CR.bad {w wr : World} {l : List Cl} {k : Nat} {x : Cl} (h : CR w wr l k) (hx : l[k]? = some x) (hn : nameB x.n.data.toList = false) : clsB [] (l.map (·.n)) = false := by
  rw [h.step hx, hn]; rfl
theorem CR.twice {w wr : World} {l : List Cl} {k : Nat} {x : Cl} (h : CR w wr l k) (hx : l[k]? = some x) (hm : decide (x.n.data.toList ∈ (l.take k).map (·.n.data.toList)) = true) : clsB [] (l.map (·.n)) = false := by
  rw [h.step hx, hm, Bool.not_true, Bool.and_false]; rfl
theorem CR.good {w wr : World} {l : List Cl} {k : Nat} (h : CR w wr l k) (hk : l.length ≤ k) : clsB [] (l.map (·.n)) = true := by
  rw [h.rest, List.drop_of_length_le hk]; rfl
theorem name_is (s : ByteArray) (b : Bool) (w : World) (hs : s.size ≤ 9223372036854775807) (hb : Hid (nameB s.data.toList = b)) :
    Calls Tryd.prog 72 #[.string s] w fun e w' => e = .returned (.bool b) ∧ w = w' := by rw [← hb.out]; exact name_any s w hs
set_option maxHeartbeats 4000000 in
theorem checkClasses_any (v : Value) (l : List Cl) (w : World) (h : RowsAt w v 5 (l.map Cl.row)) (hz : ∀ x ∈ l, x.n.size ≤ 9223372036854775807) :
    Calls Tryd.prog 73 #[v] w (Errs (clsOk l) w) := by
  have hmm := @run_makeMap Tryd.prog
  by_cases h24 : 24 < l.length
  · have E := Lib.hid (clsOk_big h24)
    obtain ⟨a, cap, rfl, -⟩ := h
    rw [List.length_map]
    go_enter Tryd.func73, Tryd.ntmps73
    go_wp2
    go_ret
    exact ⟨3, rfl, by rw [E.out]; rfl, Below.refl _ _⟩
  · have h25 : l.length ≤ 24 := by omega
    have E := Lib.hid (clsOk_le h25)
    clear h24
    by_cases h0 : l = []
    · subst h0
      obtain ⟨a, cap, rfl⟩ := h.nil
      go_enter Tryd.func73, Tryd.ntmps73
      go_wp2
      refine wp_loop_rounds 1 ?_
      rw [rounds_succ]
      go_wp2
      go_ret
      exact ⟨0, rfl, by rw [E.out]; rfl, (Below.refl _ _).alloc (Nat.le_refl _) _⟩
    · obtain ⟨g, o, cap, rfl, hc1, hc2, hg, hcell⟩ := h.cons (by simpa using h0)
      rw [List.length_map] at hc1 ⊢
      have HZ := Lib.hid hz; clear hz
      have HC := Lib.hid hcell; clear hcell
      have C1 := Lib.hid hc1; clear hc1
      have C2 := Lib.hid hc2; clear hc2
      clear h h0
      go_enter Tryd.func73, Tryd.ntmps73
      go_wp2
      go_loopw [12] (fun i wr => ∃ k : Nat, k ≤ l.length ∧ i = .int .i64 k ∧ Hid (CR w wr l k)) (fun i _ => l.length - (intOf i).toNat)
      case atStart => exact ⟨0, Nat.zero_le _, rfl, Lib.hid (CR.start w l)⟩
      case round =>
        obtain ⟨k, hk, rfl, RK⟩ := hrel
        by_cases hlt : k < l.length
        · obtain ⟨x, hx⟩ : ∃ x, l[k]? = some x := ⟨l[k], List.getElem?_eq_getElem hlt⟩
          have hB := RK.out.bel
          have c0 := (hB.cell (p := ⟨g, o + k * 5, none⟩) hg).trans (HC.out k _ (by rw [List.getElem?_map, hx]; rfl) 0 _ rfl)
          have c1 := (hB.cell (p := ⟨g, o + k * 5 + 1, none⟩) hg).trans (HC.out k _ (by rw [List.getElem?_map, hx]; rfl) 1 _ rfl)
          have c2 := (hB.cell (p := ⟨g, o + k * 5 + 2, none⟩) hg).trans (HC.out k _ (by rw [List.getElem?_map, hx]; rfl) 2 _ rfl)
          have c3 := (hB.cell (p := ⟨g, o + k * 5 + 3, none⟩) hg).trans (HC.out k _ (by rw [List.getElem?_map, hx]; rfl) 3 _ rfl)
          have c4 := (hB.cell (p := ⟨g, o + k * 5 + 4, none⟩) hg).trans (HC.out k _ (by rw [List.getElem?_map, hx]; rfl) 4 _ rfl)
          have HX := Lib.hid hx; clear hx hB
          have HM : Hid (x.n.size ≤ 9223372036854775807) := Lib.hid (HZ.out x (List.mem_of_getElem? HX.out))
          obtain ⟨nb, hnb⟩ : ∃ b, nameB x.n.data.toList = b := ⟨_, rfl⟩
          have NB := Lib.hid hnb; clear hnb
          obtain ⟨mb, hmb⟩ : ∃ b, decide (x.n.data.toList ∈ (l.take k).map (·.n.data.toList)) = b := ⟨_, rfl⟩
          have MB := Lib.hid hmb; clear hmb
          have SK := Lib.hid (RK.out.seen.alloc (.cells #[.string x.n, .int .u64 x.a, .int .u64 x.b, .int .u64 x.c, .int .u64 x.d] 117))
          cases nb with
          | false =>
            go_wp2_with (go_at_call 72; refine (name_is x.n false _ HM.out NB).mono ?_; rintro e w' ⟨rfl, rfl⟩)
            go_ret
            exact ⟨4, rfl, by rw [E.out, RK.out.bad HX.out NB.out]; rfl, RK.out.bel.alloc RK.out.bel.size _⟩
          | true =>
            cases mb with
            | true =>
              go_wp2_with (first
                | (go_at_call 72; refine (name_is x.n true _ HM.out NB).mono ?_; rintro e w' ⟨rfl, rfl⟩)
                | (at_lookup; refine wp_lookup_seen _ rfl _ _ rfl w.heap.size k _ rfl SK.out x.n HM.out rfl true MB ?_))
              go_ret
              exact ⟨6, rfl, by rw [E.out, RK.out.twice HX.out MB.out]; rfl, RK.out.bel.alloc RK.out.bel.size _⟩
            | false =>
              go_wp2_with (first
                | (go_at_call 72; refine (name_is x.n true _ HM.out NB).mono ?_; rintro e w' ⟨rfl, rfl⟩)
                | (at_lookup; refine wp_lookup_seen _ rfl _ _ rfl w.heap.size k _ rfl SK.out x.n HM.out rfl false MB ?_)
                | (at_mapUpdate; refine wp_update_seen _ rfl _ _ _ rfl w.heap.size k _ rfl SK.out x.n HM.out rfl rfl (by unfold maxLen; omega) ?_; intro w1 S1 G1))
              have RN := Lib.hid (RK.out.next HX.out NB.out MB.out S1.out G1.out)
              clear S1 G1 SK RK
              go_roundw
              case rel => exact ⟨k + 1, by omega, by go_num, RN⟩
              case measure => simp [intOf]; omega
        · have EG := Lib.hid (RK.out.good (by omega))
          go_wp2
          go_ret
          exact ⟨0, rfl, by rw [E.out, EG.out]; rfl, RK.out.bel⟩
end Go.Proofs.YtbhdhcnbagjmcaaDoor
