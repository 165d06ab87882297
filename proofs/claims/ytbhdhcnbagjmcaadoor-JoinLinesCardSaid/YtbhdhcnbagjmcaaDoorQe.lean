/- walks: the collating elements of a locale -/
import Derived.Test.YtbhdhcnbagjmcaaDoorQd
namespace Go.Proofs.YtbhdhcnbagjmcaaDoor
open Go.RowKit Go.Maps
open Lcl
/-- a collating element: its text, and its weight -/
structure El where
  n : ByteArray
  w : Int
abbrev El.row (x : El) : List Value := [.string x.n, .int .i64 x.w]
abbrev El.pr (x : El) : ByteArray × Int := (x.n, x.w)
def elsOk (l : List El) : Bool := decide (l.length ≤ 64) && elsB [] (l.map El.pr)
theorem elsOk_big {l : List El} (h : 64 < l.length) : elsOk l = false := by unfold elsOk; rw [decide_eq_false (by omega), Bool.false_and]
theorem elsOk_le {l : List El} (h : l.length ≤ 64) : elsOk l = elsB [] (l.map El.pr) := by unfold elsOk; rw [decide_eq_true h, Bool.true_and]
/-- where the loop stands -/
structure ER (w wr : World) (l : List El) (k : Nat) : Prop where
  rest : elsB [] (l.map El.pr) = elsB ((l.take k).map (·.n.data.toList)) ((l.drop k).map El.pr)
  seen : Seen wr w.heap.size k ((l.take k).map (·.n.data.toList))
  bel : Below w.heap.size w wr
theorem ER.start (w : World) (l : List El) : ER w (w.alloc (.map #[] 0)) l 0 := ⟨rfl, Seen.made w, (Below.refl _ _).alloc (Nat.le_refl _) _⟩
theorem ER.step {w wr : World} {l : List El} {k : Nat} {x : El} (h : ER w wr l k) (hx : l[k]? = some x) :
    elsB [] (l.map El.pr) = (elB (x.n, x.w) && !decide (x.n.data.toList ∈ (l.take k).map (·.n.data.toList)) && elsB ((l.take (k + 1)).map (·.n.data.toList)) ((l.drop (k + 1)).map El.pr)) := by
  rw [h.rest]
  have hd : l.drop k = x :: l.drop (k + 1) := by
    obtain ⟨hlt, e⟩ := List.getElem?_eq_some_iff.1 hx
    rw [List.drop_eq_getElem_cons hlt, e]
  have ht : l.take (k + 1) = l.take k ++ [x] := by
    rw [List.take_add_one, hx]; rfl
  rw [hd, ht, List.map_cons, List.map_append]
  rfl
theorem ER.next {w wr w1 : World} {l : List El} {k : Nat} {x : El} {o : Obj} (h : ER w wr l k) (hx : l[k]? = some x) (hn : elB (x.n, x.w) = true) (hm : decide (x.n.data.toList ∈ (l.take k).map (·.n.data.toList)) = false)
    (hs : Seen w1 w.heap.size (k + 1) ((l.take k).map (·.n.data.toList) ++ [x.n.data.toList])) (hg : (wr.alloc o).grownBy w1 (some w.heap.size)) : ER w w1 l (k + 1) := by
  refine ⟨?_, ?_, ?_⟩
  · rw [h.step hx, hn, hm]; rfl
  · have ht : l.take (k + 1) = l.take k ++ [x] := by rw [List.take_add_one, hx]; rfl
    rw [ht, List.map_append]; exact hs
  · exact (h.bel.alloc h.bel.size o).grown hg (by have := h.bel.size; simp; omega) (fun j hj => by cases hj; exact Nat.le_refl _)
theorem ER.bad {w wr : World} {l : List El} {k : Nat} {x : El} (h : ER w wr l k) (hx : l[k]? = some x) (hn : elB (x.n, x.w) = false) : elsB [] (l.map El.pr) = false := by
  rw [h.step hx, hn]; rfl
theorem ER.twice {w wr : World} {l : List El} {k : Nat} {x : El} (h : ER w wr l k) (hx : l[k]? = some x) (hm : decide (x.n.data.toList ∈ (l.take k).map (·.n.data.toList)) = true) : elsB [] (l.map El.pr) = false := by
  rw [h.step hx, hm, Bool.not_true, Bool.and_false]; rfl
theorem ER.good {w wr : World} {l : List El} {k : Nat} (h : ER w wr l k) (hk : l.length ≤ k) : elsB [] (l.map El.pr) = true := by
  rw [h.rest, List.drop_of_length_le hk]; rfl
theorem el_neg (x : El) (h : x.w < 0) : elB (x.n, x.w) = false := by
  unfold elB; rw [decide_eq_false (by omega : ¬ 0 ≤ x.w), Bool.false_and, Bool.and_false]
theorem el_big (x : El) (h : 65535 < x.w) : elB (x.n, x.w) = false := by
  unfold elB; rw [decide_eq_false (by omega : ¬ x.w ≤ 65535), Bool.and_false, Bool.and_false]
theorem el_size (x : El) (h : ¬ x.n.size = 2) : elB (x.n, x.w) = false := by
  unfold elB; rw [decide_eq_false h, Bool.false_and]
theorem el_ok (x : El) (h : x.n.size = 2) (h0 : ¬ x.w < 0) (h1 : ¬ 65535 < x.w) : elB (x.n, x.w) = true := by
  unfold elB; rw [decide_eq_true h, decide_eq_true (by omega : 0 ≤ x.w), decide_eq_true (by omega : x.w ≤ 65535)]; rfl
set_option maxHeartbeats 4000000 in
theorem checkElements_any (v : Value) (l : List El) (w : World) (h : RowsAt w v 2 (l.map El.row)) (hz : ∀ x ∈ l, x.n.size ≤ 9223372036854775807) :
    Calls Tryd.prog 74 #[v] w (Errs (elsOk l) w) := by
  have hmm := @run_makeMap Tryd.prog
  by_cases h64 : 64 < l.length
  · have E := Lib.hid (elsOk_big h64)
    obtain ⟨a, cap, rfl, -⟩ := h
    rw [List.length_map]
    go_enter Tryd.func74, Tryd.ntmps74
    go_wp2
    go_ret
    exact ⟨3, rfl, by rw [E.out]; rfl, Below.refl _ _⟩
  · have h65 : l.length ≤ 64 := by omega
    have E := Lib.hid (elsOk_le h65)
    clear h64
    by_cases h0 : l = []
    · subst h0
      obtain ⟨a, cap, rfl⟩ := h.nil
      go_enter Tryd.func74, Tryd.ntmps74
      go_wp2
      refine wp_loop_rounds 1 ?_
      rw [rounds_succ]
      go_wp2
      go_ret
      exact ⟨0, rfl, by rw [E.out]; rfl, (Below.refl _ _).alloc (Nat.le_refl _) _⟩
    · obtain ⟨g, o, cap, rfl, hc1, hc2, hg, hcell⟩ := h.cons (by simpa using h0)
      rw [List.length_map] at hc1 ⊢
      have HZ := Lib.hid hz; clear hz
      have HC := Lib.hid hcell; clear hcell
      have C1 := Lib.hid hc1; clear hc1
      have C2 := Lib.hid hc2; clear hc2
      clear h h0
      go_enter Tryd.func74, Tryd.ntmps74
      go_wp2
      go_loopw [12] (fun i wr => ∃ k : Nat, k ≤ l.length ∧ i = .int .i64 k ∧ Hid (ER w wr l k)) (fun i _ => l.length - (intOf i).toNat)
      case atStart => exact ⟨0, Nat.zero_le _, rfl, Lib.hid (ER.start w l)⟩
      case round =>
        obtain ⟨k, hk, rfl, RK⟩ := hrel
        by_cases hlt : k < l.length
        · obtain ⟨x, hx⟩ : ∃ x, l[k]? = some x := ⟨l[k], List.getElem?_eq_getElem hlt⟩
          have hB := RK.out.bel
          have c0 := (hB.cell (p := ⟨g, o + k * 2, none⟩) hg).trans (HC.out k _ (by rw [List.getElem?_map, hx]; rfl) 0 _ rfl)
          have c1 := (hB.cell (p := ⟨g, o + k * 2 + 1, none⟩) hg).trans (HC.out k _ (by rw [List.getElem?_map, hx]; rfl) 1 _ rfl)
          have HX := Lib.hid hx; clear hx hB
          have HM : Hid (x.n.size ≤ 9223372036854775807) := Lib.hid (HZ.out x (List.mem_of_getElem? HX.out))
          obtain ⟨mb, hmb⟩ : ∃ b, decide (x.n.data.toList ∈ (l.take k).map (·.n.data.toList)) = b := ⟨_, rfl⟩
          have MB := Lib.hid hmb; clear hmb
          have SK := Lib.hid (RK.out.seen.alloc (.cells #[.string x.n, .int .i64 x.w] 88))
          by_cases h2 : x.n.size = 2
          · have t2 : ((x.n.size : Int) != 2) = false := by rw [bne_eq_false_iff_eq]; omega
            by_cases w0 : x.w < 0
            · have NB := Lib.hid (el_neg x w0)
              have t3 : decide (x.w < 0) = true := decide_eq_true w0
              clear h2 w0
              go_wp2
              go_ret
              exact ⟨2, rfl, by rw [E.out, RK.out.bad HX.out NB.out]; rfl, RK.out.bel.alloc RK.out.bel.size _⟩
            · have t3 : decide (x.w < 0) = false := decide_eq_false w0
              by_cases w1 : 65535 < x.w
              · have NB := Lib.hid (el_big x w1)
                have t4 : decide (65535 < x.w) = true := decide_eq_true w1
                clear h2 w0 w1
                go_wp2
                go_ret
                exact ⟨2, rfl, by rw [E.out, RK.out.bad HX.out NB.out]; rfl, RK.out.bel.alloc RK.out.bel.size _⟩
              · have NB := Lib.hid (el_ok x h2 w0 w1)
                have t4 : decide (65535 < x.w) = false := decide_eq_false w1
                clear h2 w0 w1
                cases mb with
                | true =>
                  go_wp2_with (first
                    | (at_lookup; refine wp_lookup_seen _ rfl _ _ rfl w.heap.size k _ rfl SK.out x.n HM.out rfl true MB ?_))
                  go_ret
                  exact ⟨6, rfl, by rw [E.out, RK.out.twice HX.out MB.out]; rfl, RK.out.bel.alloc RK.out.bel.size _⟩
                | false =>
                  go_wp2_with (first
                    | (at_lookup; refine wp_lookup_seen _ rfl _ _ rfl w.heap.size k _ rfl SK.out x.n HM.out rfl false MB ?_)
                    | (at_mapUpdate; refine wp_update_seen _ rfl _ _ _ rfl w.heap.size k _ rfl SK.out x.n HM.out rfl rfl (by unfold maxLen; omega) ?_; intro w1 S1 G1))
                  have RN := Lib.hid (RK.out.next HX.out NB.out MB.out S1.out G1.out)
                  clear S1 G1 SK RK
                  go_roundw
                  case rel => exact ⟨k + 1, by omega, by go_num, RN⟩
                  case measure => simp [intOf]; omega
          · have NB := Lib.hid (el_size x h2)
            have t2 : ((x.n.size : Int) != 2) = true := by rw [bne_iff_ne]; omega
            clear h2
            go_wp2
            go_ret
            exact ⟨2, rfl, by rw [E.out, RK.out.bad HX.out NB.out]; rfl, RK.out.bel.alloc RK.out.bel.size _⟩
        · have EG := Lib.hid (RK.out.good (by omega))
          go_wp2
          go_ret
          exact ⟨0, rfl, by rw [E.out, EG.out]; rfl, RK.out.bel⟩
end Go.Proofs.YtbhdhcnbagjmcaaDoor
