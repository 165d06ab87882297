/- walks: Lines, and the comparison of two lists of strings -/
import Derived.Test.YtnbellffbbaamaaDoorTd
import Derived.Test.YtnbellffbbaamaaDoorStrs
import Derived.Test.YtnbellffbbaamaaDoorLplain
import Derived.Deep.QuietTactic
import Derived.BigQuiet
namespace Go.Proofs.YtnbellffbbaamaaDoor
open Go.RowKit
open Tx
theorem str_ext {a b : ByteArray} (h : a.data.toList = b.data.toList) : a = b := by
  obtain ⟨⟨l⟩⟩ := a; obtain ⟨⟨r⟩⟩ := b; simp only at h; rw [h]
theorem strs_ne {a b : ByteArray} (h : a ≠ b) : (a.toList == b.toList) = false := by
  rw [Lib.toList_data, Lib.toList_data, beq_eq_false_iff_ne]; exact fun e => h (str_ext e)
theorem below_drewN {B : Nat} {a w : World} (h : Below B a w) (k : Nat) : Below B a (w.drewN k) := ⟨h.os, h.tape, h.output, h.size, h.block⟩
theorem same_any (v1 v2 : Value) (L1 L2 : List ByteArray) (w : World) (h1 : Strs w v1 L1) (h2 : Strs w v2 L2) :
    Calls Tryd.prog 16 #[v1, v2] w fun e w' => e = .returned (.bool (decide (L1 = L2))) ∧ Below w.heap.size w w' := by
  have m1 := h1.len
  have m2 := h2.len
  unfold maxLen at m1 m2
  by_cases hl : L1.length = L2.length
  · by_cases h0 : L1 = []
    · subst h0
      obtain rfl : L2 = [] := List.eq_nil_of_length_eq_zero hl.symm
      obtain ⟨a, ca, rfl⟩ := h1.nil
      obtain ⟨b, cb, rfl⟩ := h2.nil
      clear h1 h2 m1 m2 hl
      go_enter Tryd.func16, Tryd.ntmps16
      go_wp2_with fail
      go_loop [5] (fun i => i = .int .i64 0) (fun _ => 0)
      case atStart => rfl
      case round =>
        subst hrel
        go_wp2_with fail
        go_ret
        exact ⟨rfl, Below.refl _ _⟩
    · obtain ⟨g1, o1, ca, rfl, _, _, hg1, hc1⟩ := h1.cons h0
      obtain ⟨g2, o2, cb, rfl, _, _, hg2, hc2⟩ := h2.cons (fun e => h0 (List.eq_nil_of_length_eq_zero (by rw [hl, e]; rfl)))
      rw [← hl]
      have HL := Lib.hid hl
      have C1 := Lib.hid hc1
      have C2 := Lib.hid hc2
      obtain ⟨n, hn⟩ : ∃ n, L1.length = n := ⟨_, rfl⟩
      have HN := Lib.hid hn
      rw [hn] at m1 ⊢
      rw [← hl, hn] at m2
      clear h1 h2 hc1 hc2 hl hn
      go_enter Tryd.func16, Tryd.ntmps16
      go_wp2_with fail
      go_loopw [5] (fun i wr => ∃ j : Nat, i = .int .i64 j ∧ j ≤ n ∧ Hid (L1.take j = L2.take j) ∧ Hid (Below w.heap.size w wr)) (fun i _ => n - (intOf i).toNat)
      case atStart => exact ⟨0, rfl, by omega, Lib.hid rfl, Lib.hid (Below.refl _ _)⟩
      case round =>
        obtain ⟨j, rfl, js, E, Br⟩ := hrel
        by_cases hlt : j < n
        · have x1 : j < L1.length := by have := HN.out; omega
          have x2 : j < L2.length := by have := HL.out; omega
          have k1 := (Br.out.cell (p := ⟨g1, o1 + j, none⟩) hg1).trans (C1.out j _ (List.getElem?_eq_getElem x1))
          have k2 := (Br.out.cell (p := ⟨g2, o2 + j, none⟩) hg2).trans (C2.out j _ (List.getElem?_eq_getElem x2))
          have T1 := Lib.hid (List.take_succ_eq_append_getElem x1)
          have T2 := Lib.hid (List.take_succ_eq_append_getElem x2)
          generalize L1[j] = a at k1 T1
          generalize L2[j] = b at k2 T2
          clear x1 x2
          by_cases hab : a = b
          · subst hab
            go_wp2_with fail
            go_quiet (fail)
            go_wp2_with fail
            go_roundw
            case rel => exact ⟨j + 1, by go_num, by omega, Lib.hid (by rw [T1.out, T2.out, E.out]), Lib.hid (below_drewN Br.out _)⟩
            case measure => simp [intOf]; omega
          · have ne := strs_ne hab
            have NE : L1 ≠ L2 := fun e => hab (by
              have h := T1.out; rw [e, T2.out, List.append_cancel_left_eq] at h
              exact (List.cons.inj h).1.symm)
            have D := Lib.hid (decide_eq_false NE); clear hab NE
            go_wp2_with fail
            go_quiet (fail)
            go_wp2_with fail
            go_ret
            exact ⟨by rw [D.out]; rfl, below_drewN Br.out _⟩
        · have EE : L1 = L2 := by
            have h := E.out
            have h1 := HN.out
            have h2 := HL.out
            rw [List.take_of_length_le (by omega), List.take_of_length_le (by omega)] at h
            exact h
          have D := Lib.hid (decide_eq_true EE); clear EE
          go_wp2_with fail
          go_ret
          exact ⟨by rw [D.out]; rfl, Br.out⟩
  · have NE : L1 ≠ L2 := fun e => hl (by rw [e])
    obtain ⟨a, ca, rfl, _, _, _⟩ := h1
    obtain ⟨b, cb, rfl, _, _, _⟩ := h2
    have t : (((L1.length : Nat) : Int) != ((L2.length : Nat) : Int)) = true := by rw [bne_iff_ne]; omega
    go_enter Tryd.func16, Tryd.ntmps16
    go_wp2_with fail
    go_ret
    exact ⟨by rw [decide_eq_false NE]; rfl, Below.refl _ _⟩
theorem split_is (s : ByteArray) (n : Nat) (Ps : List ByteArray) (m : Int) (w : World) (hm : w.cell? ⟨0, 0, none⟩ = some (.int .i64 m)) (hs : s.size ≤ 1048576) (hn : Lib.countB s ⟨#[10]⟩ = n) (hP : Lib.splitB ⟨#[10]⟩ 0 (Lib.countB s ⟨#[10]⟩) s = Ps) :
    Calls Tryd.prog 28 #[.string s, .string ⟨#[10]⟩] w fun e w' => e = .returned (.slice (some ⟨w.heap.size, 0, none⟩) (n + 1) (n + 1)) ∧ w' = w.alloc (.cells (Ps.map Value.string).toArray 9) := by
  have h := Tryd.strings_Split s ⟨#[10]⟩ m w (by omega) hm (by show 1 ≤ 1; omega)
  rw [hP, hn] at h
  exact h
theorem lines_any (s : ByteArray) (m : Int) (w : World) (hm : w.cell? ⟨0, 0, none⟩ = some (.int .i64 m)) (hs : s.size ≤ 1048576) :
    Calls Tryd.prog 14 #[.string s] w fun e w' => ∃ v L, e = .returned (.tuple #[v, .bool (linE s.data.toList)]) ∧ L.map (·.data.toList) = lin s.data.toList ∧ Strs w' v L ∧ Below w.heap.size w w' := by
  by_cases h0 : s.data.toList = []
  · obtain rfl : s = ⟨#[]⟩ := str_ext h0
    go_enter Tryd.func14, Tryd.ntmps14
    go_wp2_with fail
    go_ret2
    exact ⟨_, rfl, [], rfl, Strs.empty w, Below.refl _ _⟩
  · have sp := splitB_spl s
    have ln := Lib.splitB_all ⟨#[10]⟩ (by show 1 ≤ 1; omega) 0 _ s rfl
    obtain ⟨Ps, hP⟩ : ∃ Ps, Lib.splitB ⟨#[10]⟩ 0 (Lib.countB s ⟨#[10]⟩) s = Ps := ⟨_, rfl⟩
    obtain ⟨n, hn⟩ : ∃ n, Lib.countB s ⟨#[10]⟩ = n := ⟨_, rfl⟩
    have SC := fun m w hm => split_is s n Ps m w hm hs hn hP
    rw [hP] at sp ln
    rw [hn] at ln
    have hb : n ≤ s.size := by rw [← hn]; exact Lib.countB_le ⟨#[10]⟩ (by show 1 ≤ 1; omega) _ s (Nat.le_refl _)
    have x1 : n < Ps.length := by omega
    obtain ⟨out, last, hl⟩ : ∃ out last, Ps = out ++ [last] := ⟨Ps.dropLast, Ps.getLast (by intro e; rw [e] at ln; simp at ln), (List.dropLast_concat_getLast _).symm⟩
    have ho : out.length = n := by rw [hl, List.length_append] at ln; simpa using ln
    have C0 : (w.alloc (.cells (Ps.map Value.string).toArray 9)).heap[w.heap.size]? = some (.cells (Ps.map Value.string).toArray 9 (0, 0)) := heap_alloc_new w _
    have K : (w.alloc (.cells (Ps.map Value.string).toArray 9)).cell? ⟨w.heap.size, n, none⟩ = some (.string last) := by
      simp only [World.cell?, C0]
      rw [hl, ← ho]; simp
    have e1 : spl s.data.toList = out.map (·.data.toList) ++ [last.data.toList] := by rw [← sp, hl]; simp
    obtain ⟨f1, f2⟩ := lin_of e1
    have tne : (s.toList == []) = false := by rw [Lib.toList_data, beq_eq_false_iff_ne]; exact h0
    have H := Lib.hid hm
    have B0 := (Below.refl w.heap.size w).alloc (Nat.le_refl _) (.cells (Ps.map Value.string).toArray 9)
    have ST : Hid (Strs (w.alloc (.cells (Ps.map Value.string).toArray 9)) (.slice (some ⟨w.heap.size, 0, none⟩) Ps.length Ps.length) Ps) := Lib.hid (Strs.block C0 (by unfold maxLen; omega))
    rw [ln] at ST
    have F := Lib.hid (And.intro e1 (And.intro f1 (And.intro f2 (And.intro sp (And.intro hl (And.intro ho ln))))))
    have SZ : n ≤ 1048576 := by omega
    have BB := Lib.hid B0
    clear h0 sp ln hn hP hb x1 e1 f1 f2 hm B0 C0 hl ho hs
    by_cases hz : last.data.toList = []
    · have tz : (last.toList == []) = true := by rw [Lib.toList_data, hz]; rfl
      have HZ := Lib.hid hz; clear hz
      go_enter Tryd.func14, Tryd.ntmps14
      go_wp2_with (go_at_call 28; refine (SC m _ H.out).mono ?_; rintro e w' ⟨rfl, rfl⟩)
      go_ret2
      obtain ⟨e1, f1, f2, sp, hl, ho, ln⟩ := F.out
      refine ⟨_, out, by rw [f2, decide_eq_true HZ.out]; rfl, by rw [f1, if_pos HZ.out], ?_, BB.out⟩
      have h := Strs.take (n := n) (by rw [ln]; exact ST.out) (by omega) n (Nat.le_refl _) (by unfold maxLen; omega)
      have e : Ps.take n = out := by rw [hl, ← ho]; simp
      rw [e] at h; exact h
    · have tz : (last.toList == []) = false := by rw [Lib.toList_data, beq_eq_false_iff_ne]; exact hz
      have HZ := Lib.hid hz; clear hz
      go_enter Tryd.func14, Tryd.ntmps14
      go_wp2_with (go_at_call 28; refine (SC m _ H.out).mono ?_; rintro e w' ⟨rfl, rfl⟩)
      go_ret2
      obtain ⟨e1, f1, f2, sp, hl, ho, ln⟩ := F.out
      exact ⟨_, Ps, by rw [f2, decide_eq_false HZ.out]; rfl, by rw [f1, if_neg HZ.out, sp, e1], ST.out, BB.out⟩
end Go.Proofs.YtnbellffbbaamaaDoor
