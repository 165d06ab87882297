/- walks: the collating element at an offset, the reference -/
import Derived.Test.YtbhdhcnbagjmcaaDoorZe
import Derived.IntWalk
namespace Go.Proofs.YtbhdhcnbagjmcaaDoor
open Go.RowKit Go.Maps Go.WideMaps
open Lcl
theorem fst_no {l : List (ByteArray × Int)} {p : ByteArray × Int} {t : List UInt8} (h : fstE l t = none) (hp : decide (t = p.1.data.toList) = false) : fstE (l ++ [p]) t = none := by
  unfold fstE at h ⊢
  rw [Option.map_eq_none_iff] at h ⊢
  rw [List.find?_append, h]
  simp only [decide_eq_false_iff_not] at hp
  simp [Ne.symm hp]
theorem fst_hit {l r : List (ByteArray × Int)} {p : ByteArray × Int} {t : List UInt8} (h : fstE l t = none) (hp : decide (t = p.1.data.toList) = true) : fstE (l ++ p :: r) t = some p.2 := by
  unfold fstE at h ⊢
  rw [Option.map_eq_none_iff] at h
  rw [List.find?_append, h]
  simp only [decide_eq_true_eq] at hp
  simp [hp]
theorem pr_next {E : List El} {k : Nat} {x : El} (hx : E[k]? = some x) : (E.take (k + 1)).map El.pr = (E.take k).map El.pr ++ [x.pr] := by
  rw [List.take_add_one, hx, List.map_append]; rfl
theorem pr_hit {E : List El} {k : Nat} {x : El} (hx : E[k]? = some x) : E.map El.pr = (E.take k).map El.pr ++ x.pr :: (E.drop (k + 1)).map El.pr := by
  obtain ⟨hk, e⟩ := List.getElem?_eq_some_iff.1 hx
  conv => lhs; rw [← List.take_append_drop k E, List.drop_eq_getElem_cons hk, e]
  rw [List.map_append, List.map_cons]
def fndO (E : List El) (s : ByteArray) (a : Nat) : Option Int := if a + 2 ≤ s.size then fstE (E.map El.pr) (s.extract a (a + 2)).data.toList else none
def FindR (E : List El) (o : Option Int) (w : World) (e : Ending) (w' : World) : Prop :=
  Below w.heap.size w w' ∧ match o with
    | none => e = .returned (.int .i64 (-1))
    | some m => ∃ (j : Nat) (x : El), E[j]? = some x ∧ x.w = m ∧ e = .returned (.int .i64 j)
theorem find_none {E : List El} {o : Option Int} {w w' : World} (ho : o = none) (hb : Below w.heap.size w w') : FindR E o w (.returned (.int .i64 (-1))) w' := by
  subst ho; exact ⟨hb, rfl⟩
theorem find_some {E : List El} {o : Option Int} {w w' : World} {j : Nat} {x : El} (hx : E[j]? = some x) (ho : o = some x.w) (hb : Below w.heap.size w w') : FindR E o w (.returned (.int .i64 j)) w' := by
  subst ho; exact ⟨hb, j, x, hx, rfl, rfl⟩
set_option maxRecDepth 100000 in
set_option maxHeartbeats 8000000 in
theorem find_any (n lo up : ByteArray) (v1 v4 v5 : Value) (W : List Int) (C : List Cl) (E : List El) (s : ByteArray) (a : Nat) (w : World) (hL : LocAt w v1 v4 v5 W C E) (hE : E.length ≤ 64) (hs : s.size ≤ 1048576) (ha : a ≤ s.size) :
    Calls Tryd.prog 64 #[lval n v1 lo up v4 v5, .string s, .int .i64 a] w (FindR E (fndO E s a) w) := by
  obtain ⟨a5, cap5, rfl, -, -, h3⟩ := hL.r5
  rw [List.length_map]
  have H3 := Lib.hid h3
  clear hL h3
  by_cases h2 : a + 2 ≤ s.size
  · obtain ⟨u, hu⟩ : ∃ u, s.extract a (a + 2) = u := ⟨_, rfl⟩
    have FO : Hid (fndO E s a = fstE (E.map El.pr) u.data.toList) := Lib.hid (by unfold fndO; rw [if_pos h2, hu])
    go_enter Tryd.func64, Tryd.ntmps64
    go_wp2_with fail
    go_loopw [7] (fun i wr => ∃ k : Nat, k ≤ E.length ∧ i = .int .i64 k ∧ Hid (fstE ((E.take k).map El.pr) u.data.toList = none) ∧ Hid (Below (w.alloc (.cells #[.string n, v1, .string lo, .string up, v4, .slice a5 E.length cap5] 30)).heap.size (w.alloc (.cells #[.string n, v1, .string lo, .string up, v4, .slice a5 E.length cap5] 30)) wr)) (fun i _ => E.length - (intOf i).toNat)
    case atStart => exact ⟨0, Nat.zero_le _, rfl, Lib.hid rfl, Lib.hid (Below.refl _ _)⟩
    case round =>
      obtain ⟨k, hk, rfl, NK, BK⟩ := hrel
      have q1 : wr.heap[w.heap.size]? = some (.cells #[.string n, v1, .string lo, .string up, v4, .slice a5 E.length cap5] 30 (0, 0)) := by
        rw [BK.out.block _ (by rw [World.size_alloc]; omega)]; exact heap_alloc_new _ _
      obtain ⟨-, -, -, -, -, d5⟩ := lrow_cells q1
      clear q1
      by_cases hlt : k < E.length
      · obtain ⟨g, o, rfl, hg, hcell⟩ : ∃ g o, a5 = some ⟨g, o, none⟩ ∧ g < w.heap.size ∧ ∀ (j : Nat) x, (E.map El.row)[j]? = some x → ∀ (i : Nat) y, x[i]? = some y → w.cell? ⟨g, o + j * 2 + i, none⟩ = some y := by
          rcases H3.out with h | h
          · have := congrArg List.length h; rw [List.length_map, List.length_nil] at this; omega
          · exact h
        obtain ⟨x, hx⟩ : ∃ x, E[k]? = some x := ⟨E[k], List.getElem?_eq_getElem hlt⟩
        have c0 := ((below_step BK.out).cell (p := ⟨g, o + k * 2, none⟩) hg).trans (hcell k _ (by rw [List.getElem?_map, hx]; rfl) 0 _ rfl)
        have HX := Lib.hid hx
        clear hcell hx hg
        have i1 : (0 : Int) ≤ (k : Int) := by omega
        have i2 : (k : Int) < (E.length : Int) := by omega
        obtain ⟨b, hb⟩ : ∃ b, decide (u.data.toList = x.n.data.toList) = b := ⟨_, rfl⟩
        have te : (u.toList == x.n.toList) = b := by rw [str_beq, hb]
        have HB := Lib.hid hb; clear hb
        cases b with
        | true =>
          have TW := Lib.hid (fst_hit (r := (E.drop (k + 1)).map El.pr) (p := x.pr) NK.out HB.out)
          have sw : IntKind.i64.wrap ((a : Int) + 2) = (a : Int) + 2 := IntWalk.i64_in _ (by omega)
          have s0 : (0 : Int) ≤ (a : Int) + 2 := by omega
          have st : ((a : Int) + 2).toNat = a + 2 := by omega
          have sg : decide ((a : Int) + 2 ≤ (s.size : Int)) = true := by rw [decide_eq_true_eq]; omega
          go_wp2_with fail
          go_quiet (fail)
          clear sw s0 st sg
          go_wp2_with fail
          go_ret
          exact find_some HX.out (by rw [FO.out, pr_hit HX.out]; exact TW.out) (below_step (below_drewN BK.out _))
        | false =>
          have NX : Hid (fstE ((E.take (k + 1)).map El.pr) u.data.toList = none) := Lib.hid (by rw [pr_next HX.out]; exact fst_no NK.out HB.out)
          have sw : IntKind.i64.wrap ((a : Int) + 2) = (a : Int) + 2 := IntWalk.i64_in _ (by omega)
          have s0 : (0 : Int) ≤ (a : Int) + 2 := by omega
          have st : ((a : Int) + 2).toNat = a + 2 := by omega
          have sg : decide ((a : Int) + 2 ≤ (s.size : Int)) = true := by rw [decide_eq_true_eq]; omega
          go_wp2_with fail
          go_quiet (fail)
          clear sw s0 st sg
          go_wp2_with fail
          go_roundw
          case rel => exact ⟨k + 1, by omega, by go_num, NX, Lib.hid (below_drewN BK.out _)⟩
          case measure => simp [intOf]; omega
      · have NE : Hid (fstE (E.map El.pr) u.data.toList = none) := Lib.hid (by have h := NK.out; rw [List.take_of_length_le (by omega)] at h; exact h)
        go_wp2_with fail
        go_ret
        exact find_none (by rw [FO.out, NE.out]) (below_step BK.out)
  · have FO : Hid (fndO E s a = none) := Lib.hid (by unfold fndO; rw [if_neg h2])
    go_enter Tryd.func64, Tryd.ntmps64
    go_wp2_with fail
    go_loopw [7] (fun i wr => ∃ k : Nat, k ≤ E.length ∧ i = .int .i64 k ∧ Hid (Below (w.alloc (.cells #[.string n, v1, .string lo, .string up, v4, .slice a5 E.length cap5] 30)).heap.size (w.alloc (.cells #[.string n, v1, .string lo, .string up, v4, .slice a5 E.length cap5] 30)) wr)) (fun i _ => E.length - (intOf i).toNat)
    case atStart => exact ⟨0, Nat.zero_le _, rfl, Lib.hid (Below.refl _ _)⟩
    case round =>
      obtain ⟨k, hk, rfl, BK⟩ := hrel
      have q1 : wr.heap[w.heap.size]? = some (.cells #[.string n, v1, .string lo, .string up, v4, .slice a5 E.length cap5] 30 (0, 0)) := by
        rw [BK.out.block _ (by rw [World.size_alloc]; omega)]; exact heap_alloc_new _ _
      obtain ⟨-, -, -, -, -, d5⟩ := lrow_cells q1
      clear q1
      by_cases hlt : k < E.length
      · have sw : IntKind.i64.wrap ((a : Int) + 2) = (a : Int) + 2 := IntWalk.i64_in _ (by omega)
        have s0 : (0 : Int) ≤ (a : Int) + 2 := by omega
        have st : ((a : Int) + 2).toNat = a + 2 := by omega
        have sg : decide ((a : Int) + 2 ≤ (s.size : Int)) = false := by rw [decide_eq_false_iff_not]; omega
        go_wp2_with fail
        go_quiet (fail)
        clear sw s0 st sg
        go_wp2_with fail
        go_roundw
        case rel => exact ⟨k + 1, by omega, by go_num, Lib.hid (below_drewN BK.out _)⟩
        case measure => simp [intOf]; omega
      · go_wp2_with fail
        go_ret
        exact find_none FO.out (below_step BK.out)
end Go.Proofs.YtbhdhcnbagjmcaaDoor
