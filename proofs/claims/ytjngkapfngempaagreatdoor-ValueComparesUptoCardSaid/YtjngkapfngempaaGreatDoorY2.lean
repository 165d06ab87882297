/- plain mathematics and texts of one kind, joined in one file (merge.py) -/
import Derived.Test.YtjngkapfngempaaGreatDoorY1
import Derived.IntWalk
import Derived.Deep.AppendLies
import Derived.Deep.RegionLaw
import Derived.Test.YtjngkapfngempaaGreatDoorCb
import Derived.Test.YtjngkapfngempaaGreatDoorQj
import Derived.Deep.Slices
import Derived.Deep.Fields
import Derived.ChangeSame
import Derived.Lib.SmallJoins
import Derived.SizedLaws
/- walks: the collating element at an offset, the reference -/
namespace Go.Proofs.YtjngkapfngempaaGreatDoor
open Go.RowKit Go.Maps Go.WideMaps
open Lcl
theorem fst_no {l : List (ByteArray × Int)} {p : ByteArray × Int} {t : List UInt8} (h : fstE l t = none) (hp : decide (t = p.1.data.toList) = false) : fstE (l ++ [p]) t = none := by
  unfold fstE at h ⊢
  rw [Option.map_eq_none_iff] at h ⊢
  rw [List.find?_append, h]
  simp only [decide_eq_false_iff_not] at hp
  simp [Ne.symm hp]
theorem fst_hit {l r : List (ByteArray × Int)} {p : ByteArray × Int} {t : List UInt8} (h : fstE l t = none) (hp : decide (t = p.1.data.toList) = true) : fstE (l ++ p :: r) t = some p.2 := by
  unfold fstE at h ⊢
  rw [Option.map_eq_none_iff] at h
  rw [List.find?_append, h]
  simp only [decide_eq_true_eq] at hp
  simp [hp]
theorem pr_next {E : List El} {k : Nat} {x : El} (hx : E[k]? = some x) : (E.take (k + 1)).map El.pr = (E.take k).map El.pr ++ [x.pr] := by
  rw [List.take_add_one, hx, List.map_append]; rfl
theorem pr_hit {E : List El} {k : Nat} {x : El} (hx : E[k]? = some x) : E.map El.pr = (E.take k).map El.pr ++ x.pr :: (E.drop (k + 1)).map El.pr := by
  obtain ⟨hk, e⟩ := List.getElem?_eq_some_iff.1 hx
  conv => lhs; rw [← List.take_append_drop k E, List.drop_eq_getElem_cons hk, e]
  rw [List.map_append, List.map_cons]
def fndO (E : List El) (s : ByteArray) (a : Nat) : Option Int := if a + 2 ≤ s.size then fstE (E.map El.pr) (s.extract a (a + 2)).data.toList else none
def FindR (E : List El) (o : Option Int) (w : World) (e : Ending) (w' : World) : Prop :=
  Below w.heap.size w w' ∧ match o with
    | none => e = .returned (.int .i64 (-1))
    | some m => ∃ (j : Nat) (x : El), E[j]? = some x ∧ x.w = m ∧ e = .returned (.int .i64 j)
theorem find_none {E : List El} {o : Option Int} {w w' : World} (ho : o = none) (hb : Below w.heap.size w w') : FindR E o w (.returned (.int .i64 (-1))) w' := by
  subst ho; exact ⟨hb, rfl⟩
theorem find_some {E : List El} {o : Option Int} {w w' : World} {j : Nat} {x : El} (hx : E[j]? = some x) (ho : o = some x.w) (hb : Below w.heap.size w w') : FindR E o w (.returned (.int .i64 j)) w' := by
  subst ho; exact ⟨hb, j, x, hx, rfl, rfl⟩
set_option maxRecDepth 100000 in
set_option maxHeartbeats 8000000 in
theorem find_any (n lo up : ByteArray) (v1 v4 v5 : Value) (W : List Int) (C : List Cl) (E : List El) (s : ByteArray) (a : Nat) (w : World) (hL : LocAt w v1 v4 v5 W C E) (hE : E.length ≤ 64) (hs : s.size ≤ 1048576) (ha : a ≤ s.size) :
    Calls Tryz.prog 54 #[lval n v1 lo up v4 v5, .string s, .int .i64 a] w (FindR E (fndO E s a) w) := by
  obtain ⟨a5, cap5, rfl, -, -, h3⟩ := hL.r5
  rw [List.length_map]
  have H3 := Lib.hid h3
  clear hL h3
  by_cases h2 : a + 2 ≤ s.size
  · obtain ⟨u, hu⟩ : ∃ u, s.extract a (a + 2) = u := ⟨_, rfl⟩
    have FO : Hid (fndO E s a = fstE (E.map El.pr) u.data.toList) := Lib.hid (by unfold fndO; rw [if_pos h2, hu])
    go_enter Tryz.func54, Tryz.ntmps54
    go_wp2_with fail
    go_loopw [7] (fun i wr => ∃ k : Nat, k ≤ E.length ∧ i = .int .i64 k ∧ Hid (fstE ((E.take k).map El.pr) u.data.toList = none) ∧ Hid (Below (w.alloc (.cells #[.string n, v1, .string lo, .string up, v4, .slice a5 E.length cap5] 26)).heap.size (w.alloc (.cells #[.string n, v1, .string lo, .string up, v4, .slice a5 E.length cap5] 26)) wr)) (fun i _ => E.length - (intOf i).toNat)
    case atStart => exact ⟨0, Nat.zero_le _, rfl, Lib.hid rfl, Lib.hid (Below.refl _ _)⟩
    case round =>
      obtain ⟨k, hk, rfl, NK, BK⟩ := hrel
      have q1 : wr.heap[w.heap.size]? = some (.cells #[.string n, v1, .string lo, .string up, v4, .slice a5 E.length cap5] 26 (0, 0)) := by
        rw [BK.out.block _ (by rw [World.size_alloc]; omega)]; exact heap_alloc_new _ _
      obtain ⟨-, -, -, -, -, d5⟩ := lrow_cells q1
      clear q1
      by_cases hlt : k < E.length
      · obtain ⟨g, o, rfl, hg, hcell⟩ : ∃ g o, a5 = some ⟨g, o, none⟩ ∧ g < w.heap.size ∧ ∀ (j : Nat) x, (E.map El.row)[j]? = some x → ∀ (i : Nat) y, x[i]? = some y → w.cell? ⟨g, o + j * 2 + i, none⟩ = some y := by
          rcases H3.out with h | h
          · have := congrArg List.length h; rw [List.length_map, List.length_nil] at this; omega
          · exact h
        obtain ⟨x, hx⟩ : ∃ x, E[k]? = some x := ⟨E[k], List.getElem?_eq_getElem hlt⟩
        have c0 := ((qbelow_step BK.out).cell (p := ⟨g, o + k * 2, none⟩) hg).trans (hcell k _ (by rw [List.getElem?_map, hx]; rfl) 0 _ rfl)
        have HX := Lib.hid hx
        clear hcell hx hg
        have i1 : (0 : Int) ≤ (k : Int) := by omega
        have i2 : (k : Int) < (E.length : Int) := by omega
        obtain ⟨b, hb⟩ : ∃ b, decide (u.data.toList = x.n.data.toList) = b := ⟨_, rfl⟩
        have te : (u.toList == x.n.toList) = b := by rw [str_beq, hb]
        have HB := Lib.hid hb; clear hb
        cases b with
        | true =>
          have TW := Lib.hid (fst_hit (r := (E.drop (k + 1)).map El.pr) (p := x.pr) NK.out HB.out)
          have sw : IntKind.i64.wrap ((a : Int) + 2) = (a : Int) + 2 := IntWalk.i64_in _ (by omega)
          have s0 : (0 : Int) ≤ (a : Int) + 2 := by omega
          have st : ((a : Int) + 2).toNat = a + 2 := by omega
          have sg : decide ((a : Int) + 2 ≤ (s.size : Int)) = true := by rw [decide_eq_true_eq]; omega
          go_wp2_with fail
          go_quiet (fail)
          clear sw s0 st sg
          go_wp2_with fail
          go_ret
          exact find_some HX.out (by rw [FO.out, pr_hit HX.out]; exact TW.out) (qbelow_step (qbelow_drewN BK.out _))
        | false =>
          have NX : Hid (fstE ((E.take (k + 1)).map El.pr) u.data.toList = none) := Lib.hid (by rw [pr_next HX.out]; exact fst_no NK.out HB.out)
          have sw : IntKind.i64.wrap ((a : Int) + 2) = (a : Int) + 2 := IntWalk.i64_in _ (by omega)
          have s0 : (0 : Int) ≤ (a : Int) + 2 := by omega
          have st : ((a : Int) + 2).toNat = a + 2 := by omega
          have sg : decide ((a : Int) + 2 ≤ (s.size : Int)) = true := by rw [decide_eq_true_eq]; omega
          go_wp2_with fail
          go_quiet (fail)
          clear sw s0 st sg
          go_wp2_with fail
          go_roundw
          case rel => exact ⟨k + 1, by omega, by go_num, NX, Lib.hid (qbelow_drewN BK.out _)⟩
          case measure => simp [intOf]; omega
      · have NE : Hid (fstE (E.map El.pr) u.data.toList = none) := Lib.hid (by have h := NK.out; rw [List.take_of_length_le (by omega)] at h; exact h)
        go_wp2_with fail
        go_ret
        exact find_none (by rw [FO.out, NE.out]) (qbelow_step BK.out)
  · have FO : Hid (fndO E s a = none) := Lib.hid (by unfold fndO; rw [if_neg h2])
    go_enter Tryz.func54, Tryz.ntmps54
    go_wp2_with fail
    go_loopw [7] (fun i wr => ∃ k : Nat, k ≤ E.length ∧ i = .int .i64 k ∧ Hid (Below (w.alloc (.cells #[.string n, v1, .string lo, .string up, v4, .slice a5 E.length cap5] 26)).heap.size (w.alloc (.cells #[.string n, v1, .string lo, .string up, v4, .slice a5 E.length cap5] 26)) wr)) (fun i _ => E.length - (intOf i).toNat)
    case atStart => exact ⟨0, Nat.zero_le _, rfl, Lib.hid (Below.refl _ _)⟩
    case round =>
      obtain ⟨k, hk, rfl, BK⟩ := hrel
      have q1 : wr.heap[w.heap.size]? = some (.cells #[.string n, v1, .string lo, .string up, v4, .slice a5 E.length cap5] 26 (0, 0)) := by
        rw [BK.out.block _ (by rw [World.size_alloc]; omega)]; exact heap_alloc_new _ _
      obtain ⟨-, -, -, -, -, d5⟩ := lrow_cells q1
      clear q1
      by_cases hlt : k < E.length
      · have sw : IntKind.i64.wrap ((a : Int) + 2) = (a : Int) + 2 := IntWalk.i64_in _ (by omega)
        have s0 : (0 : Int) ≤ (a : Int) + 2 := by omega
        have st : ((a : Int) + 2).toNat = a + 2 := by omega
        have sg : decide ((a : Int) + 2 ≤ (s.size : Int)) = false := by rw [decide_eq_false_iff_not]; omega
        go_wp2_with fail
        go_quiet (fail)
        clear sw s0 st sg
        go_wp2_with fail
        go_roundw
        case rel => exact ⟨k + 1, by omega, by go_num, Lib.hid (qbelow_drewN BK.out _)⟩
        case measure => simp [intOf]; omega
      · go_wp2_with fail
        go_ret
        exact find_none FO.out (qbelow_step BK.out)
end Go.Proofs.YtjngkapfngempaaGreatDoor
/- walks: the weights of a string, the reference -/
namespace Go.Proofs.YtjngkapfngempaaGreatDoor
open Go.RowKit Go.Maps Go.WideMaps
open Lcl
theorem step_int {ops : Array Oper} {o : Oper} {a : Act} {K : Act → World → Prop} {Q : Exit → Act → World → Prop} {E : Prop} (hgd : o.guard = none) (s x : Operand)
    (ho : o.op = .call { callee := .builtin .append, args := #[s, x], argTypes := #[22, 22] }) (v : Value) (L : List Int) (c : Int) (B : Nat) (wr : World)
    (own : IRow wr B v L) (hB : B ≤ wr.heap.size) (len : L.length + 1 ≤ 1048577) (hs : a.eval s = v) (hx : a.eval x = .slice (some ⟨wr.heap.size, 0, none⟩) 1 1)
    (h : ∀ g cap w', Hid (IRow w' B (.slice (some ⟨g, 0, none⟩) (L.length + 1) cap) (L ++ [c])) → Hid (Below B wr w') → K (a.put o.dst (.slice (some ⟨g, 0, none⟩) (L.length + 1) cap)) w') :
    if Region.wanted o (yielded ops a.tmps) = true then Oper.wp Tryz.prog o a (wr.alloc (.cells #[.int .i64 c] 3)) K Q else E := by
  obtain ⟨i0, hi, hz0, hz1, hz2⟩ := info_parts info_i64
  refine step_append_lies _ hgd s x 22 ho B 3 i0 (.int .i64 0) 1 8 Tryz.underlying22 hi hz0 hz1 hz2 rfl (by decide) v L.length (ints L) hs (own.alloc _) ⟨wr.heap.size, 0, none⟩ 1 1 [.int .i64 c] hx rfl ?_ ?_ (by omega) ?_ ?_ ?_ _ rfl ?_
  · intro j y hj
    match j, hj with
    | 0, hj => simp at hj; subst hj; simp [Addr.add]
  · intro y hy; simp at hy; subst hy; rfl
  · unfold maxLen; omega
  · omega
  · simp; omega
  · intro g cap w' h1 h2 _ _
    refine h g cap w' (Lib.hid ?_) (Lib.hid (((Below.refl B wr).alloc hB _).grown h2 (by simp; omega) (fun k hk => (own.lt k hk).1)))
    rw [ints_snoc] at h1
    show w'.ownsRow B 3 1 _ (L ++ [c]).length (ints (L ++ [c]))
    rw [List.length_append]; exact h1
/-- after k bytes: the weights so far are L -/
structure E3 (w wr : World) (n lo up : ByteArray) (v1 v4 v5 : Value) (W : List Int) (E : List El) (s : ByteArray) (k : Nat) (v : Value) (L : List Int) : Prop where
  row : IRow wr (w.heap.size + 1) v L
  bel : Below (w.alloc (.cells #[.string n, v1, .string lo, .string up, v4, v5] 26)).heap.size (w.alloc (.cells #[.string n, v1, .string lo, .string up, v4, v5] 26)) wr
  sum : L ++ wts W (fstE (E.map El.pr)) (s.data.toList.drop k) = wts W (fstE (E.map El.pr)) s.data.toList
  len : L.length ≤ k
section
variable {w wr w1 : World} {n lo up : ByteArray} {v1 v4 v5 : Value} {W : List Int} {E : List El} {s : ByteArray} {k m : Nat} {v v' : Value} {L : List Int} {c : Int}
theorem E3.loc (h : E3 w wr n lo up v1 v4 v5 W E s k v L) : wr.heap[w.heap.size]? = some (.cells #[.string n, v1, .string lo, .string up, v4, v5] 26 (0, 0)) := by
  rw [h.bel.block _ (by rw [World.size_alloc]; omega)]; exact heap_alloc_new _ _
theorem E3.le (h : E3 w wr n lo up v1 v4 v5 W E s k v L) : w.heap.size + 1 ≤ wr.heap.size := by
  have := h.bel.size; rw [World.size_alloc] at this; exact this
theorem E3.later (h : E3 w wr n lo up v1 v4 v5 W E s k v L) (hb : Below wr.heap.size wr w1) : E3 w w1 n lo up v1 v4 v5 W E s k v L :=
  ⟨irow_below h.row hb, h.bel.trans (hb.mono h.bel.size), h.sum, h.len⟩
theorem E3.next (h : E3 w wr n lo up v1 v4 v5 W E s k v L) (hr : IRow w1 (w.heap.size + 1) v' (L ++ [c])) (hb : Below (w.heap.size + 1) wr w1) (hm : k < m)
    (hs : wts W (fstE (E.map El.pr)) (s.data.toList.drop k) = c :: wts W (fstE (E.map El.pr)) (s.data.toList.drop m)) : E3 w w1 n lo up v1 v4 v5 W E s m v' (L ++ [c]) := by
  refine ⟨hr, h.bel.trans (hb.mono (by rw [World.size_alloc]; omega)), by rw [← h.sum, hs, List.append_assoc]; rfl, ?_⟩
  have := h.len
  rw [List.length_append, List.length_singleton]; omega
end
/-- the weight at an offset -/
theorem wts_find (W : List Int) (E : List El) (s : ByteArray) (k : Nat) (h : k < s.size) :
    (fndO E s k = none → wts W (fstE (E.map El.pr)) (s.data.toList.drop k) = W.getD s[k].toNat 0 :: wts W (fstE (E.map El.pr)) (s.data.toList.drop (k + 1))) ∧
    ∀ m, fndO E s k = some m → k + 2 ≤ s.size ∧ wts W (fstE (E.map El.pr)) (s.data.toList.drop k) = m :: wts W (fstE (E.map El.pr)) (s.data.toList.drop (k + 2)) := by
  have hk1 : s.data.toList[k]? = some s[k] := by rw [List.getElem?_eq_getElem (show k < s.data.toList.length from h)]; rfl
  unfold fndO
  by_cases h2 : k + 2 ≤ s.size
  · have hk2 : s.data.toList[k + 1]? = some s[k + 1] := by rw [List.getElem?_eq_getElem (show k + 1 < s.data.toList.length from h2)]; rfl
    have e := wts_two W (fstE (E.map El.pr)) s.data.toList k s[k] s[k + 1] hk1 hk2
    rw [if_pos h2, (ext_two s k h2).2]
    exact ⟨fun h => by rw [e, h], fun m h => ⟨h2, by rw [e, h]⟩⟩
  · rw [if_neg h2]
    exact ⟨fun _ => wts_one W (fstE (E.map El.pr)) s.data.toList k s[k] hk1 (by show k + 1 = s.size; omega), fun m h => by cases h⟩
set_option maxRecDepth 100000 in
set_option maxHeartbeats 8000000 in
theorem rweights_any (n lo up : ByteArray) (v1 v4 v5 : Value) (W : List Int) (C : List Cl) (E : List El) (s : ByteArray) (w : World) (hL : LocAt w v1 v4 v5 W C E) (hW : W.length = 256) (hE : E.length ≤ 64) (hs : s.size ≤ 1048576) :
    Calls Tryz.prog 32 #[lval n v1 lo up v4 v5, .string s] w fun e w' => ∃ v, e = .returned v ∧ Hid (IRow w' (w.heap.size + 1) v (wts W (fstE (E.map El.pr)) s.data.toList)) ∧ Hid (Below w.heap.size w w') := by
  have LO := Lib.hid hL
  have HEL := Lib.hid hE
  have HSZ := Lib.hid hs
  obtain ⟨gW, oW, cW, rfl, -, -, hgW, hcW⟩ := hL.r1.cons (by intro e; have := congrArg List.length e; simp [hW] at this)
  rw [List.length_map, hW] at LO ⊢
  have HC := Lib.hid hcW
  have HW := Lib.hid hW
  obtain ⟨a, capE, rfl, hE1, hE2, hE3⟩ := hL.r5
  rw [List.length_map] at hE1 LO ⊢
  have H3 := Lib.hid hE3
  have GW : Hid (gW < w.heap.size) := Lib.hid hgW
  have S0 : Hid (E3 w (w.alloc (.cells #[.string n, .slice (some ⟨gW, oW, none⟩) 256 cW, .string lo, .string up, v4, .slice a E.length capE] 26)) n lo up (.slice (some ⟨gW, oW, none⟩) 256 cW) v4 (.slice a E.length capE) W E s 0 (.slice none 0 0) []) := Lib.hid ⟨row_empty _ _, Below.refl _ _, rfl, Nat.le_refl _⟩
  clear hL hE hcW hW hE1 hE2 hE3 hgW
  go_enter Tryz.func32, Tryz.ntmps32
  go_wp2_with fail
  go_loopw [5, 6] (fun v i wr => ∃ (k : Nat) (L : List Int), k ≤ s.size ∧ i = .int .i64 k ∧ Hid (E3 w wr n lo up (.slice (some ⟨gW, oW, none⟩) 256 cW) v4 (.slice a E.length capE) W E s k v L)) (fun _ i _ => s.size - (intOf i).toNat)
  case atStart => exact ⟨0, _, Nat.zero_le _, rfl, S0⟩
  case round =>
    clear S0
    obtain ⟨k, L, hk, rfl, RK⟩ := hrel
    by_cases hlt : k < s.size
    · obtain ⟨l0, l1, l2, l3, l4, l5⟩ := lrow_cells RK.out.loc
      obtain ⟨WN, WS⟩ := wts_find W E s k hlt
      have HL : Hid (L.length + 1 ≤ 1048577) := Lib.hid (by have := RK.out.len; omega)
      have CF := Lib.hid (find_any n lo up (.slice (some ⟨gW, oW, none⟩) 256 cW) v4 (.slice a E.length capE) W C E s k wr (LO.out.below (qbelow_step RK.out.bel)) HEL.out HSZ.out hk)
      cases ho : fndO E s k with
      | none =>
        have WN := Lib.hid (WN ho)
        rw [ho] at CF
        clear WS ho
        go_wp2_with fail
        refine CF.out.mono ?_
        rintro e w1 ⟨hb1, rfl⟩
        have RK := Lib.hid (RK.out.later hb1)
        obtain ⟨-, l1, -, -, -, -⟩ := lrow_cells RK.out.loc
        obtain ⟨m, hm⟩ : ∃ m, W[s[k].toNat]? = some m := ⟨_, List.getElem?_eq_getElem (by rw [HW.out]; have := s[k].toNat_lt; omega)⟩
        have cw := ((qbelow_step RK.out.bel).cell (p := ⟨gW, oW + s[k].toNat * 1 + 0, none⟩) GW.out).trans (HC.out s[k].toNat _ (by rw [List.getElem?_map, hm]; rfl) 0 _ rfl)
        rw [Nat.mul_one, Nat.add_zero] at cw
        have h257 := s[k].toNat_lt
        have i6 : ((s[k].toNat : Nat) : Int) < 256 := by omega
        have i7 : (0 : Int) ≤ ((s[k].toNat : Nat) : Int) := by omega
        have WN : Hid (wts W (fstE (E.map El.pr)) (s.data.toList.drop k) = m :: wts W (fstE (E.map El.pr)) (s.data.toList.drop (k + 1))) := Lib.hid (by rw [WN.out, List.getD_eq_getElem?_getD, hm]; rfl)
        clear hm CF hb1
        have LE : Hid (w.heap.size + 1 ≤ w1.heap.size) := Lib.hid RK.out.le
        go_wp2_with fail
        go_region_law (refine step_int rfl (.tmp 18) (.tmp 26) rfl _ L m (w.heap.size + 1) w1.drew RK.out.row LE.out HL.out (by simp [Act.eval]) (by simp [Act.eval]) ?_; intro g2 cap2 w2 own2 bel2)
        all_goals go_wp2_with fail
        all_goals have RN := Lib.hid (RK.out.next own2.out ((Below.refl _ _).drew.trans bel2.out) (show k < k + 1 by omega) WN.out)
        all_goals clear own2 bel2 RK
        all_goals exact ⟨⟨k + 1, _, by omega, by go_num, RN⟩, by simp only [intOf]; omega⟩
      | some m =>
        obtain ⟨h2, wn⟩ := WS m ho
        have WN := Lib.hid wn
        rw [ho] at CF
        clear WS ho wn
        go_wp2_with fail
        refine CF.out.mono ?_
        rintro e w1 ⟨hb1, j, x, hx, rfl, rfl⟩
        have RK := Lib.hid (RK.out.later hb1)
        obtain ⟨-, -, -, -, -, l5⟩ := lrow_cells RK.out.loc
        obtain ⟨hj, -⟩ := List.getElem?_eq_some_iff.1 hx
        obtain ⟨g, o, rfl, hg, hcell⟩ : ∃ g o, a = some ⟨g, o, none⟩ ∧ g < w.heap.size ∧ ∀ (j : Nat) x, (E.map El.row)[j]? = some x → ∀ (i : Nat) y, x[i]? = some y → w.cell? ⟨g, o + j * 2 + i, none⟩ = some y := by
          rcases H3.out with h | h
          · have := congrArg List.length h; rw [List.length_map, List.length_nil] at this; omega
          · exact h
        have c1 := ((qbelow_step RK.out.bel).cell (p := ⟨g, o + j * 2 + 1, none⟩) hg).trans (hcell j _ (by rw [List.getElem?_map, hx]; rfl) 1 _ rfl)
        have LE : Hid (w.heap.size + 1 ≤ w1.heap.size) := Lib.hid RK.out.le
        clear hcell hx hg CF hb1
        go_wp2_with (at_builtin; refine append_int rfl _ _ rfl _ L x.w (w.heap.size + 1) _ _ RK.out.row (Below.refl _ _) LE.out HL.out rfl rfl ?_; intro g2 cap2 w2 own2 bel2 gr2 at2)
        have RN := Lib.hid (RK.out.next own2.out bel2.out (show k < k + 2 by omega) WN.out)
        clear own2 bel2 gr2 at2 RK
        go_roundw
        case rel => exact ⟨k + 2, _, by omega, by go_num, RN⟩
        case measure => simp [intOf]; omega
    · have ek : k = s.size := by omega
      subst ek
      have WE : Hid (L = wts W (fstE (E.map El.pr)) s.data.toList) := Lib.hid (by
        have h := RK.out.sum
        rw [List.drop_of_length_le (show s.data.toList.length ≤ s.size from Nat.le_refl _)] at h
        rw [← h]; simp [wts])
      go_wp2_with fail
      go_ret
      exact ⟨_, rfl, Lib.hid (by rw [← WE.out]; exact RK.out.row), Lib.hid (qbelow_step RK.out.bel)⟩
end Go.Proofs.YtjngkapfngempaaGreatDoor
/- walks: the order of two lists of numbers, of the bytes of two strings; Compare of the reference -/
namespace Go.Proofs.YtjngkapfngempaaGreatDoor
open Go.RowKit Go.Maps Go.WideMaps
open Lcl
set_option maxRecDepth 100000 in
set_option maxHeartbeats 8000000 in
theorem order_any (vx vy : Value) (X Y : List Int) (B B' : Nat) (w : World) (hX : IRow w B vx X) (hY : IRow w B' vy Y) (lX : X.length ≤ 1048576) (_lY : Y.length ≤ 1048576) :
    Calls Tryz.prog 31 #[vx, vy] w (CmpR (ordI X Y) w) := by
  obtain ⟨ax, capx, rfl, hcx⟩ := irow_cells hX
  obtain ⟨ay, capy, rfl, hcy⟩ := irow_cells hY
  have HCX := Lib.hid hcx
  have HCY := Lib.hid hcy
  clear hcx hcy hX hY
  go_enter Tryz.func31, Tryz.ntmps31
  go_wp2_with fail
  go_loopw [5] (fun i wr => ∃ k : Nat, k ≤ X.length ∧ k ≤ Y.length ∧ i = .int .i64 k ∧ Hid (X.take k = Y.take k) ∧ Hid (Below w.heap.size w wr)) (fun i _ => X.length - (intOf i).toNat)
  case atStart => exact ⟨0, Nat.zero_le _, Nat.zero_le _, rfl, Lib.hid rfl, Lib.hid (Below.refl _ _)⟩
  case round =>
    obtain ⟨k, hk1, hk2, rfl, TK, BK⟩ := hrel
    by_cases h1 : k < X.length
    · by_cases h2 : k < Y.length
      · obtain ⟨x, hx⟩ : ∃ x, X[k]? = some x := ⟨_, List.getElem?_eq_getElem h1⟩
        obtain ⟨y, hy⟩ : ∃ y, Y[k]? = some y := ⟨_, List.getElem?_eq_getElem h2⟩
        obtain ⟨g, rfl, hg, hc⟩ := HCX.out k x hx
        obtain ⟨g2, rfl, hg2, hc2⟩ := HCY.out k y hy
        have r1 := (BK.out.cell (p := ⟨g, k, none⟩) hg).trans hc
        have r2 := (BK.out.cell (p := ⟨g2, k, none⟩) hg2).trans hc2
        obtain ⟨o1, o2, o3⟩ := ordI_at TK.out hx hy
        clear hx hy hc hc2
        rcases (show x < y ∨ y < x ∨ x = y by omega) with hxy | hxy | hxy
        · have O := Lib.hid (o1 hxy)
          have t1 : decide (x < y) = true := decide_eq_true hxy
          clear o1 o2 o3 hxy
          go_wp2_with fail
          go_quiet (fail)
          go_wp2_with fail
          go_ret
          exact cmpr_mk (by rw [O.out]) (qbelow_drewN BK.out _)
        · have O := Lib.hid (o2 hxy)
          have t1 : decide (x < y) = false := decide_eq_false (by omega)
          have t2 : decide (y < x) = true := decide_eq_true hxy
          clear o1 o2 o3 hxy
          go_wp2_with fail
          go_quiet (fail)
          go_wp2_with fail
          go_quiet (fail)
          go_wp2_with fail
          go_ret
          exact cmpr_mk (by rw [O.out]) (qbelow_drewN (qbelow_drewN BK.out _) _)
        · have O := Lib.hid (o3 hxy)
          subst hxy
          have t1 : decide (x < x) = false := decide_eq_false (by omega)
          clear o1 o2 o3
          go_wp2_with fail
          go_quiet (fail)
          go_wp2_with fail
          go_quiet (fail)
          go_wp2_with fail
          go_roundw
          case rel => exact ⟨k + 1, h1, h2, by go_num, O, Lib.hid (qbelow_drewN BK.out _)⟩
          case measure => simp [intOf]; omega
      · obtain ⟨o1, o2, o3⟩ := ordI_end TK.out hk1 hk2 (by omega)
        have O := Lib.hid (o2 (by omega))
        have t1 : Y.length ≤ X.length := by omega
        have t2 : Y.length < X.length := by omega
        clear HCX HCY TK o1 o2 o3
        go_wp2_with fail
        go_ret
        exact cmpr_mk (by rw [O.out]) BK.out
    · obtain ⟨o1, o2, o3⟩ := ordI_end TK.out hk1 hk2 (by omega)
      rcases (show X.length < Y.length ∨ X.length = Y.length by omega) with hxy | hxy
      · have O := Lib.hid (o1 hxy)
        clear HCX HCY TK o1 o2 o3
        go_wp2_with fail
        go_ret
        exact cmpr_mk (by rw [O.out]) BK.out
      · have O := Lib.hid (o3 hxy)
        have t1 : Y.length ≤ X.length := by omega
        have t2 : X.length ≤ Y.length := by omega
        have HXY := Lib.hid hxy
        clear hxy HCX HCY TK o1 o2 o3
        go_wp2_with fail
        go_ret
        exact cmpr_mk (by rw [O.out]) BK.out
theorem bys_len (l : List UInt8) : (bys l).length = l.length := by simp [bys]
theorem bys_snoc (s : ByteArray) (k : Nat) (h : k < s.size) : bys (s.data.toList.take (k + 1)) = bys (s.data.toList.take k) ++ [(s[k].toNat : Int)] := by
  rw [take_b s k h]; simp [bys]
theorem bys_tlen (s : ByteArray) (k : Nat) (h : k ≤ s.size) : (bys (s.data.toList.take k)).length = k := by
  rw [bys_len, List.length_take]; show min k s.size = k; omega
set_option maxRecDepth 100000 in
set_option maxHeartbeats 8000000 in
theorem rbytes_any (a b : ByteArray) (w : World) (ha : a.size ≤ 1048576) (hb : b.size ≤ 1048576) :
    Calls Tryz.prog 33 #[.string a, .string b] w (CmpR (ordI (bys a.data.toList) (bys b.data.toList)) w) := by
  go_enter Tryz.func33, Tryz.ntmps33
  go_wp2_with fail
  go_loopw [5, 7] (fun v i wr => ∃ k : Nat, k ≤ a.size ∧ i = .int .i64 k ∧ Hid (IRow wr w.heap.size v (bys (a.data.toList.take k))) ∧ Hid (Below w.heap.size w wr)) (fun _ i _ => a.size - (intOf i).toNat)
  case atStart => exact ⟨0, Nat.zero_le _, rfl, Lib.hid (row_empty _ _), Lib.hid (Below.refl _ _)⟩
  case round =>
    obtain ⟨k, hk, rfl, RK, BK⟩ := hrel
    by_cases hlt : k < a.size
    · have SN := Lib.hid (bys_snoc a k hlt)
      have HL : Hid ((bys (a.data.toList.take k)).length + 1 ≤ 1048577) := Lib.hid (by rw [bys_tlen a k hk]; omega)
      have h257 := a[k].toNat_lt
      have LE : Hid (w.heap.size ≤ wr.heap.size) := Lib.hid BK.out.size
      go_wp2_with (at_builtin; refine append_int rfl _ _ rfl _ _ (a[k].toNat : Int) w.heap.size w _ RK.out BK.out LE.out HL.out rfl rfl ?_; intro g2 cap2 w2 own2 bel2 gr2 at2)
      have RN : Hid (IRow w2 w.heap.size (.slice (some ⟨g2, 0, none⟩) ((bys (a.data.toList.take k)).length + 1) cap2) (bys (a.data.toList.take (k + 1)))) := Lib.hid (by rw [SN.out]; exact own2.out)
      clear own2 gr2 at2 RK SN
      go_roundw
      case rel => exact ⟨k + 1, by omega, by go_num, RN, bel2⟩
      case measure => simp [intOf]; omega
    · have ek : k = a.size := by omega
      subst ek
      have R1 : Hid (IRow wr w.heap.size u5 (bys a.data.toList)) := Lib.hid (by have h := RK.out; rw [List.take_of_length_le (show a.data.toList.length ≤ a.size from Nat.le_refl _)] at h; exact h)
      clear RK
      rename World => wo
      go_wp2_with fail
      go_loopw [6, 8] (fun v i wq => ∃ k : Nat, k ≤ b.size ∧ i = .int .i64 k ∧ Hid (IRow wq wo.heap.size v (bys (b.data.toList.take k))) ∧ Hid (Below wo.heap.size wo wq)) (fun _ i _ => b.size - (intOf i).toNat)
      case atStart => exact ⟨0, Nat.zero_le _, rfl, Lib.hid (row_empty _ _), Lib.hid (Below.refl _ _)⟩
      case round =>
        obtain ⟨k, hk, rfl, RK, BQ⟩ := hrel
        by_cases hlt : k < b.size
        · have SN := Lib.hid (bys_snoc b k hlt)
          have HL : Hid ((bys (b.data.toList.take k)).length + 1 ≤ 1048577) := Lib.hid (by rw [bys_tlen b k hk]; omega)
          have h257 := b[k].toNat_lt
          have LE : Hid (wo.heap.size ≤ wr.heap.size) := Lib.hid BQ.out.size
          go_wp2_with (at_builtin; refine append_int rfl _ _ rfl _ _ (b[k].toNat : Int) wo.heap.size wo _ RK.out BQ.out LE.out HL.out rfl rfl ?_; intro g2 cap2 w2 own2 bel2 gr2 at2)
          have RN : Hid (IRow w2 wo.heap.size (.slice (some ⟨g2, 0, none⟩) ((bys (b.data.toList.take k)).length + 1) cap2) (bys (b.data.toList.take (k + 1)))) := Lib.hid (by rw [SN.out]; exact own2.out)
          clear own2 gr2 at2 RK SN
          go_roundw
          case rel => exact ⟨k + 1, by omega, by go_num, RN, bel2⟩
          case measure => simp [intOf]; omega
        · have ek : k = b.size := by omega
          subst ek
          have R2 : Hid (IRow wr wo.heap.size u6 (bys b.data.toList)) := Lib.hid (by have h := RK.out; rw [List.take_of_length_le (show b.data.toList.length ≤ b.size from Nat.le_refl _)] at h; exact h)
          have LA : Hid ((bys a.data.toList).length ≤ 1048576) := Lib.hid (by rw [bys_len]; exact ha)
          have LB : Hid ((bys b.data.toList).length ≤ 1048576) := Lib.hid (by rw [bys_len]; exact hb)
          clear RK
          go_wp2_with fail
          refine (order_any _ _ (bys a.data.toList) (bys b.data.toList) w.heap.size wo.heap.size wr (irow_below R1.out BQ.out) R2.out LA.out LB.out).mono ?_
          rintro e w3 ⟨rfl, hb3⟩
          go_wp2_with fail
          go_ret
          exact cmpr_mk rfl ((BK.out.trans (BQ.out.mono BK.out.size)).trans (hb3.mono (Nat.le_trans BK.out.size BQ.out.size)))
theorem keepL {w2 w' : World} {q : Nat} {n lo up : ByteArray} {v1 v4 v5 : Value} {T : TypeId} (h : w2.heap[q]? = some (.cells #[.string n, v1, .string lo, .string up, v4, v5] T (0, 0))) (hb : Below w2.heap.size w2 w') : Below w2.heap.size w2 w' ∧ w'.cell? ⟨q, 0, none⟩ = some (.string n) ∧ w'.cell? ⟨q, 1, none⟩ = some v1 ∧ w'.cell? ⟨q, 2, none⟩ = some (.string lo) ∧ w'.cell? ⟨q, 3, none⟩ = some (.string up) ∧ w'.cell? ⟨q, 4, none⟩ = some v4 ∧ w'.cell? ⟨q, 5, none⟩ = some v5 := by
  have hw : w'.heap[q]? = some (.cells #[.string n, v1, .string lo, .string up, v4, v5] T (0, 0)) := by rw [hb.block q (Array.getElem?_eq_some_iff.1 h).1]; exact h
  obtain ⟨d0, d1, d2, d3, d4, d5⟩ := lrow_cells hw
  exact ⟨hb, d0, d1, d2, d3, d4, d5⟩
theorem order_is (c : Int) (vx vy : Value) (X Y : List Int) (B B' : Nat) (w : World) (hc : Hid (ordI X Y = c)) (hX : IRow w B vx X) (hY : IRow w B' vy Y) (lX : X.length ≤ 1048576) (lY : Y.length ≤ 1048576) :
    Calls Tryz.prog 31 #[vx, vy] w (CmpR c w) := by
  rw [← hc.out]; exact order_any vx vy X Y B B' w hX hY lX lY
set_option maxRecDepth 100000 in
set_option maxHeartbeats 8000000 in
theorem rcompare_any (n : ByteArray) (v1 : Value) (lo up : ByteArray) (v4 v5 : Value) (W : List Int) (C : List Cl) (E : List El) (a b : ByteArray) (w : World) (hL : LocAt w v1 v4 v5 W C E) (hn : n.size ≤ 9223372036854775807) (ha : a.size ≤ 1048576) (hb : b.size ≤ 1048576) :
    Calls Tryz.prog 13 #[lval n v1 lo up v4 v5, .string a, .string b] w (CmpR (locC n W lo up C E a b) w) := by
  have LO := Lib.hid (hL.below ((Below.refl w.heap.size w).alloc (Nat.le_refl _) (.cells #[.string n, v1, .string lo, .string up, v4, v5] 26))); clear hL
  have ZN := Lib.hid hn; clear hn
  have SA := Lib.hid ha; clear ha
  have SB := Lib.hid hb; clear hb
  obtain ⟨kw, ke⟩ := ok_facts n W lo up C E
  have VA := Lib.hid (qrvalid_any n v1 lo up v4 v5 W C E _ LO.out ZN.out)
  unfold locC
  obtain ⟨ok, hok⟩ : ∃ b, okL n W lo up C E = b := ⟨_, rfl⟩
  rw [hok] at VA kw ke ⊢
  clear hok
  obtain ⟨W', hW'⟩ : ∃ W', eL ok W (wtab 256) = W' := ⟨_, rfl⟩
  obtain ⟨E', hE'⟩ : ∃ E', eL ok E [] = E' := ⟨_, rfl⟩
  rw [hW'] at kw ⊢
  rw [hE'] at ke ⊢
  have HW' := Lib.hid hW'
  have HE' := Lib.hid hE'
  have KW := Lib.hid kw
  have KE := Lib.hid (elsOk_B ke).2
  clear hW' hE' kw ke
  go_enter Tryz.func13, Tryz.ntmps13
  go_wp2_with fail
  refine VA.out.mono ?_
  intro e w1 h1
  obtain ⟨n', v1', v4', v5', rfl, LV, hb1⟩ := vout_is h1
  clear h1
  rw [HW'.out, HE'.out] at LV
  obtain ⟨a1', c1', ee1, -⟩ := LV.out.r1
  obtain ⟨a4', c4', ee4, -⟩ := LV.out.r4
  obtain ⟨a5', c5', ee5, -⟩ := LV.out.r5
  rw [List.length_map] at ee1 ee4 ee5
  subst ee1 ee4 ee5
  obtain ⟨lo', hlo⟩ : ∃ x, eS ok lo (ltab 256) = x := ⟨_, rfl⟩
  obtain ⟨up', hup⟩ : ∃ x, eS ok up (utab 256) = x := ⟨_, rfl⟩
  rw [hlo, hup]
  clear hlo hup
  have q1 : w1.heap[w.heap.size]? = some (.cells #[.string n, v1, .string lo, .string up, v4, v5] 26 (0, 0)) := by
    rw [hb1.out.block _ (by rw [World.size_alloc]; omega)]; exact heap_alloc_new _ _
  have NI := six_none q1 (not_int LO.out.r1) (not_int LO.out.r4) (not_int LO.out.r5)
  obtain ⟨d0, d1, d2, d3, d4, d5⟩ := lrow_cells q1
  have e0 := lrow_frozen q1 0
  have e1 := lrow_frozen q1 1
  have e2 := lrow_frozen q1 2
  have e3 := lrow_frozen q1 3
  have e4 := lrow_frozen q1 4
  have e5 := lrow_frozen q1 5
  have blk8 := six_set (a := .string n') (b := .slice a1' W'.length c1') (c := .string lo') (d := .string up') (e := .slice a4' (eL ok C []).length c4') (f := .slice a5' E'.length c5') q1
  have LW := Lib.hid (loc_off LV.out (fun g hg => six_other (a := .string n') (b := .slice a1' W'.length c1') (c := .string lo') (d := .string up') (e := .slice a4' (eL ok C []).length c4') (f := .slice a5' E'.length c5') hg) (by simp only [World.size_setCell]; exact Nat.le_refl _) NI)
  have BZ := Lib.hid <| six_below (g := w.heap.size) (a := .string n') (b := .slice a1' W'.length c1') (c := .string lo') (d := .string up') (e := .slice a4' (eL ok C []).length c4') (f := .slice a5' E'.length c5') (qbelow_step hb1.out) (Nat.le_refl _)
  have BK := Lib.hid blk8
  clear q1 NI blk8 LV hb1
  go_upto_region 2 with (fail)
  obtain ⟨w2, hw2⟩ : ∃ w2, ((((((w1.setCell ⟨w.heap.size, 0, none⟩ (.string n')).setCell ⟨w.heap.size, 1, none⟩ (.slice a1' W'.length c1')).setCell ⟨w.heap.size, 2, none⟩ (.string lo')).setCell ⟨w.heap.size, 3, none⟩ (.string up')).setCell ⟨w.heap.size, 4, none⟩ (.slice a4' (eL ok C []).length c4')).setCell ⟨w.heap.size, 5, none⟩ (.slice a5' E'.length c5')) = w2 := ⟨_, rfl⟩
  rw [hw2] at BK LW BZ ⊢
  clear hw2 d0 d1 d2 d3 d4 d5 e0 e1 e2 e3 e4 e5
  go_wp2_with fail
  obtain ⟨X, hX⟩ : ∃ X, wts W' (fstE (E'.map El.pr)) a.data.toList = X := ⟨_, rfl⟩
  obtain ⟨Y, hY⟩ : ∃ Y, wts W' (fstE (E'.map El.pr)) b.data.toList = Y := ⟨_, rfl⟩
  have CS : Hid (cmpS W' (fstE (E'.map El.pr)) a.data.toList b.data.toList = if ordI X Y = 0 then ordI (bys a.data.toList) (bys b.data.toList) else ordI X Y) := Lib.hid (by unfold cmpS; rw [hX, hY])
  have mX := wts_len W' (fstE (E'.map El.pr)) _ a.data.toList (Nat.le_refl _)
  have mY := wts_len W' (fstE (E'.map El.pr)) _ b.data.toList (Nat.le_refl _)
  rw [hX] at mX
  rw [hY] at mY
  have LX : Hid (X.length ≤ 1048576) := Lib.hid (Nat.le_trans mX SA.out)
  have LY : Hid (Y.length ≤ 1048576) := Lib.hid (Nat.le_trans mY SB.out)
  have CA : Hid (∀ w', LocAt w' (.slice a1' W'.length c1') (.slice a4' (eL ok C []).length c4') (.slice a5' E'.length c5') W' (eL ok C []) E' → Calls Tryz.prog 32 #[.agg #[.string n', .slice a1' W'.length c1', .string lo', .string up', .slice a4' (eL ok C []).length c4', .slice a5' E'.length c5'], .string a] w' fun e w'' => ∃ v, e = .returned v ∧ Hid (IRow w'' (w'.heap.size + 1) v X) ∧ Hid (Below w'.heap.size w' w'')) := Lib.hid fun w' h => by
    rw [← hX]; exact rweights_any n' lo' up' _ _ _ W' _ E' a w' h KW.out KE.out SA.out
  have CB : Hid (∀ w', LocAt w' (.slice a1' W'.length c1') (.slice a4' (eL ok C []).length c4') (.slice a5' E'.length c5') W' (eL ok C []) E' → Calls Tryz.prog 32 #[.agg #[.string n', .slice a1' W'.length c1', .string lo', .string up', .slice a4' (eL ok C []).length c4', .slice a5' E'.length c5'], .string b] w' fun e w'' => ∃ v, e = .returned v ∧ Hid (IRow w'' (w'.heap.size + 1) v Y) ∧ Hid (Below w'.heap.size w' w'')) := Lib.hid fun w' h => by
    rw [← hY]; exact rweights_any n' lo' up' _ _ _ W' _ E' b w' h KW.out KE.out SB.out
  obtain ⟨c, hc⟩ : ∃ c, ordI X Y = c := ⟨_, rfl⟩
  rw [hc] at CS
  have OC := Lib.hid hc
  have BQ := Lib.hid BK.out
  have S0 := keepL BK.out ((Below.refl _ _).drew)
  clear hX hY mX mY hc HW' HE' KW KE BK VA LO
  by_cases hc0 : c = 0
  · subst hc0
    go_region_held3 (fun w' => Below w2.heap.size w2 w' ∧ w'.cell? ⟨w.heap.size, 0, none⟩ = some (.string n') ∧ w'.cell? ⟨w.heap.size, 1, none⟩ = some (.slice a1' W'.length c1') ∧ w'.cell? ⟨w.heap.size, 2, none⟩ = some (.string lo') ∧ w'.cell? ⟨w.heap.size, 3, none⟩ = some (.string up') ∧ w'.cell? ⟨w.heap.size, 4, none⟩ = some (.slice a4' (eL ok C []).length c4') ∧ w'.cell? ⟨w.heap.size, 5, none⟩ = some (.slice a5' E'.length c5')) (first | exact S0)
      (first
        | (go_at_call 32; (with_reducible refine (CA.out _ (LW.out.below S0.1)).mono ?_); rintro e w' ⟨x, rfl, R1, hb⟩; have S0 := keepL BQ.out (S0.1.trans (hb.out.mono S0.1.size)))
        | (go_at_call 32; (with_reducible refine (CB.out _ (LW.out.below S0.1)).mono ?_); rintro e w' ⟨y, rfl, R2, hb⟩; have S0 := keepL BQ.out (S0.1.trans (hb.out.mono S0.1.size)); have R1 := Lib.hid (irow_below R1.out hb.out))
        | (go_at_call 31; (with_reducible refine (order_is 0 _ _ X Y _ _ _ OC R1.out R2.out LX.out LY.out).mono ?_); rintro e w' ⟨rfl, hb⟩; have S0 := keepL BQ.out (S0.1.trans (hb.mono S0.1.size))))
    have SB1 := Lib.hid S0.1
    clear S0
    go_wp2_with fail
    refine (rbytes_any a b _ SA.out SB.out).mono ?_
    rintro e w3 ⟨rfl, hb3⟩
    go_wp2_with fail
    go_ret
    exact cmpr_mk (by rw [CS.out, if_pos trivial]) (BZ.out.trans ((SB1.out.trans (hb3.mono SB1.out.size)).mono BZ.out.size))
  · have t : (c != 0) = true := by rw [bne_iff_ne]; exact hc0
    have HC0 := Lib.hid hc0
    clear hc0
    go_region_held3 (fun w' => Below w2.heap.size w2 w' ∧ w'.cell? ⟨w.heap.size, 0, none⟩ = some (.string n') ∧ w'.cell? ⟨w.heap.size, 1, none⟩ = some (.slice a1' W'.length c1') ∧ w'.cell? ⟨w.heap.size, 2, none⟩ = some (.string lo') ∧ w'.cell? ⟨w.heap.size, 3, none⟩ = some (.string up') ∧ w'.cell? ⟨w.heap.size, 4, none⟩ = some (.slice a4' (eL ok C []).length c4') ∧ w'.cell? ⟨w.heap.size, 5, none⟩ = some (.slice a5' E'.length c5')) (first | exact S0)
      (first
        | (go_at_call 32; (with_reducible refine (CA.out _ (LW.out.below S0.1)).mono ?_); rintro e w' ⟨x, rfl, R1, hb⟩; have S0 := keepL BQ.out (S0.1.trans (hb.out.mono S0.1.size)))
        | (go_at_call 32; (with_reducible refine (CB.out _ (LW.out.below S0.1)).mono ?_); rintro e w' ⟨y, rfl, R2, hb⟩; have S0 := keepL BQ.out (S0.1.trans (hb.out.mono S0.1.size)); have R1 := Lib.hid (irow_below R1.out hb.out))
        | (go_at_call 31; (with_reducible refine (order_is c _ _ X Y _ _ _ OC R1.out R2.out LX.out LY.out).mono ?_); rintro e w' ⟨rfl, hb⟩; have S0 := keepL BQ.out (S0.1.trans (hb.mono S0.1.size))))
    have SB1 := Lib.hid S0.1
    clear S0
    go_wp2_with fail
    go_ret
    exact cmpr_mk (by rw [CS.out, if_neg HC0.out]) (BZ.out.trans (SB1.out.mono BZ.out.size))
end Go.Proofs.YtjngkapfngempaaGreatDoor
/- walks: comparison of values, the program's -/
namespace Go.Proofs.YtjngkapfngempaaGreatDoor
open Go.RowKit
open Dcm Byt Vl Lcl
theorem fmt_len (d : Int) : (fmtL d).length ≤ 100 := by
  have h1 := near_lo d
  have h2 := near_hi d
  have h3 := dec_size ((near d).natAbs / 10000) (by omega)
  have h4 : (trimZ (low 4 ((near d).natAbs % 10000))).length ≤ 4 := by
    unfold trimZ
    have := (List.dropWhile_sublist (fun c : UInt8 => c == 48) (l := (low 4 ((near d).natAbs % 10000)).reverse)).length_le
    rw [List.length_reverse] at this ⊢
    rw [low_length] at this; exact this
  unfold fmtL
  simp only [List.length_append]
  split <;> split <;> simp only [List.length_cons, List.length_nil] <;> omega
theorem text_size (k n : Int) (s : ByteArray) (hs : s.size ≤ 1048576) : (textB k n s).size ≤ 1048576 := by
  unfold textB
  split
  · have := fmt_len (near n)
    show (fmtL (near n)).length ≤ 1048576; omega
  · split
    · exact hs
    · show 0 ≤ 1048576; omega
theorem cmp3_swap (x y : Int) : cmp3 y x = - cmp3 x y := by unfold cmp3; split <;> split <;> (try split) <;> omega
theorem cmp3_self (x : Int) : cmp3 x x = 0 := by unfold cmp3; rw [if_neg (by omega), if_neg (by omega)]
theorem cmp3_vals (x y : Int) : cmp3 x y = -1 ∨ cmp3 x y = 0 ∨ cmp3 x y = 1 := by unfold cmp3; split <;> (try split) <;> omega
theorem cmp3_trans (x y z : Int) (h1 : cmp3 x y ≤ 0) (h2 : cmp3 y z ≤ 0) : cmp3 x z ≤ 0 ∧ (cmp3 x z = 0 → cmp3 x y = 0 ∧ cmp3 y z = 0) := by
  have a : x ≤ y := by unfold cmp3 at h1; split at h1 <;> (try split at h1) <;> omega
  have b : y ≤ z := by unfold cmp3 at h2; split at h2 <;> (try split at h2) <;> omega
  refine ⟨?_, fun h => ?_⟩
  · unfold cmp3; split <;> (try split) <;> omega
  · have e : x = y ∧ y = z := by unfold cmp3 at h; split at h <;> (try split at h) <;> omega
    obtain ⟨rfl, rfl⟩ := e
    exact ⟨cmp3_self _, cmp3_self _⟩
/-- the comparison of two values -/
def valC (n : ByteArray) (W : List Int) (lo up : ByteArray) (C : List Cl) (E : List El) (k1 n1 : Int) (s1 : ByteArray) (k2 n2 : Int) (s2 : ByteArray) : Int :=
  if k1 ≠ 2 ∧ k2 ≠ 2 then cmp3 (numV k1 n1 s1.data.toList) (numV k2 n2 s2.data.toList) else locC n W lo up C E (textB k1 n1 s1) (textB k2 n2 s2)
theorem valC_num {n : ByteArray} {W : List Int} {lo up : ByteArray} {C : List Cl} {E : List El} {k1 n1 : Int} {s1 : ByteArray} {k2 n2 : Int} {s2 : ByteArray} (h : k1 ≠ 2 ∧ k2 ≠ 2) : valC n W lo up C E k1 n1 s1 k2 n2 s2 = cmp3 (numV k1 n1 s1.data.toList) (numV k2 n2 s2.data.toList) := if_pos h
theorem valC_txt {n : ByteArray} {W : List Int} {lo up : ByteArray} {C : List Cl} {E : List El} {k1 n1 : Int} {s1 : ByteArray} {k2 n2 : Int} {s2 : ByteArray} (h : k1 = 2 ∨ k2 = 2) : valC n W lo up C E k1 n1 s1 k2 n2 s2 = locC n W lo up C E (textB k1 n1 s1) (textB k2 n2 s2) := if_neg (fun h' => h.elim h'.1 h'.2)
theorem valC_swap (n : ByteArray) (W : List Int) (lo up : ByteArray) (C : List Cl) (E : List El) (k1 n1 : Int) (s1 : ByteArray) (k2 n2 : Int) (s2 : ByteArray) : valC n W lo up C E k2 n2 s2 k1 n1 s1 = - valC n W lo up C E k1 n1 s1 k2 n2 s2 := by
  by_cases h : k1 ≠ 2 ∧ k2 ≠ 2
  · rw [valC_num h, valC_num h.symm]; exact cmp3_swap _ _
  · rw [valC_txt (by omega), valC_txt (by omega)]; exact cmpS_swap _ _ _ _
theorem locC_self (n : ByteArray) (W : List Int) (lo up : ByteArray) (C : List Cl) (E : List El) (a : ByteArray) : locC n W lo up C E a a = 0 := cmpS_refl _ _ _
theorem keepV {w w' : World} {n lo up : ByteArray} {v1 v4 v5 : Value} {k1 n1 k2 n2 : Int} {s1 s2 : ByteArray} (h : Below (((w.alloc (.cells #[.string n, v1, .string lo, .string up, v4, v5] 26)).alloc (.cells #[.int .i64 k1, .int .i64 n1, .string s1] 29)).alloc (.cells #[.int .i64 k2, .int .i64 n2, .string s2] 29)).heap.size (((w.alloc (.cells #[.string n, v1, .string lo, .string up, v4, v5] 26)).alloc (.cells #[.int .i64 k1, .int .i64 n1, .string s1] 29)).alloc (.cells #[.int .i64 k2, .int .i64 n2, .string s2] 29)) w') : Below (((w.alloc (.cells #[.string n, v1, .string lo, .string up, v4, v5] 26)).alloc (.cells #[.int .i64 k1, .int .i64 n1, .string s1] 29)).alloc (.cells #[.int .i64 k2, .int .i64 n2, .string s2] 29)).heap.size (((w.alloc (.cells #[.string n, v1, .string lo, .string up, v4, v5] 26)).alloc (.cells #[.int .i64 k1, .int .i64 n1, .string s1] 29)).alloc (.cells #[.int .i64 k2, .int .i64 n2, .string s2] 29)) w' ∧ w'.cell? ⟨w.heap.size, 0, none⟩ = some (.string n) ∧ w'.cell? ⟨w.heap.size, 1, none⟩ = some v1 ∧ w'.cell? ⟨w.heap.size, 2, none⟩ = some (.string lo) ∧ w'.cell? ⟨w.heap.size, 3, none⟩ = some (.string up) ∧ w'.cell? ⟨w.heap.size, 4, none⟩ = some v4 ∧ w'.cell? ⟨w.heap.size, 5, none⟩ = some v5 ∧ w'.cell? ⟨w.heap.size + 1, 0, none⟩ = some (.int .i64 k1) ∧ w'.cell? ⟨w.heap.size + 1, 1, none⟩ = some (.int .i64 n1) ∧ w'.cell? ⟨w.heap.size + 1, 2, none⟩ = some (.string s1) ∧ w'.cell? ⟨w.heap.size + 1 + 1, 0, none⟩ = some (.int .i64 k2) ∧ w'.cell? ⟨w.heap.size + 1 + 1, 1, none⟩ = some (.int .i64 n2) ∧ w'.cell? ⟨w.heap.size + 1 + 1, 2, none⟩ = some (.string s2) := by
  obtain ⟨-, c0, c1, c2, d0, d1, d2⟩ := keepC h
  have q : w'.heap[w.heap.size]? = some (.cells #[.string n, v1, .string lo, .string up, v4, v5] 26 (0, 0)) := by
    rw [h.block _ (by simp only [World.size_alloc]; omega), Below.heap_alloc _ _ _ (by simp only [World.size_alloc]; omega), Below.heap_alloc _ _ _ (by simp only [World.size_alloc]; omega)]
    exact heap_alloc_new _ _
  obtain ⟨b0, b1, b2, b3, b4, b5⟩ := lrow_cells q
  exact ⟨h, b0, b1, b2, b3, b4, b5, c0, c1, c2, d0, d1, d2⟩
theorem compare_is (n : ByteArray) (v1 : Value) (lo up : ByteArray) (v4 v5 : Value) (W : List Int) (C : List Cl) (E : List El) (a b : ByteArray) (c : Int) (w : World) (hc : Hid (locC n W lo up C E a b = c)) (hL : LocAt w v1 v4 v5 W C E) (hn : n.size ≤ 9223372036854775807) (ha : a.size ≤ 1048576) (hb : b.size ≤ 1048576) :
    Calls Tryz.prog 10 #[.agg #[.string n, v1, .string lo, .string up, v4, v5], .string a, .string b] w (CmpR c w) := by
  rw [← hc.out]; exact compare_any n v1 lo up v4 v5 W C E a b w hL hn ha hb
set_option maxHeartbeats 8000000 in
theorem vcompare_txt (n lo up : ByteArray) (v1 v4 v5 : Value) (W : List Int) (C : List Cl) (E : List El) (k1 n1 k2 n2 c : Int) (s1 s2 t1 t2 : ByteArray) (w : World) (hL : LocAt w v1 v4 v5 W C E) (hn : n.size ≤ 9223372036854775807) (ht : Tab w) (h : k1 = 2 ∨ k2 = 2) (z1 : t1.size ≤ 1048576) (z2 : t2.size ≤ 1048576)
    (x1 : textB k1 n1 s1 = t1) (x2 : textB k2 n2 s2 = t2) (hc : locC n W lo up C E t1 t2 = c) :
    Calls Tryz.prog 4 #[.agg #[.string n, v1, .string lo, .string up, v4, v5], .agg #[.int .i64 k1, .int .i64 n1, .string s1], .agg #[.int .i64 k2, .int .i64 n2, .string s2]] w (CmpR c w) := by
  have LO := Lib.hid hL
  have T := Lib.hid ht
  have ZN := Lib.hid hn
  have Z1 := Lib.hid z1
  have Z2 := Lib.hid z2
  have X1 := Lib.hid x1
  have X2 := Lib.hid x2
  have HC := Lib.hid hc
  clear hL ht hn z1 z2 x1 x2 hc
  by_cases hk : (k1 = k2 ∧ n1 = n2) ∧ s1 = s2
  · obtain ⟨⟨rfl, rfl⟩, rfl⟩ := hk
    obtain rfl : k1 = 2 := by omega
    obtain rfl : t1 = t2 := by rw [← X1.out, ← X2.out]
    have e : c = 0 := by rw [← HC.out]; exact locC_self n W lo up C E t1
    have E0 := Lib.hid e
    have KB : Hid (decide ((1 : Int) ≤ 2 ∧ (2 : Int) ≤ 3) = true) := Lib.hid (by decide)
    have S0 := keepC (w := w) (o := .cells #[.string n, v1, .string lo, .string up, v4, v5] 26) (k1 := 2) (n1 := n1) (k2 := 2) (n2 := n1) (s1 := s1) (s2 := s1) ((Below.refl _ _))
    clear e h
    go_enter Tryz.func4, Tryz.ntmps4
    go_wp2_with (first | (go_at_call 7; refine (known_any 2 n1 s1 true _ KB).mono ?_; rintro e w1 ⟨rfl, hb1⟩))
    go_ret
    exact cmpr_mk E0.out.symm (below_three hb1)
  · have hc : (k1 ≠ k2) ∨ (k1 = k2 ∧ n1 ≠ n2) ∨ ((k1 = k2 ∧ n1 = n2) ∧ s1.toList ≠ s2.toList) := by
      by_cases e1 : k1 = k2
      · by_cases e2 : n1 = n2
        · refine .inr (.inr ⟨⟨e1, e2⟩, fun e3 => hk ⟨⟨e1, e2⟩, ?_⟩⟩)
          rcases s1 with ⟨⟨l1⟩⟩; rcases s2 with ⟨⟨l2⟩⟩
          rw [Lib.toList_data, Lib.toList_data] at e3
          exact congrArg (fun l => ByteArray.mk ⟨l⟩) e3
        · exact .inr (.inl ⟨e1, e2⟩)
      · exact .inl e1
    clear hk
    rcases hc with hc | ⟨rfl, hc⟩ | ⟨⟨rfl, rfl⟩, hc⟩
    · by_cases h2 : k1 = 2
      · subst h2
        clear h
        have S0 := keepV (w := w) (n := n) (lo := lo) (up := up) (v1 := v1) (v4 := v4) (v5 := v5) (k1 := 2) (n1 := n1) (k2 := k2) (n2 := n2) (s1 := s1) (s2 := s2) ((Below.refl _ _).drew)
        have C0 := keepV (w := w) (n := n) (lo := lo) (up := up) (v1 := v1) (v4 := v4) (v5 := v5) (k1 := 2) (n1 := n1) (k2 := k2) (n2 := n2) (s1 := s1) (s2 := s2) (Below.refl _ _)
        obtain ⟨-, -, -, -, -, -, -, c0, c1, c2, d0, d1, d2⟩ := C0
        go_enter Tryz.func4, Tryz.ntmps4
        go_wp2_with fail
        clear c0 c1 c2 d0 d1 d2
        go_region_held3 (fun w' => Below (((w.alloc (.cells #[.string n, v1, .string lo, .string up, v4, v5] 26)).alloc (.cells #[.int .i64 2, .int .i64 n1, .string s1] 29)).alloc (.cells #[.int .i64 k2, .int .i64 n2, .string s2] 29)).heap.size (((w.alloc (.cells #[.string n, v1, .string lo, .string up, v4, v5] 26)).alloc (.cells #[.int .i64 2, .int .i64 n1, .string s1] 29)).alloc (.cells #[.int .i64 k2, .int .i64 n2, .string s2] 29)) w' ∧ w'.cell? ⟨w.heap.size, 0, none⟩ = some (.string n) ∧ w'.cell? ⟨w.heap.size, 1, none⟩ = some v1 ∧ w'.cell? ⟨w.heap.size, 2, none⟩ = some (.string lo) ∧ w'.cell? ⟨w.heap.size, 3, none⟩ = some (.string up) ∧ w'.cell? ⟨w.heap.size, 4, none⟩ = some v4 ∧ w'.cell? ⟨w.heap.size, 5, none⟩ = some v5 ∧ w'.cell? ⟨w.heap.size + 1, 0, none⟩ = some (.int .i64 2) ∧ w'.cell? ⟨w.heap.size + 1, 1, none⟩ = some (.int .i64 n1) ∧ w'.cell? ⟨w.heap.size + 1, 2, none⟩ = some (.string s1) ∧ w'.cell? ⟨w.heap.size + 1 + 1, 0, none⟩ = some (.int .i64 k2) ∧ w'.cell? ⟨w.heap.size + 1 + 1, 1, none⟩ = some (.int .i64 n2) ∧ w'.cell? ⟨w.heap.size + 1 + 1, 2, none⟩ = some (.string s2)) (first | exact S0)
          (first
            | (go_at_call 11; (with_reducible refine (text_at 2 n1 s1 t1 _ (tab_below T.out (below_three S0.1)) X1.out).mono ?_); rintro e w' ⟨rfl, hb⟩; have S0 := keepV (S0.1.trans (hb.mono S0.1.size)))
            | (go_at_call 11; (with_reducible refine (text_at k2 n2 s2 t2 _ (tab_below T.out (below_three S0.1)) X2.out).mono ?_); rintro e w' ⟨rfl, hb⟩; have S0 := keepV (S0.1.trans (hb.mono S0.1.size)))
            | (go_at_call 10; (with_reducible refine (compare_is n v1 lo up v4 v5 W C E t1 t2 c _ HC (LO.out.below (below_three S0.1)) ZN.out Z1.out Z2.out).mono ?_); rintro e w' ⟨rfl, hb⟩; have S0 := keepV (S0.1.trans (hb.mono S0.1.size))))
        go_wp2_with fail
        go_ret
        exact cmpr_mk rfl (below_three S0.1)
      · obtain rfl : k2 = 2 := by omega
        have tk : (k1 != 2) = true := by rw [bne_iff_ne]; exact h2
        clear h h2
        have S0 := keepV (w := w) (n := n) (lo := lo) (up := up) (v1 := v1) (v4 := v4) (v5 := v5) (k1 := k1) (n1 := n1) (k2 := 2) (n2 := n2) (s1 := s1) (s2 := s2) ((Below.refl _ _).drew)
        have C0 := keepV (w := w) (n := n) (lo := lo) (up := up) (v1 := v1) (v4 := v4) (v5 := v5) (k1 := k1) (n1 := n1) (k2 := 2) (n2 := n2) (s1 := s1) (s2 := s2) (Below.refl _ _)
        obtain ⟨-, -, -, -, -, -, -, c0, c1, c2, d0, d1, d2⟩ := C0
        go_enter Tryz.func4, Tryz.ntmps4
        go_wp2_with fail
        clear c0 c1 c2 d0 d1 d2
        go_region_held3 (fun w' => Below (((w.alloc (.cells #[.string n, v1, .string lo, .string up, v4, v5] 26)).alloc (.cells #[.int .i64 k1, .int .i64 n1, .string s1] 29)).alloc (.cells #[.int .i64 2, .int .i64 n2, .string s2] 29)).heap.size (((w.alloc (.cells #[.string n, v1, .string lo, .string up, v4, v5] 26)).alloc (.cells #[.int .i64 k1, .int .i64 n1, .string s1] 29)).alloc (.cells #[.int .i64 2, .int .i64 n2, .string s2] 29)) w' ∧ w'.cell? ⟨w.heap.size, 0, none⟩ = some (.string n) ∧ w'.cell? ⟨w.heap.size, 1, none⟩ = some v1 ∧ w'.cell? ⟨w.heap.size, 2, none⟩ = some (.string lo) ∧ w'.cell? ⟨w.heap.size, 3, none⟩ = some (.string up) ∧ w'.cell? ⟨w.heap.size, 4, none⟩ = some v4 ∧ w'.cell? ⟨w.heap.size, 5, none⟩ = some v5 ∧ w'.cell? ⟨w.heap.size + 1, 0, none⟩ = some (.int .i64 k1) ∧ w'.cell? ⟨w.heap.size + 1, 1, none⟩ = some (.int .i64 n1) ∧ w'.cell? ⟨w.heap.size + 1, 2, none⟩ = some (.string s1) ∧ w'.cell? ⟨w.heap.size + 1 + 1, 0, none⟩ = some (.int .i64 2) ∧ w'.cell? ⟨w.heap.size + 1 + 1, 1, none⟩ = some (.int .i64 n2) ∧ w'.cell? ⟨w.heap.size + 1 + 1, 2, none⟩ = some (.string s2)) (first | exact S0)
          (first
            | (go_at_call 11; (with_reducible refine (text_at k1 n1 s1 t1 _ (tab_below T.out (below_three S0.1)) X1.out).mono ?_); rintro e w' ⟨rfl, hb⟩; have S0 := keepV (S0.1.trans (hb.mono S0.1.size)))
            | (go_at_call 11; (with_reducible refine (text_at 2 n2 s2 t2 _ (tab_below T.out (below_three S0.1)) X2.out).mono ?_); rintro e w' ⟨rfl, hb⟩; have S0 := keepV (S0.1.trans (hb.mono S0.1.size)))
            | (go_at_call 10; (with_reducible refine (compare_is n v1 lo up v4 v5 W C E t1 t2 c _ HC (LO.out.below (below_three S0.1)) ZN.out Z1.out Z2.out).mono ?_); rintro e w' ⟨rfl, hb⟩; have S0 := keepV (S0.1.trans (hb.mono S0.1.size))))
        go_wp2_with fail
        go_ret
        exact cmpr_mk rfl (below_three S0.1)
    · obtain rfl : k1 = 2 := by omega
      clear h
      have S0 := keepV (w := w) (n := n) (lo := lo) (up := up) (v1 := v1) (v4 := v4) (v5 := v5) (k1 := 2) (n1 := n1) (k2 := 2) (n2 := n2) (s1 := s1) (s2 := s2) ((Below.refl _ _).drew)
      have C0 := keepV (w := w) (n := n) (lo := lo) (up := up) (v1 := v1) (v4 := v4) (v5 := v5) (k1 := 2) (n1 := n1) (k2 := 2) (n2 := n2) (s1 := s1) (s2 := s2) (Below.refl _ _)
      obtain ⟨-, -, -, -, -, -, -, c0, c1, c2, d0, d1, d2⟩ := C0
      go_enter Tryz.func4, Tryz.ntmps4
      go_wp2_with fail
      clear c0 c1 c2 d0 d1 d2
      go_region_held3 (fun w' => Below (((w.alloc (.cells #[.string n, v1, .string lo, .string up, v4, v5] 26)).alloc (.cells #[.int .i64 2, .int .i64 n1, .string s1] 29)).alloc (.cells #[.int .i64 2, .int .i64 n2, .string s2] 29)).heap.size (((w.alloc (.cells #[.string n, v1, .string lo, .string up, v4, v5] 26)).alloc (.cells #[.int .i64 2, .int .i64 n1, .string s1] 29)).alloc (.cells #[.int .i64 2, .int .i64 n2, .string s2] 29)) w' ∧ w'.cell? ⟨w.heap.size, 0, none⟩ = some (.string n) ∧ w'.cell? ⟨w.heap.size, 1, none⟩ = some v1 ∧ w'.cell? ⟨w.heap.size, 2, none⟩ = some (.string lo) ∧ w'.cell? ⟨w.heap.size, 3, none⟩ = some (.string up) ∧ w'.cell? ⟨w.heap.size, 4, none⟩ = some v4 ∧ w'.cell? ⟨w.heap.size, 5, none⟩ = some v5 ∧ w'.cell? ⟨w.heap.size + 1, 0, none⟩ = some (.int .i64 2) ∧ w'.cell? ⟨w.heap.size + 1, 1, none⟩ = some (.int .i64 n1) ∧ w'.cell? ⟨w.heap.size + 1, 2, none⟩ = some (.string s1) ∧ w'.cell? ⟨w.heap.size + 1 + 1, 0, none⟩ = some (.int .i64 2) ∧ w'.cell? ⟨w.heap.size + 1 + 1, 1, none⟩ = some (.int .i64 n2) ∧ w'.cell? ⟨w.heap.size + 1 + 1, 2, none⟩ = some (.string s2)) (first | exact S0)
        (first
          | (go_at_call 11; (with_reducible refine (text_at 2 n1 s1 t1 _ (tab_below T.out (below_three S0.1)) X1.out).mono ?_); rintro e w' ⟨rfl, hb⟩; have S0 := keepV (S0.1.trans (hb.mono S0.1.size)))
          | (go_at_call 11; (with_reducible refine (text_at 2 n2 s2 t2 _ (tab_below T.out (below_three S0.1)) X2.out).mono ?_); rintro e w' ⟨rfl, hb⟩; have S0 := keepV (S0.1.trans (hb.mono S0.1.size)))
          | (go_at_call 10; (with_reducible refine (compare_is n v1 lo up v4 v5 W C E t1 t2 c _ HC (LO.out.below (below_three S0.1)) ZN.out Z1.out Z2.out).mono ?_); rintro e w' ⟨rfl, hb⟩; have S0 := keepV (S0.1.trans (hb.mono S0.1.size))))
      go_wp2_with fail
      go_ret
      exact cmpr_mk rfl (below_three S0.1)
    · obtain rfl : k1 = 2 := by omega
      clear h
      have S0 := keepV (w := w) (n := n) (lo := lo) (up := up) (v1 := v1) (v4 := v4) (v5 := v5) (k1 := 2) (n1 := n1) (k2 := 2) (n2 := n1) (s1 := s1) (s2 := s2) ((Below.refl _ _).drew)
      have C0 := keepV (w := w) (n := n) (lo := lo) (up := up) (v1 := v1) (v4 := v4) (v5 := v5) (k1 := 2) (n1 := n1) (k2 := 2) (n2 := n1) (s1 := s1) (s2 := s2) (Below.refl _ _)
      obtain ⟨-, -, -, -, -, -, -, c0, c1, c2, d0, d1, d2⟩ := C0
      go_enter Tryz.func4, Tryz.ntmps4
      go_wp2_with fail
      clear c0 c1 c2 d0 d1 d2
      go_region_held3 (fun w' => Below (((w.alloc (.cells #[.string n, v1, .string lo, .string up, v4, v5] 26)).alloc (.cells #[.int .i64 2, .int .i64 n1, .string s1] 29)).alloc (.cells #[.int .i64 2, .int .i64 n1, .string s2] 29)).heap.size (((w.alloc (.cells #[.string n, v1, .string lo, .string up, v4, v5] 26)).alloc (.cells #[.int .i64 2, .int .i64 n1, .string s1] 29)).alloc (.cells #[.int .i64 2, .int .i64 n1, .string s2] 29)) w' ∧ w'.cell? ⟨w.heap.size, 0, none⟩ = some (.string n) ∧ w'.cell? ⟨w.heap.size, 1, none⟩ = some v1 ∧ w'.cell? ⟨w.heap.size, 2, none⟩ = some (.string lo) ∧ w'.cell? ⟨w.heap.size, 3, none⟩ = some (.string up) ∧ w'.cell? ⟨w.heap.size, 4, none⟩ = some v4 ∧ w'.cell? ⟨w.heap.size, 5, none⟩ = some v5 ∧ w'.cell? ⟨w.heap.size + 1, 0, none⟩ = some (.int .i64 2) ∧ w'.cell? ⟨w.heap.size + 1, 1, none⟩ = some (.int .i64 n1) ∧ w'.cell? ⟨w.heap.size + 1, 2, none⟩ = some (.string s1) ∧ w'.cell? ⟨w.heap.size + 1 + 1, 0, none⟩ = some (.int .i64 2) ∧ w'.cell? ⟨w.heap.size + 1 + 1, 1, none⟩ = some (.int .i64 n1) ∧ w'.cell? ⟨w.heap.size + 1 + 1, 2, none⟩ = some (.string s2)) (first | exact S0)
        (first
          | (go_at_call 11; (with_reducible refine (text_at 2 n1 s1 t1 _ (tab_below T.out (below_three S0.1)) X1.out).mono ?_); rintro e w' ⟨rfl, hb⟩; have S0 := keepV (S0.1.trans (hb.mono S0.1.size)))
          | (go_at_call 11; (with_reducible refine (text_at 2 n1 s2 t2 _ (tab_below T.out (below_three S0.1)) X2.out).mono ?_); rintro e w' ⟨rfl, hb⟩; have S0 := keepV (S0.1.trans (hb.mono S0.1.size)))
          | (go_at_call 10; (with_reducible refine (compare_is n v1 lo up v4 v5 W C E t1 t2 c _ HC (LO.out.below (below_three S0.1)) ZN.out Z1.out Z2.out).mono ?_); rintro e w' ⟨rfl, hb⟩; have S0 := keepV (S0.1.trans (hb.mono S0.1.size))))
      go_wp2_with fail
      go_ret
      exact cmpr_mk rfl (below_three S0.1)
theorem vcompare_any (n lo up : ByteArray) (v1 v4 v5 : Value) (W : List Int) (C : List Cl) (E : List El) (k1 n1 k2 n2 : Int) (s1 s2 : ByteArray) (w : World) (hL : LocAt w v1 v4 v5 W C E) (hn : n.size ≤ 9223372036854775807) (ht : Tab w) (z1 : s1.size ≤ 1048576) (z2 : s2.size ≤ 1048576) :
    Calls Tryz.prog 4 #[.agg #[.string n, v1, .string lo, .string up, v4, v5], .agg #[.int .i64 k1, .int .i64 n1, .string s1], .agg #[.int .i64 k2, .int .i64 n2, .string s2]] w (CmpR (valC n W lo up C E k1 n1 s1 k2 n2 s2) w) := by
  by_cases h : k1 ≠ 2 ∧ k2 ≠ 2
  · rw [valC_num h]
    exact vcompare_num n lo up v1 v4 v5 k1 n1 k2 n2 _ _ s1 s2 w h.1 h.2 (by omega) (by omega) (Lib.hid rfl) (Lib.hid rfl)
  · exact vcompare_txt n lo up v1 v4 v5 W C E k1 n1 k2 n2 _ s1 s2 _ _ w hL hn ht (by omega) (text_size k1 n1 s1 z1) (text_size k2 n2 s2 z2) rfl rfl (valC_txt (by omega)).symm
end Go.Proofs.YtjngkapfngempaaGreatDoor
/- walks: comparison of values, the reference's; the law ValueCompares -/
namespace Go.Proofs.YtjngkapfngempaaGreatDoor
open Go.RowKit
open Dcm Byt Vl Lcl
theorem numeric_any (k n : Int) (s : ByteArray) (b : Bool) (w : World) (hb : Hid ((k != 2) = b)) :
    Calls Tryz.prog 12 #[.agg #[.int .i64 k, .int .i64 n, .string s]] w fun e w' => e = .returned (.bool b) ∧ Below w.heap.size w w' := by
  have t := hb.out
  clear hb
  go_enter Tryz.func12, Tryz.ntmps12
  go_wp2
  go_ret
  exact ⟨rfl, qbelow_step (Below.refl _ _)⟩
theorem rcompare_is (n : ByteArray) (v1 : Value) (lo up : ByteArray) (v4 v5 : Value) (W : List Int) (C : List Cl) (E : List El) (a b : ByteArray) (c : Int) (w : World) (hc : Hid (locC n W lo up C E a b = c)) (hL : LocAt w v1 v4 v5 W C E) (hn : n.size ≤ 9223372036854775807) (ha : a.size ≤ 1048576) (hb : b.size ≤ 1048576) :
    Calls Tryz.prog 13 #[.agg #[.string n, v1, .string lo, .string up, v4, v5], .string a, .string b] w (CmpR c w) := by
  rw [← hc.out]; exact rcompare_any n v1 lo up v4 v5 W C E a b w hL hn ha hb
theorem rtext_at (k n : Int) (s t : ByteArray) (w : World) (h : textB k n s = t) :
    Calls Tryz.prog 14 #[.agg #[.int .i64 k, .int .i64 n, .string s]] w fun e w' => e = .returned (.string t) ∧ Below w.heap.size w w' := by
  rw [← h]; exact vrtext_any k n s w
set_option maxHeartbeats 8000000 in
theorem rvcompare_txt (n lo up : ByteArray) (v1 v4 v5 : Value) (W : List Int) (C : List Cl) (E : List El) (k1 n1 k2 n2 c : Int) (s1 s2 t1 t2 : ByteArray) (b1 b2 : Bool) (w : World) (hL : LocAt w v1 v4 v5 W C E) (hn : n.size ≤ 9223372036854775807) (h : b1 = false ∨ b1 = true ∧ b2 = false) (hb1 : Hid ((k1 != 2) = b1)) (hb2 : Hid ((k2 != 2) = b2)) (z1 : t1.size ≤ 1048576) (z2 : t2.size ≤ 1048576)
    (x1 : textB k1 n1 s1 = t1) (x2 : textB k2 n2 s2 = t2) (hc : locC n W lo up C E t1 t2 = c) :
    Calls Tryz.prog 5 #[.agg #[.string n, v1, .string lo, .string up, v4, v5], .agg #[.int .i64 k1, .int .i64 n1, .string s1], .agg #[.int .i64 k2, .int .i64 n2, .string s2]] w (CmpR c w) := by
  have LO := Lib.hid hL
  have ZN := Lib.hid hn
  have Z1 := Lib.hid z1
  have Z2 := Lib.hid z2
  have X1 := Lib.hid x1
  have X2 := Lib.hid x2
  have HC := Lib.hid hc
  clear hL hn z1 z2 x1 x2 hc
  have S0 := keepV (w := w) (n := n) (lo := lo) (up := up) (v1 := v1) (v4 := v4) (v5 := v5) (k1 := k1) (n1 := n1) (k2 := k2) (n2 := n2) (s1 := s1) (s2 := s2) (Below.refl _ _)
  have S0 := Lib.hid S0
  obtain ⟨-, b0, b1, b2, b3, b4, b5, c0, c1, c2, d0, d1, d2⟩ := S0.out
  rcases h with rfl | ⟨rfl, rfl⟩
  all_goals
    go_enter Tryz.func5, Tryz.ntmps5
    go_wp2_with (first
      | (go_at_call 12; (with_reducible refine (numeric_any k1 n1 s1 _ _ hb1).mono ?_); rintro e wn ⟨rfl, hb⟩; have S0 := Lib.hid (keepV (S0.out.1.trans (hb.mono S0.out.1.size))); obtain ⟨-, b0, b1, b2, b3, b4, b5, c0, c1, c2, d0, d1, d2⟩ := S0.out)
      | (go_at_call 12; (with_reducible refine (numeric_any k2 n2 s2 _ _ hb2).mono ?_); rintro e wm ⟨rfl, hb'⟩; have S0 := Lib.hid (keepV (S0.out.1.trans (hb'.mono S0.out.1.size))); obtain ⟨-, b0, b1, b2, b3, b4, b5, c0, c1, c2, d0, d1, d2⟩ := S0.out))
    have S0 := keepV S0.out.1.drew
    go_region_held3 (fun w' => Below (((w.alloc (.cells #[.string n, v1, .string lo, .string up, v4, v5] 26)).alloc (.cells #[.int .i64 k1, .int .i64 n1, .string s1] 29)).alloc (.cells #[.int .i64 k2, .int .i64 n2, .string s2] 29)).heap.size (((w.alloc (.cells #[.string n, v1, .string lo, .string up, v4, v5] 26)).alloc (.cells #[.int .i64 k1, .int .i64 n1, .string s1] 29)).alloc (.cells #[.int .i64 k2, .int .i64 n2, .string s2] 29)) w' ∧ w'.cell? ⟨w.heap.size, 0, none⟩ = some (.string n) ∧ w'.cell? ⟨w.heap.size, 1, none⟩ = some v1 ∧ w'.cell? ⟨w.heap.size, 2, none⟩ = some (.string lo) ∧ w'.cell? ⟨w.heap.size, 3, none⟩ = some (.string up) ∧ w'.cell? ⟨w.heap.size, 4, none⟩ = some v4 ∧ w'.cell? ⟨w.heap.size, 5, none⟩ = some v5 ∧ w'.cell? ⟨w.heap.size + 1, 0, none⟩ = some (.int .i64 k1) ∧ w'.cell? ⟨w.heap.size + 1, 1, none⟩ = some (.int .i64 n1) ∧ w'.cell? ⟨w.heap.size + 1, 2, none⟩ = some (.string s1) ∧ w'.cell? ⟨w.heap.size + 1 + 1, 0, none⟩ = some (.int .i64 k2) ∧ w'.cell? ⟨w.heap.size + 1 + 1, 1, none⟩ = some (.int .i64 n2) ∧ w'.cell? ⟨w.heap.size + 1 + 1, 2, none⟩ = some (.string s2)) (first | exact S0)
      (first
        | (go_at_call 14; (with_reducible refine (rtext_at k1 n1 s1 t1 _ X1.out).mono ?_); rintro e w' ⟨rfl, hb⟩; have S0 := keepV (S0.1.trans (hb.mono S0.1.size)))
        | (go_at_call 14; (with_reducible refine (rtext_at k2 n2 s2 t2 _ X2.out).mono ?_); rintro e w' ⟨rfl, hb⟩; have S0 := keepV (S0.1.trans (hb.mono S0.1.size)))
        | (go_at_call 13; (with_reducible refine (rcompare_is n v1 lo up v4 v5 W C E t1 t2 c _ HC (LO.out.below (below_three S0.1)) ZN.out Z1.out Z2.out).mono ?_); rintro e w' ⟨rfl, hb⟩; have S0 := keepV (S0.1.trans (hb.mono S0.1.size))))
    go_wp2_with fail
    go_ret
    exact cmpr_mk rfl (below_three S0.1)
set_option maxHeartbeats 8000000 in
theorem rvcompare_num (n lo up : ByteArray) (v1 v4 v5 : Value) (k1 n1 k2 n2 x y c : Int) (s1 s2 : ByteArray) (w : World) (hb1 : Hid ((k1 != 2) = true)) (hb2 : Hid ((k2 != 2) = true)) (z1 : s1.size ≤ 9223372036854775807) (z2 : s2.size ≤ 9223372036854775807)
    (x1 : numV k1 n1 s1.data.toList = x) (x2 : numV k2 n2 s2.data.toList = y) (hc : cmp3 x y = c) :
    Calls Tryz.prog 5 #[.agg #[.string n, v1, .string lo, .string up, v4, v5], .agg #[.int .i64 k1, .int .i64 n1, .string s1], .agg #[.int .i64 k2, .int .i64 n2, .string s2]] w (CmpR c w) := by
  have Z1 := Lib.hid z1
  have Z2 := Lib.hid z2
  have X1 := Lib.hid x1
  have X2 := Lib.hid x2
  have HC := Lib.hid hc
  clear z1 z2 x1 x2 hc
  have S0 := keepV (w := w) (n := n) (lo := lo) (up := up) (v1 := v1) (v4 := v4) (v5 := v5) (k1 := k1) (n1 := n1) (k2 := k2) (n2 := n2) (s1 := s1) (s2 := s2) (Below.refl _ _)
  have S0 := Lib.hid S0
  obtain ⟨-, b0, b1, b2, b3, b4, b5, c0, c1, c2, d0, d1, d2⟩ := S0.out
  rcases (show x < y ∨ y < x ∨ x = y by omega) with hxy | hxy | hxy
  · have t1 : decide (x < y) = true := decide_eq_true hxy
    have E0 : Hid (-1 = c) := Lib.hid (by rw [← HC.out]; unfold cmp3; rw [if_pos hxy])
    clear hxy
    go_enter Tryz.func5, Tryz.ntmps5
    go_wp2_with (first
      | (go_at_call 12; (with_reducible refine (numeric_any k1 n1 s1 _ _ hb1).mono ?_); rintro e wn ⟨rfl, hb⟩; have S0 := Lib.hid (keepV (S0.out.1.trans (hb.mono S0.out.1.size))); obtain ⟨-, b0, b1, b2, b3, b4, b5, c0, c1, c2, d0, d1, d2⟩ := S0.out)
      | (go_at_call 12; (with_reducible refine (numeric_any k2 n2 s2 _ _ hb2).mono ?_); rintro e wm ⟨rfl, hb'⟩; have S0 := Lib.hid (keepV (S0.out.1.trans (hb'.mono S0.out.1.size))); obtain ⟨-, b0, b1, b2, b3, b4, b5, c0, c1, c2, d0, d1, d2⟩ := S0.out))
    have S0 := keepV S0.out.1.drew
    go_region_held3 (fun w' => Below (((w.alloc (.cells #[.string n, v1, .string lo, .string up, v4, v5] 26)).alloc (.cells #[.int .i64 k1, .int .i64 n1, .string s1] 29)).alloc (.cells #[.int .i64 k2, .int .i64 n2, .string s2] 29)).heap.size (((w.alloc (.cells #[.string n, v1, .string lo, .string up, v4, v5] 26)).alloc (.cells #[.int .i64 k1, .int .i64 n1, .string s1] 29)).alloc (.cells #[.int .i64 k2, .int .i64 n2, .string s2] 29)) w' ∧ w'.cell? ⟨w.heap.size, 0, none⟩ = some (.string n) ∧ w'.cell? ⟨w.heap.size, 1, none⟩ = some v1 ∧ w'.cell? ⟨w.heap.size, 2, none⟩ = some (.string lo) ∧ w'.cell? ⟨w.heap.size, 3, none⟩ = some (.string up) ∧ w'.cell? ⟨w.heap.size, 4, none⟩ = some v4 ∧ w'.cell? ⟨w.heap.size, 5, none⟩ = some v5 ∧ w'.cell? ⟨w.heap.size + 1, 0, none⟩ = some (.int .i64 k1) ∧ w'.cell? ⟨w.heap.size + 1, 1, none⟩ = some (.int .i64 n1) ∧ w'.cell? ⟨w.heap.size + 1, 2, none⟩ = some (.string s1) ∧ w'.cell? ⟨w.heap.size + 1 + 1, 0, none⟩ = some (.int .i64 k2) ∧ w'.cell? ⟨w.heap.size + 1 + 1, 1, none⟩ = some (.int .i64 n2) ∧ w'.cell? ⟨w.heap.size + 1 + 1, 2, none⟩ = some (.string s2)) (first | exact S0)
      (first
        | (go_at_call 15; (with_reducible refine (rvnumber_is k1 n1 _ s1 _ Z1.out X1.out).mono ?_); rintro e w' ⟨rfl, hb⟩; have S0 := keepV (S0.1.trans (hb.mono S0.1.size)))
        | (go_at_call 15; (with_reducible refine (rvnumber_is k2 n2 _ s2 _ Z2.out X2.out).mono ?_); rintro e w' ⟨rfl, hb⟩; have S0 := keepV (S0.1.trans (hb.mono S0.1.size))))
    have SB := Lib.hid (below_three S0.1)
    clear S0
    go_wp2_with fail
    go_ret
    exact cmpr_mk E0.out SB.out
  · have t1 : decide (x < y) = false := decide_eq_false (by omega)
    have t2 : decide (y < x) = true := decide_eq_true hxy
    have E0 : Hid (1 = c) := Lib.hid (by rw [← HC.out]; unfold cmp3; rw [if_neg (by omega), if_pos hxy])
    clear hxy
    go_enter Tryz.func5, Tryz.ntmps5
    go_wp2_with (first
      | (go_at_call 12; (with_reducible refine (numeric_any k1 n1 s1 _ _ hb1).mono ?_); rintro e wn ⟨rfl, hb⟩; have S0 := Lib.hid (keepV (S0.out.1.trans (hb.mono S0.out.1.size))); obtain ⟨-, b0, b1, b2, b3, b4, b5, c0, c1, c2, d0, d1, d2⟩ := S0.out)
      | (go_at_call 12; (with_reducible refine (numeric_any k2 n2 s2 _ _ hb2).mono ?_); rintro e wm ⟨rfl, hb'⟩; have S0 := Lib.hid (keepV (S0.out.1.trans (hb'.mono S0.out.1.size))); obtain ⟨-, b0, b1, b2, b3, b4, b5, c0, c1, c2, d0, d1, d2⟩ := S0.out))
    have S0 := keepV S0.out.1.drew
    go_region_held3 (fun w' => Below (((w.alloc (.cells #[.string n, v1, .string lo, .string up, v4, v5] 26)).alloc (.cells #[.int .i64 k1, .int .i64 n1, .string s1] 29)).alloc (.cells #[.int .i64 k2, .int .i64 n2, .string s2] 29)).heap.size (((w.alloc (.cells #[.string n, v1, .string lo, .string up, v4, v5] 26)).alloc (.cells #[.int .i64 k1, .int .i64 n1, .string s1] 29)).alloc (.cells #[.int .i64 k2, .int .i64 n2, .string s2] 29)) w' ∧ w'.cell? ⟨w.heap.size, 0, none⟩ = some (.string n) ∧ w'.cell? ⟨w.heap.size, 1, none⟩ = some v1 ∧ w'.cell? ⟨w.heap.size, 2, none⟩ = some (.string lo) ∧ w'.cell? ⟨w.heap.size, 3, none⟩ = some (.string up) ∧ w'.cell? ⟨w.heap.size, 4, none⟩ = some v4 ∧ w'.cell? ⟨w.heap.size, 5, none⟩ = some v5 ∧ w'.cell? ⟨w.heap.size + 1, 0, none⟩ = some (.int .i64 k1) ∧ w'.cell? ⟨w.heap.size + 1, 1, none⟩ = some (.int .i64 n1) ∧ w'.cell? ⟨w.heap.size + 1, 2, none⟩ = some (.string s1) ∧ w'.cell? ⟨w.heap.size + 1 + 1, 0, none⟩ = some (.int .i64 k2) ∧ w'.cell? ⟨w.heap.size + 1 + 1, 1, none⟩ = some (.int .i64 n2) ∧ w'.cell? ⟨w.heap.size + 1 + 1, 2, none⟩ = some (.string s2)) (first | exact S0)
      (first
        | (go_at_call 15; (with_reducible refine (rvnumber_is k1 n1 _ s1 _ Z1.out X1.out).mono ?_); rintro e w' ⟨rfl, hb⟩; have S0 := keepV (S0.1.trans (hb.mono S0.1.size)))
        | (go_at_call 15; (with_reducible refine (rvnumber_is k2 n2 _ s2 _ Z2.out X2.out).mono ?_); rintro e w' ⟨rfl, hb⟩; have S0 := keepV (S0.1.trans (hb.mono S0.1.size))))
    have SB := Lib.hid (below_three S0.1)
    clear S0
    go_wp2_with fail
    go_ret
    exact cmpr_mk E0.out SB.out
  · subst hxy
    have t1 : decide (x < x) = false := decide_eq_false (by omega)
    have E0 : Hid (0 = c) := Lib.hid (by rw [← HC.out]; unfold cmp3; rw [if_neg (by omega), if_neg (by omega)])
    go_enter Tryz.func5, Tryz.ntmps5
    go_wp2_with (first
      | (go_at_call 12; (with_reducible refine (numeric_any k1 n1 s1 _ _ hb1).mono ?_); rintro e wn ⟨rfl, hb⟩; have S0 := Lib.hid (keepV (S0.out.1.trans (hb.mono S0.out.1.size))); obtain ⟨-, b0, b1, b2, b3, b4, b5, c0, c1, c2, d0, d1, d2⟩ := S0.out)
      | (go_at_call 12; (with_reducible refine (numeric_any k2 n2 s2 _ _ hb2).mono ?_); rintro e wm ⟨rfl, hb'⟩; have S0 := Lib.hid (keepV (S0.out.1.trans (hb'.mono S0.out.1.size))); obtain ⟨-, b0, b1, b2, b3, b4, b5, c0, c1, c2, d0, d1, d2⟩ := S0.out))
    have S0 := keepV S0.out.1.drew
    go_region_held3 (fun w' => Below (((w.alloc (.cells #[.string n, v1, .string lo, .string up, v4, v5] 26)).alloc (.cells #[.int .i64 k1, .int .i64 n1, .string s1] 29)).alloc (.cells #[.int .i64 k2, .int .i64 n2, .string s2] 29)).heap.size (((w.alloc (.cells #[.string n, v1, .string lo, .string up, v4, v5] 26)).alloc (.cells #[.int .i64 k1, .int .i64 n1, .string s1] 29)).alloc (.cells #[.int .i64 k2, .int .i64 n2, .string s2] 29)) w' ∧ w'.cell? ⟨w.heap.size, 0, none⟩ = some (.string n) ∧ w'.cell? ⟨w.heap.size, 1, none⟩ = some v1 ∧ w'.cell? ⟨w.heap.size, 2, none⟩ = some (.string lo) ∧ w'.cell? ⟨w.heap.size, 3, none⟩ = some (.string up) ∧ w'.cell? ⟨w.heap.size, 4, none⟩ = some v4 ∧ w'.cell? ⟨w.heap.size, 5, none⟩ = some v5 ∧ w'.cell? ⟨w.heap.size + 1, 0, none⟩ = some (.int .i64 k1) ∧ w'.cell? ⟨w.heap.size + 1, 1, none⟩ = some (.int .i64 n1) ∧ w'.cell? ⟨w.heap.size + 1, 2, none⟩ = some (.string s1) ∧ w'.cell? ⟨w.heap.size + 1 + 1, 0, none⟩ = some (.int .i64 k2) ∧ w'.cell? ⟨w.heap.size + 1 + 1, 1, none⟩ = some (.int .i64 n2) ∧ w'.cell? ⟨w.heap.size + 1 + 1, 2, none⟩ = some (.string s2)) (first | exact S0)
      (first
        | (go_at_call 15; (with_reducible refine (rvnumber_is k1 n1 _ s1 _ Z1.out X1.out).mono ?_); rintro e w' ⟨rfl, hb⟩; have S0 := keepV (S0.1.trans (hb.mono S0.1.size)))
        | (go_at_call 15; (with_reducible refine (rvnumber_is k2 n2 _ s2 _ Z2.out X2.out).mono ?_); rintro e w' ⟨rfl, hb⟩; have S0 := keepV (S0.1.trans (hb.mono S0.1.size))))
    have SB := Lib.hid (below_three S0.1)
    clear S0
    go_wp2_with fail
    go_ret
    exact cmpr_mk E0.out SB.out
theorem rvcompare_any (n lo up : ByteArray) (v1 v4 v5 : Value) (W : List Int) (C : List Cl) (E : List El) (k1 n1 k2 n2 : Int) (s1 s2 : ByteArray) (w : World) (hL : LocAt w v1 v4 v5 W C E) (hn : n.size ≤ 9223372036854775807) (z1 : s1.size ≤ 1048576) (z2 : s2.size ≤ 1048576) :
    Calls Tryz.prog 5 #[.agg #[.string n, v1, .string lo, .string up, v4, v5], .agg #[.int .i64 k1, .int .i64 n1, .string s1], .agg #[.int .i64 k2, .int .i64 n2, .string s2]] w (CmpR (valC n W lo up C E k1 n1 s1 k2 n2 s2) w) := by
  by_cases h1 : k1 = 2
  · exact rvcompare_txt n lo up v1 v4 v5 W C E k1 n1 k2 n2 _ s1 s2 _ _ false _ w hL hn (.inl rfl) (Lib.hid (by rw [h1]; rfl)) (Lib.hid rfl) (text_size k1 n1 s1 z1) (text_size k2 n2 s2 z2) rfl rfl (valC_txt (.inl h1)).symm
  · by_cases h2 : k2 = 2
    · exact rvcompare_txt n lo up v1 v4 v5 W C E k1 n1 k2 n2 _ s1 s2 _ _ true false w hL hn (.inr ⟨rfl, rfl⟩) (Lib.hid (by rw [bne_iff_ne]; exact h1)) (Lib.hid (by rw [h2]; rfl)) (text_size k1 n1 s1 z1) (text_size k2 n2 s2 z2) rfl rfl (valC_txt (.inr h2)).symm
    · exact rvcompare_num n lo up v1 v4 v5 k1 n1 k2 n2 _ _ _ s1 s2 w (Lib.hid (by rw [bne_iff_ne]; exact h1)) (Lib.hid (by rw [bne_iff_ne]; exact h2)) (by omega) (by omega) rfl rfl (valC_num ⟨h1, h2⟩).symm
theorem vcompare_is (n lo up : ByteArray) (v1 v4 v5 : Value) (W : List Int) (C : List Cl) (E : List El) (k1 n1 k2 n2 c : Int) (s1 s2 : ByteArray) (w : World) (hc : Hid (valC n W lo up C E k1 n1 s1 k2 n2 s2 = c)) (hL : LocAt w v1 v4 v5 W C E) (hn : n.size ≤ 9223372036854775807) (ht : Tab w) (z1 : s1.size ≤ 1048576) (z2 : s2.size ≤ 1048576) :
    Calls Tryz.prog 4 #[.agg #[.string n, v1, .string lo, .string up, v4, v5], .agg #[.int .i64 k1, .int .i64 n1, .string s1], .agg #[.int .i64 k2, .int .i64 n2, .string s2]] w (CmpR c w) := by
  rw [← hc.out]; exact vcompare_any n lo up v1 v4 v5 W C E k1 n1 k2 n2 s1 s2 w hL hn ht z1 z2
theorem rvcompare_is (n lo up : ByteArray) (v1 v4 v5 : Value) (W : List Int) (C : List Cl) (E : List El) (k1 n1 k2 n2 c : Int) (s1 s2 : ByteArray) (w : World) (hc : Hid (valC n W lo up C E k1 n1 s1 k2 n2 s2 = c)) (hL : LocAt w v1 v4 v5 W C E) (hn : n.size ≤ 9223372036854775807) (z1 : s1.size ≤ 1048576) (z2 : s2.size ≤ 1048576) :
    Calls Tryz.prog 5 #[.agg #[.string n, v1, .string lo, .string up, v4, v5], .agg #[.int .i64 k1, .int .i64 n1, .string s1], .agg #[.int .i64 k2, .int .i64 n2, .string s2]] w (CmpR c w) := by
  rw [← hc.out]; exact rvcompare_any n lo up v1 v4 v5 W C E k1 n1 k2 n2 s1 s2 w hL hn z1 z2
theorem locC_vals (n : ByteArray) (W : List Int) (lo up : ByteArray) (C : List Cl) (E : List El) (a b : ByteArray) : locC n W lo up C E a b = -1 ∨ locC n W lo up C E a b = 0 ∨ locC n W lo up C E a b = 1 := cmpS_vals _ _ _ _
theorem valC_vals (n : ByteArray) (W : List Int) (lo up : ByteArray) (C : List Cl) (E : List El) (k1 n1 : Int) (s1 : ByteArray) (k2 n2 : Int) (s2 : ByteArray) : valC n W lo up C E k1 n1 s1 k2 n2 s2 = -1 ∨ valC n W lo up C E k1 n1 s1 k2 n2 s2 = 0 ∨ valC n W lo up C E k1 n1 s1 k2 n2 s2 = 1 := by
  unfold valC; split
  · exact cmp3_vals _ _
  · exact locC_vals _ _ _ _ _ _ _ _
set_option maxHeartbeats 8000000 in
theorem law_compares (n lo up : ByteArray) (v1 v4 v5 : Value) (W : List Int) (C : List Cl) (E : List El) (k1 n1 k2 n2 : Int) (s1 s2 : ByteArray) (w : World) (hL : LocAt w v1 v4 v5 W C E) (hn : n.size ≤ 9223372036854775807) (ht : Tab w) (z1 : s1.size ≤ 1048576) (z2 : s2.size ≤ 1048576) :
    Calls Tryz.prog 3 #[.agg #[.string n, v1, .string lo, .string up, v4, v5], .agg #[.int .i64 k1, .int .i64 n1, .string s1], .agg #[.int .i64 k2, .int .i64 n2, .string s2]] w fun e w' => e = .returned (.bool true) ∧ Below w.heap.size w w' := by
  have LO := Lib.hid hL
  have T := Lib.hid ht
  have ZN := Lib.hid hn
  have Z1 := Lib.hid z1
  have Z2 := Lib.hid z2
  have hs := valC_swap n W lo up C E k1 n1 s1 k2 n2 s2
  have hv := valC_vals n W lo up C E k1 n1 s1 k2 n2 s2
  clear hL hn ht z1 z2
  have S0 := keepV (w := w) (n := n) (lo := lo) (up := up) (v1 := v1) (v4 := v4) (v5 := v5) (k1 := k1) (n1 := n1) (k2 := k2) (n2 := n2) (s1 := s1) (s2 := s2) (Below.refl _ _)
  have S0 := Lib.hid S0
  obtain ⟨-, b0, b1, b2, b3, b4, b5, c0, c1, c2, d0, d1, d2⟩ := S0.out
  rcases hv with hv | hv | hv
  all_goals
    rw [hv] at hs
    have HV := Lib.hid hv
    have HS := Lib.hid hs
    clear hv hs
    go_enter Tryz.func3, Tryz.ntmps3
    go_wp2_with fail
    refine (vcompare_is n lo up v1 v4 v5 W C E k1 n1 k2 n2 _ s1 s2 _ HV (LO.out.below (below_three S0.out.1)) ZN.out (tab_below T.out (below_three S0.out.1)) Z1.out Z2.out).mono ?_
    rintro e w1 ⟨rfl, hb⟩
    have S0 := Lib.hid (keepV (S0.out.1.trans (hb.mono S0.out.1.size)))
    clear b0 b1 b2 b3 b4 b5 c0 c1 c2 d0 d1 d2
    obtain ⟨-, b0, b1, b2, b3, b4, b5, c0, c1, c2, d0, d1, d2⟩ := S0.out
    go_wp2_with fail
    refine (rvcompare_is n lo up v1 v4 v5 W C E k1 n1 k2 n2 _ s1 s2 _ HV (LO.out.below (below_three S0.out.1)) ZN.out Z1.out Z2.out).mono ?_
    rintro e w2 ⟨rfl, hb2⟩
    have S0 := Lib.hid (keepV (S0.out.1.trans (hb2.mono S0.out.1.size)))
    clear b0 b1 b2 b3 b4 b5 c0 c1 c2 d0 d1 d2
    obtain ⟨-, b0, b1, b2, b3, b4, b5, c0, c1, c2, d0, d1, d2⟩ := S0.out
    go_wp2_with fail
    refine (vcompare_is n lo up v1 v4 v5 W C E k2 n2 k1 n1 _ s2 s1 _ HS (LO.out.below (below_three S0.out.1)) ZN.out (tab_below T.out (below_three S0.out.1)) Z2.out Z1.out).mono ?_
    rintro e w3 ⟨rfl, hb3⟩
    have S0 := Lib.hid (keepV (S0.out.1.trans (hb3.mono S0.out.1.size)))
    clear b0 b1 b2 b3 b4 b5 c0 c1 c2 d0 d1 d2
    go_wp2_with fail
    refine (vawake_any _ (tab_below T.out (below_three S0.out.1))).mono ?_
    rintro e w4 ⟨rfl, hb4⟩
    go_wp2_with fail
    go_ret
    exact ⟨rfl, below_three (S0.out.1.trans (hb4.mono S0.out.1.size))⟩
end Go.Proofs.YtjngkapfngempaaGreatDoor
/- arguments that are structs: a specification, a locale -/
namespace Go.Proofs.YtjngkapfngempaaGreatDoor
open Go.Joins Go.ChangeShapes Go.WideShapes Go.RowKit Go.Deep Go.Maps
def NZ (v : Value) : Prop := ∀ n cap, v = .slice none n cap → cap = 0
section
variable {H : Type} {enc : TypeId × Value → H} {P : Program} {w : World} {base : Nat} {spare : Nat → Bool} {held : Bool}
theorem own_agg6 {r : Reach} {b0 : Nat} {t : TypeId} {f0 f1 f2 f3 f4 f5 : Field} {v : Value} {d : DataW H} {p : List MemPlace} (hs : P.underlying t = some (.struct #[f0, f1, f2, f3, f4, f5])) (hone : oneCellFields P #[f0, f1, f2, f3, f4, f5] = true) (hC : P.cellsOf t = 6)
    (hv : Value.okWide P w r b0 t v) (h : DataW.Trod enc P w base spare held t v d p) :
    ∃ (v0 v1 v2 v3 v4 v5 : Value) (y0 y1 y2 y3 y4 y5 : DataW H × List MemPlace) (n : Nat), v = .agg #[v0, v1, v2, v3, v4, v5] ∧ d = .agg [y0.1, y1.1, y2.1, y3.1, y4.1, y5.1] ∧ p = y0.2 ++ (y1.2 ++ (y2.2 ++ (y3.2 ++ (y4.2 ++ (y5.2))))) ∧
      DataW.trod enc P w base spare held n f0.type [v0] = some y0 ∧ DataW.trod enc P w base spare held n f1.type [v1] = some y1 ∧ DataW.trod enc P w base spare held n f2.type [v2] = some y2 ∧ DataW.trod enc P w base spare held n f3.type [v3] = some y3 ∧ DataW.trod enc P w base spare held n f4.type [v4] = some y4 ∧ DataW.trod enc P w base spare held n f5.type [v5] = some y5 := by
  obtain ⟨cs, rfl, hsz⟩ := okWide_struct hs hv
  obtain ⟨l⟩ := cs
  match l, hsz.trans hC with
  | [c0, c1, c2, c3, c4, c5], _ =>
    obtain ⟨fuel, hf⟩ := h
    obtain ⟨xs, n, _, hx, _, hlen, hg⟩ := DataW.trod_struct hs hf
    obtain ⟨o0, k0⟩ := hone_of hone 0 f0 rfl
    obtain ⟨o1, k1⟩ := hone_of hone 1 f1 rfl
    obtain ⟨o2, k2⟩ := hone_of hone 2 f2 rfl
    obtain ⟨o3, k3⟩ := hone_of hone 3 f3 rfl
    obtain ⟨o4, k4⟩ := hone_of hone 4 f4 rfl
    obtain ⟨o5, k5⟩ := hone_of hone 5 f5 rfl
    match xs, hlen with
    | [y0, y1, y2, y3, y4, y5], _ =>
      simp only [Prod.mk.injEq] at hx
      exact ⟨c0, c1, c2, c3, c4, c5, y0, y1, y2, y3, y4, y5, n, rfl, by simpa using hx.1, by simpa using hx.2, by simpa [Value.cells, o0, k0] using hg 0 f0 rfl, by simpa [Value.cells, o1, k1] using hg 1 f1 rfl, by simpa [Value.cells, o2, k2] using hg 2 f2 rfl, by simpa [Value.cells, o3, k3] using hg 3 f3 rfl, by simpa [Value.cells, o4, k4] using hg 4 f4 rfl, by simpa [Value.cells, o5, k5] using hg 5 f5 rfl⟩
theorem own_agg7 {r : Reach} {b0 : Nat} {t : TypeId} {f0 f1 f2 f3 f4 f5 f6 : Field} {v : Value} {d : DataW H} {p : List MemPlace} (hs : P.underlying t = some (.struct #[f0, f1, f2, f3, f4, f5, f6])) (hone : oneCellFields P #[f0, f1, f2, f3, f4, f5, f6] = true) (hC : P.cellsOf t = 7)
    (hv : Value.okWide P w r b0 t v) (h : DataW.Trod enc P w base spare held t v d p) :
    ∃ (v0 v1 v2 v3 v4 v5 v6 : Value) (y0 y1 y2 y3 y4 y5 y6 : DataW H × List MemPlace) (n : Nat), v = .agg #[v0, v1, v2, v3, v4, v5, v6] ∧ d = .agg [y0.1, y1.1, y2.1, y3.1, y4.1, y5.1, y6.1] ∧ p = y0.2 ++ (y1.2 ++ (y2.2 ++ (y3.2 ++ (y4.2 ++ (y5.2 ++ (y6.2)))))) ∧
      DataW.trod enc P w base spare held n f0.type [v0] = some y0 ∧ DataW.trod enc P w base spare held n f1.type [v1] = some y1 ∧ DataW.trod enc P w base spare held n f2.type [v2] = some y2 ∧ DataW.trod enc P w base spare held n f3.type [v3] = some y3 ∧ DataW.trod enc P w base spare held n f4.type [v4] = some y4 ∧ DataW.trod enc P w base spare held n f5.type [v5] = some y5 ∧ DataW.trod enc P w base spare held n f6.type [v6] = some y6 := by
  obtain ⟨cs, rfl, hsz⟩ := okWide_struct hs hv
  obtain ⟨l⟩ := cs
  match l, hsz.trans hC with
  | [c0, c1, c2, c3, c4, c5, c6], _ =>
    obtain ⟨fuel, hf⟩ := h
    obtain ⟨xs, n, _, hx, _, hlen, hg⟩ := DataW.trod_struct hs hf
    obtain ⟨o0, k0⟩ := hone_of hone 0 f0 rfl
    obtain ⟨o1, k1⟩ := hone_of hone 1 f1 rfl
    obtain ⟨o2, k2⟩ := hone_of hone 2 f2 rfl
    obtain ⟨o3, k3⟩ := hone_of hone 3 f3 rfl
    obtain ⟨o4, k4⟩ := hone_of hone 4 f4 rfl
    obtain ⟨o5, k5⟩ := hone_of hone 5 f5 rfl
    obtain ⟨o6, k6⟩ := hone_of hone 6 f6 rfl
    match xs, hlen with
    | [y0, y1, y2, y3, y4, y5, y6], _ =>
      simp only [Prod.mk.injEq] at hx
      exact ⟨c0, c1, c2, c3, c4, c5, c6, y0, y1, y2, y3, y4, y5, y6, n, rfl, by simpa using hx.1, by simpa using hx.2, by simpa [Value.cells, o0, k0] using hg 0 f0 rfl, by simpa [Value.cells, o1, k1] using hg 1 f1 rfl, by simpa [Value.cells, o2, k2] using hg 2 f2 rfl, by simpa [Value.cells, o3, k3] using hg 3 f3 rfl, by simpa [Value.cells, o4, k4] using hg 4 f4 rfl, by simpa [Value.cells, o5, k5] using hg 5 f5 rfl, by simpa [Value.cells, o6, k6] using hg 6 f6 rfl⟩

theorem list_of {α : Type} {p : Nat → α → Prop} : ∀ (m : Nat), (∀ i, i < m → ∃ z, p i z) → ∃ l : List α, l.length = m ∧ ∀ i z, l[i]? = some z → p i z
  | 0, _ => ⟨[], rfl, fun i z h => by simp at h⟩
  | m + 1, h => by
    obtain ⟨l, hl, hp⟩ := list_of m fun i hi => h i (by omega)
    obtain ⟨z, hz⟩ := h m (by omega)
    refine ⟨l ++ [z], by simp [hl], fun i y hy => ?_⟩
    rcases Nat.lt_or_ge i l.length with hi | hi
    · rw [List.getElem?_append_left hi] at hy; exact hp i y hy
    · rw [List.getElem?_append_right hi] at hy
      have : i = m := by
        rcases Nat.eq_zero_or_pos (i - l.length) with h0 | h0
        · omega
        · rw [List.getElem?_eq_none (by simp; omega)] at hy; cases hy
      subst this
      rw [hl, Nat.sub_self] at hy
      cases hy; exact hz
theorem sized_part {ts : List TypeId} {ds : List (DataW H)} (h : (DataW.weightsEach P ts ds).all (· ≤ reachBytes) = true) {j : Nat} {t : TypeId} {d : DataW H} (ht : ts[j]? = some t) (hd : ds[j]? = some d) : (d.weights P t).all (· ≤ reachBytes) = true :=
  List.all_eq_true.2 fun n hn => List.all_eq_true.1 h n (DataW.weights_mem_each ht hd n hn)
theorem sized_parts {t : TypeId} {fs : Array Field} {ds : List (DataW H)} (hs : P.underlying t = some (.struct fs)) (h : ((DataW.agg ds).weights P t).all (· ≤ reachBytes) = true) {j : Nat} {u : TypeId} {d : DataW H} (ht : (fs.toList.map (·.type))[j]? = some u) (hd : ds[j]? = some d) : (d.weights P u).all (· ≤ reachBytes) = true := by
  simp only [DataW.weights, hs] at h
  exact sized_part h ht hd
/-- a slice, read row by row -/
theorem open_rows {α : Type} (R : α → List Value) (Q : α → Prop) (k : Nat) {t e : TypeId} {fuel b : Nat} {v : Value} {x : DataW H × List MemPlace} (ht : P.underlying t = some (.slice e)) (hk : 0 < k)
    (hC : P.cellsOf e = k) (hB : P.bytesOf e = b) (h : DataW.trod enc P w 0 (fun _ => true) true fuel t [v] = some x) (hlt : ∀ q ∈ x.2, q.block < w.heap.size) (hw : (x.1.weights P t).all (· ≤ reachBytes) = true)
    (hrow : ∀ cs y n, DataW.trod enc P w 0 (fun _ => true) true n e cs = some y → cs.length = k → ∃ z : α, Q z ∧ cs = R z) :
    ∃ l : List α, RowsAt w v k (l.map R) ∧ NZ v ∧ (∀ z ∈ l, Q z) ∧ l.length * b ≤ 140737488351232 := by
  rcases open_slice ht h with ⟨hcs, hx⟩ | ⟨a, len, cap, m, n, D, Pl, hcs, -, hl, hm, hmm, hx, hi⟩
  · obtain rfl : v = .slice none 0 0 := by simpa using hcs
    exact ⟨[], ⟨none, 0, rfl, by simp, by unfold maxLen; omega, .inl rfl⟩, (fun n cap hh => by cases hh; rfl), (fun z hz => by cases hz), by simp⟩
  · obtain rfl : v = .slice (some a) len cap := by simpa using hcs
    simp only [if_true] at hmm
    subst m
    rw [hC] at hx hi
    obtain ⟨l, hll, hp⟩ := list_of (p := fun i z => Q z ∧ ∀ (j : Nat) v, (R z)[j]? = some v → w.cell? (a.add (i * k + j)) = some v) len (fun i hil => by
      obtain ⟨cs, hc, htr⟩ := hi i (by omega)
      obtain ⟨-, hlen, hat⟩ := World.cells?_some hc
      obtain ⟨z, hq, rfl⟩ := hrow cs _ _ htr hlen
      refine ⟨z, hq, fun j v hj => ?_⟩
      have hjk : j < k := by rw [← hlen]; exact (List.getElem?_eq_some_iff.1 hj).1
      have := hat j hjk
      rw [add_add, hj] at this
      exact this)
    have hb : len * b ≤ 140737488351232 := by
      have h1 : ((cap : Nat) * b ≤ reachBytes) := by
        have := List.all_eq_true.1 hw (cap * b) (by
          rw [hx]; simp only [DataW.weights, ht, hB, List.length_map, List.length_range]
          rw [Nat.add_sub_cancel' hl]; exact List.mem_cons_self)
        simpa using this
      have h2 := Nat.mul_le_mul_right b hl
      unfold reachBytes at h1
      omega
    refine ⟨l, ⟨some a, cap, by rw [List.length_map, hll], by rw [List.length_map]; omega, hm, ?_⟩, (fun n cap hh => by cases hh), (fun z hz => ?_), by rw [hll]; exact hb⟩
    · by_cases h0 : len = 0
      · left; rw [List.length_eq_zero_iff.1 (hll.trans h0)]; rfl
      · right
        obtain ⟨cs, hc, -⟩ := hi 0 (by omega)
        obtain ⟨-, hlen, hat⟩ := World.cells?_some hc
        have h00 := hat 0 hk
        rw [List.getElem?_eq_getElem (by omega)] at h00
        obtain ⟨g, o, spot⟩ := a
        have hspot : spot = none := by simpa [Addr.add] using World.cell?_spot h00
        subst hspot
        refine ⟨g, o, rfl, hlt (.cell g o) (by rw [hx]; exact List.mem_append_left _ (MemPlace.mem_row.2 ⟨0, Nat.mul_pos (by omega) hk, by simp⟩)), fun j x hj i y hy => ?_⟩
        rw [List.getElem?_map] at hj
        obtain ⟨z, hz, rfl⟩ := Option.map_eq_some_iff.1 hj
        have h9 := (hp j z hz).2 i y hy
        rw [Go.WideShapes.add_plain, ← Nat.add_assoc] at h9
        exact h9
    · obtain ⟨i, hi'⟩ := List.mem_iff_getElem?.1 hz
      exact (hp i z hi').1
end
theorem rng64 {n : Int} (h : (Lit.int .i64 n).wf = true) : -9223372036854775808 ≤ n ∧ n ≤ 9223372036854775807 := by
  simpa [Lit.wf, IntKind.min, IntKind.max, IntKind.signed, IntKind.bits] using h
section
variable {H : Type} {enc : TypeId × Value → H} {W : World}
set_option maxRecDepth 100000 in
theorem row_int (cs : List Value) (y : DataW H × List MemPlace) (n : Nat) (h : DataW.trod enc Tryz.prog W 0 (fun _ => true) true n 3 cs = some y) (_ : cs.length = 1) : ∃ z : Int, True ∧ cs = [.int .i64 z] := by
  obtain ⟨z, e, -, -⟩ := DataW.trod_int Tryz.underlying3 h
  exact ⟨z, trivial, e⟩
set_option maxRecDepth 100000 in
theorem row_elm (cs : List Value) (y : DataW H × List MemPlace) (n : Nat) (h : DataW.trod enc Tryz.prog W 0 (fun _ => true) true n 66 cs = some y) (hl : cs.length = 2) : ∃ z : El, z.n.size ≤ 9223372036854775807 ∧ cs = z.row := by
  match cs, hl with
  | [c0, c1], _ =>
    obtain ⟨xs, m, -, -, -, hxl, hg⟩ := DataW.trod_struct Tryz.underlying66 h
    match xs, hxl with
    | [x0, x1], _ =>
      have g0 : DataW.trod enc Tryz.prog W 0 (fun _ => true) true m 9 [c0] = some x0 := hg 0 _ rfl
      have g1 : DataW.trod enc Tryz.prog W 0 (fun _ => true) true m 3 [c1] = some x1 := hg 1 _ rfl
      obtain ⟨s, e0, -, hs⟩ := DataW.trod_string Tryz.underlying9 g0
      obtain ⟨i1, e1, -, -⟩ := DataW.trod_int Tryz.underlying3 g1
      cases e0; cases e1
      exact ⟨⟨s, i1⟩, hs, rfl⟩
set_option maxRecDepth 100000 in
theorem row_cls (cs : List Value) (y : DataW H × List MemPlace) (n : Nat) (h : DataW.trod enc Tryz.prog W 0 (fun _ => true) true n 103 cs = some y) (hl : cs.length = 5) : ∃ z : Cl, z.n.size ≤ 9223372036854775807 ∧ cs = z.row := by
  match cs, hl with
  | [c0, c1, c2, c3, c4], _ =>
    obtain ⟨xs, m, -, -, -, hxl, hg⟩ := DataW.trod_struct Tryz.underlying103 h
    match xs, hxl with
    | [x0, x1], _ =>
      have g0 : DataW.trod enc Tryz.prog W 0 (fun _ => true) true m 9 [c0] = some x0 := hg 0 _ rfl
      have t4 : Tryz.prog.cellsOf 101 = 4 := by kernel_rfl
      have g1 : DataW.trod enc Tryz.prog W 0 (fun _ => true) true m 101 [c1, c2, c3, c4] = some x1 := by
        have : DataW.trod enc Tryz.prog W 0 (fun _ => true) true m 101 (List.take (Tryz.prog.cellsOf 101) [c1, c2, c3, c4]) = some x1 := hg 1 _ rfl
        rw [t4] at this
        exact this
      obtain ⟨s, e0, -, hs⟩ := DataW.trod_string Tryz.underlying9 g0
      obtain ⟨zs, m2, -, -, -, hzl, hz⟩ := DataW.trod_struct Tryz.underlying101 g1
      match zs, hzl with
      | [z0], _ =>
        have t5 : Tryz.prog.cellsOf 99 = 4 := by kernel_rfl
        have g2 : DataW.trod enc Tryz.prog W 0 (fun _ => true) true m2 99 [c1, c2, c3, c4] = some z0 := by
          have : DataW.trod enc Tryz.prog W 0 (fun _ => true) true m2 99 (List.take (Tryz.prog.cellsOf 99) [c1, c2, c3, c4]) = some z0 := hz 0 _ rfl
          rw [t5] at this
          exact this
        obtain ⟨us, m3, -, -, -, hul, hu⟩ := DataW.trod_array Tryz.underlying99 g2
        have t6 : Tryz.prog.cellsOf 75 = 1 := by kernel_rfl
        rw [t6] at hu
        match us, hul with
        | [u0, u1, u2, u3], _ =>
          have j0 : DataW.trod enc Tryz.prog W 0 (fun _ => true) true m3 75 [c1] = some u0 := hu 0 (by decide)
          have j1 : DataW.trod enc Tryz.prog W 0 (fun _ => true) true m3 75 [c2] = some u1 := hu 1 (by decide)
          have j2 : DataW.trod enc Tryz.prog W 0 (fun _ => true) true m3 75 [c3] = some u2 := hu 2 (by decide)
          have j3 : DataW.trod enc Tryz.prog W 0 (fun _ => true) true m3 75 [c4] = some u3 := hu 3 (by decide)
          obtain ⟨i1, e1, -, -⟩ := DataW.trod_int Tryz.underlying75 j0
          obtain ⟨i2, e2, -, -⟩ := DataW.trod_int Tryz.underlying75 j1
          obtain ⟨i3, e3, -, -⟩ := DataW.trod_int Tryz.underlying75 j2
          obtain ⟨i4, e4, -, -⟩ := DataW.trod_int Tryz.underlying75 j3
          cases e0; cases e1; cases e2; cases e3; cases e4
          exact ⟨⟨s, i1, i2, i3, i4⟩, hs, rfl⟩
set_option maxRecDepth 100000 in
set_option maxRecDepth 100000 in
theorem open_loc {b0 : Nat} {v : Value} {d : DataW H} {p : List MemPlace} (hv : Value.okWide Tryz.prog W .any b0 26 v) (h : DataW.Trod enc Tryz.prog W 0 (fun _ => true) true 26 v d p) (hlt : ∀ x ∈ p, x.block < W.heap.size) (hw : (d.weights Tryz.prog 26).all (· ≤ reachBytes) = true) :
    ∃ (n lo up : ByteArray) (v1 v4 v5 : Value) (Ws : List Int) (C : List Cl) (E : List El), v = lval n v1 lo up v4 v5 ∧ LocAt W v1 v4 v5 Ws C E ∧ NZ v1 ∧ NZ v4 ∧ NZ v5 ∧ n.size ≤ 9223372036854775807 ∧ Ws.length * 8 ≤ 140737488355328 ∧ C.length * 48 ≤ 140737488355328 ∧ E.length * 24 ≤ 140737488355328 := by
  obtain ⟨v0, v1, v2, v3, v4, v5, y0, y1, y2, y3, y4, y5, n, rfl, rfl, rfl, h0, h1, h2, h3, h4, h5⟩ := own_agg6 Tryz.underlying26 (by kernel_rfl) (by kernel_rfl) hv h
  obtain ⟨s0, e0, -, w0⟩ := DataW.trod_string Tryz.underlying9 h0
  obtain ⟨s2, e2, -, -⟩ := DataW.trod_string Tryz.underlying9 h2
  obtain ⟨s3, e3, -, -⟩ := DataW.trod_string Tryz.underlying9 h3
  cases e0; cases e2; cases e3
  have q1 : ∀ x ∈ y1.2, x.block < W.heap.size := fun x hx => hlt x (by simp [hx])
  have q4 : ∀ x ∈ y4.2, x.block < W.heap.size := fun x hx => hlt x (by simp [hx])
  have q5 : ∀ x ∈ y5.2, x.block < W.heap.size := fun x hx => hlt x (by simp [hx])
  have k1 := sized_parts Tryz.underlying26 hw (j := 1) rfl rfl
  have k4 := sized_parts Tryz.underlying26 hw (j := 4) rfl rfl
  have k5 := sized_parts Tryz.underlying26 hw (j := 5) rfl rfl
  obtain ⟨Ws, r1, n1, -, z1⟩ := open_rows (fun n : Int => [.int .i64 n]) (fun _ => True) 1 Tryz.underlying22 (by decide) (by kernel_rfl) (by kernel_rfl : Tryz.prog.bytesOf 3 = 8) h1 q1 k1 row_int
  obtain ⟨C, r4, n4, t4, z4⟩ := open_rows Cl.row (fun z => z.n.size ≤ 9223372036854775807) 5 Tryz.underlying23 (by decide) (by kernel_rfl) (by kernel_rfl : Tryz.prog.bytesOf 103 = 48) h4 q4 k4 row_cls
  obtain ⟨E, r5, n5, t5, z5⟩ := open_rows El.row (fun z => z.n.size ≤ 9223372036854775807) 2 Tryz.underlying24 (by decide) (by kernel_rfl) (by kernel_rfl : Tryz.prog.bytesOf 66 = 24) h5 q5 k5 row_elm
  exact ⟨s0, s2, s3, v1, v4, v5, Ws, C, E, rfl, ⟨r1, r4, r5, t4, t5⟩, n1, n4, n5, w0, by omega, by omega, by omega⟩
end
set_option maxRecDepth 100000 in
/-- a value among the arguments: its kind, its number, its string, which is no longer than the datum -/
theorem open_valU {H : Type} {enc : TypeId × Value → H} {W : World} {base : Nat} {v : Value} {d : DataW H} {p : List MemPlace} (hval : Value.okWide Tryz.prog W .any base 29 v) (h : DataW.Trod enc Tryz.prog W 0 (fun _ => true) true 29 v d p) :
    ∃ (k n : Int) (s : ByteArray), v = .agg #[.int .i64 k, .int .i64 n, .string s] ∧ s.size ≤ Rows.uptoBulk d := by
  obtain ⟨⟨l⟩, rfl, hsz⟩ := okWide_struct Tryz.underlying29 hval
  obtain ⟨fuel, hf⟩ := h
  obtain ⟨y0, y1, y2, n, hx, hl, h0, h1, h2⟩ := Go.Deep.trod_struct3 Tryz.underlying29 hf
  rw [show Tryz.prog.cellsOf 29 = 3 by kernel_rfl] at hsz
  match l, hsz with
  | [a, b, c], _ =>
    rw [show Tryz.prog.cellsOf 3 = 1 by kernel_rfl] at h0
    rw [show Tryz.prog.cellsOf 27 = 1 by kernel_rfl] at h1
    rw [show Tryz.prog.cellsOf 9 = 1 by kernel_rfl] at h2
    obtain ⟨k, e0, x0, _⟩ := DataW.trod_int Tryz.underlying3 h0
    obtain ⟨m, e1, x1, _⟩ := DataW.trod_int Tryz.underlying27 h1
    obtain ⟨s, e2, x2, _⟩ := DataW.trod_string Tryz.underlying9 h2
    have e0' : a = .int .i64 k := by simpa [Value.cells] using e0
    have e1' : b = .int .i64 m := by simpa [Value.cells] using e1
    have e2' : c = .string s := by simpa [Value.cells] using e2
    subst e0' e1' e2' x0 x1 x2
    refine ⟨k, m, s, rfl, ?_⟩
    have hd : d = .agg [.lit (.int .i64 k), .lit (.int .i64 m), .lit (.string s.data.toList)] := by have := congrArg Prod.fst hx; simpa using this
    subst hd
    have e : s.data.toList.length = s.size := rfl
    simp only [Rows.uptoBulk, Rows.uptoBulkAll]
    omega
end Go.Proofs.YtjngkapfngempaaGreatDoor
