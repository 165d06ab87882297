/- walks: the weights of a string, the reference -/
import Derived.Test.YtbhdhcnbagjmcaaDoorZf
import Derived.Deep.AppendLies
import Derived.Deep.RegionLaw
namespace Go.Proofs.YtbhdhcnbagjmcaaDoor
open Go.RowKit Go.Maps Go.WideMaps
open Lcl
theorem step_int {ops : Array Oper} {o : Oper} {a : Act} {K : Act → World → Prop} {Q : Exit → Act → World → Prop} {E : Prop} (hgd : o.guard = none) (s x : Operand)
    (ho : o.op = .call { callee := .builtin .append, args := #[s, x], argTypes := #[26, 26] }) (v : Value) (L : List Int) (c : Int) (B : Nat) (wr : World)
    (own : IRow wr B v L) (hB : B ≤ wr.heap.size) (len : L.length + 1 ≤ 1048577) (hs : a.eval s = v) (hx : a.eval x = .slice (some ⟨wr.heap.size, 0, none⟩) 1 1)
    (h : ∀ g cap w', Hid (IRow w' B (.slice (some ⟨g, 0, none⟩) (L.length + 1) cap) (L ++ [c])) → Hid (Below B wr w') → K (a.put o.dst (.slice (some ⟨g, 0, none⟩) (L.length + 1) cap)) w') :
    if Region.wanted o (yielded ops a.tmps) = true then Oper.wp Tryd.prog o a (wr.alloc (.cells #[.int .i64 c] 3)) K Q else E := by
  obtain ⟨i0, hi, hz0, hz1, hz2⟩ := info_parts info_i64
  refine step_append_lies _ hgd s x 26 ho B 3 i0 (.int .i64 0) 1 8 Tryd.underlying26 hi hz0 hz1 hz2 rfl (by decide) v L.length (ints L) hs (own.alloc _) ⟨wr.heap.size, 0, none⟩ 1 1 [.int .i64 c] hx rfl ?_ ?_ (by omega) ?_ ?_ ?_ _ rfl ?_
  · intro j y hj
    match j, hj with
    | 0, hj => simp at hj; subst hj; simp [Addr.add]
  · intro y hy; simp at hy; subst hy; rfl
  · unfold maxLen; omega
  · omega
  · simp; omega
  · intro g cap w' h1 h2 _ _
    refine h g cap w' (Lib.hid ?_) (Lib.hid (((Below.refl B wr).alloc hB _).grown h2 (by simp; omega) (fun k hk => (own.lt k hk).1)))
    rw [ints_snoc] at h1
    show w'.ownsRow B 3 1 _ (L ++ [c]).length (ints (L ++ [c]))
    rw [List.length_append]; exact h1
/-- after k bytes: the weights so far are L -/
structure E3 (w wr : World) (n lo up : ByteArray) (v1 v4 v5 : Value) (W : List Int) (E : List El) (s : ByteArray) (k : Nat) (v : Value) (L : List Int) : Prop where
  row : IRow wr (w.heap.size + 1) v L
  bel : Below (w.alloc (.cells #[.string n, v1, .string lo, .string up, v4, v5] 30)).heap.size (w.alloc (.cells #[.string n, v1, .string lo, .string up, v4, v5] 30)) wr
  sum : L ++ wts W (fstE (E.map El.pr)) (s.data.toList.drop k) = wts W (fstE (E.map El.pr)) s.data.toList
  len : L.length ≤ k
section
variable {w wr w1 : World} {n lo up : ByteArray} {v1 v4 v5 : Value} {W : List Int} {E : List El} {s : ByteArray} {k m : Nat} {v v' : Value} {L : List Int} {c : Int}
theorem E3.loc (h : E3 w wr n lo up v1 v4 v5 W E s k v L) : wr.heap[w.heap.size]? = some (.cells #[.string n, v1, .string lo, .string up, v4, v5] 30 (0, 0)) := by
  rw [h.bel.block _ (by rw [World.size_alloc]; omega)]; exact heap_alloc_new _ _
theorem E3.le (h : E3 w wr n lo up v1 v4 v5 W E s k v L) : w.heap.size + 1 ≤ wr.heap.size := by
  have := h.bel.size; rw [World.size_alloc] at this; exact this
theorem E3.later (h : E3 w wr n lo up v1 v4 v5 W E s k v L) (hb : Below wr.heap.size wr w1) : E3 w w1 n lo up v1 v4 v5 W E s k v L :=
  ⟨irow_below h.row hb, h.bel.trans (hb.mono h.bel.size), h.sum, h.len⟩
theorem E3.next (h : E3 w wr n lo up v1 v4 v5 W E s k v L) (hr : IRow w1 (w.heap.size + 1) v' (L ++ [c])) (hb : Below (w.heap.size + 1) wr w1) (hm : k < m)
    (hs : wts W (fstE (E.map El.pr)) (s.data.toList.drop k) = c :: wts W (fstE (E.map El.pr)) (s.data.toList.drop m)) : E3 w w1 n lo up v1 v4 v5 W E s m v' (L ++ [c]) := by
  refine ⟨hr, h.bel.trans (hb.mono (by rw [World.size_alloc]; omega)), by rw [← h.sum, hs, List.append_assoc]; rfl, ?_⟩
  have := h.len
  rw [List.length_append, List.length_singleton]; omega
end
/-- the weight at an offset -/
theorem wts_find (W : List Int) (E : List El) (s : ByteArray) (k : Nat) (h : k < s.size) :
    (fndO E s k = none → wts W (fstE (E.map El.pr)) (s.data.toList.drop k) = W.getD s[k].toNat 0 :: wts W (fstE (E.map El.pr)) (s.data.toList.drop (k + 1))) ∧
    ∀ m, fndO E s k = some m → k + 2 ≤ s.size ∧ wts W (fstE (E.map El.pr)) (s.data.toList.drop k) = m :: wts W (fstE (E.map El.pr)) (s.data.toList.drop (k + 2)) := by
  have hk1 : s.data.toList[k]? = some s[k] := by rw [List.getElem?_eq_getElem (show k < s.data.toList.length from h)]; rfl
  unfold fndO
  by_cases h2 : k + 2 ≤ s.size
  · have hk2 : s.data.toList[k + 1]? = some s[k + 1] := by rw [List.getElem?_eq_getElem (show k + 1 < s.data.toList.length from h2)]; rfl
    have e := wts_two W (fstE (E.map El.pr)) s.data.toList k s[k] s[k + 1] hk1 hk2
    rw [if_pos h2, (ext_two s k h2).2]
    exact ⟨fun h => by rw [e, h], fun m h => ⟨h2, by rw [e, h]⟩⟩
  · rw [if_neg h2]
    exact ⟨fun _ => wts_one W (fstE (E.map El.pr)) s.data.toList k s[k] hk1 (by show k + 1 = s.size; omega), fun m h => by cases h⟩
set_option maxRecDepth 100000 in
set_option maxHeartbeats 8000000 in
theorem rweights_any (n lo up : ByteArray) (v1 v4 v5 : Value) (W : List Int) (C : List Cl) (E : List El) (s : ByteArray) (w : World) (hL : LocAt w v1 v4 v5 W C E) (hW : W.length = 256) (hE : E.length ≤ 64) (hs : s.size ≤ 1048576) :
    Calls Tryd.prog 51 #[lval n v1 lo up v4 v5, .string s] w fun e w' => ∃ v, e = .returned v ∧ Hid (IRow w' (w.heap.size + 1) v (wts W (fstE (E.map El.pr)) s.data.toList)) ∧ Hid (Below w.heap.size w w') := by
  have LO := Lib.hid hL
  have HEL := Lib.hid hE
  have HSZ := Lib.hid hs
  obtain ⟨gW, oW, cW, rfl, -, -, hgW, hcW⟩ := hL.r1.cons (by intro e; have := congrArg List.length e; simp [hW] at this)
  rw [List.length_map, hW] at LO ⊢
  have HC := Lib.hid hcW
  have HW := Lib.hid hW
  obtain ⟨a, capE, rfl, hE1, hE2, hE3⟩ := hL.r5
  rw [List.length_map] at hE1 LO ⊢
  have H3 := Lib.hid hE3
  have GW : Hid (gW < w.heap.size) := Lib.hid hgW
  have S0 : Hid (E3 w (w.alloc (.cells #[.string n, .slice (some ⟨gW, oW, none⟩) 256 cW, .string lo, .string up, v4, .slice a E.length capE] 30)) n lo up (.slice (some ⟨gW, oW, none⟩) 256 cW) v4 (.slice a E.length capE) W E s 0 (.slice none 0 0) []) := Lib.hid ⟨row_empty _ _, Below.refl _ _, rfl, Nat.le_refl _⟩
  clear hL hE hcW hW hE1 hE2 hE3 hgW
  go_enter Tryd.func51, Tryd.ntmps51
  go_wp2_with fail
  go_loopw [5, 6] (fun v i wr => ∃ (k : Nat) (L : List Int), k ≤ s.size ∧ i = .int .i64 k ∧ Hid (E3 w wr n lo up (.slice (some ⟨gW, oW, none⟩) 256 cW) v4 (.slice a E.length capE) W E s k v L)) (fun _ i _ => s.size - (intOf i).toNat)
  case atStart => exact ⟨0, _, Nat.zero_le _, rfl, S0⟩
  case round =>
    clear S0
    obtain ⟨k, L, hk, rfl, RK⟩ := hrel
    by_cases hlt : k < s.size
    · obtain ⟨l0, l1, l2, l3, l4, l5⟩ := lrow_cells RK.out.loc
      obtain ⟨WN, WS⟩ := wts_find W E s k hlt
      have HL : Hid (L.length + 1 ≤ 1048577) := Lib.hid (by have := RK.out.len; omega)
      have CF := Lib.hid (find_any n lo up (.slice (some ⟨gW, oW, none⟩) 256 cW) v4 (.slice a E.length capE) W C E s k wr (LO.out.below (below_step RK.out.bel)) HEL.out HSZ.out hk)
      cases ho : fndO E s k with
      | none =>
        have WN := Lib.hid (WN ho)
        rw [ho] at CF
        clear WS ho
        go_wp2_with fail
        refine CF.out.mono ?_
        rintro e w1 ⟨hb1, rfl⟩
        have RK := Lib.hid (RK.out.later hb1)
        obtain ⟨-, l1, -, -, -, -⟩ := lrow_cells RK.out.loc
        obtain ⟨m, hm⟩ : ∃ m, W[s[k].toNat]? = some m := ⟨_, List.getElem?_eq_getElem (by rw [HW.out]; have := s[k].toNat_lt; omega)⟩
        have cw := ((below_step RK.out.bel).cell (p := ⟨gW, oW + s[k].toNat * 1 + 0, none⟩) GW.out).trans (HC.out s[k].toNat _ (by rw [List.getElem?_map, hm]; rfl) 0 _ rfl)
        rw [Nat.mul_one, Nat.add_zero] at cw
        have h257 := s[k].toNat_lt
        have i6 : ((s[k].toNat : Nat) : Int) < 256 := by omega
        have i7 : (0 : Int) ≤ ((s[k].toNat : Nat) : Int) := by omega
        have WN : Hid (wts W (fstE (E.map El.pr)) (s.data.toList.drop k) = m :: wts W (fstE (E.map El.pr)) (s.data.toList.drop (k + 1))) := Lib.hid (by rw [WN.out, List.getD_eq_getElem?_getD, hm]; rfl)
        clear hm CF hb1
        have LE : Hid (w.heap.size + 1 ≤ w1.heap.size) := Lib.hid RK.out.le
        go_wp2_with fail
        go_region_law (refine step_int rfl (.tmp 18) (.tmp 26) rfl _ L m (w.heap.size + 1) w1.drew RK.out.row LE.out HL.out (by simp [Act.eval]) (by simp [Act.eval]) ?_; intro g2 cap2 w2 own2 bel2)
        all_goals go_wp2_with fail
        all_goals have RN := Lib.hid (RK.out.next own2.out ((Below.refl _ _).drew.trans bel2.out) (show k < k + 1 by omega) WN.out)
        all_goals clear own2 bel2 RK
        all_goals exact ⟨⟨k + 1, _, by omega, by go_num, RN⟩, by simp only [intOf]; omega⟩
      | some m =>
        obtain ⟨h2, wn⟩ := WS m ho
        have WN := Lib.hid wn
        rw [ho] at CF
        clear WS ho wn
        go_wp2_with fail
        refine CF.out.mono ?_
        rintro e w1 ⟨hb1, j, x, hx, rfl, rfl⟩
        have RK := Lib.hid (RK.out.later hb1)
        obtain ⟨-, -, -, -, -, l5⟩ := lrow_cells RK.out.loc
        obtain ⟨hj, -⟩ := List.getElem?_eq_some_iff.1 hx
        obtain ⟨g, o, rfl, hg, hcell⟩ : ∃ g o, a = some ⟨g, o, none⟩ ∧ g < w.heap.size ∧ ∀ (j : Nat) x, (E.map El.row)[j]? = some x → ∀ (i : Nat) y, x[i]? = some y → w.cell? ⟨g, o + j * 2 + i, none⟩ = some y := by
          rcases H3.out with h | h
          · have := congrArg List.length h; rw [List.length_map, List.length_nil] at this; omega
          · exact h
        have c1 := ((below_step RK.out.bel).cell (p := ⟨g, o + j * 2 + 1, none⟩) hg).trans (hcell j _ (by rw [List.getElem?_map, hx]; rfl) 1 _ rfl)
        have LE : Hid (w.heap.size + 1 ≤ w1.heap.size) := Lib.hid RK.out.le
        clear hcell hx hg CF hb1
        go_wp2_with (at_builtin; refine append_int rfl _ _ rfl _ L x.w (w.heap.size + 1) _ _ RK.out.row (Below.refl _ _) LE.out HL.out rfl rfl ?_; intro g2 cap2 w2 own2 bel2 gr2 at2)
        have RN := Lib.hid (RK.out.next own2.out bel2.out (show k < k + 2 by omega) WN.out)
        clear own2 bel2 gr2 at2 RK
        go_roundw
        case rel => exact ⟨k + 2, _, by omega, by go_num, RN⟩
        case measure => simp [intOf]; omega
    · have ek : k = s.size := by omega
      subst ek
      have WE : Hid (L = wts W (fstE (E.map El.pr)) s.data.toList) := Lib.hid (by
        have h := RK.out.sum
        rw [List.drop_of_length_le (show s.data.toList.length ≤ s.size from Nat.le_refl _)] at h
        rw [← h]; simp [wts])
      go_wp2_with fail
      go_ret
      exact ⟨_, rfl, Lib.hid (by rw [← WE.out]; exact RK.out.row), Lib.hid (below_step RK.out.bel)⟩
end Go.Proofs.YtbhdhcnbagjmcaaDoor
