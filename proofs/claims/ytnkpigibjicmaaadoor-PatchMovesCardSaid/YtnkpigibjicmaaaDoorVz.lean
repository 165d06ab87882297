/- walks: hunks in memory of their own (written by gen_vz.py) -/
import Derived.Test.YtnkpigibjicmaaaDoorVk
import Derived.Test.YtnkpigibjicmaaaDoorVca
import Derived.Lib.SliceRun
namespace Go.Proofs.YtnkpigibjicmaaaDoor
open Go.RowKit Go.Maps
open Pt
set_option maxRecDepth 100000 in
set_option maxHeartbeats 2000000 in
/-- a list of lines in memory of its own -/
theorem cloneD_any (l : List DL) (v : Value) (w : World) (hv : RowsAt w v 3 (l.map rowD)) (hl : l.length ≤ 1048576) :
    Calls Tryd.prog 54 #[v] w fun e w' => ∃ v', e = .returned v' ∧ Hid (OwnR w' w.heap.size 59 3 v' (l.map rowD)) ∧ Hid (Below w.heap.size w w') := by
  have hq := fun W a n c => Lib.run_eql_slice_nil (P := Tryd.prog) W 36 59 a n c 0 0 rtD.und
  obtain ⟨n, hn⟩ : ∃ n, (l.map rowD).length = n := ⟨_, rfl⟩
  have HA := Lib.hid hv
  obtain ⟨a, cap, rfl, c1, c2, -⟩ := hv.sl hn
  rcases a with _ | b
  · obtain ⟨rfl, rfl, rfl⟩ : l = [] ∧ n = 0 ∧ cap = 0 := by
      rcases HA.out with ⟨h0, a, e⟩ | ⟨g, o, c3, e, -⟩
      · cases e; exact ⟨by simpa using h0, rfl, rfl⟩
      · cases e
    clear hv hn
    go_enter Tryd.func54, Tryd.ntmps54
    go_wp2_with fail
    go_ret
    exact ⟨_, rfl, Lib.hid (OwnR.nil _ _ _ _), Lib.hid (Below.refl _ _)⟩
  · have hn2 : l.length = n := by rw [← hn, List.length_map]
    have LN : Hid (([] : List (List Value)).length + (l.map rowD).length ≤ 1048577) := Lib.hid (by rw [hn, List.length_nil]; omega)
    clear hv hn hn2
    have OW : Hid (OwnR (w.alloc (.cells #[] 59)) w.heap.size 59 3 (.slice (some ⟨w.heap.size, 0, none⟩) 0 0) []) := Lib.hid ⟨by simp, .inr ⟨w.heap.size, 0, #[], rfl, Nat.le_refl _, heap_alloc_new w _, Nat.le_refl _, Nat.zero_le _, by simp, by simp⟩⟩
    have B0 := Lib.hid ((Below.refl w.heap.size w).alloc (Nat.le_refl _) (.cells #[] 59))
    have HA2 := Lib.hid (HA.out.below ((Below.refl w.heap.size w).alloc (Nat.le_refl _) (.cells #[] 59)))
    go_enter Tryd.func54, Tryd.ntmps54
    go_wp2_with (first | (at_builtin; (refine append_rows rtD rfl _ _ rfl _ _ [] (l.map rowD) w.heap.size w _ OW.out HA2.out rowD_len (by intro x hx; obtain ⟨y, -, rfl⟩ := List.mem_map.1 hx; exact one_D) B0.out B0.out.size LN.out (by simp [Act.eval]) (by simp [Act.eval]) ?_; intro v3 w3 own3 bel3)))
    go_ret
    exact ⟨_, rfl, own3, bel3⟩
/-- a block of rows that are all known is a list of the call's own -/
theorem BlkR.own {w : World} {g k n B : Nat} {T : TypeId} {L : List (List Value)} (h : BlkR w g k n T L) (hn : L.length = n) (hk : ∀ x ∈ L, x.length = k) (hB : B ≤ g) (hm : n ≤ maxLen) : OwnR w B T k (.slice (some ⟨g, 0, none⟩) n n) L := by
  obtain ⟨cs, h1, h2, h3⟩ := h
  have hl := flat_len hk
  have hf : L.flatten = cs.toList := by
    refine List.ext_getElem? fun j => ?_
    by_cases hj : j < n * k
    · have hkp : 0 < k := by
        rcases Nat.eq_zero_or_pos k with h | h
        · subst h; simp at hj
        · exact h
      have hd : j / k < L.length := by rw [hn]; exact Nat.div_lt_of_lt_mul (by rw [Nat.mul_comm]; exact hj)
      obtain ⟨x, hx⟩ : ∃ x, L[j / k]? = some x := ⟨_, List.getElem?_eq_getElem hd⟩
      have hm2 : j % k < x.length := by rw [hk x (List.mem_of_getElem? hx)]; exact Nat.mod_lt _ hkp
      obtain ⟨y, hy⟩ : ∃ y, x[j % k]? = some y := ⟨_, List.getElem?_eq_getElem hm2⟩
      have e1 := flat_at (j / k) hk hx hy
      have e2 := h3 (j / k) x hx (j % k) y hy
      have ej : j / k * k + j % k = j := by rw [Nat.mul_comm]; exact Nat.div_add_mod j k
      rw [ej] at e1 e2
      rw [e1, Array.getElem?_toList, e2]
    · rw [List.getElem?_eq_none (by rw [hl, hn]; omega), List.getElem?_eq_none (by rw [Array.length_toList, h2]; omega)]
  subst hn
  refine ⟨by rw [hl], .inr ⟨g, L.length, cs, rfl, hB, h1, Nat.le_refl _, hm, h2, ?_⟩⟩
  rw [hf, List.take_of_length_le (by rw [← hf, hl]; exact Nat.le_refl _)]
/-- hunks whose first lines lists are the call's own -/
structure HC (gb j n : Nat) (L M : List HV) (w0 w : World) : Prop where
  len : M.length = n
  map : M.map (·.1) = L.map (·.1)
  rest : M.drop j = L.drop j
  own : ∀ p ∈ M.take j, OwnR w (gb + 1) 59 3 p.2 (p.1.ls.map rowD)
  blk : BlkR w gb 5 n 38 (M.map rowH)
  bel : Below gb w0 w
theorem OwnR.setz {w : World} {B k g i n kk : Nat} {T S : TypeId} {v u : Value} {l : List (List Value)} {L : List (List Value)} (h : OwnR w B T k v l) (hb : BlkR w g kk n S L) (hne : T ≠ S) : OwnR (w.setCell ⟨g, i, none⟩ u) B T k v l := by
  obtain ⟨cs, h1, -⟩ := hb
  refine h.ty fun a c z hi => ?_
  have : a ≠ g := fun e => by subst e; rw [h1] at hi; cases hi; exact hne rfl
  simp only [World.setCell, Array.getElem?_modify, if_neg (Ne.symm this)]
theorem HC.next {gb j n : Nat} {L M : List HV} {w0 w w5 : World} {h : Hk} {u v5 : Value} (H : HC gb j n L M w0 w) (hj : L[j]? = some (h, u)) (hb : Below w.heap.size w w5) (o : OwnR w5 w.heap.size 59 3 v5 (h.ls.map rowD)) : HC gb (j + 1) n L (M.set j (h, v5)) w0 (w5.setCell ⟨gb, j * 5 + 4, none⟩ v5) := by
  have hjn : j < n := by
    rw [← H.len]
    have h1 := congrArg List.length H.map
    rw [List.length_map, List.length_map] at h1
    have h2 := (List.getElem?_eq_some_iff.1 hj).1
    omega
  have hm : M[j]? = some (h, u) := by
    have h1 := congrArg (fun l : List HV => l[0]?) H.rest
    simp only [List.getElem?_drop, Nat.add_zero] at h1
    rw [h1]; exact hj
  have hB := H.blk.below hb
  refine ⟨by rw [List.length_set]; exact H.len, ?_, ?_, fun p hp => ?_, ?_, (H.bel.trans (hb.mono (Nat.le_of_lt H.blk.lt))).setCell (Nat.le_refl _) _⟩
  · rw [List.map_set, ← H.map]
    apply List.ext_getElem?
    intro a
    by_cases e : a = j
    · subst e
      rw [List.getElem?_set_self (by rw [List.length_map, H.len]; exact hjn), List.getElem?_map, hm]; rfl
    · rw [List.getElem?_set_ne (Ne.symm e)]
  · rw [List.drop_set_of_lt (by omega), ← List.drop_drop, H.rest, List.drop_drop]
  · rw [List.take_add_one, List.take_set_of_le (Nat.le_refl j), List.getElem?_set_self (by rw [H.len]; exact hjn)] at hp
    rcases List.mem_append.1 hp with hp | hp
    · exact ((H.own p hp).below hb).setz hB (by decide)
    · simp at hp
      subst hp
      exact (o.mono (by have := H.blk.lt; omega)).setz hB (by decide)
  · have := hB.set (by intro x hx; obtain ⟨y, -, rfl⟩ := List.mem_map.1 hx; rfl) j 4 (by omega) v5 (x := rowH (h, u)) (by rw [List.getElem?_map, hm]; rfl)
    rw [List.map_set]
    exact this
set_option maxRecDepth 100000 in
set_option maxHeartbeats 4000000 in
theorem hunks_any (L : List HV) (v : Value) (w : World) (hv : HksAt w v L) (hs : smallR L) :
    Calls Tryd.prog 26 #[v] w fun e w' => ∃ v' M, e = .returned v' ∧ Hid (M.map (·.1) = L.map (·.1)) ∧ Hid (HksAt w' v' M) ∧ Hid (∀ p ∈ M, OwnR w' w.heap.size 59 3 p.2 (p.1.ls.map rowD)) ∧ Hid (OwnR w' w.heap.size 38 5 v' (M.map rowH)) ∧ Hid (Below w.heap.size w w') := by
  obtain ⟨n, hn⟩ : ∃ n, L.length = n := ⟨_, rfl⟩
  have HN := Lib.hid hn
  have HVH := Lib.hid hv
  have HS := Lib.hid hs
  obtain ⟨a, cap, rfl, c1, c2, -⟩ := hv.rows.sl (n := n) (by rw [List.length_map]; exact hn)
  have hl1 := hs.1
  rw [hn] at hl1
  unfold maxLen at c2
  have hmk := fun W => make_rows rtH n (by omega) W
  have BM : Hid (BlkR (w.alloc (.cells (madeCells (Value.agg #[.int .i64 0, .int .i64 0, .int .i64 0, .int .i64 0, .slice none 0 0]).cells (n * 5)) 38)) w.heap.size 5 n 38 []) := Lib.hid (BlkR.made w _ 5 n _)
  have BL := Lib.hid ((Below.refl w.heap.size w).alloc (Nat.le_refl _) (.cells (madeCells (Value.agg #[.int .i64 0, .int .i64 0, .int .i64 0, .int .i64 0, .slice none 0 0]).cells (n * 5)) 38))
  have HR := Lib.hid (HVH.out.rows.below BL.out)
  have OH : Hid (∀ x ∈ L.map rowH, ∀ u ∈ x, u.oneCell' = true) := Lib.hid (by intro x hx; obtain ⟨y, hy, rfl⟩ := List.mem_map.1 hx; exact one_H (hv.each y hy).one)
  clear hv hs hn
  go_enter Tryd.func26, Tryd.ntmps26
  go_wp2_with (first | (refine wpList_copy_rows rtH rfl (.tmp 8) (.tmp 9) rfl w.heap.size n _ (L.map rowH) _ BM.out HR.out (by rw [List.length_map]; exact HN.out) rowH_len OH.out (by simp [Act.eval]) (by simp [Act.eval]) ?_; intro w2 BR BE))
  have H0 : Hid (HC w.heap.size 0 n L L w w2) := Lib.hid ⟨HN.out, rfl, rfl, (fun p hp => by simp at hp), BR.out, BL.out.trans BE.out⟩
  go_wp2_with fail
  go_loopw [13] (fun i wr => ∃ (j : Nat) (M : List HV), i = .int .i64 j ∧ j ≤ n ∧ Hid (HC w.heap.size j n L M w wr)) (fun i _ => n - (intOf i).toNat)
  case atStart => exact ⟨0, L, rfl, Nat.zero_le _, H0⟩
  case round =>
    obtain ⟨j, M, rfl, hj, HI⟩ := hrel
    by_cases hlt : j < n
    · obtain ⟨x, hx⟩ : ∃ x, L[j]? = some x := ⟨_, List.getElem?_eq_getElem (by rw [HN.out]; exact hlt)⟩
      have hmem := List.mem_of_getElem? hx
      have SX := Lib.hid (HS.out.2 x hmem)
      have HX := Lib.hid ((HVH.out.each x hmem).below HI.out.bel)
      obtain ⟨h, u⟩ := x
      have d4 : wr.cell? ⟨w.heap.size, j * 5 + 4, none⟩ = some u := HI.out.blk.at (x := rowH (h, u)) (by
        have h1 := congrArg (fun l : List HV => l[0]?) HI.out.rest
        simp only [List.getElem?_drop, Nat.add_zero] at h1
        rw [List.getElem?_map, h1, hx]; rfl) (i := 4) rfl
      have p0 : (0 : Int) ≤ (j : Int) := by omega
      have p1 : (j : Int) < (n : Int) := by omega
      have p2 : IntKind.i64.wrap (j : Int) = (j : Int) := IntWalk.i64_in _ (by omega)
      have HXJ := Lib.hid hx
      clear hx hmem
      go_wp2_with (go_at_call 54; refine (cloneD_any h.ls u _ HX.out (by have := SX.out; simp only at this; omega)).mono ?_; rintro _ w5 ⟨v5, rfl, O5, B5⟩; have e4 := kp B5.out d4; have f4 : w5.frozen? ⟨w.heap.size, j * 5 + 4, none⟩ = false := (HI.out.blk.below B5.out).fr _; obtain ⟨a5, k5, e5⟩ := O5.out.sl; obtain ⟨n5, hn5⟩ : ∃ n, (h.ls.map rowD).length = n := ⟨_, rfl⟩; rw [hn5] at e5; clear hn5; subst e5)
      have N := Lib.hid (HI.out.next HXJ.out B5.out O5.out)
      go_roundw
      case rel => exact ⟨j + 1, _, by go_num, by omega, N⟩
      case measure => simp [intOf]; omega
    · obtain rfl : j = n := by omega
      go_wp2_with fail
      go_ret
      exact ⟨_, M, rfl, Lib.hid HI.out.map, Lib.hid ⟨HI.out.blk.rows (by rw [List.length_map]; exact HI.out.len) (by unfold maxLen; omega), fun p hp => (HI.out.own p (by rw [List.take_of_length_le (by rw [HI.out.len]; exact Nat.le_refl _)]; exact hp)).rows rowD_len⟩, Lib.hid (fun p hp => (HI.out.own p (by rw [List.take_of_length_le (by rw [HI.out.len]; exact Nat.le_refl _)]; exact hp)).mono (by omega)), Lib.hid (HI.out.blk.own (by rw [List.length_map]; exact HI.out.len) rowH_len (Nat.le_refl _) (by unfold maxLen; omega)), Lib.hid HI.out.bel⟩
end Go.Proofs.YtnkpigibjicmaaaDoor
