/- walks: the edit script (written by gen_vdd.py) -/
import Derived.Test.YtnkpigibjicmaaaDoorVdc
namespace Go.Proofs.YtnkpigibjicmaaaDoor
open Go.RowKit Go.Maps
open Pt
/-- the lines of an edit -/
def exE (a b : List ByteArray) (e : Ed) : List (Int × ByteArray) := if e.1 = 3 then ((b.drop e.2.2.1.toNat).take e.2.2.2.toNat).map (e.1, ·) else ((a.drop e.2.1.toNat).take e.2.2.2.toNat).map (e.1, ·)
def EdOK (a b : List ByteArray) (e : Ed) : Prop := (e.1 = 1 ∨ e.1 = 2 ∨ e.1 = 3) ∧ 0 ≤ e.2.1 ∧ 0 ≤ e.2.2.1 ∧ 1 ≤ e.2.2.2 ∧ (e.1 = 3 → e.2.2.1 + e.2.2.2 ≤ b.length) ∧ (e.1 ≠ 3 → e.2.1 + e.2.2.2 ≤ a.length)
/-- the script so far -/
structure SCI (a b : List ByteArray) (out : List Ed) (i j : Nat) : Prop where
  ex : out.flatMap (exE a b) ++ diffP (a.drop i) (b.drop j) = diffP a b
  ok : ∀ e ∈ out, EdOK a b e
  la : ∀ (r : List Ed) (e : Ed), out = r ++ [e] → (e.1 ≠ 3 → e.2.1 + e.2.2.2 = (i : Int)) ∧ (e.1 = 3 → e.2.2.1 + e.2.2.2 = (j : Int))
  len : out.length ≤ i + j
  hi : i ≤ a.length
  hj : j ≤ b.length
theorem SCI.start (a b : List ByteArray) : SCI a b [] 0 0 := ⟨rfl, by simp, fun r e h => by simp at h, Nat.le_refl _, Nat.zero_le _, Nat.zero_le _⟩
theorem take_more {α : Type} {l : List α} {A N : Nat} {x : α} (h : l[A + N]? = some x) : (l.drop A).take (N + 1) = (l.drop A).take N ++ [x] := take_get (by rw [List.getElem?_drop]; exact h)
theorem SCI.step {a b : List ByteArray} {out : List Ed} {i j : Nat} (h : SCI a b out i j) (op : Int) (x : ByteArray) (i' j' : Nat) (hop : op = 1 ∨ op = 2 ∨ op = 3) (hd : diffP (a.drop i) (b.drop j) = (op, x) :: diffP (a.drop i') (b.drop j'))
    (h3 : op = 3 → b[j]? = some x ∧ j' = j + 1) (hn : op ≠ 3 → a[i]? = some x ∧ i' = i + 1) (hij : i + j + 1 ≤ i' + j') (hi' : i' ≤ a.length) (hj' : j' ≤ b.length) : SCI a b (addE out op i j) i' j' := by
  have one : exE a b (op, (i : Int), (j : Int), 1) = [(op, x)] := by
    unfold exE
    by_cases e : op = 3
    · rw [if_pos e]
      have := take_more (A := j) (N := 0) (h3 e).1
      rw [List.take_zero, List.nil_append] at this
      show (List.take 1 (List.drop j b)).map (fun z => (op, z)) = [(op, x)]
      rw [this]; rfl
    · rw [if_neg e]
      have := take_more (A := i) (N := 0) (hn e).1
      rw [List.take_zero, List.nil_append] at this
      show (List.take 1 (List.drop i a)).map (fun z => (op, z)) = [(op, x)]
      rw [this]; rfl
  have ok1 : EdOK a b (op, (i : Int), (j : Int), 1) := ⟨hop, by simp, by simp, by simp, fun e => by have := (h3 e).2; simp only; omega, fun e => by have := (hn e).2; simp only; omega⟩
  have new : ∀ o, o = out ++ [(op, (i : Int), (j : Int), (1 : Int))] → SCI a b o i' j' := by
    rintro o rfl
    refine ⟨?_, ?_, ?_, by have := h.len; simp; omega, hi', hj'⟩
    · rw [List.flatMap_append, List.append_assoc, ← h.ex, hd]
      simp [one]
    · intro e he
      rcases List.mem_append.1 he with he | he
      · exact h.ok e he
      · simp at he; subst he; exact ok1
    · intro r e he
      obtain ⟨-, he⟩ := List.append_inj' he rfl
      simp at he; subst he
      exact ⟨fun e => by have := (hn e).2; simp only; omega, fun e => by have := (h3 e).2; simp only; omega⟩
  rcases List.eq_nil_or_concat out with rfl | ⟨r, ⟨eo, eA, eB, eN⟩, rfl⟩
  · exact new _ rfl
  · rw [List.concat_eq_append] at *
    by_cases e : eo = op
    · subst e
      rw [addE_same]
      have hl := h.la r _ rfl
      have hk := h.ok (eo, eA, eB, eN) (by simp)
      obtain ⟨k1, k2, k3, k4, k5, k6⟩ := hk
      simp only at hl k1 k2 k3 k4 k5 k6
      have more : exE a b (eo, eA, eB, eN + 1) = exE a b (eo, eA, eB, eN) ++ [(eo, x)] := by
        unfold exE
        simp only
        rw [show (eN + 1).toNat = eN.toNat + 1 by omega]
        by_cases e : eo = 3
        · rw [if_pos e, if_pos e, take_more (x := x) (by rw [show eB.toNat + eN.toNat = j by have := hl.2 e; omega]; exact (h3 e).1), List.map_append]; rfl
        · rw [if_neg e, if_neg e, take_more (x := x) (by rw [show eA.toNat + eN.toNat = i by have := hl.1 e; omega]; exact (hn e).1), List.map_append]; rfl
      refine ⟨?_, ?_, ?_, by have := h.len; simp at this ⊢; omega, hi', hj'⟩
      · rw [← h.ex, hd]
        simp [more]
      · intro e he
        rcases List.mem_append.1 he with he | he
        · exact h.ok e (by simp [he])
        · simp at he; subst he
          exact ⟨k1, k2, k3, by simp only; omega, fun e => by have := (h3 e).2; have := hl.2 e; simp only; omega, fun e => by have := (hn e).2; have := hl.1 e; simp only; omega⟩
      · intro r e he
        obtain ⟨-, he⟩ := List.append_inj' he rfl
        simp at he; subst he
        exact ⟨fun e => by have := (hn e).2; have := hl.1 e; simp only; omega, fun e => by have := (h3 e).2; have := hl.2 e; simp only; omega⟩
    · exact new _ (addE_other e)
set_option maxRecDepth 100000 in
set_option maxHeartbeats 4000000 in
theorem script_any (a b : List ByteArray) (va vb : Value) (w : World) (ha : Strs w va a) (hb : Strs w vb b) (hn : a.length ≤ 1000) (hm : b.length ≤ 1000) :
    Calls Tryd.prog 64 #[va, vb] w fun e w' => ∃ v' out, e = .returned v' ∧ Hid (SCI a b out a.length b.length) ∧ Hid (OwnR w' w.heap.size 114 4 v' (out.map rowE)) ∧ Hid (Below w.heap.size w w') := by
  have CC := Lib.hid (costs_any a b va vb w ha hb hn hm)
  obtain ⟨n, hln⟩ : ∃ n, a.length = n := ⟨_, rfl⟩
  obtain ⟨m, hlm⟩ : ∃ m, b.length = m := ⟨_, rfl⟩
  have HN := Lib.hid (And.intro hln hlm)
  obtain ⟨aa, ac, rfl, a1, -, -⟩ := ha
  obtain ⟨ba, bc, rfl, b1, -, -⟩ := hb
  rw [hln] at hn a1 CC ⊢
  rw [hlm] at hm b1 CC ⊢
  obtain ⟨N, hN⟩ : ∃ N, (n + 1) * (m + 1) = N := ⟨_, rfl⟩
  have hN2 : N ≤ 1002001 := by rw [← hN]; exact Nat.mul_le_mul (show n + 1 ≤ 1001 by omega) (show m + 1 ≤ 1001 by omega)
  have HNN := Lib.hid hN
  obtain ⟨wd, hwd⟩ : ∃ wd, m + 1 = wd := ⟨_, rfl⟩
  have e1 : IntKind.i64.wrap ((m : Int) + 1) = (wd : Int) := (IntWalk.i64_in _ (by omega)).trans (by omega)
  have HW := Lib.hid hwd
  rw [hN] at CC
  clear hln hlm hN hwd a1 b1
  go_enter Tryd.func64, Tryd.ntmps64
  go_wp2_with (first | (go_at_call 72; (with_reducible refine CC.out.mono ?_); rintro _ w1 ⟨g, rfl, G1, T1, B1⟩))
  go_loopw [7, 8, 9, 10] (fun v x y _ wr => ∃ (i j : Nat) (out : List Ed), Hid (OwnR wr w1.heap.size 114 4 v (out.map rowE)) ∧ x = .int .i64 i ∧ y = .int .i64 j ∧ Hid (SCI a b out i j) ∧ Hid (Below w1.heap.size w1 wr)) (fun _ x y _ _ => n + m - (intOf x).toNat - (intOf y).toNat)
  case atStart => exact ⟨0, 0, [], Lib.hid (OwnR.nil _ _ _ _), rfl, rfl, Lib.hid (SCI.start a b), Lib.hid (Below.refl _ _)⟩
  case round =>
    obtain ⟨i, j, out, OW, rfl, rfl, HS, BK⟩ := hrel
    have hi : i ≤ n := by have := HS.out.hi; rw [HN.out.1] at this; exact this
    have hj : j ≤ m := by have := HS.out.hj; rw [HN.out.2] at this; exact this
    by_cases hend : i = n ∧ j = m
    · obtain ⟨rfl, rfl⟩ := hend
      have k2 : ¬ (i : Int) < (i : Int) := by omega
      have k3 : ¬ (j : Int) < (j : Int) := by omega
      go_wp2_with fail
      go_ret
      exact ⟨u7, rfl, out, HS, Lib.hid (OW.out.mono (Nat.le_trans B1.out.size (Nat.le_refl _))), Lib.hid (B1.out.trans (BK.out.mono B1.out.size))⟩
    have AD := Lib.hid (fun op W (hb : Below wr.heap.size wr W) => addE_any out op (i : Int) (j : Int) u7 w1.heap.size W (OW.out.below hb) (Nat.le_trans BK.out.size hb.size) (by have := HS.out.len; omega) (fun e he => by
      obtain ⟨q1, q2, q3, q4, q5, q6⟩ := HS.out.ok e he
      rw [HN.out.2] at q5
      rw [HN.out.1] at q6
      by_cases e3 : e.1 = 3
      · have := q5 e3; omega
      · have := q6 e3; omega))
    have TT := Lib.hid (T1.out.below BK.out)
    obtain ⟨R0, hR0⟩ : ∃ R0, i * (m + 1) = R0 := ⟨_, rfl⟩
    obtain ⟨R1, hR1⟩ : ∃ R1, (i + 1) * (m + 1) = R1 := ⟨_, rfl⟩
    have l0 : R0 + j < N := by rw [← HNN.out, ← hR0]; exact tab_lt (by omega) (by omega)
    have l1 : R1 = R0 + wd := by rw [← hR1, ← hR0, ← HW.out, Nat.add_mul, Nat.one_mul]
    have g1 : IntKind.i64.wrap ((i : Int) * (wd : Int)) = (R0 : Int) := by
      have : (i : Int) * (wd : Int) = (R0 : Int) := by rw [← hR0, ← HW.out]; push_cast; rfl
      rw [this]; exact IntWalk.i64_in _ (by omega)
    have g2 : IntKind.i64.wrap (((i : Int) + 1) * (wd : Int)) = (R1 : Int) := by
      have : ((i : Int) + 1) * (wd : Int) = (R1 : Int) := by rw [← hR1, ← HW.out]; push_cast; rfl
      rw [this]; exact IntWalk.i64_in _ (by have := HW.out; omega)
    obtain ⟨T0, hT0⟩ : ∃ T, R0 + j = T := ⟨_, rfl⟩
    obtain ⟨T1, hT1⟩ : ∃ T, R1 + j = T := ⟨_, rfl⟩
    have g3 : IntKind.i64.wrap ((i : Int) + 1) = (i : Int) + 1 := IntWalk.i64_in _ (by omega)
    have g0 : IntKind.i64.wrap ((j : Int) + 1) = (j : Int) + 1 := IntWalk.i64_in _ (by omega)
    have g4 : IntKind.i64.wrap ((R0 : Int) + (j : Int)) = (T0 : Int) := (IntWalk.i64_in _ (by omega)).trans (by omega)
    have g5 : IntKind.i64.wrap ((R1 : Int) + (j : Int)) = (T1 : Int) := (IntWalk.i64_in _ (by have := HW.out; omega)).trans (by omega)
    have g6 : IntKind.i64.wrap ((T0 : Int) + 1) = (T0 : Int) + 1 := IntWalk.i64_in _ (by omega)
    have z0 : (0 : Int) ≤ (T0 : Int) := by omega
    have z1 : (T0 : Int) < (N : Int) := by omega
    have c0 := TT.out.at i j (by rw [HN.out.1]; exact hi) (by rw [HN.out.2]; exact hj) (.inl (by rw [HN.out.1]; omega))
    rw [HN.out.2, hR0, hT0] at c0
    obtain ⟨x0, hx0⟩ : ∃ c, cost (a.drop i) (b.drop j) = c := ⟨_, rfl⟩
    have h0 := cost_le _ (a.drop i) (b.drop j) (Nat.le_refl _)
    rw [hx0, List.length_drop, List.length_drop, HN.out.1, HN.out.2] at h0
    rw [hx0] at c0
    have g7 : IntKind.i64.wrap ((x0 : Int) - 1) = (x0 : Int) - 1 := IntWalk.i64_in _ (by omega)
    have HC0 := Lib.hid hx0
    have DEL : ∀ (_ : i < n), ∃ xD, Hid (cost (a.drop (i + 1)) (b.drop j) = xD) ∧ wr.cell? ⟨g, T1, none⟩ = some (.int .i64 (xD : Nat)) ∧ (0 : Int) ≤ (T1 : Int) ∧ (T1 : Int) < (N : Int) := fun hin => by
      have c1 := TT.out.at (i + 1) j (by rw [HN.out.1]; omega) (by rw [HN.out.2]; omega) (.inl (by rw [HN.out.1]; omega))
      rw [HN.out.2, hR1, hT1] at c1
      have := tab_lt (n := n) (m := m) (show i + 1 ≤ n from hin) (show j ≤ m by omega)
      rw [HNN.out, hR1] at this
      exact ⟨_, Lib.hid rfl, c1, by omega, by omega⟩
    have INS : ∀ (_ : j < m), ∃ xR, Hid (cost (a.drop i) (b.drop (j + 1)) = xR) ∧ wr.cell? ⟨g, T0 + 1, none⟩ = some (.int .i64 (xR : Nat)) ∧ (0 : Int) ≤ (T0 : Int) + 1 ∧ (T0 : Int) + 1 < (N : Int) ∧ ((T0 : Int) + 1).toNat = T0 + 1 := fun hin => by
      have c1 := TT.out.at i (j + 1) (by rw [HN.out.1]; omega) (by rw [HN.out.2]; omega) (.inl (by rw [HN.out.1]; omega))
      rw [HN.out.2, hR0, ← Nat.add_assoc, hT0] at c1
      have := tab_lt (n := n) (m := m) (show i ≤ n by omega) (show j + 1 ≤ m by omega)
      rw [HNN.out, hR0] at this
      exact ⟨_, Lib.hid rfl, c1, by omega, by omega, by omega⟩
    have hne : i < n ∨ j < m := by omega
    have AX : ∀ x a', a.drop i = x :: a' → i < n ∧ a[i]? = some x ∧ a' = a.drop (i + 1) := fun x a' e => by
      have h1 : a[i]? = some x := by have := congrArg (·[0]?) e; simpa using this
      have := (List.getElem?_eq_some_iff.1 h1).1
      rw [drop_get h1] at e
      cases e
      exact ⟨by rw [HN.out.1] at this; exact this, h1, rfl⟩
    have BX : ∀ x b', b.drop j = x :: b' → j < m ∧ b[j]? = some x ∧ b' = b.drop (j + 1) := fun x b' e => by
      have h1 : b[j]? = some x := by have := congrArg (·[0]?) e; simpa using this
      have := (List.getElem?_eq_some_iff.1 h1).1
      rw [drop_get h1] at e
      cases e
      exact ⟨by rw [HN.out.2] at this; exact this, h1, rfl⟩
    have HAX := Lib.hid AX
    have HBX := Lib.hid BX
    have HIJ := Lib.hid (And.intro hi hj)
    clear hR0 hR1 hT0 hT1 l0 l1 hx0 h0 AX BX hend
    by_cases hd : i < n ∧ cost (a.drop (i + 1)) (b.drop j) + 1 = x0
    · obtain ⟨hin, hd⟩ := hd
      obtain ⟨xD, hxD, c1, z2, z3⟩ := DEL hin
      obtain ⟨x, hx⟩ : ∃ x, a[i]? = some x := ⟨_, List.getElem?_eq_getElem (by rw [HN.out.1]; exact hin)⟩
      have NS := Lib.hid (HS.out.step 2 x (i + 1) j (.inr (.inl rfl)) (by
        rw [drop_get hx]; exact diff_del (by rw [← drop_get hx, HC0.out]; exact hd)) (by omega) (fun _ => ⟨hx, rfl⟩) (by omega) (by rw [HN.out.1]; omega) (by rw [HN.out.2]; omega))
      have k2 : (i : Int) < (n : Int) := by omega
      rw [hxD.out] at hd
      have k5 : ((xD : Int) == (x0 : Int) - 1) = true := beq_iff_eq.2 (by omega)
      clear hd hx DEL INS
      go_wp2_with (first | (go_at_call 73; (with_reducible refine (AD.out _ _ (Below.refl _ _)).mono ?_); rintro _ w3 ⟨v3, rfl, O3, B3⟩))
      go_roundw
      case rel => exact ⟨i + 1, j, _, O3, by go_num, by go_num, NS, Lib.hid (BK.out.trans B3.out)⟩
      case measure => simp [intOf]; omega
    have hnd : ∀ x a', a.drop i = x :: a' → cost a' (b.drop j) + 1 ≠ cost (a.drop i) (b.drop j) := fun x a' e hc => by
      obtain ⟨q1, -, q3⟩ := HAX.out x a' e
      rw [q3, HC0.out] at hc
      exact hd ⟨q1, hc⟩
    by_cases hs : j < m ∧ cost (a.drop i) (b.drop (j + 1)) + 1 = x0
    · obtain ⟨hjn, hs⟩ := hs
      obtain ⟨xR, hxR, c2, z4, z5, z6⟩ := INS hjn
      obtain ⟨y, hy⟩ : ∃ y, b[j]? = some y := ⟨_, List.getElem?_eq_getElem (by rw [HN.out.2]; exact hjn)⟩
      have NS := Lib.hid (HS.out.step 3 y i (j + 1) (.inr (.inr rfl)) (by
        rw [drop_get hy]; exact diff_ins (by rw [← drop_get hy]; exact hnd) (by rw [← drop_get hy, HC0.out]; exact hs)) (fun _ => ⟨hy, rfl⟩) (by omega) (by omega) (by rw [HN.out.1]; omega) (by rw [HN.out.2]; omega))
      have k3 : (j : Int) < (m : Int) := by omega
      rw [hxR.out] at hs
      have k6 : ((xR : Int) == (x0 : Int) - 1) = true := beq_iff_eq.2 (by omega)
      clear hs hy INS hnd
      by_cases hin : i < n
      · obtain ⟨xD, hxD, c1, z2, z3⟩ := DEL hin
        have k2 : (i : Int) < (n : Int) := by omega
        have k5 : ((xD : Int) == (x0 : Int) - 1) = false := beq_eq_false_iff_ne.2 (fun h => hd ⟨hin, by rw [hxD.out]; omega⟩)
        clear hd DEL
        go_wp2_with (first | (go_at_call 73; (with_reducible refine (AD.out _ _ (Below.refl _ _)).mono ?_); rintro _ w3 ⟨v3, rfl, O3, B3⟩))
        go_roundw
        case rel => exact ⟨i, j + 1, _, O3, by go_num, by go_num, NS, Lib.hid (BK.out.trans B3.out)⟩
        case measure => simp [intOf]; omega
      · have k2 : ¬ (i : Int) < (n : Int) := by omega
        clear hd DEL
        go_wp2_with (first | (go_at_call 73; (with_reducible refine (AD.out _ _ (Below.refl _ _)).mono ?_); rintro _ w3 ⟨v3, rfl, O3, B3⟩))
        go_roundw
        case rel => exact ⟨i, j + 1, _, O3, by go_num, by go_num, NS, Lib.hid (BK.out.trans B3.out)⟩
        case measure => simp [intOf]; omega
    have hni : ∀ y b', b.drop j = y :: b' → cost (a.drop i) b' + 1 ≠ cost (a.drop i) (b.drop j) := fun x a' e hc => by
      obtain ⟨q1, -, q3⟩ := HBX.out x a' e
      rw [q3, HC0.out] at hc
      exact hs ⟨q1, hc⟩
    obtain ⟨x, a', b', ea, eb, -, ek⟩ := diff_keep (by
      rcases hne with h | h
      · exact .inl (fun e => by have := congrArg List.length e; rw [List.length_drop, HN.out.1] at this; simp at this; omega)
      · exact .inr (fun e => by have := congrArg List.length e; rw [List.length_drop, HN.out.2] at this; simp at this; omega)) hnd hni
    obtain ⟨hin, hx, ea2⟩ := HAX.out x a' ea
    obtain ⟨hjn, hy, eb2⟩ := HBX.out x b' eb
    have NS := Lib.hid (HS.out.step 1 x (i + 1) (j + 1) (.inl rfl) (by rw [ek, ea2, eb2]) (by omega) (fun _ => ⟨hx, rfl⟩) (by omega) (by rw [HN.out.1]; omega) (by rw [HN.out.2]; omega))
    obtain ⟨xD, hxD, c1, z2, z3⟩ := DEL hin
    obtain ⟨xR, hxR, c2, z4, z5, z6⟩ := INS hjn
    have k2 : (i : Int) < (n : Int) := by omega
    have k3 : (j : Int) < (m : Int) := by omega
    have k5 : ((xD : Int) == (x0 : Int) - 1) = false := beq_eq_false_iff_ne.2 (fun h => hd ⟨hin, by rw [hxD.out]; omega⟩)
    have k6 : ((xR : Int) == (x0 : Int) - 1) = false := beq_eq_false_iff_ne.2 (fun h => hs ⟨hjn, by rw [hxR.out]; omega⟩)
    clear hd hs hnd hni ea eb ek ea2 eb2 hx hy DEL INS
    go_wp2_with (first | (go_at_call 73; (with_reducible refine (AD.out _ _ (Below.refl _ _)).mono ?_); rintro _ w3 ⟨v3, rfl, O3, B3⟩))
    go_roundw
    case rel => exact ⟨i + 1, j + 1, _, O3, by go_num, by go_num, NS, Lib.hid (BK.out.trans B3.out)⟩
    case measure => simp [intOf]; omega

end Go.Proofs.YtnkpigibjicmaaaDoor
