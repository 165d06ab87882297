/- plain mathematics and texts of one kind, joined in one file (merge.py) -/
import Derived.Test.YtnkpigibjicmaaaDoorVxa
import Derived.BigQuiet
import Derived.Test.YtnkpigibjicmaaaDoorVdm
/- walks: the law's same -/
namespace Go.Proofs.YtnkpigibjicmaaaDoor
open Go.RowKit Go.Maps
open Pt
theorem below_drewN {B : Nat} {a w : World} (h : Below B a w) (n : Nat) : Below B a (w.drewN n) := ⟨h.os, h.tape, h.output, h.size, h.block⟩
/-- what same says -/
def sameV (a b : List ByteArray) (n : Nat) (u : Value) : Prop := ∃ c : Bool, u = .bool c ∧ ((∀ t, t < n → ∃ x, a[t]? = some x ∧ b[t]? = some x) → c = true)
set_option maxRecDepth 100000 in
set_option maxHeartbeats 20000000 in
theorem lsame_any (a b : List ByteArray) (va vb : Value) (n : Nat) (w : World) (ha : Strs w va a) (hb : Strs w vb b) (hn : n ≤ 100000) :
    Calls Tryd.prog 17 #[va, vb, .int .i64 n] w fun e w' => ∃ u, e = .returned u ∧ sameV a b n u ∧ Below w.heap.size w w' := by
  obtain ⟨la, hla⟩ : ∃ n, a.length = n := ⟨_, rfl⟩
  obtain ⟨lb, hlb⟩ : ∃ n, b.length = n := ⟨_, rfl⟩
  have HA := Lib.hid hla
  have HB := Lib.hid hlb
  obtain ⟨aa, ac, rfl, a1, a2, hca⟩ := ha
  obtain ⟨ba, bc, rfl, b1, b2, hcb⟩ := hb
  have CA := Lib.hid hca
  have CB := Lib.hid hcb
  rw [hla] at a1 ⊢
  rw [hlb] at b1 ⊢
  unfold maxLen at a2 b2
  clear hla hlb hca hcb
  go_enter Tryd.func17, Tryd.ntmps17
  go_wp2_with fail
  go_loopw [7] (fun i wr => ∃ j : Nat, i = .int .i64 j ∧ j ≤ n ∧ Hid (Below w.heap.size w wr)) (fun i _ => n - (intOf i).toNat)
  case atStart => exact ⟨0, rfl, Nat.zero_le _, Lib.hid (Below.refl _ _)⟩
  case round =>
    obtain ⟨j, rfl, hj, BK⟩ := hrel
    by_cases hlt : j < n
    · have p1 : (j : Int) < (n : Int) := by omega
      have p0 : (0 : Int) ≤ (j : Int) := by omega
      have q3 : IntKind.i64.wrap ((j : Int) + 1) = (j : Int) + 1 := IntWalk.i64_in _ (by omega)
      have p2 : IntKind.i64.wrap (j : Int) = (j : Int) := IntWalk.i64_in _ (by omega)
      by_cases h1 : j < la
      rotate_left
      · have t1 : (la : Int) ≤ (j : Int) := by omega
        have E : Hid (¬ ∀ t, t < n → ∃ x, a[t]? = some x ∧ b[t]? = some x) := Lib.hid (fun h => by
          obtain ⟨x, hx, -⟩ := h j hlt
          have := (List.getElem?_eq_some_iff.1 hx).1
          have := HA.out; omega)
        go_upto_region 4 with (fail)
        go_quiet (fail)
        go_wp2_with fail
        go_ret
        exact ⟨_, rfl, ⟨false, rfl, fun h => absurd h E.out⟩, below_drewN BK.out _⟩
      have t1 : decide ((la : Int) ≤ (j : Int)) = false := decide_eq_false (by omega)
      by_cases h2 : j < lb
      rotate_left
      · have t2 : decide ((lb : Int) ≤ (j : Int)) = true := decide_eq_true (by omega)
        have E : Hid (¬ ∀ t, t < n → ∃ x, a[t]? = some x ∧ b[t]? = some x) := Lib.hid (fun h => by
          obtain ⟨x, -, hx⟩ := h j hlt
          have := (List.getElem?_eq_some_iff.1 hx).1
          have := HB.out; omega)
        go_upto_region 4 with (fail)
        go_quiet (fail)
        go_wp2_with fail
        go_ret
        exact ⟨_, rfl, ⟨false, rfl, fun h => absurd h E.out⟩, below_drewN BK.out _⟩
      have t2 : decide ((lb : Int) ≤ (j : Int)) = false := decide_eq_false (by omega)
      obtain ⟨x, hx⟩ : ∃ x, a[j]? = some x := ⟨_, List.getElem?_eq_getElem (by rw [HA.out]; exact h1)⟩
      obtain ⟨y, hy⟩ : ∃ y, b[j]? = some y := ⟨_, List.getElem?_eq_getElem (by rw [HB.out]; exact h2)⟩
      rcases CA.out with e0 | ⟨ga, oa, rfl, -, hcA⟩
      · have := HA.out; rw [e0] at this; simp at this; omega
      rcases CB.out with e0 | ⟨gb, ob, rfl, -, hcB⟩
      · have := HB.out; rw [e0] at this; simp at this; omega
      have d0 := kp BK.out (hcA j x hx)
      have d1 := kp BK.out (hcB j y hy)
      have HX := Lib.hid (And.intro hx hy)
      have p4 : (j : Int) < (la : Int) := by omega
      have p5 : (j : Int) < (lb : Int) := by omega
      clear hcA hcB hx hy
      by_cases he : x = y
      · subst he
        go_upto_region 4 with (fail)
        go_quiet (fail)
        go_wp2_with fail
        go_roundw
        case rel => exact ⟨j + 1, by go_num, by have := hlt; omega, Lib.hid (below_drewN BK.out _)⟩
        case measure => simp [intOf]; omega
      · have te : (x.toList == y.toList) = false := strs_ne he
        have E : Hid (¬ ∀ t, t < n → ∃ x, a[t]? = some x ∧ b[t]? = some x) := Lib.hid (fun h => by
          obtain ⟨z, h1, h2⟩ := h j hlt
          rw [HX.out.1] at h1
          rw [HX.out.2] at h2
          cases h1; cases h2; exact he rfl)
        clear he
        go_upto_region 4 with (fail)
        go_quiet (fail)
        go_wp2_with fail
        go_ret
        exact ⟨_, rfl, ⟨false, rfl, fun h => absurd h E.out⟩, below_drewN BK.out _⟩
    · have p1 : ¬ (j : Int) < (n : Int) := by omega
      go_wp2_with fail
      go_ret
      exact ⟨_, rfl, ⟨true, rfl, fun _ => rfl⟩, BK.out⟩
end Go.Proofs.YtnkpigibjicmaaaDoor
/- plain: a hunk behind new lines -/
namespace Go.Proofs.YtnkpigibjicmaaaDoor
open Pt Tx
/-- new lines, k of them -/
def MZ (k : Nat) : ByteArray := ⟨((List.replicate k zer).flatten).toArray⟩
theorem MZ_list (k : Nat) : (MZ k).data.toList = (List.replicate k zer).flatten := rfl
theorem MZ_zero : MZ 0 = ⟨#[]⟩ := rfl
theorem MZ_succ (k : Nat) : MZ (k + 1) = MZ k ++ ⟨#[48, 10]⟩ := by
  refine str_ext ?_
  rw [ByteArray.data_append, Array.toList_append, MZ_list, MZ_list, List.replicate_succ', List.flatten_append]
  rfl
theorem MZ_size (k : Nat) : (MZ k).size = 2 * k := by
  have : (MZ k).size = ((List.replicate k zer).flatten).length := by show (List.toArray _).size = _; rw [List.size_toArray]
  rw [this]
  induction k with
  | zero => rfl
  | succ k ih => rw [List.replicate_succ, List.flatten_cons, List.length_append, ih (by unfold MZ; show (List.toArray _).size = _; rw [List.size_toArray])]; show 2 + 2 * k = _; omega
def zl : Ln := (bA [48], false)
theorem lnsP_MZ (a : ByteArray) : ∀ k : Nat, lnsP (MZ k ++ a) = List.replicate k zl ++ lnsP a
  | 0 => by
    have : MZ 0 ++ a = a := by refine str_ext ?_; rw [ByteArray.data_append, Array.toList_append]; rfl
    rw [this]; rfl
  | k + 1 => by
    rw [lnsP_zero (s := MZ k ++ a) (by
      rw [ByteArray.data_append, Array.toList_append, ByteArray.data_append, Array.toList_append, MZ_list, MZ_list, List.replicate_succ, List.flatten_cons, List.append_assoc]), lnsP_MZ a k, List.replicate_succ]
    rfl
theorem lnsN_fst (n : Nat) (E : Bool) : ∀ (l : List ByteArray) (i : Nat), (lnsN n E i l).map (·.1) = l
  | [], _ => rfl
  | x :: r, i => by simp [lnsN, lnsN_fst n E r (i + 1)]
theorem joined_zl (k : Nat) (l : List Ln) : joinedP (List.replicate k zl ++ l) = (List.replicate k zer).flatten ++ joinedP l := by
  induction k with
  | zero => rfl
  | succ k ih =>
    rw [List.replicate_succ, List.cons_append, joinedP_cons, ih, List.replicate_succ, List.flatten_cons, List.append_assoc]
    show [48] ++ ((if false = true ∧ List.replicate k zl ++ l = [] then [] else [10]) ++ _) = _
    simp [zer]
/-- the hunk's old lines lie behind k new ones only where they lay -/
theorem fit_moved {old : List Ln} {t k : Nat} {p : List Ln} (hp : p ≠ []) (ht : t + p.length ≤ old.length) (hpt : (old.drop t).take p.length = p) (h0 : ∀ x ∈ old, x.1 ≠ bA [48])
    (hs : ∀ u, u < t → ¬ ∀ q, q < p.length → ∃ x, (old.map (·.1))[u + q]? = some x ∧ (old.map (·.1))[t + q]? = some x) :
    findP (List.replicate k zl ++ old) 0 t p = some (t + k) := by
  have hl : 0 < p.length := List.length_pos_iff.2 hp
  refine findP_of (fit_yes (Nat.zero_le _) (by simp; omega) ?_) fun u hu => ?_
  · rw [show t + k = (List.replicate k zl).length + t by simp; omega, ← List.drop_drop, List.drop_left, hpt]
  · have hb := fitB_bd hu
    unfold fitB at hu
    simp only [Bool.and_eq_true, decide_eq_true_eq] at hu
    have hu2 := hu.2
    have at_ : ∀ q, q < p.length → (List.replicate k zl ++ old)[u + q]? = p[q]? := fun q hq => by
      rw [← hu2, List.getElem?_take, if_pos hq, List.getElem?_drop]
    have pt_ : ∀ q, q < p.length → old[t + q]? = p[q]? := fun q hq => by
      rw [← hpt, List.getElem?_take, if_pos hq, List.getElem?_drop]
    rcases Nat.lt_or_ge u k with hk | hk
    · exfalso
      have h1 := at_ 0 hl
      rw [Nat.add_zero, List.getElem?_append_left (by simp; exact hk), List.getElem?_replicate, if_pos hk, ← pt_ 0 hl] at h1
      exact h0 zl (List.mem_of_getElem? h1.symm) rfl
    · rcases Nat.lt_or_ge u (t + k) with hk2 | hk2
      · exfalso
        refine hs (u - k) (by omega) fun q hq => ?_
        have h1 := at_ q hq
        rw [List.getElem?_append_right (by simp; omega), List.length_replicate, show u + q - k = u - k + q by omega] at h1
        obtain ⟨x, hx⟩ : ∃ x, p[q]? = some x := ⟨_, List.getElem?_eq_getElem hq⟩
        refine ⟨x.1, ?_, ?_⟩
        · rw [List.getElem?_map, h1, hx]; rfl
        · rw [List.getElem?_map, pt_ q hq, hx]; rfl
      · unfold far
        rcases Nat.eq_or_lt_of_le hk2 with e | e
        · subst e; exact .inr ⟨rfl, Nat.le_refl _⟩
        · left; split <;> split <;> omega
theorem moved_law {a b : ByteArray} {h : Hk} {t k : Nat} (hf : FitH (lnsP a) (lnsP b) 0 0 [h]) (hc : chk [h] = 0) (hla : h.la ≠ 0) (ht : beginP h.fa h.la = t) (h0 : ∀ x ∈ lnsP a, x.1 ≠ bA [48])
    (hs : ∀ u, u < t → ¬ ∀ q, q < h.la.toNat → ∃ x, ((lnsP a).map (·.1))[u + q]? = some x ∧ ((lnsP a).map (·.1))[t + q]? = some x) :
    applyP (MZ k ++ a) [h] 0 = ((MZ k ++ b).data.toList, [(((t + k : Nat) : Int) + 1, (k : Int), 0)], []) := by
  have hsh := chkP_all [h] 0 0 hc h (by simp)
  obtain ⟨l2, -⟩ := shape_len hsh
  cases hf with
  | @cons i j k2 h r f1 f2 f3 f4 f5 f6 f7 f8 =>
    cases f8 with
    | nil g1 g2 g3 =>
      simp only [Nat.zero_add, List.drop_zero] at f1 f2 f3 f4 f5 f6 f7 g1 g2 g3
      obtain rfl : k2 = t := by omega
      have hpn : sideP 2 h.ls ≠ [] := fun e => hla (by rw [l2, e]; rfl)
      have hfp := fit_moved (k := k) hpn f4 f6 h0 (by rw [l2, Int.toNat_natCast] at hs; exact hs)
      have hp : placeP (List.replicate k zl ++ lnsP a) 0 0 h 0 = some (k2 + k, (k : Int), 0) := by
        rw [place_at (t := k2 + k) (by rw [ht, Int.add_zero]; exact hfp), ht]
        congr 3; omega
      have hst : stepP (List.replicate k zl ++ lnsP a) 0 ⟨[], 0, 0, [], []⟩ h = ⟨[] ++ ((List.replicate k zl ++ lnsP a).drop 0).take (k2 + k - 0) ++ sideP 3 h.ls, k2 + k + (sideP 2 h.ls).length, (k : Int), [] ++ [(((k2 + k : Nat) : Int) + 1, (k : Int), ((0 : Nat) : Int))], []⟩ := by
        unfold stepP
        rw [hp]
        simp only [trim_zero]
      unfold applyP
      rw [if_neg (by rw [hc]; simp), lnsP_MZ]
      unfold textP runP
      rw [List.foldl_cons, List.foldl_nil, hst]
      refine Prod.ext ?_ rfl
      show joinedP _ = _
      have e1 : ((List.replicate k zl ++ lnsP a).drop 0).take (k2 + k - 0) = List.replicate k zl ++ (lnsP a).take k2 := by
        rw [List.drop_zero, Nat.sub_zero, show k2 + k = (List.replicate k zl).length + k2 by simp; omega, List.take_append]
        simp [List.take_of_length_le]
      have e2 : (List.replicate k zl ++ lnsP a).drop (k2 + k + (sideP 2 h.ls).length) = (lnsP b).drop (k2 + (sideP 3 h.ls).length) := by
        rw [← g3, show k2 + k + (sideP 2 h.ls).length = (List.replicate k zl).length + (k2 + (sideP 2 h.ls).length) by simp; omega, ← List.drop_drop, List.drop_left]
      have e3 : (lnsP a).take k2 ++ (sideP 3 h.ls ++ (lnsP b).drop (k2 + (sideP 3 h.ls).length)) = lnsP b := by
        rw [f3, ← List.drop_drop, ← f7]
        conv => lhs; arg 2; arg 2; rw [f7]
        rw [List.take_append_drop, List.take_append_drop]
      rw [e1, e2, List.nil_append, List.append_assoc, List.append_assoc, e3, joined_zl, joined_lns, ByteArray.data_append, Array.toList_append, MZ_list]
theorem apply_none (s : ByteArray) : applyP s [] 0 = (s.data.toList, [], []) := by
  unfold applyP
  rw [if_neg (by decide)]
  unfold textP runP
  rw [List.foldl_nil, List.drop_zero, List.nil_append, joined_lns]
end Go.Proofs.YtnkpigibjicmaaaDoor
/- walks: PatchMoves (written by gen_vdp.py) -/
namespace Go.Proofs.YtnkpigibjicmaaaDoor
open Go.RowKit Go.Maps
open Pt Tx
theorem Strs.dropm {w : World} {g o n cap : Nat} {L : List ByteArray} (h : Strs w (.slice (some ⟨g, o, none⟩) n cap) L) (m : Nat) (hm : m < n) : Strs w (.slice (some ⟨g, o + m, none⟩) (n - m) (cap - m)) (L.drop m) := by
  obtain ⟨a0, cap0, e, h1, h2, h3⟩ := h
  simp only [Value.slice.injEq] at e
  obtain ⟨e1, rfl, rfl⟩ := e
  refine ⟨_, _, by rw [List.length_drop], by rw [List.length_drop]; omega, by omega, .inr ?_⟩
  rcases h3 with h3 | ⟨g2, o2, e2, hg, hc⟩
  · rw [h3] at hm; simp at hm
  · rw [← e1] at e2
    cases e2
    refine ⟨g, o + m, rfl, hg, fun j x hj => ?_⟩
    rw [List.getElem?_drop] at hj
    have := hc (m + j) x hj
    rw [Nat.add_assoc]; exact this
set_option maxRecDepth 100000 in
set_option maxHeartbeats 8000000 in
theorem law_moves (a b : ByteArray) (lines m : Int) (w : World) (hm : w.cell? ⟨0, 0, none⟩ = some (.int .i64 m)) (za : a.size ≤ 140737488351232) (zb : b.size ≤ 140737488351232) :
    Calls Tryd.prog 4 #[.string a, .string b, .int .i64 lines] w fun e w' => e = .returned (.bool true) ∧ Below w.heap.size w w' := by
  have HM := Lib.hid hm
  have AW := Lib.hid (fun W (hb : Below w.heap.size w W) => awake_any m W (kp hb HM.out))
  clear hm
  by_cases h1 : a.size ≤ 200
  rotate_left
  · have t1 : (200 : Int) < (a.size : Int) := by omega
    go_enter Tryd.func4, Tryd.ntmps4
    go_wp2_with (go_at_call 10; (with_reducible refine (AW.out _ (Below.refl _ _)).mono ?_); rintro e w2 ⟨rfl, hb⟩)
    go_ret
    exact ⟨rfl, hb.out⟩
  have t1 : ¬ (200 : Int) < (a.size : Int) := by omega
  by_cases h2 : b.size ≤ 200
  rotate_left
  · have t2 : (200 : Int) < (b.size : Int) := by omega
    go_enter Tryd.func4, Tryd.ntmps4
    go_wp2_with (go_at_call 10; (with_reducible refine (AW.out _ (Below.refl _ _)).mono ?_); rintro e w2 ⟨rfl, hb⟩)
    go_ret
    exact ⟨rfl, hb.out⟩
  have t2 : ¬ (200 : Int) < (b.size : Int) := by omega
  by_cases h3 : 1 ≤ lines
  rotate_left
  · have t3 : lines < (1 : Int) := by omega
    go_enter Tryd.func4, Tryd.ntmps4
    go_wp2_with (go_at_call 10; (with_reducible refine (AW.out _ (Below.refl _ _)).mono ?_); rintro e w2 ⟨rfl, hb⟩)
    go_ret
    exact ⟨rfl, hb.out⟩
  have t3 : ¬ lines < (1 : Int) := by omega
  by_cases h4 : lines ≤ 8
  rotate_left
  · have t4 : (8 : Int) < lines := by omega
    go_enter Tryd.func4, Tryd.ntmps4
    go_wp2_with (go_at_call 10; (with_reducible refine (AW.out _ (Below.refl _ _)).mono ?_); rintro e w2 ⟨rfl, hb⟩)
    go_ret
    exact ⟨rfl, hb.out⟩
  have t4 : ¬ (8 : Int) < lines := by omega
  obtain ⟨K, rfl⟩ := Int.eq_ofNat_of_zero_le (show 0 ≤ lines by omega)
  have hK : 1 ≤ K ∧ K ≤ 8 := by omega
  have CP := Lib.hid (fun W => compare_any ⟨#[97]⟩ ⟨#[98]⟩ a b 3 W (by omega) (by omega))
  have HSZ := Lib.hid (And.intro h1 h2)
  go_enter Tryd.func4, Tryd.ntmps4
  go_upto_region 4 with (go_at_call 15; (with_reducible refine (CP.out _).mono ?_); rintro _ w4 ⟨v4, M, rfl, HSG, HK0, B4⟩; obtain ⟨n, hn⟩ : ∃ n, M.length = n := ⟨_, rfl⟩; obtain ⟨va, vc, e4, -⟩ := HK0.out.rows.sl (n := n) (by rw [List.length_map]; exact hn); subst e4)
  have HN := Lib.hid hn
  obtain ⟨w5, hw5⟩ : ∃ W, w4.alloc (.cells #[.string ⟨#[97]⟩, .string ⟨#[98]⟩, .slice va n vc] 24) = W := ⟨_, rfl⟩
  have B45 : Hid (Below w4.heap.size w4 w5) := Lib.hid (by rw [← hw5]; exact (Below.refl _ _).alloc (Nat.le_refl _) _)
  have N5 : Hid (w5.heap[w4.heap.size]? = some (.cells #[.string ⟨#[97]⟩, .string ⟨#[98]⟩, .slice va n vc] 24 (0, 0))) := Lib.hid (by rw [← hw5]; exact heap_alloc_new w4 _)
  have B0 := Lib.hid (B4.out.trans (B45.out.mono B4.out.size))
  have HK := Lib.hid (HK0.out.below B45.out)
  rw [hw5]
  obtain ⟨pb, hpb⟩ : ∃ k, w4.heap.size = k := ⟨_, rfl⟩
  rw [hpb] at N5 ⊢
  clear hw5 hpb hn B45 HK0
  have y0 := blk_cellx N5.out 0 _ rfl
  have y1 := blk_cellx N5.out 1 _ rfl
  have y2 := blk_cellx N5.out 2 _ rfl
  have SS := Lib.hid (seg_small HSG.out (by have := HSZ.out.1; omega) (by have := HSZ.out.2; omega))
  have C0 := Lib.hid (Below.refl w5.heap.size w5)
  have WB : Hid (∀ W : World, Below w5.heap.size w5 W → Below w.heap.size w W) := Lib.hid (fun W hb => B0.out.trans (hb.mono B0.out.size))
  have AWF := Lib.hid (fun W (hb : Below w5.heap.size w5 W) => AW.out W (WB.out W hb))
  have AP0 := Lib.hid (fun W (hb : Below w5.heap.size w5 W) => apply_any a ⟨#[]⟩ ⟨#[]⟩ [] (.slice none 0 0) 0 m W (kp (WB.out W hb) HM.out) (HksAt.nil W) ⟨Nat.zero_le _, fun p hp => by cases hp⟩ (by have := HSZ.out.1; omega) (Lib.hid (apply_none a)))
  rw [bA_self] at AP0
  go_upto_region 7 with (go_at_call 11; (with_reducible refine (AP0.out _ C0.out).mono ?_); rintro e w7 ⟨vp, vh, Mb, rfl, P1, h1, H1, -, -, hb⟩; have C0 := Lib.hid (C0.out.trans (hb.out.mono C0.out.size)); have y0 := kp hb.out y0; have y1 := kp hb.out y1; have y2 := kp hb.out y2; obtain ⟨ba, bc, eb, -⟩ := H1.out.rows.sl (n := 0) (by have := congrArg List.length h1.out; rw [List.length_map] at this ⊢; exact this); obtain ⟨pa, pc, ep, -⟩ := P1.out.sl (n := 0) rfl; subst eb ep)
  by_cases hn1 : n = 1
  rotate_left
  · have t5 : ((n : Int) == 1) = false := beq_eq_false_iff_ne.2 (by omega)
    have t5b : decide ((n : Int) = 1) = false := decide_eq_false (by omega)
    go_wp2_with (go_at_call 10; (with_reducible refine (AWF.out _ C0.out).mono ?_); rintro e w2 ⟨rfl, hb⟩; have CG := Lib.hid (C0.out.trans (hb.out.mono C0.out.size)))
    go_ret
    exact ⟨rfl, WB.out _ CG.out⟩
  subst hn1
  obtain ⟨⟨⟨fa, la, fb, lb, ls⟩, u⟩, rfl⟩ : ∃ p, M = [p] := by
    match M, HN.out with
    | [p], _ => exact ⟨p, rfl⟩
  obtain ⟨g, o, rfl, -, -, -, hcc⟩ := HK.out.rows.at rfl (show ([(⟨fa, la, fb, lb, ls⟩, u)].map rowH)[0]? = some (rowH (⟨fa, la, fb, lb, ls⟩, u)) from rfl)
  have x0 := hcc 0 _ rfl
  have x1 := hcc 1 _ rfl
  have xx0 := kp C0.out x0
  have xx1 := kp C0.out x1
  simp only [Nat.zero_mul, Nat.add_zero] at xx0 xx1
  clear hcc x0 x1
  by_cases hla : la = 0
  · subst hla
    go_wp2_with (go_at_call 10; (with_reducible refine (AWF.out _ C0.out).mono ?_); rintro e w2 ⟨rfl, hb⟩; have CG := Lib.hid (C0.out.trans (hb.out.mono C0.out.size)))
    go_ret
    exact ⟨rfl, WB.out _ CG.out⟩
  have t6 : (la == 0) = false := beq_eq_false_iff_ne.2 hla
  have SH := chkP_all _ 0 0 SS.out.2.1 ⟨fa, la, fb, lb, ls⟩ (by simp)
  obtain ⟨T, hT⟩ : ∃ T : Nat, beginP fa la = T := by
    have hf := SS.out.2.2
    cases hf with
    | cons f1 => exact ⟨_, f1⟩
  obtain ⟨N, hN⟩ : ∃ N : Nat, la = N := by
    have := (shape_len SH).1
    exact ⟨_, this⟩
  subst hN
  have hfa : fa = (T : Int) + 1 := by unfold beginP at hT; rw [if_neg hla] at hT; omega
  subst hfa
  have TB : Hid (T + N ≤ (lnsP a).length) := Lib.hid (by
    have hf := SS.out.2.2
    have hl := (shape_len SH).1
    cases hf with
    | cons f1 f2 f3 f4 f5 =>
      simp only at hl f1 f4
      rw [hT] at f1
      omega)
  have HTT := Lib.hid hT
  have hN1 : 1 ≤ N := by omega
  clear hT SH
  have ls1 : (MZ K).size = 2 * K := MZ_size K
  have RL := Lib.hid (fun W => rlines_any a W (by have := HSZ.out.1; omega))
  have kK := hK.2
  go_wp2_with fail
  go_loop [11, 12] (fun s i => ∃ j : Nat, i = .int .i64 j ∧ j ≤ K ∧ s = .string (MZ j)) (fun _ i => K - (intOf i).toNat)
  case atStart => exact ⟨0, rfl, Nat.zero_le _, rfl⟩
  case round =>
    obtain ⟨j, rfl, hj, rfl⟩ := hrel
    by_cases hlt : j < K
    · have p1 : (j : Int) < (K : Int) := by omega
      have p3 : IntKind.i64.wrap ((j : Int) + 1) = (j : Int) + 1 := IntWalk.i64_in _ (by omega)
      have sz : ¬ (9223372036854775807 < (MZ j).size + 2) := by rw [MZ_size]; omega
      have sz2 : (MZ j).size = 2 * j := MZ_size j
      have EM : Hid (MZ j ++ ⟨#[48, 10]⟩ = MZ (j + 1)) := Lib.hid (MZ_succ j).symm
      go_wp2_with fail
      go_round
      case rel => exact ⟨j + 1, by go_num, by omega, by rw [← EM.out]⟩
      case measure => simp [intOf]; omega
    obtain rfl : j = K := by omega
    have p1 : ¬ (j : Int) < (j : Int) := by omega
    go_upto_region 15 with (go_at_call 16; refine (RL.out _).mono ?_; rintro _ w8 ⟨v8, L, rfl, hL, hO, hb⟩; have C0 := Lib.hid (C0.out.trans (hb.mono C0.out.size)); have xx0 := kp hb xx0; have xx1 := kp hb xx1; have y0 := kp hb y0; have y1 := kp hb y1; have y2 := kp hb y2)
    have LE : Hid (L = (lnsP a).map (·.1)) := Lib.hid (by rw [← lns_eq hL, lnsN_fst])
    obtain ⟨n2, hn2⟩ : ∃ n, L.length = n := ⟨_, rfl⟩
    have HN2 := Lib.hid hn2
    have HST := Lib.hid hO.strs
    have TB2 : T + N ≤ n2 := by have := TB.out; rw [← hn2, LE.out, List.length_map]; exact this
    have n2b : n2 ≤ 202 := by rw [← hn2, LE.out, List.length_map]; have := lnsP_len a; have := HSZ.out.1; omega
    obtain ⟨aL, cL, rfl, e1, e2, hcL⟩ := hO.strs
    rw [hn2] at e1 HST ⊢
    unfold maxLen at e2
    rcases hcL with h0 | ⟨gL, oL, rfl, -, hcL⟩
    · rw [h0] at hn2; simp at hn2; omega
    have HCL := Lib.hid hcL
    have C8 := C0
    clear hL hn2 hO hcL
    go_wp2_with fail
    go_loop [15] (fun i => ∃ r : Nat, i = .int .i64 r ∧ r ≤ n2 ∧ Hid (∀ (q : Nat) x, q < r → L[q]? = some x → x ≠ bA [48])) (fun i => n2 - (intOf i).toNat)
    case atStart => exact ⟨0, rfl, Nat.zero_le _, Lib.hid (fun q x hq => by omega)⟩
    case round =>
      obtain ⟨r, rfl, hr, HZ⟩ := hrel
      by_cases hrt : r < n2
      · obtain ⟨x, hx⟩ : ∃ x, L[r]? = some x := ⟨_, List.getElem?_eq_getElem (by rw [HN2.out]; exact hrt)⟩
        have d0 := HCL.out r x hx
        have HX := Lib.hid hx
        have q0 : (0 : Int) ≤ (r : Int) := by omega
        have q1 : (r : Int) < (n2 : Int) := by omega
        have q2 : IntKind.i64.wrap (r : Int) = (r : Int) := IntWalk.i64_in _ (by omega)
        have q3 : IntKind.i64.wrap ((r : Int) + 1) = (r : Int) + 1 := IntWalk.i64_in _ (by omega)
        clear hx
        by_cases he : x = ⟨#[48]⟩
        · subst he
          go_wp2_with (go_at_call 10; (with_reducible refine (AWF.out _ C0.out).mono ?_); rintro e w2 ⟨rfl, hb⟩; have CG := Lib.hid (C0.out.trans (hb.out.mono C0.out.size)))
          go_ret
          exact ⟨rfl, WB.out _ CG.out⟩
        · have te : (x.toList == (⟨#[48]⟩ : ByteArray).toList) = false := strs_ne he
          have te2 : (x.toList == [48]) = false := by
            have e : (⟨#[48]⟩ : ByteArray).toList = [48] := by first | rfl | decide | simp | kernel_rfl
            rw [← e]; exact te
          have E : Hid (∀ (q : Nat) y, q < r + 1 → L[q]? = some y → y ≠ bA [48]) := Lib.hid (fun q y hq hy => by
            by_cases e : q = r
            · subst e; rw [HX.out] at hy; cases hy; exact he
            · exact HZ.out q y (by omega) hy)
          clear he
          go_wp2_with fail
          go_round
          case rel => exact ⟨r + 1, by go_num, by omega, E⟩
          case measure => simp [intOf]; omega
      obtain rfl : r = n2 := by omega
      have q1 : ¬ (r : Int) < (r : Int) := by omega
      have g0 : IntKind.i64.wrap ((T : Int) + 1 - 1) = (T : Int) := (IntWalk.i64_in _ (by omega)).trans (by omega)
      have yy2 : w8.cell? ⟨pb, 2, none⟩ = some (.slice (some ⟨g, o, none⟩) 1 vc) := y2
      go_upto_region 20 with (fail)
      go_quiet (fail)
      have C9 := Lib.hid (below_drewN C0.out nq)
      have Y9 : (w8.drewN nq).cell? ⟨pb, 2, none⟩ = some (.slice (some ⟨g, o, none⟩) 1 vc) := yy2
      have YA : (w8.drewN nq).cell? ⟨pb, 0, none⟩ = some (.string ⟨#[97]⟩) := y0
      have YB : (w8.drewN nq).cell? ⟨pb, 1, none⟩ = some (.string ⟨#[98]⟩) := y1
      have ST9 := Lib.hid (HST.out.below (below_drewN (Below.refl w8.heap.size w8) nq))
      obtain ⟨w9, hw9⟩ : ∃ W, w8.drewN nq = W := ⟨_, rfl⟩
      rw [hw9] at C9 Y9 YA YB ST9 ⊢
      clear hw9 y0 y1 y2 yy2 xx0 xx1
      have HLL := Lib.hid (And.intro LE.out HZ.out)
      have NSH : Hid (∀ u : Nat, (¬ ∀ t, t < N → ∃ x, (L.drop u)[t]? = some x ∧ (L.drop T)[t]? = some x) → ¬ ∀ q, q < N → ∃ x, L[u + q]? = some x ∧ L[T + q]? = some x) := Lib.hid (fun u h h2 => h (fun t ht => by
        obtain ⟨x, e1, e2⟩ := h2 t ht
        exact ⟨x, by rw [List.getElem?_drop]; exact e1, by rw [List.getElem?_drop]; exact e2⟩))
      go_wp2_with fail
      go_loopw [18] (fun i wr => ∃ r : Nat, i = .int .i64 r ∧ r ≤ T ∧ Hid (∀ u, u < r → ¬ ∀ q, q < N → ∃ x, L[u + q]? = some x ∧ L[T + q]? = some x) ∧ Hid (Below w9.heap.size w9 wr)) (fun i _ => T - (intOf i).toNat)
      case atStart => exact ⟨0, rfl, Nat.zero_le _, Lib.hid (fun u hu => by omega), Lib.hid (Below.refl _ _)⟩
      case round =>
        obtain ⟨u, rfl, hu, HS, BK⟩ := hrel
        have BQ := Lib.hid (C9.out.trans (BK.out.mono C9.out.size))
        by_cases hut : u < T
        · have q0 : (0 : Int) ≤ (u : Int) := by omega
          have q1 : (u : Int) < (T : Int) := by omega
          have q3 : IntKind.i64.wrap ((u : Int) + 1) = (u : Int) + 1 := IntWalk.i64_in _ (by omega)
          have q4 : (u : Int) ≤ (r : Int) := by omega
          have q5 : (T : Int) ≤ (r : Int) := by omega
          have q6 : (0 : Int) ≤ (T : Int) := by omega
          have q7 : (u : Int) ≤ (cL : Int) := by omega
          have q8 : (T : Int) ≤ (cL : Int) := by omega
          have q9 : ¬ cL = u := by omega
          have q10 : ¬ cL = T := by omega
          have STR := Lib.hid (ST9.out.below BK.out)
          have SM := Lib.hid (fun W (hb : Below wr.heap.size wr W) => lsame_any (L.drop u) (L.drop T) _ _ N W ((STR.out.dropm u (by omega)).below hb) ((STR.out.dropm T (by omega)).below hb) (by omega))
          go_upto_region 24 with (fail)
          go_cut [124] from 117 to 125 (fun v w' => sameV (L.drop u) (L.drop T) N v ∧ Hid (Below w9.heap.size w9 w'))
          · go_region_law (first | (go_simp; go_at_call 17; refine (SM.out _ (Below.refl wr.heap.size wr).drew).mono ?_; rintro _ w10 ⟨v, rfl, hv, hb⟩))
            all_goals (go_wp2_with fail; go_meet)
            all_goals exact ⟨hv, Lib.hid (BK.out.trans (((Below.refl wr.heap.size wr).drew.trans (hb.mono (Below.refl wr.heap.size wr).drew.size)).mono BK.out.size))⟩
          obtain ⟨⟨c, rfl, hc⟩, BK⟩ := hcut
          have BQ := Lib.hid (C9.out.trans (BK.out.mono C9.out.size))
          cases c with
          | true =>
            go_wp2_with (go_at_call 10; (with_reducible refine (AWF.out _ BQ.out).mono ?_); rintro e w2 ⟨rfl, hb⟩; have CG := Lib.hid (BQ.out.trans (hb.out.mono BQ.out.size)))
            go_ret
            exact ⟨rfl, WB.out _ CG.out⟩
          | false =>
            have E : Hid (∀ v, v < u + 1 → ¬ ∀ q, q < N → ∃ x, L[v + q]? = some x ∧ L[T + q]? = some x) := Lib.hid (fun v hv => by
              by_cases e : v = u
              · subst e; exact NSH.out v (fun h => by have := hc h; cases this)
              · exact HS.out v (by omega))
            go_wp2_with fail
            go_roundw
            case rel => exact ⟨u + 1, by go_num, by omega, E, BK⟩
            case measure => simp [intOf]; omega
        obtain rfl : u = T := by omega
        have q1 : ¬ (u : Int) < (u : Int) := by omega
        have MV := Lib.hid (moved_law (k := j) SS.out.2.2 SS.out.2.1 hla HTT.out (fun x hx => by
          obtain ⟨q, hq⟩ := List.getElem?_of_mem hx
          have hL : L[q]? = some x.1 := by rw [HLL.out.1, List.getElem?_map, hq]; rfl
          exact HLL.out.2 q x.1 (by rw [← HN2.out]; exact (List.getElem?_eq_some_iff.1 hL).1) hL) (by rw [← LE.out, Int.toNat_natCast]; exact HS.out))
        have WK9 : Hid (Below w5.heap.size w5 wr) := BQ
        have y0 := kp BK.out YA
        have y1 := kp BK.out YB
        have y2 := kp BK.out Y9
        have szc : ¬ (9223372036854775807 < (MZ j).size + a.size) := by have := HSZ.out.1; omega
        have szd : ¬ (9223372036854775807 < (MZ j).size + b.size) := by have := HSZ.out.2; omega
        have APF := Lib.hid (fun W (hb : Below w5.heap.size w5 W) => apply_any (MZ j ++ a) ⟨#[97]⟩ ⟨#[98]⟩ _ (.slice (some ⟨g, o, none⟩) 1 vc) 0 m W (kp (WB.out W hb) HM.out) (HK.out.below hb) SS.out.1 (by rw [ByteArray.size_append]; have := HSZ.out.1; omega) MV)
        rw [bA_self] at APF
        obtain ⟨TK, hTK⟩ : ∃ k : Nat, u + j = k := ⟨_, rfl⟩
        rw [hTK] at APF
        have gk1 : IntKind.i64.wrap ((u : Int) + (j : Int)) = (TK : Int) := (IntWalk.i64_in _ (by omega)).trans (by omega)
        have gk2 : IntKind.i64.wrap ((TK : Int) + 1) = (TK : Int) + 1 := IntWalk.i64_in _ (by omega)
        clear hTK MV
        go_upto_region 27 with (go_at_call 11; (with_reducible refine (APF.out _ WK9.out).mono ?_); rintro e w11 ⟨vp2, vh2, Mb2, rfl, P2, h2, H2, -, -, hb⟩; have WK10 := Lib.hid (WK9.out.trans (hb.out.mono WK9.out.size)); obtain ⟨ba2, bc2, eb2, -⟩ := H2.out.rows.sl (n := 0) (by have := congrArg List.length h2.out; rw [List.length_map] at this ⊢; exact this); obtain ⟨pa2, pc2, ep2, -⟩ := P2.out.sl (n := 1) rfl; subst eb2 ep2)
        obtain ⟨g2, o2, rfl, m0, m1, m2⟩ := row1 P2.out
        have mm0 : w11.cell? ⟨g2, o2, none⟩ = some (.int .i64 ((TK : Int) + 1)) := m0
        have mm1 : w11.cell? ⟨g2, o2 + 1, none⟩ = some (.int .i64 (j : Int)) := m1
        have mm2 : w11.cell? ⟨g2, o2 + 2, none⟩ = some (.int .i64 0) := m2
        clear m0 m1 m2
        go_wp2_with (go_at_call 10; (with_reducible refine (AWF.out _ WK10.out).mono ?_); rintro e w2 ⟨rfl, hb⟩; have CG := Lib.hid (WK10.out.trans (hb.out.mono WK10.out.size)))
        go_ret
        exact ⟨rfl, WB.out _ CG.out⟩
end Go.Proofs.YtnkpigibjicmaaaDoor
