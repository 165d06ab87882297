/- walks: the law of joins (written by gen_if.py) -/
import Derived.Test.YtlhagpfpcdedpaaDoorHs
import Derived.Test.YtlhagpfpcdedpaaDoorHv
import Derived.Test.YtlhagpfpcdedpaaDoorIe
namespace Go.Proofs.YtlhagpfpcdedpaaDoor
open Go.RowKit
open Shp
/-- where a slice of Parse's own begins -/
def NilO (v : Value) : Prop := v = .slice none 0 0 ∨ ∃ g n c, v = .slice (some ⟨g, 0, none⟩) n c
theorem NilO.get {a : Option Addr} {n c : Nat} (h : NilO (.slice a n c)) : (a = none ∧ n = 0 ∧ c = 0) ∨ ∃ g o, a = some ⟨g, o, none⟩ := by
  rcases h with h | ⟨g, n', c', h⟩
  · cases h; exact .inl ⟨rfl, rfl, rfl⟩
  · cases h; exact .inr ⟨g, 0, rfl⟩
theorem parse_iz (s : ByteArray) (w : World) {l : List Pl} {er po : Int} (h : Hid (paR s = (l, er, po))) :
    Calls Tryd.prog 9 #[.string s] w fun e w' => ∃ v, e = .returned (.tuple #[.agg #[v], .int .i64 er, .int .i64 po]) ∧ Hid (PlsD w' v l) ∧ Hid (Below w.heap.size w w') ∧ Hid (NilO v) := by
  refine (parse_any s w).mono ?_
  rw [h.out]
  rintro e w' ⟨L, v, e1, h1, h2, h3⟩
  have e := h3.out
  simp only at e
  refine ⟨v, e1, Lib.hid (by rw [← e]; exact h1.out.toD), h2, Lib.hid ?_⟩
  rcases h1.out.1.2 with ⟨rfl, -⟩ | ⟨g, cap, cur, rfl, -⟩
  · exact .inl rfl
  · exact .inr ⟨g, _, cap, rfl⟩
theorem new_cell1 (w : World) (v : Value) (T : TypeId) : (w.alloc (.cells #[v] T)).cell? ⟨w.heap.size, 0, none⟩ = some v := blk_cell (heap_alloc_new w _) 0
theorem paR_len {s : ByteArray} {l : List Pl} {e q : Int} (h : paR s = (l, e, q)) : l.length ≤ 1048576 := by
  have key : ∀ z : St × List Pl × Int, z.2.1.length ≤ 65 → (okB z.1 = true → z.2.1.length ≤ 64) → (paI s z).2.1.length ≤ 65 := fun z h1 h2 =>
    (iter_keeps (mu := paMu s) (step := pa1 s) (fun z => z.2.1.length ≤ 65 ∧ (okB z.1 = true → z.2.1.length ≤ 64)) (fun a b ha hb => by
      unfold pa1 at hb
      split at hb
      · cases hb
      rename_i hc
      have ho : okB a.1 = true := by
        refine Decidable.byContradiction fun h => hc (.inl (by simpa using h))
      have hl := ha.2 ho
      cases hb
      simp only [List.length_append, List.length_singleton]
      refine ⟨by omega, fun hk => ?_⟩
      refine Decidable.byContradiction fun hn => ?_
      have := plS_lim (s := s) (x := a.1) (num := a.2.1.length + 1) (cn := a.2.2) (by omega)
      rw [sepN_bad this] at hk
      cases hk) z ⟨h1, h2⟩).1
  have := key (lfS s (nx s 0), [], 1) (by simp) (fun _ => by simp)
  unfold paR at h
  split at h
  · cases h; simp
  · split at h
    · cases h; exact Nat.le_trans this (by omega)
    · cases h; simp
theorem rows_take {w : World} {a : Option Addr} {n c k : Nat} {l1 l2 : List (List Value)} (h : RowsAt w (.slice a n c) k (l1 ++ l2)) : RowsAt w (.slice a l1.length c) k l1 := by
  obtain ⟨a', c', e, h1, h2, h3⟩ := h
  injection e with e1 e2 e3
  subst e1 e2 e3
  rw [List.length_append] at h1
  refine ⟨_, _, rfl, by omega, h2, ?_⟩
  rcases h3 with h3 | ⟨g, o, rfl, hg, hc⟩
  · exact .inl (List.append_eq_nil_iff.1 h3).1
  · refine .inr ⟨g, o, rfl, hg, fun j x hj i y hi => hc j x ?_ i y hi⟩
    rw [List.getElem?_append_left (List.getElem?_eq_some_iff.1 hj).1]; exact hj
theorem rows_drop {w : World} {g o n c k : Nat} {l1 l2 : List (List Value)} (h : RowsAt w (.slice (some ⟨g, o, none⟩) n c) k (l1 ++ l2)) : RowsAt w (.slice (some ⟨g, o + l1.length * k, none⟩) l2.length (c - l1.length)) k l2 := by
  obtain ⟨a', c', e, h1, h2, h3⟩ := h
  injection e with e1 e2 e3
  subst e1 e2 e3
  rw [List.length_append] at h1
  refine ⟨_, _, rfl, by omega, by omega, ?_⟩
  rcases h3 with h3 | ⟨g', o', e', hg, hc⟩
  · exact .inl (List.append_eq_nil_iff.1 h3).2
  · cases e'
    refine .inr ⟨g, _, rfl, hg, fun j x hj i y hi => ?_⟩
    have := hc (l1.length + j) x (by rw [List.getElem?_append_right (by omega), Nat.add_sub_cancel_left]; exact hj) i y hi
    rw [Nat.add_mul] at this
    rw [show o + l1.length * k + j * k + i = o + (l1.length * k + j * k) + i by omega]
    exact this
theorem rowsD_split {α : Type} {D : World → α → List Value → Prop} {k : Nat} {w : World} {a : Option Addr} {n c : Nat} {l1 l2 : List α} (h : RowsD D k w (.slice a n c) (l1 ++ l2)) :
    RowsD D k w (.slice a l1.length c) l1 ∧ ∀ g o, a = some ⟨g, o, none⟩ → RowsD D k w (.slice (some ⟨g, o + l1.length * k, none⟩) l2.length (c - l1.length)) l2 := by
  obtain ⟨rows, h1, h2, h3⟩ := h
  rw [List.length_append] at h2
  have e : rows = rows.take l1.length ++ rows.drop l1.length := (List.take_append_drop _ _).symm
  have e1 : (rows.take l1.length).length = l1.length := by rw [List.length_take]; omega
  have e2 : (rows.drop l1.length).length = l2.length := by rw [List.length_drop]; omega
  rw [e] at h1
  refine ⟨⟨rows.take l1.length, (by have := rows_take h1; rw [e1] at this; exact this), e1, fun i x r hx hr => ?_⟩, fun g o ha => ⟨rows.drop l1.length, ?_, e2, fun i x r hx hr => ?_⟩⟩
  · have hi := (List.getElem?_eq_some_iff.1 hx).1
    rw [List.getElem?_take, if_pos hi] at hr
    exact h3 i x r (by rw [List.getElem?_append_left hi]; exact hx) hr
  · subst ha
    have := rows_drop h1
    rw [e1, e2] at this
    exact this
  · rw [List.getElem?_drop] at hr
    exact h3 (l1.length + i) x r (by rw [List.getElem?_append_right (by omega), Nat.add_sub_cancel_left]; exact hx) hr
theorem rowsD_some {α : Type} {D : World → α → List Value → Prop} {k : Nat} {w : World} {a : Option Addr} {n c : Nat} {l : List α} (h : RowsD D k w (.slice a n c) l) : l = [] ∨ ∃ g o, a = some ⟨g, o, none⟩ := by
  by_cases hl : l = []
  · exact .inl hl
  · obtain ⟨g, o, cap, e, -⟩ := h.get hl
    injection e with e1
    exact .inr ⟨g, o, e1⟩
theorem rowsD_nil {α : Type} {D : World → α → List Value → Prop} {k : Nat} {w : World} (a : Option Addr) {c : Nat} (hc : c ≤ maxLen) : RowsD D k w (.slice a 0 c) [] :=
  ⟨[], ⟨a, c, rfl, Nat.zero_le _, hc, .inl rfl⟩, rfl, fun i x r hx => by simp at hx⟩
theorem paR_zero {s : ByteArray} {l : List Pl} {q : Int} (h : paR s = (l, 0, q)) : paR s = (l, 0, 0) := by
  rw [h]
  unfold paR at h
  split at h
  · injection h with h1 h2; injection h2 with h2 h3; omega
  · split at h
    · cases h; rfl
    · rename_i e' q' hx
      exfalso
      have w := pa_wf (s := s) (z := (lfS s (nx s 0), [], 1)) (lf_wf (nx_wf (Nat.zero_le _)))
      rw [show paI s (lfS s (nx s 0), [], 1) = paS s from rfl, hx] at w
      injection h with h1 h2
      injection h2 with h2 h3
      have := w.1
      omega
set_option maxRecDepth 100000 in
set_option maxHeartbeats 4000000 in
theorem law_joins0 (s t : ByteArray) (m : Int) (w : World) (hm : w.cell? ⟨0, 0, none⟩ = some (.int .i64 m)) (hs : s.size ≤ 140737488351232) (ht : t.size ≤ 140737488351232) :
    Calls Tryd.prog 5 #[.string s, .string t] w fun e w' => e = .returned (.bool true) ∧ Hid (Below w.heap.size w w') := by
  have HM := Lib.hid hm
  clear hm
  obtain ⟨p, e, po, hp⟩ : ∃ p e po, paR s = (p, e, po) := ⟨_, _, _, rfl⟩
  obtain ⟨q, f, qo, hq⟩ : ∃ q f qo, paR t = (q, f, qo) := ⟨_, _, _, rfl⟩
  have PR1 := Lib.hid hp
  have PR2 := Lib.hid hq
  obtain ⟨np, hnp⟩ : ∃ n, p.length = n := ⟨_, rfl⟩
  obtain ⟨nq, hnq⟩ : ∃ n, q.length = n := ⟨_, rfl⟩
  have HL : Hid (p.length = np ∧ q.length = nq) := Lib.hid ⟨hnp, hnq⟩
  have kp1 : np ≤ 1048576 := by rw [← hnp]; exact paR_len hp
  have kp2 : nq ≤ 1048576 := by rw [← hnq]; exact paR_len hq
  clear hp hq hnp hnq
  by_cases h1 : e = 0
  · subst h1
    by_cases h2 : f = 0
    · subst h2
      by_cases h3 : s.size + 1 + t.size ≤ 8192
      · by_cases h4 : np + nq ≤ 64
        · have PR3 : Hid (paR (s ++ ByteArray.mk #[10] ++ t) = (p ++ q.map (shP (s.size + 1)), 0, 0)) := Lib.hid (pa_join (by simp) (paR_zero PR1.out) (paR_zero PR2.out) (by simp only [ByteArray.size_append]; show s.size + 1 + t.size ≤ _; omega) (by rw [HL.out.1, HL.out.2]; exact h4))
          obtain ⟨nb, hnb⟩ : ∃ nb, np + nq = nb := ⟨_, rfl⟩
          have HL3 : Hid ((p ++ q.map (shP (s.size + 1))).length = nb) := Lib.hid (by rw [List.length_append, List.length_map, HL.out.1, HL.out.2, hnb])
          go_enter Tryd.func5, Tryd.ntmps5
          go_upto_region 9 with (first | (go_at_call 9; with_reducible refine (parse_is _ _ PR1).mono ?_; rintro e w1 ⟨v1, rfl, D1, B1⟩; obtain ⟨a1, c1, rfl, l1, l2⟩ := D1.out.slice; rw [HL.out.1] at D1 l1 ⊢; have B1a := Lib.hid ((Below.refl w1.heap.size w1).alloc (Nat.le_refl _) (.cells #[.slice a1 np c1] 24)); have L1 : Hid (np ≤ c1 ∧ c1 ≤ maxLen) := Lib.hid ⟨l1, l2⟩; clear l1 l2) | (go_at_call 9; with_reducible refine (parse_is _ _ PR2).mono ?_; rintro e w2 ⟨v2, rfl, D2, B2⟩; obtain ⟨a2, c2, rfl, l1, l2⟩ := D2.out.slice; rw [HL.out.2] at D2 l1 ⊢; have B2a := Lib.hid ((Below.refl w2.heap.size w2).alloc (Nat.le_refl _) (.cells #[.slice a2 nq c2] 24)); have B12 := Lib.hid (B1a.out.trans (B2.out.mono B1a.out.size)); have s1 : w2.cell? ⟨w1.heap.size, 0, none⟩ = some (.slice a1 np c1) := kp B2.out (new_cell1 w1 (.slice a1 np c1) 24); have s1' := kp B2a.out s1; have L2 : Hid (nq ≤ c2 ∧ c2 ≤ maxLen) := Lib.hid ⟨l1, l2⟩; clear l1 l2; have BY := Lib.hid ((B1.out.trans (B12.out.mono B1.out.size)).trans (B2a.out.mono (B1.out.trans (B12.out.mono B1.out.size)).size))) | (go_at_call 9; with_reducible refine (parse_iz _ _ PR3).mono ?_; rintro e w3 ⟨v3, rfl, D3, B3, Z3⟩; obtain ⟨a3, c3, rfl, l1, l2⟩ := D3.out.slice; rw [HL3.out] at D3 l1 ⊢; have B3a := Lib.hid ((Below.refl w3.heap.size w3).alloc (Nat.le_refl _) (.cells #[.slice a3 nb c3] 24)); have BZ := Lib.hid (B3.out.trans (B3a.out.mono B3.out.size)); have q1 := kp BZ.out s1'; have q2 := kp BZ.out (new_cell1 w2 (.slice a2 nq c2) 24); have L3 : Hid (nb ≤ c3 ∧ c3 ≤ maxLen) := Lib.hid ⟨l1, l2⟩; clear l1 l2))
          have HR1 : Hid (sameL 0 true p p = true) := Lib.hid (same_self p (paR_at PR1.out))
          have HR2 : Hid (sameL ((s.size : Int) + 1) true q (q.map (shP (s.size + 1))) = true) := Lib.hid (by
            have := same_move (s.size + 1) (by omega) q (paR_at PR2.out)
            rw [Int.natCast_add] at this
            exact this)
          have DP : Hid (PlsD (w3.alloc (.cells #[.slice a3 nb c3] 24)) (.slice a1 np c1) p) := Lib.hid (((D1.out.below B12.out).below B2a.out).below BZ.out)
          have DQ : Hid (PlsD (w3.alloc (.cells #[.slice a3 nb c3] 24)) (.slice a2 nq c2) q) := Lib.hid ((D2.out.below B2a.out).below BZ.out)
          have D4 := D3.out.below B3a.out
          obtain ⟨DA, DB0⟩ := rowsD_split D4
          rw [HL.out.1] at DA
          have DA := Lib.hid DA
          rcases Z3.out.get with ⟨rfl, z2, rfl⟩ | ⟨g, o, rfl⟩
          · obtain rfl : nb = 0 := by have := HL3.out; omega
            obtain rfl : np = 0 := by omega
            obtain rfl : nq = 0 := by omega
            have p0 : p = [] := List.length_eq_zero_iff.1 HL.out.1
            have q0 : q = [] := List.length_eq_zero_iff.1 HL.out.2
            have DB : Hid (PlsD (w3.alloc (.cells #[.slice none 0 0] 24)) (.slice none 0 0) (q.map (shP (s.size + 1)))) := Lib.hid (by rw [q0]; exact rowsD_nil _ (Nat.zero_le _))
            have i7 : IntKind.i64.wrap ((s.size : Int) + 1) = (s.size : Int) + 1 := IntWalk.i64_in _ (by omega)
            have S0 : Below (w3.alloc (.cells #[.slice none 0 0] 24)).heap.size (w3.alloc (.cells #[.slice none 0 0] 24)) (w3.alloc (.cells #[.slice none 0 0] 24)).drew ∧ (w3.alloc (.cells #[.slice none 0 0] 24)).drew.cell? ⟨w1.heap.size, 0, none⟩ = some (.slice a1 0 c1) ∧ (w3.alloc (.cells #[.slice none 0 0] 24)).drew.cell? ⟨w2.heap.size, 0, none⟩ = some (.slice a2 0 c2) ∧ (w3.alloc (.cells #[.slice none 0 0] 24)).drew.cell? ⟨w3.heap.size, 0, none⟩ = some (.slice none 0 0) := ⟨(Below.refl _ _).drew, q1, q2, new_cell1 w3 _ _⟩
            clear D4 DB0 q1 q2 s1 s1' Z3 p0 q0 hnb z2
            go_region_held3 (fun w' => Below (w3.alloc (.cells #[.slice none 0 0] 24)).heap.size (w3.alloc (.cells #[.slice none 0 0] 24)) w' ∧ w'.cell? ⟨w1.heap.size, 0, none⟩ = some (.slice a1 0 c1) ∧ w'.cell? ⟨w2.heap.size, 0, none⟩ = some (.slice a2 0 c2) ∧ w'.cell? ⟨w3.heap.size, 0, none⟩ = some (.slice none 0 0)) (first | exact S0) (first | (go_at_call 11; with_reducible refine (same_pipelines p p _ _ 0 true _ (PlsD.below DP.out S0.1) (PlsD.below DA.out S0.1) HR1).mono ?_; rintro e w7 ⟨rfl, B7⟩; have BB := Lib.hid (S0.1.trans (B7.out.mono S0.1.size)); have S0 : Below (w3.alloc (.cells #[.slice none 0 0] 24)).heap.size (w3.alloc (.cells #[.slice none 0 0] 24)) w7 ∧ w7.cell? ⟨w1.heap.size, 0, none⟩ = some (.slice a1 0 c1) ∧ w7.cell? ⟨w2.heap.size, 0, none⟩ = some (.slice a2 0 c2) ∧ w7.cell? ⟨w3.heap.size, 0, none⟩ = some (.slice none 0 0) := ⟨BB.out, kp B7.out S0.2.1, kp B7.out S0.2.2.1, kp B7.out S0.2.2.2⟩) | (go_at_call 11; with_reducible refine (same_pipelines q (q.map (shP (s.size + 1))) _ _ _ true _ (PlsD.below DQ.out S0.1) (PlsD.below DB.out S0.1) HR2).mono ?_; rintro e w7 ⟨rfl, B7⟩; have BB := Lib.hid (S0.1.trans (B7.out.mono S0.1.size)); have S0 : Below (w3.alloc (.cells #[.slice none 0 0] 24)).heap.size (w3.alloc (.cells #[.slice none 0 0] 24)) w7 ∧ w7.cell? ⟨w1.heap.size, 0, none⟩ = some (.slice a1 0 c1) ∧ w7.cell? ⟨w2.heap.size, 0, none⟩ = some (.slice a2 0 c2) ∧ w7.cell? ⟨w3.heap.size, 0, none⟩ = some (.slice none 0 0) := ⟨BB.out, kp B7.out S0.2.1, kp B7.out S0.2.2.1, kp B7.out S0.2.2.2⟩) | (go_at_call 12; refine (awake_any m _ (kp ((BY.out.trans (BZ.out.mono BY.out.size)).trans (S0.1.mono (BY.out.trans (BZ.out.mono BY.out.size)).size)) HM.out)).mono ?_; rintro e w7 ⟨rfl, B7⟩; have BB := Lib.hid (S0.1.trans (B7.out.mono S0.1.size)); have S0 : Below (w3.alloc (.cells #[.slice none 0 0] 24)).heap.size (w3.alloc (.cells #[.slice none 0 0] 24)) w7 ∧ w7.cell? ⟨w1.heap.size, 0, none⟩ = some (.slice a1 0 c1) ∧ w7.cell? ⟨w2.heap.size, 0, none⟩ = some (.slice a2 0 c2) ∧ w7.cell? ⟨w3.heap.size, 0, none⟩ = some (.slice none 0 0) := ⟨BB.out, kp B7.out S0.2.1, kp B7.out S0.2.2.1, kp B7.out S0.2.2.2⟩))
            go_wp2_with fail
            go_ret
            exact ⟨rfl, Lib.hid ((BY.out.trans (BZ.out.mono BY.out.size)).trans (S0.1.mono (BY.out.trans (BZ.out.mono BY.out.size)).size))⟩
          · have DB := DB0 g o rfl
            rw [HL.out.1, List.length_map, HL.out.2] at DB
            have DC : Hid (PlsD (w3.alloc (.cells #[.slice (some ⟨g, o, none⟩) nb c3] 24)) (.slice (if c3 = np then some ⟨g, o, none⟩ else some ⟨g, o + np * 3, none⟩) (nb - np) (c3 - np)) (q.map (shP (s.size + 1)))) := Lib.hid (by
              rw [show nb - np = nq by omega]
              have hl3 := L3.out.1
              by_cases hc : c3 = np
              · have hq0 : q = [] := List.length_eq_zero_iff.1 (by rw [HL.out.2]; omega)
                rw [hq0, List.map_nil, show nq = 0 by omega]
                exact rowsD_nil _ (by have := L3.out.2; omega)
              · rw [if_neg hc]; exact DB)
            have DB := Lib.hid DB
            have hlt := L3.out
            obtain ⟨l1, l2⟩ := hlt
            have i1 : (0 : Int) ≤ (np : Int) := by omega
            have i2 : (np : Int) ≤ (c3 : Int) := by omega
            have i3 : (np : Int) ≤ (nb : Int) := by omega
            have i4 : (nb : Int) ≤ (c3 : Int) := by omega
            have i5 : np ≤ c3 := by omega
            have i6 : np ≤ nb := by omega
            have i7 : IntKind.i64.wrap ((s.size : Int) + 1) = (s.size : Int) + 1 := IntWalk.i64_in _ (by omega)
            clear l2
            obtain ⟨A, hA⟩ : ∃ A : Option Addr, (if c3 = np then some ⟨g, o, none⟩ else some ⟨g, o + np * 3, none⟩) = A := ⟨_, rfl⟩
            have DC := Lib.hid (show PlsD (w3.alloc (.cells #[.slice (some ⟨g, o, none⟩) nb c3] 24)) (.slice A (nb - np) (c3 - np)) (q.map (shP (s.size + 1))) by have := DC.out; rw [hA] at this; exact this)
            · skip
              have S0 : Below (w3.alloc (.cells #[.slice (some ⟨g, o, none⟩) nb c3] 24)).heap.size (w3.alloc (.cells #[.slice (some ⟨g, o, none⟩) nb c3] 24)) (w3.alloc (.cells #[.slice (some ⟨g, o, none⟩) nb c3] 24)).drew ∧ (w3.alloc (.cells #[.slice (some ⟨g, o, none⟩) nb c3] 24)).drew.cell? ⟨w1.heap.size, 0, none⟩ = some (.slice a1 np c1) ∧ (w3.alloc (.cells #[.slice (some ⟨g, o, none⟩) nb c3] 24)).drew.cell? ⟨w2.heap.size, 0, none⟩ = some (.slice a2 nq c2) ∧ (w3.alloc (.cells #[.slice (some ⟨g, o, none⟩) nb c3] 24)).drew.cell? ⟨w3.heap.size, 0, none⟩ = some (.slice (some ⟨g, o, none⟩) nb c3) := ⟨(Below.refl _ _).drew, q1, q2, new_cell1 w3 _ _⟩
              clear D4 DB0 q1 q2 s1 s1'
              go_region_held3 (fun w' => Below (w3.alloc (.cells #[.slice (some ⟨g, o, none⟩) nb c3] 24)).heap.size (w3.alloc (.cells #[.slice (some ⟨g, o, none⟩) nb c3] 24)) w' ∧ w'.cell? ⟨w1.heap.size, 0, none⟩ = some (.slice a1 np c1) ∧ w'.cell? ⟨w2.heap.size, 0, none⟩ = some (.slice a2 nq c2) ∧ w'.cell? ⟨w3.heap.size, 0, none⟩ = some (.slice (some ⟨g, o, none⟩) nb c3)) (first | exact S0) (first | (go_at_call 11; with_reducible refine (same_pipelines p p _ _ 0 true _ (PlsD.below DP.out S0.1) (PlsD.below DA.out S0.1) HR1).mono ?_; rintro e w7 ⟨rfl, B7⟩; have BB := Lib.hid (S0.1.trans (B7.out.mono S0.1.size)); have S0 : Below (w3.alloc (.cells #[.slice (some ⟨g, o, none⟩) nb c3] 24)).heap.size (w3.alloc (.cells #[.slice (some ⟨g, o, none⟩) nb c3] 24)) w7 ∧ w7.cell? ⟨w1.heap.size, 0, none⟩ = some (.slice a1 np c1) ∧ w7.cell? ⟨w2.heap.size, 0, none⟩ = some (.slice a2 nq c2) ∧ w7.cell? ⟨w3.heap.size, 0, none⟩ = some (.slice (some ⟨g, o, none⟩) nb c3) := ⟨BB.out, kp B7.out S0.2.1, kp B7.out S0.2.2.1, kp B7.out S0.2.2.2⟩) | (go_at_call 11; with_reducible refine (same_pipelines q (q.map (shP (s.size + 1))) _ _ _ true _ (PlsD.below DQ.out S0.1) (PlsD.below DB.out S0.1) HR2).mono ?_; rintro e w7 ⟨rfl, B7⟩; have BB := Lib.hid (S0.1.trans (B7.out.mono S0.1.size)); have S0 : Below (w3.alloc (.cells #[.slice (some ⟨g, o, none⟩) nb c3] 24)).heap.size (w3.alloc (.cells #[.slice (some ⟨g, o, none⟩) nb c3] 24)) w7 ∧ w7.cell? ⟨w1.heap.size, 0, none⟩ = some (.slice a1 np c1) ∧ w7.cell? ⟨w2.heap.size, 0, none⟩ = some (.slice a2 nq c2) ∧ w7.cell? ⟨w3.heap.size, 0, none⟩ = some (.slice (some ⟨g, o, none⟩) nb c3) := ⟨BB.out, kp B7.out S0.2.1, kp B7.out S0.2.2.1, kp B7.out S0.2.2.2⟩) | (go_at_call 11; with_reducible refine (same_pipelines q (q.map (shP (s.size + 1))) _ _ _ true _ (PlsD.below DQ.out S0.1) (PlsD.below DC.out S0.1) HR2).mono ?_; rintro e w7 ⟨rfl, B7⟩; have BB := Lib.hid (S0.1.trans (B7.out.mono S0.1.size)); have S0 : Below (w3.alloc (.cells #[.slice (some ⟨g, o, none⟩) nb c3] 24)).heap.size (w3.alloc (.cells #[.slice (some ⟨g, o, none⟩) nb c3] 24)) w7 ∧ w7.cell? ⟨w1.heap.size, 0, none⟩ = some (.slice a1 np c1) ∧ w7.cell? ⟨w2.heap.size, 0, none⟩ = some (.slice a2 nq c2) ∧ w7.cell? ⟨w3.heap.size, 0, none⟩ = some (.slice (some ⟨g, o, none⟩) nb c3) := ⟨BB.out, kp B7.out S0.2.1, kp B7.out S0.2.2.1, kp B7.out S0.2.2.2⟩) | (go_at_call 12; refine (awake_any m _ (kp ((BY.out.trans (BZ.out.mono BY.out.size)).trans (S0.1.mono (BY.out.trans (BZ.out.mono BY.out.size)).size)) HM.out)).mono ?_; rintro e w7 ⟨rfl, B7⟩; have BB := Lib.hid (S0.1.trans (B7.out.mono S0.1.size)); have S0 : Below (w3.alloc (.cells #[.slice (some ⟨g, o, none⟩) nb c3] 24)).heap.size (w3.alloc (.cells #[.slice (some ⟨g, o, none⟩) nb c3] 24)) w7 ∧ w7.cell? ⟨w1.heap.size, 0, none⟩ = some (.slice a1 np c1) ∧ w7.cell? ⟨w2.heap.size, 0, none⟩ = some (.slice a2 nq c2) ∧ w7.cell? ⟨w3.heap.size, 0, none⟩ = some (.slice (some ⟨g, o, none⟩) nb c3) := ⟨BB.out, kp B7.out S0.2.1, kp B7.out S0.2.2.1, kp B7.out S0.2.2.2⟩))
              go_wp2_with fail
              go_ret
              exact ⟨rfl, Lib.hid ((BY.out.trans (BZ.out.mono BY.out.size)).trans (S0.1.mono (BY.out.trans (BZ.out.mono BY.out.size)).size))⟩
        · have h4' : 64 < np + nq := by omega
          clear h4
          go_enter Tryd.func5, Tryd.ntmps5
          go_wp2_with (first | (go_at_call 9; with_reducible refine (parse_is _ _ PR1).mono ?_; rintro e w1 ⟨v1, rfl, D1, B1⟩; obtain ⟨a1, c1, rfl, l1, l2⟩ := D1.out.slice; rw [HL.out.1] at D1 l1 ⊢; have B1a := Lib.hid ((Below.refl w1.heap.size w1).alloc (Nat.le_refl _) (.cells #[.slice a1 np c1] 24)); have L1 : Hid (np ≤ c1 ∧ c1 ≤ maxLen) := Lib.hid ⟨l1, l2⟩; clear l1 l2) | (go_at_call 9; with_reducible refine (parse_is _ _ PR2).mono ?_; rintro e w2 ⟨v2, rfl, D2, B2⟩; obtain ⟨a2, c2, rfl, l1, l2⟩ := D2.out.slice; rw [HL.out.2] at D2 l1 ⊢; have B2a := Lib.hid ((Below.refl w2.heap.size w2).alloc (Nat.le_refl _) (.cells #[.slice a2 nq c2] 24)); have B12 := Lib.hid (B1a.out.trans (B2.out.mono B1a.out.size)); have s1 : w2.cell? ⟨w1.heap.size, 0, none⟩ = some (.slice a1 np c1) := kp B2.out (new_cell1 w1 (.slice a1 np c1) 24); have s1' := kp B2a.out s1; have L2 : Hid (nq ≤ c2 ∧ c2 ≤ maxLen) := Lib.hid ⟨l1, l2⟩; clear l1 l2; have BY := Lib.hid ((B1.out.trans (B12.out.mono B1.out.size)).trans (B2a.out.mono (B1.out.trans (B12.out.mono B1.out.size)).size))) | (go_at_call 12; refine (awake_any m _ (kp BY.out HM.out)).mono ?_; rintro e w5 ⟨rfl, B5⟩))
          go_ret
          exact ⟨rfl, Lib.hid (BY.out.trans (B5.out.mono BY.out.size))⟩
      · have h3' : 8192 < s.size + 1 + t.size := by omega
        clear h3
        go_enter Tryd.func5, Tryd.ntmps5
        go_wp2_with (first | (go_at_call 9; with_reducible refine (parse_is _ _ PR1).mono ?_; rintro e w1 ⟨v1, rfl, D1, B1⟩; obtain ⟨a1, c1, rfl, l1, l2⟩ := D1.out.slice; rw [HL.out.1] at D1 l1 ⊢; have B1a := Lib.hid ((Below.refl w1.heap.size w1).alloc (Nat.le_refl _) (.cells #[.slice a1 np c1] 24)); have L1 : Hid (np ≤ c1 ∧ c1 ≤ maxLen) := Lib.hid ⟨l1, l2⟩; clear l1 l2) | (go_at_call 9; with_reducible refine (parse_is _ _ PR2).mono ?_; rintro e w2 ⟨v2, rfl, D2, B2⟩; obtain ⟨a2, c2, rfl, l1, l2⟩ := D2.out.slice; rw [HL.out.2] at D2 l1 ⊢; have B2a := Lib.hid ((Below.refl w2.heap.size w2).alloc (Nat.le_refl _) (.cells #[.slice a2 nq c2] 24)); have B12 := Lib.hid (B1a.out.trans (B2.out.mono B1a.out.size)); have s1 : w2.cell? ⟨w1.heap.size, 0, none⟩ = some (.slice a1 np c1) := kp B2.out (new_cell1 w1 (.slice a1 np c1) 24); have s1' := kp B2a.out s1; have L2 : Hid (nq ≤ c2 ∧ c2 ≤ maxLen) := Lib.hid ⟨l1, l2⟩; clear l1 l2; have BY := Lib.hid ((B1.out.trans (B12.out.mono B1.out.size)).trans (B2a.out.mono (B1.out.trans (B12.out.mono B1.out.size)).size))) | (go_at_call 12; refine (awake_any m _ (kp BY.out HM.out)).mono ?_; rintro e w5 ⟨rfl, B5⟩))
        go_ret
        exact ⟨rfl, Lib.hid (BY.out.trans (B5.out.mono BY.out.size))⟩
    · have h2' : (f == 0) = false := by rw [beq_eq_false_iff_ne]; exact h2
      go_enter Tryd.func5, Tryd.ntmps5
      go_wp2_with (first | (go_at_call 9; with_reducible refine (parse_is _ _ PR1).mono ?_; rintro e w1 ⟨v1, rfl, D1, B1⟩; obtain ⟨a1, c1, rfl, l1, l2⟩ := D1.out.slice; rw [HL.out.1] at D1 l1 ⊢; have B1a := Lib.hid ((Below.refl w1.heap.size w1).alloc (Nat.le_refl _) (.cells #[.slice a1 np c1] 24)); have L1 : Hid (np ≤ c1 ∧ c1 ≤ maxLen) := Lib.hid ⟨l1, l2⟩; clear l1 l2) | (go_at_call 9; with_reducible refine (parse_is _ _ PR2).mono ?_; rintro e w2 ⟨v2, rfl, D2, B2⟩; obtain ⟨a2, c2, rfl, l1, l2⟩ := D2.out.slice; rw [HL.out.2] at D2 l1 ⊢; have B2a := Lib.hid ((Below.refl w2.heap.size w2).alloc (Nat.le_refl _) (.cells #[.slice a2 nq c2] 24)); have B12 := Lib.hid (B1a.out.trans (B2.out.mono B1a.out.size)); have s1 : w2.cell? ⟨w1.heap.size, 0, none⟩ = some (.slice a1 np c1) := kp B2.out (new_cell1 w1 (.slice a1 np c1) 24); have s1' := kp B2a.out s1; have L2 : Hid (nq ≤ c2 ∧ c2 ≤ maxLen) := Lib.hid ⟨l1, l2⟩; clear l1 l2; have BY := Lib.hid ((B1.out.trans (B12.out.mono B1.out.size)).trans (B2a.out.mono (B1.out.trans (B12.out.mono B1.out.size)).size))) | (go_at_call 12; refine (awake_any m _ (kp BY.out HM.out)).mono ?_; rintro e w5 ⟨rfl, B5⟩))
      go_ret
      exact ⟨rfl, Lib.hid (BY.out.trans (B5.out.mono BY.out.size))⟩
  · have h1' : (e == 0) = false := by rw [beq_eq_false_iff_ne]; exact h1
    go_enter Tryd.func5, Tryd.ntmps5
    go_wp2_with (first | (go_at_call 9; with_reducible refine (parse_is _ _ PR1).mono ?_; rintro e w1 ⟨v1, rfl, D1, B1⟩; obtain ⟨a1, c1, rfl, l1, l2⟩ := D1.out.slice; rw [HL.out.1] at D1 l1 ⊢; have B1a := Lib.hid ((Below.refl w1.heap.size w1).alloc (Nat.le_refl _) (.cells #[.slice a1 np c1] 24)); have L1 : Hid (np ≤ c1 ∧ c1 ≤ maxLen) := Lib.hid ⟨l1, l2⟩; clear l1 l2) | (go_at_call 9; with_reducible refine (parse_is _ _ PR2).mono ?_; rintro e w2 ⟨v2, rfl, D2, B2⟩; obtain ⟨a2, c2, rfl, l1, l2⟩ := D2.out.slice; rw [HL.out.2] at D2 l1 ⊢; have B2a := Lib.hid ((Below.refl w2.heap.size w2).alloc (Nat.le_refl _) (.cells #[.slice a2 nq c2] 24)); have B12 := Lib.hid (B1a.out.trans (B2.out.mono B1a.out.size)); have s1 : w2.cell? ⟨w1.heap.size, 0, none⟩ = some (.slice a1 np c1) := kp B2.out (new_cell1 w1 (.slice a1 np c1) 24); have s1' := kp B2a.out s1; have L2 : Hid (nq ≤ c2 ∧ c2 ≤ maxLen) := Lib.hid ⟨l1, l2⟩; clear l1 l2; have BY := Lib.hid ((B1.out.trans (B12.out.mono B1.out.size)).trans (B2a.out.mono (B1.out.trans (B12.out.mono B1.out.size)).size))) | (go_at_call 12; refine (awake_any m _ (kp BY.out HM.out)).mono ?_; rintro e w5 ⟨rfl, B5⟩))
    go_ret
    exact ⟨rfl, Lib.hid (BY.out.trans (B5.out.mono BY.out.size))⟩
theorem law_joins (s t : ByteArray) (m : Int) (w : World) (hm : w.cell? ⟨0, 0, none⟩ = some (.int .i64 m)) (hs : s.size ≤ 140737488351232) (ht : t.size ≤ 140737488351232) :
    Calls Tryd.prog 5 #[.string s, .string t] w fun e w' => e = .returned (.bool true) ∧ Below w.heap.size w w' := (law_joins0 s t m w hm hs ht).mono fun _ _ h => ⟨h.1, h.2.out⟩
end Go.Proofs.YtlhagpfpcdedpaaDoor
