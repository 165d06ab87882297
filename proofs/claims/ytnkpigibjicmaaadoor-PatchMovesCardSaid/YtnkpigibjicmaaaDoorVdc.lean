/- walks: an edit script with another step (written by gen_vdc.py) -/
import Derived.Test.YtnkpigibjicmaaaDoorVdb
namespace Go.Proofs.YtnkpigibjicmaaaDoor
open Go.RowKit Go.Maps
open Pt
abbrev Ed := Int × Int × Int × Int
abbrev rowE (e : Ed) : List Value := [.int .i64 e.1, .int .i64 e.2.1, .int .i64 e.2.2.1, .int .i64 e.2.2.2]
theorem rowE_len {l : List Ed} : ∀ x ∈ l.map rowE, x.length = 4 := by intro x hx; obtain ⟨y, -, rfl⟩ := List.mem_map.1 hx; rfl
theorem rtE : RT 111 114 (.agg #[.int .i64 0, .int .i64 0, .int .i64 0, .int .i64 0]) 4 32 := ⟨Tryd.underlying111, by kernel_rfl, rfl, by omega, by omega⟩
theorem oneE {a b c d : Int} : ∀ u ∈ (#[.int .i64 a, .int .i64 b, .int .i64 c, .int .i64 d] : Array Value).toList, u.oneCell' = true := by
  intro u hu
  simp at hu; rcases hu with rfl | rfl | rfl | rfl <;> rfl
theorem flat_set {k : Nat} (v : Value) : ∀ {l : List (List Value)} (j : Nat) {x : List Value} (i : Nat), (∀ x ∈ l, x.length = k) → l[j]? = some x → i < k → l.flatten.set (j * k + i) v = (l.set j (x.set i v)).flatten
  | [], _, _, _, _, hj, _ => by simp at hj
  | x :: r, 0, _, i, h, hj, hi => by
    simp at hj; subst hj
    rw [List.flatten_cons, List.set_cons_zero, List.flatten_cons, Nat.zero_mul, Nat.zero_add, List.set_append_left _ _ (by rw [h x (by simp)]; exact hi)]
  | x :: r, j + 1, y, i, h, hj, hi => by
    simp at hj
    have hx := h x (by simp)
    rw [List.flatten_cons, List.set_cons_succ, List.flatten_cons, ← flat_set v j i (fun z hz => h z (by simp [hz])) hj hi, List.set_append_right _ _ (by rw [hx, Nat.add_mul]; omega), hx, show (j + 1) * k + i - k = j * k + i by rw [Nat.add_mul]; omega]
/-- one cell of a row of the call's own is set -/
theorem OwnR.set {w : World} {B k g n c : Nat} {T : TypeId} {l : List (List Value)} (h : OwnR w B T k (.slice (some ⟨g, 0, none⟩) n c) l) (hk : ∀ x ∈ l, x.length = k) (j i : Nat) (hi : i < k) (v : Value) {x : List Value} (hx : l[j]? = some x) :
    OwnR (w.setCell ⟨g, j * k + i, none⟩ v) B T k (.slice (some ⟨g, 0, none⟩) n c) (l.set j (x.set i v)) ∧ B ≤ g ∧ w.frozen? ⟨g, j * k + i, none⟩ = false := by
  obtain ⟨h1, ⟨e, -⟩ | ⟨g2, cap, cur, e, hB, hg, hn, hc, hs, ht⟩⟩ := h
  · cases e
  · cases e
    refine ⟨⟨?_, .inr ⟨g, _, _, by rw [List.length_set], hB, blk_set hg _ v, by rw [List.length_set]; exact hn, hc, by simpa using hs, ?_⟩⟩, hB, by simp [World.frozen?, hg]⟩
    · rw [← flat_set v j i hk hx hi, List.length_set, List.length_set]; exact h1
    · rw [← flat_set v j i hk hx hi, ← ht, List.length_set, Array.toList_setIfInBounds, List.take_set]
/-- an edit script with another step -/
def addE (l : List Ed) (op i j : Int) : List Ed := match l.getLast? with
  | none => l ++ [(op, i, j, 1)]
  | some e => if e.1 = op then l.dropLast ++ [(e.1, e.2.1, e.2.2.1, e.2.2.2 + 1)] else l ++ [(op, i, j, 1)]
theorem addE_nil (op i j : Int) : addE [] op i j = [(op, i, j, 1)] := rfl
theorem addE_same {r : List Ed} {op A B N i j : Int} : addE (r ++ [(op, A, B, N)]) op i j = r ++ [(op, A, B, N + 1)] := by simp [addE]
theorem addE_other {r : List Ed} {o op A B N i j : Int} (h : o ≠ op) : addE (r ++ [(o, A, B, N)]) op i j = r ++ [(o, A, B, N)] ++ [(op, i, j, 1)] := by simp [addE, h]
set_option maxRecDepth 100000 in
set_option maxHeartbeats 2000000 in
theorem addE_any (l : List Ed) (op i j : Int) (v : Value) (B : Nat) (w : World) (hv : OwnR w B 114 4 v (l.map rowE)) (hB : B ≤ w.heap.size) (hl : l.length ≤ 100000) (hN : ∀ e ∈ l, 0 ≤ e.2.2.2 ∧ e.2.2.2 ≤ 100000) :
    Calls Tryd.prog 73 #[v, .int .i64 op, .int .i64 i, .int .i64 j] w fun e w' => ∃ v', e = .returned v' ∧ Hid (OwnR w' B 114 4 v' ((addE l op i j).map rowE)) ∧ Hid (Below B w w') := by
  have OW := Lib.hid hv
  have HB := Lib.hid hB
  have LN : Hid ((l.map rowE).length ≤ 1048576) := Lib.hid (by rw [List.length_map]; omega)
  rcases List.eq_nil_or_concat l with rfl | ⟨r, ⟨eo, ea, eb, en⟩, rfl⟩
  · obtain ⟨a, c, rfl⟩ := hv.sl
    clear hv hN hl hB
    rw [List.map_nil, List.length_nil] at OW ⊢
    rw [addE_nil]
    go_enter Tryd.func73, Tryd.ntmps73
    go_wp2_with (first | (at_builtin; (refine append_row rtE rfl (.tmp 37) (.tmp 42) rfl _ (([] : List Ed).map rowE) #[.int .i64 op, .int .i64 i, .int .i64 j, .int .i64 1] B w w OW.out rfl oneE (Below.refl _ _) HB.out LN.out (by simp [Act.eval]) (by simp [Act.eval]) ?_; intro v' w' own' bel')))
    go_ret
    exact ⟨_, rfl, own', bel'⟩
  · rw [List.concat_eq_append] at *
    obtain ⟨m, hm⟩ : ∃ m, r.length = m := ⟨_, rfl⟩
    have hll : ((r ++ [(eo, ea, eb, en)]).map rowE).length = m + 1 := by rw [List.length_map, List.length_append, hm]; rfl
    obtain ⟨g, c, rfl⟩ : ∃ g c, v = .slice (some ⟨g, 0, none⟩) (m + 1) c := by
      rcases hv.2 with ⟨-, h0⟩ | ⟨g, cap, cur, e, -⟩
      · omega
      · exact ⟨g, cap, by rw [e, hll]⟩
    have hx : ((r ++ [(eo, ea, eb, en)]).map rowE)[m]? = some (rowE (eo, ea, eb, en)) := by
      rw [List.getElem?_map, List.getElem?_append_right (by omega), hm, Nat.sub_self]; rfl
    have hr := hv.rows rowE_len
    obtain ⟨g2, o2, e, -, -, -, hc⟩ := hr.at rfl hx
    cases e
    have d0 := hc 0 _ rfl
    have d3 := hc 3 _ rfl
    simp only [Nat.zero_add, Nat.add_zero] at d0 d3
    obtain ⟨-, -, f3⟩ := hv.set rowE_len m 3 (by omega) (.int .i64 0) hx
    have hen := hN (eo, ea, eb, en) (by simp)
    simp only at hen
    have hm2 : m ≤ 100000 := by rw [List.length_append, hm] at hl; omega
    have h1 := hen.1
    have h2 := hen.2
    have p0 : IntKind.i64.wrap (((m + 1 : Nat) : Int) - 1) = (m : Int) := (IntWalk.i64_in _ (by omega)).trans (by omega)
    have p1 : (0 : Int) ≤ (m : Int) := by omega
    have p5 : IntKind.i64.wrap (m : Int) = (m : Int) := IntWalk.i64_in _ (by omega)
    have p2 : (m : Int) < ((m + 1 : Nat) : Int) := by omega
    have p3 : IntKind.i64.wrap (en + 1) = en + 1 := IntWalk.i64_in _ (by omega)
    have p4 : (0 : Int) < ((m + 1 : Nat) : Int) := by omega
    have SE := Lib.hid (fun u => hv.set rowE_len m 3 (by omega) u hx)
    by_cases ho : eo = op
    · subst ho
      rw [addE_same]
      have FIN : Hid (OwnR (w.setCell ⟨g, m * 4 + 3, none⟩ (.int .i64 (en + 1))) B 114 4 (.slice (some ⟨g, 0, none⟩) (m + 1) c) ((r ++ [(eo, ea, eb, en + 1)]).map rowE) ∧ Below B w (w.setCell ⟨g, m * 4 + 3, none⟩ (.int .i64 (en + 1)))) := Lib.hid (by
        obtain ⟨q1, q2, -⟩ := SE.out (.int .i64 (en + 1))
        refine ⟨?_, (Below.refl _ _).setCell (p := ⟨g, m * 4 + 3, none⟩) q2 _⟩
        have e : ((r ++ [(eo, ea, eb, en)]).map rowE).set m ((rowE (eo, ea, eb, en)).set 3 (.int .i64 (en + 1))) = (r ++ [(eo, ea, eb, en + 1)]).map rowE := by
          rw [List.map_append, List.set_append_right _ _ (by rw [List.length_map]; omega), List.length_map, hm, Nat.sub_self, List.map_append]; rfl
        rw [← e]; exact q1)
      clear hv hN hl hB hll hx hr hc hen hm SE OW LN HB
      go_enter Tryd.func73, Tryd.ntmps73
      go_wp2_with fail
      go_ret
      exact ⟨_, rfl, Lib.hid FIN.out.1, Lib.hid FIN.out.2⟩
    · rw [addE_other ho]
      obtain ⟨l, hl2⟩ : ∃ l, r ++ [(eo, ea, eb, en)] = l := ⟨_, rfl⟩
      rw [hl2] at OW LN ⊢
      clear hv hN hl hB hll hx hr hc hen hm SE f3 d3 hl2
      go_enter Tryd.func73, Tryd.ntmps73
      go_wp2_with (first | (at_builtin; (refine append_row rtE rfl (.tmp 37) (.tmp 42) rfl _ (l.map rowE) #[.int .i64 op, .int .i64 i, .int .i64 j, .int .i64 1] B w w OW.out rfl oneE (Below.refl _ _) HB.out LN.out (by simp [Act.eval]) (by simp [Act.eval]) ?_; intro v' w' own' bel')))
      go_ret
      exact ⟨v', rfl, own', bel'⟩
end Go.Proofs.YtnkpigibjicmaaaDoor
