/- walks: files by name, both; a list of files in memory of its own (written by gen_vcl.py) -/
import Derived.Test.YtnkpigibjicmaaaDoorVck
import Derived.Test.YtnkpigibjicmaaaDoorVca
import Derived.Test.YtnkpigibjicmaaaDoorVh
import Derived.Lib.SliceRun
namespace Go.Proofs.YtnkpigibjicmaaaDoor
open Go.RowKit Go.Maps
open Pt
abbrev rowN (x : Nm) : List Value := [.string x.1, .string x.2]
theorem rowN_len {l : List Nm} : ∀ x ∈ l.map rowN, x.length = 2 := by intro x hx; obtain ⟨y, -, rfl⟩ := List.mem_map.1 hx; rfl
theorem rowN_one {l : List Nm} : ∀ x ∈ l.map rowN, ∀ u ∈ x, u.oneCell' = true := by
  intro x hx u hu
  obtain ⟨y, -, rfl⟩ := List.mem_map.1 hx
  simp at hu; rcases hu with rfl | rfl <;> rfl
theorem rtN : RT 46 35 (.agg #[.string ⟨#[]⟩, .string ⟨#[]⟩]) 2 32 := ⟨Tryd.underlying46, by kernel_rfl, rfl, by omega, by omega⟩
set_option maxRecDepth 100000 in
set_option maxHeartbeats 2000000 in
theorem cloneN_any (l : List Nm) (v : Value) (w : World) (hv : RowsAt w v 2 (l.map rowN)) (hl : l.length ≤ 1048576) :
    Calls Tryd.prog 42 #[v] w fun e w' => ∃ v', e = .returned v' ∧ Hid (OwnR w' w.heap.size 35 2 v' (l.map rowN)) ∧ Hid (Below w.heap.size w w') := by
  have hq := fun W a n c => Lib.run_eql_slice_nil (P := Tryd.prog) W 46 35 a n c 0 0 rtN.und
  obtain ⟨n, hn⟩ : ∃ n, (l.map rowN).length = n := ⟨_, rfl⟩
  have HA := Lib.hid hv
  obtain ⟨a, cap, rfl, c1, c2, -⟩ := hv.sl hn
  rcases a with _ | b
  · obtain ⟨rfl, rfl, rfl⟩ : l = [] ∧ n = 0 ∧ cap = 0 := by
      rcases HA.out with ⟨h0, a, e⟩ | ⟨g, o, c3, e, -⟩
      · cases e; exact ⟨by simpa using h0, rfl, rfl⟩
      · cases e
    clear hv hn
    go_enter Tryd.func42, Tryd.ntmps42
    go_wp2_with fail
    go_ret
    exact ⟨_, rfl, Lib.hid (OwnR.nil _ _ _ _), Lib.hid (Below.refl _ _)⟩
  · have hn2 : l.length = n := by rw [← hn, List.length_map]
    have LN : Hid (([] : List (List Value)).length + (l.map rowN).length ≤ 1048577) := Lib.hid (by rw [hn, List.length_nil]; omega)
    clear hv hn hn2
    have OW : Hid (OwnR (w.alloc (.cells #[] 35)) w.heap.size 35 2 (.slice (some ⟨w.heap.size, 0, none⟩) 0 0) []) := Lib.hid ⟨by simp, .inr ⟨w.heap.size, 0, #[], rfl, Nat.le_refl _, heap_alloc_new w _, Nat.le_refl _, Nat.zero_le _, by simp, by simp⟩⟩
    have B0 := Lib.hid ((Below.refl w.heap.size w).alloc (Nat.le_refl _) (.cells #[] 35))
    have HA2 := Lib.hid (HA.out.below ((Below.refl w.heap.size w).alloc (Nat.le_refl _) (.cells #[] 35)))
    go_enter Tryd.func42, Tryd.ntmps42
    go_wp2_with (first | (at_builtin; (refine append_rows rtN rfl _ _ rfl _ _ [] (l.map rowN) w.heap.size w _ OW.out HA2.out rowN_len rowN_one B0.out B0.out.size LN.out (by simp [Act.eval]) (by simp [Act.eval]) ?_; intro v3 w3 own3 bel3)))
    go_ret
    exact ⟨_, rfl, own3, bel3⟩
theorem named_any (x : Nm) (old : ByteArray) (bp : Nat) (w : World) (hb : w.cell? ⟨bp, 0, none⟩ = some (.string old)) (r : Bool) (hr : Hid (decide (x.1 = old) = r)) : Calls Tryd.prog 44 #[.agg #[.string x.1, .string x.2], .pointer (some ⟨bp, 0, none⟩)] w fun e w' => e = .returned (.bool r) ∧ Hid (Below w.heap.size w w') := by
  have B0 := Lib.hid ((Below.refl w.heap.size w).alloc (Nat.le_refl _) (.cells #[.string x.1, .string x.2] 35))
  have c0 := kp B0.out hb
  obtain ⟨xn, xt⟩ := x
  simp only at hr B0 c0 ⊢
  clear hb
  cases r with
  | true =>
    obtain rfl := of_decide_eq_true hr.out
    go_enter Tryd.func44, Tryd.ntmps44
    go_wp2_with fail
    go_ret
    exact ⟨rfl, B0⟩
  | false =>
    have ts := strs_ne (of_decide_eq_false hr.out)
    go_enter Tryd.func44, Tryd.ntmps44
    go_wp2_with fail
    go_ret
    exact ⟨rfl, B0⟩
set_option maxRecDepth 100000 in
set_option maxHeartbeats 2000000 in
theorem indexN_any (l : List Nm) (old : ByteArray) (bp : Nat) (v : Value) (w : World) (hv : RowsAt w v 2 (l.map rowN)) (hl : l.length ≤ 1048576) (hb : w.cell? ⟨bp, 0, none⟩ = some (.string old)) :
    Calls Tryd.prog 43 #[v, .func (.func 44) #[] #[.pointer (some ⟨bp, 0, none⟩)]] w fun e w' => e = .returned (.int .i64 (idxN old 0 l)) ∧ Hid (Below w.heap.size w w') := by
  obtain ⟨n, hn⟩ : ∃ n, l.length = n := ⟨_, rfl⟩
  have HN := Lib.hid hn
  have HB := Lib.hid hb
  obtain ⟨a, cap, rfl, c1, c2, hc⟩ := hv.sl (n := n) (by rw [List.length_map]; exact hn)
  have HC := Lib.hid hc
  rw [hn] at hl
  unfold maxLen at c2
  clear hv hn hc hb
  go_enter Tryd.func43, Tryd.ntmps43
  go_wp2_with fail
  go_loopw [8] (fun i wr => ∃ j : Nat, i = .int .i64 j ∧ j ≤ n ∧ Hid (idxN old 0 l = idxN old j (l.drop j)) ∧ Hid (Below w.heap.size w wr)) (fun i _ => n - (intOf i).toNat)
  case atStart => exact ⟨0, rfl, Nat.zero_le _, Lib.hid rfl, Lib.hid (Below.refl _ _)⟩
  case round =>
    obtain ⟨j, rfl, hj, HI, BK⟩ := hrel
    by_cases hlt : j < n
    · obtain ⟨x, hx⟩ : ∃ x, l[j]? = some x := ⟨_, List.getElem?_eq_getElem (by rw [HN.out]; exact hlt)⟩
      rcases HC.out with h0 | ⟨g, o, rfl, -, hcc⟩
      · omega
      have m1 : (l.map rowN)[j]? = some (rowN x) := by rw [List.getElem?_map, hx]; rfl
      have d0 := kp BK.out (hcc j _ m1 0 _ rfl)
      have d1 := kp BK.out (hcc j _ m1 1 _ rfl)
      rw [Nat.add_zero] at d0
      have DR := Lib.hid (drop_get hx)
      have p0 : (0 : Int) ≤ (j : Int) := by omega
      have p1 : (j : Int) < (n : Int) := by omega
      have p2 : IntKind.i64.wrap (j : Int) = (j : Int) := IntWalk.i64_in _ (by omega)
      clear hcc m1 hx
      obtain ⟨r, hr⟩ : ∃ r, decide (x.1 = old) = r := ⟨_, rfl⟩
      have CB := Lib.hid (fun W (h : W.cell? ⟨bp, 0, none⟩ = some (.string old)) => named_any x old bp W h r (Lib.hid hr))
      have b0 := Lib.hid (kp BK.out HB.out)
      have HRR := Lib.hid hr
      clear hr
      obtain ⟨xt, xn⟩ := x
      simp only at d0 d1 CB HRR
      cases r with
      | true =>
        have E : Hid (idxN old 0 l = (j : Int)) := Lib.hid (by rw [HI.out, DR.out]; exact idxN_here (of_decide_eq_true HRR.out))
        clear HI DR
        go_wp2_with (go_at_call 44; refine (CB.out _ b0.out).mono ?_; rintro _ w3 ⟨rfl, B3⟩)
        go_ret
        exact ⟨by rw [E.out]; rfl, Lib.hid (BK.out.trans (B3.out.mono BK.out.size))⟩
      | false =>
        have E : Hid (idxN old 0 l = idxN old (j + 1) (l.drop (j + 1))) := Lib.hid (by rw [HI.out, DR.out]; exact idxN_next (of_decide_eq_false HRR.out))
        clear HI DR
        go_wp2_with (go_at_call 44; refine (CB.out _ b0.out).mono ?_; rintro _ w3 ⟨rfl, B3⟩)
        go_roundw
        case rel => exact ⟨j + 1, by go_num, by omega, E, Lib.hid (BK.out.trans (B3.out.mono BK.out.size))⟩
        case measure => simp [intOf]; omega
    · obtain rfl : j = n := by omega
      have E : Hid (idxN old 0 l = -1) := Lib.hid (by rw [HI.out, List.drop_eq_nil_of_le (by rw [HN.out]; exact Nat.le_refl _)]; rfl)
      go_wp2_with fail
      go_ret
      exact ⟨by rw [E.out]; rfl, BK⟩
set_option maxRecDepth 100000 in
set_option maxHeartbeats 2000000 in
theorem rplace_any (l : List Nm) (old : ByteArray) (v : Value) (w : World) (hv : RowsAt w v 2 (l.map rowN)) (hl : l.length ≤ 1048576) :
    Calls Tryd.prog 45 #[v, .string old] w fun e w' => e = .returned (.int .i64 (idxN old 0 l)) ∧ w' = w := by
  obtain ⟨n, hn⟩ : ∃ n, l.length = n := ⟨_, rfl⟩
  have HN := Lib.hid hn
  obtain ⟨a, cap, rfl, c1, c2, hc⟩ := hv.sl (n := n) (by rw [List.length_map]; exact hn)
  have HC := Lib.hid hc
  rw [hn] at hl
  unfold maxLen at c2
  clear hv hn hc
  go_enter Tryd.func45, Tryd.ntmps45
  go_wp2_with fail
  go_loop [5] (fun i => ∃ j : Nat, i = .int .i64 j ∧ j ≤ n ∧ Hid (idxN old 0 l = idxN old j (l.drop j))) (fun i => n - (intOf i).toNat)
  case atStart => exact ⟨0, rfl, Nat.zero_le _, Lib.hid rfl⟩
  case round =>
    obtain ⟨j, rfl, hj, HI⟩ := hrel
    by_cases hlt : j < n
    · obtain ⟨x, hx⟩ : ∃ x, l[j]? = some x := ⟨_, List.getElem?_eq_getElem (by rw [HN.out]; exact hlt)⟩
      rcases HC.out with h0 | ⟨g, o, rfl, -, hcc⟩
      · omega
      have m1 : (l.map rowN)[j]? = some (rowN x) := by rw [List.getElem?_map, hx]; rfl
      have d0 := hcc j _ m1 0 _ rfl
      rw [Nat.add_zero] at d0
      have DR := Lib.hid (drop_get hx)
      have p0 : (0 : Int) ≤ (j : Int) := by omega
      have p1 : (j : Int) < (n : Int) := by omega
      have p2 : IntKind.i64.wrap (j : Int) = (j : Int) := IntWalk.i64_in _ (by omega)
      obtain ⟨xt, xn⟩ := x
      clear hcc m1 hx
      by_cases hxo : xt = old
      · subst hxo
        have E : Hid (idxN xt 0 l = (j : Int)) := Lib.hid (by rw [HI.out, DR.out]; exact idxN_here rfl)
        clear HI DR
        go_wp2_with fail
        go_ret
        exact ⟨by rw [E.out]; rfl, rfl⟩
      · have ts := strs_ne hxo
        have E : Hid (idxN old 0 l = idxN old (j + 1) (l.drop (j + 1))) := Lib.hid (by rw [HI.out, DR.out]; exact idxN_next hxo)
        clear HI DR hxo
        go_wp2_with fail
        go_round
        case rel => exact ⟨j + 1, by go_num, by omega, E⟩
        case measure => simp [intOf]; omega
    · obtain rfl : j = n := by omega
      have E : Hid (idxN old 0 l = -1) := Lib.hid (by rw [HI.out, List.drop_eq_nil_of_le (by rw [HN.out]; exact Nat.le_refl _)]; rfl)
      go_wp2_with fail
      go_ret
      exact ⟨by rw [E.out]; rfl, rfl⟩
end Go.Proofs.YtnkpigibjicmaaaDoor
