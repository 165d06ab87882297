/- walks: stands, the law Offsets -/
import Derived.Test.YtbioflajonafdaaSr
namespace Go.Proofs.Ytbioflajonafdaa
open Go.RowKit
open Tx
set_option maxHeartbeats 1000000 in
theorem stands_any (s t : ByteArray) (a : Nat) (w : World) (h1 : a + t.size ≤ s.size) (h2 : s.extract a (a + t.size) = t) (hs : s.size ≤ 8192) :
    Calls Try.prog 15 #[.string s, .string t, .int .i64 (a : Int)] w fun e w' => e = .returned (.bool true) ∧ w = w' := by
  have i1 : (0 : Int) ≤ (a : Int) := by omega
  have wr1 : IntKind.i64.wrap ((s.size : Int) - (t.size : Int)) = (s.size : Int) - (t.size : Int) := by rw [IntKind.wrap_i64]; omega
  have wr2 : IntKind.i64.wrap ((a : Int) + (t.size : Int)) = (a : Int) + (t.size : Int) := by rw [IntKind.wrap_i64]; omega
  have i2 : (a : Int) ≤ (s.size : Int) - (t.size : Int) := by omega
  have i3 : (a : Int) ≤ (a : Int) + (t.size : Int) := by omega
  have i4 : (a : Int) + (t.size : Int) ≤ (s.size : Int) := by omega
  have i5 : ((a : Int) + (t.size : Int)).toNat = a + t.size := by omega
  go_enter Try.func15, Try.ntmps15
  go_wp2_with fail
  go_ret
  exact ⟨rfl, rfl⟩
theorem stands_q (s t : ByteArray) (a : Nat) (w : World) (h1 : a + t.size ≤ s.size) (h2 : s.extract a (a + t.size) = t) (hs : s.size ≤ 8192) :
    Calls Try.prog 15 #[.string s, .string t, .int .i64 (a : Int)] w fun e w' => e = .returned (.bool true) ∧ w' = w :=
  (stands_any s t a w h1 h2 hs).mono fun _ _ ⟨h1, h2⟩ => ⟨h1, h2.symm⟩
theorem keyword_q (u : ByteArray) (r : Bool) (hr : decide (u.data.toList ∈ kwL) = r) (w : World) : Calls Try.prog 16 #[.string u] w fun e w' => e = .returned (.bool r) ∧ w' = w :=
  (keyword_is u r hr w).mono fun _ _ ⟨h1, h2⟩ => ⟨h1, h2.symm⟩
/-- a run's tokens: their offsets rise, and only the last one ends -/
theorem off_up {s : ByteArray} {T X : List Tok} (e : T = X ++ [endT s]) (G : GT s s.size X) (j : Nat) (p t : Tok) (hp : T[j]? = some p) (ht : T[j + 1]? = some t) : p.a < t.a := by
  subst e
  by_cases h1 : j + 1 < X.length
  · rw [List.getElem?_append_left h1] at ht
    rw [List.getElem?_append_left (by omega)] at hp
    obtain ⟨l1, e1⟩ := List.getElem?_eq_some_iff.1 hp
    obtain ⟨l2, e2⟩ := List.getElem?_eq_some_iff.1 ht
    have := List.pairwise_iff_getElem.1 G.up j (j + 1) l1 l2 (by omega)
    rw [e1, e2] at this; exact this
  · by_cases h2 : j + 1 = X.length
    · rw [List.getElem?_append_right (by omega), h2, Nat.sub_self] at ht
      rw [List.getElem?_append_left (by omega)] at hp
      have := (G.lt p (List.mem_of_getElem? hp)).2
      simp only [List.getElem?_cons_zero, Option.some.injEq] at ht
      rw [← ht]; exact this
    · rw [List.getElem?_eq_none (by simp; omega)] at ht; cases ht
theorem off_kind {s : ByteArray} {T X : List Tok} (e : T = X ++ [endT s]) (G : GT s s.size X) (j : Nat) (t : Tok) (ht : T[j]? = some t) : (j + 1 = T.length ∧ t = endT s) ∨ (j + 1 < T.length ∧ GoodT s t) := by
  subst e
  rw [List.length_append]
  by_cases h1 : j < X.length
  · rw [List.getElem?_append_left h1] at ht
    exact .inr ⟨by simp; omega, G.good t (List.mem_of_getElem? ht)⟩
  · by_cases h2 : j = X.length
    · rw [List.getElem?_append_right (by omega), h2, Nat.sub_self] at ht
      simp only [List.getElem?_cons_zero, Option.some.injEq] at ht
      exact .inl ⟨by simp [h2], ht.symm⟩
    · rw [List.getElem?_eq_none (by simp; omega)] at ht; cases ht
set_option maxRecDepth 8000 in
set_option maxHeartbeats 8000000 in
theorem law_offsets (s : ByteArray) (w : World) : Calls Try.prog 6 #[.string s] w fun e w' => e = .returned (.bool true) ∧ Below w.heap.size w w' := by
  obtain ⟨r, hr⟩ : ∃ r, tokR s = r := ⟨_, rfl⟩
  have HR := Lib.hid hr
  cases r with
  | err x k =>
    by_cases hb : 8192 < s.size
    · unfold tokR at hr
      rw [if_pos hb] at hr
      injection hr with e1 e2
      subst e1 e2
      have i1 : (8192 : Int) < (s.size : Int) := by omega
      go_enter Try.func6, Try.ntmps6
      go_wp2_with (first | (go_at_call 9; refine (stok_er s 3 8192 HR.out _).mono ?_; rintro e w1 ⟨rfl, B1⟩) | (go_at_call 12; refine (awake_any _).mono ?_; rintro e w5 ⟨rfl, hb5⟩))
      go_ret
      exact ⟨rfl, below_then B1.out hb5⟩
    · unfold tokR at hr
      rw [if_neg hb] at hr
      obtain ⟨x1, x2⟩ := run_err s _ 0 rfl (by omega) [] x k hr
      have i1 : ¬ (8192 : Int) < (s.size : Int) := by omega
      have i2 : (0 : Int) ≤ (k : Int) := by omega
      have i3 : (k : Int) < (s.size : Int) := by omega
      have i4 : (s.size : Int) ≤ 8192 := by omega
      clear hr
      rcases x1 with rfl | rfl
      all_goals go_enter Try.func6, Try.ntmps6
      all_goals go_wp2_with (first | (go_at_call 9; refine (stok_er s _ k HR.out _).mono ?_; rintro e w1 ⟨rfl, B1⟩) | (go_at_call 12; refine (awake_any _).mono ?_; rintro e w5 ⟨rfl, hb5⟩))
      all_goals go_ret
      all_goals exact ⟨rfl, below_then B1.out hb5⟩
  | ok T =>
    have hb : ¬ 8192 < s.size := by intro x; unfold tokR at hr; rw [if_pos x] at hr; cases hr
    unfold tokR at hr
    rw [if_neg hb] at hr
    obtain ⟨X, e1, G⟩ := run_good s _ 0 rfl (by omega) [] T (GT.nil _ _) hr
    have UP := Lib.hid (off_up e1 G)
    have KD := Lib.hid (off_kind e1 G)
    have hl : 0 < T.length := by rw [e1]; simp
    have LAST : Hid (T[T.length - 1]? = some (endT s)) := Lib.hid (by rw [e1]; simp)
    clear hr e1 G
    go_enter Try.func6, Try.ntmps6
    go_wp2_with (first | (go_at_call 9; refine (stok_ok s T HR.out _).mono ?_; rintro e w1 ⟨⟨v1, rfl, T1⟩, B1⟩))
    obtain ⟨g, cap, rfl, -, hg, hn, hm, hc⟩ := T1.out.cell (by intro x; rw [x] at hl; simp at hl)
    obtain ⟨n, en⟩ : ∃ n, T.length = n := ⟨_, rfl⟩
    unfold maxLen at hm
    have HM := Lib.hid hm
    clear hm
    rw [en] at hl hn LAST
    rw [en]
    have C := Lib.hid hc
    have EN := Lib.hid en
    clear hc en
    have SZ : s.size ≤ 8192 := by omega
    have BW := Lib.hid (Below.refl w1.heap.size w1)
    go_loopw [6] (fun i wr => ∃ j : Nat, i = .int .i64 j ∧ j ≤ n ∧ Hid (Below w1.heap.size w1 wr)) (fun i _ => n - (intOf i).toNat)
    case atStart => exact ⟨0, rfl, by omega, BW⟩
    case round =>
      obtain ⟨j, rfl, hj, HB⟩ := hrel
      have B := HB.out
      have hm := HM.out
      by_cases hlt : j < n
      · have j1 : (0 : Int) ≤ (j : Int) := by omega
        have j2 : (j : Int) < (n : Int) := by omega
        have wr1 : IntKind.i64.wrap ((j : Int) + 1) = (j : Int) + 1 := by rw [IntKind.wrap_i64]; omega
        have wr0 : IntKind.i64.wrap (j : Int) = (j : Int) := by rw [IntKind.wrap_i64]; omega
        have wr2 : IntKind.i64.wrap ((n : Int) - 1) = (n : Int) - 1 := by rw [IntKind.wrap_i64]; omega
        obtain ⟨t, ht⟩ : ∃ t, T[j]? = some t := ⟨_, List.getElem?_eq_getElem (by rw [EN.out]; exact hlt)⟩
        obtain ⟨k0, k1, k2, k3⟩ := C.out j t ht
        rw [← B.cell (p := ⟨g, _, none⟩) hg] at k0 k1 k2 k3
        have KJ := Lib.hid (KD.out j t ht)
        have PJ : Hid (∀ q, j = q + 1 → ∃ p : Tok, p.a < t.a ∧ wr.cell? ⟨g, q * 4 + 3, none⟩ = some (.int .i64 p.a)) := Lib.hid fun q e => by
          subst e
          obtain ⟨p, hp⟩ : ∃ p, T[q]? = some p := ⟨_, List.getElem?_eq_getElem (by rw [EN.out]; omega)⟩
          refine ⟨p, UP.out q p t hp ht, ?_⟩
          rw [B.cell (p := ⟨g, _, none⟩) hg]; exact (C.out q p hp).2.2.2
        obtain ⟨tk, tt, tn, ta⟩ := t
        obtain ⟨wa, hwa⟩ : ∃ wa, wr.alloc (.cells #[.int .i64 tk, .string tt, .int .i64 tn, .int .i64 ta] 32) = wa := ⟨_, rfl⟩
        have gb : g < wr.heap.size := Nat.lt_of_lt_of_le hg B.size
        have WA : Hid (wa.heap.size = wr.heap.size + 1 ∧ Below w1.heap.size w1 wa ∧ ∀ w', Below wa.heap.size wa w' → Below wa.heap.size wa w' ∧ w'.cell? ⟨wr.heap.size, 0, none⟩ = some (.int .i64 tk) ∧ w'.cell? ⟨wr.heap.size, 1, none⟩ = some (.string tt) ∧ w'.cell? ⟨wr.heap.size, 3, none⟩ = some (.int .i64 ta)) := Lib.hid (by
          subst hwa
          refine ⟨World.size_alloc _ _, B.alloc B.size _, fun w' b => ?_⟩
          have e := (b.block wr.heap.size (by rw [World.size_alloc]; omega)).trans (heap_alloc_new wr _)
          exact ⟨b, blk_cell e 0, blk_cell e 1, blk_cell e 3⟩)
        have PW : Hid (∀ q, j = q + 1 → ∃ p : Tok, p.a < ta ∧ wa.cell? ⟨g, q * 4 + 3, none⟩ = some (.int .i64 p.a)) := Lib.hid fun q e => by
          obtain ⟨p, h1, h2⟩ := PJ.out q e
          refine ⟨p, h1, ?_⟩
          rw [← hwa, ((Below.refl wr.heap.size wr).alloc (Nat.le_refl _) _).cell (p := ⟨g, _, none⟩) gb]; exact h2
        clear PJ
        obtain ⟨-, d0, d1, d3⟩ := WA.out.2.2 wa (Below.refl _ _)
        go_wp2_with fail
        rcases Nat.eq_zero_or_pos j with rfl | hjp
        · clear PW
          have wr5 : IntKind.i64.wrap 1 = 1 := by decide
          clear wr0 wr1 hm
          rcases KJ.out with ⟨l1, l2⟩ | ⟨l1, G⟩
          · injection l2 with l2 l3 l4 l5
            subst l2 l3 l4 l5
            have e1 : ((0 : Int) == (n : Int) - 1) = true := by rw [beq_iff_eq]; have := EN.out; omega
            go_quiet (fail)
            have S0 := WA.out.2.2 _ (tx_below_drewN (Below.refl _ wa) nq)
            generalize wa.drewN nq = wq at S0 ⊢
            obtain ⟨BQ, q0, q1, q3⟩ := S0
            go_wp2_with fail
            go_quiet (fail)
            go_wp2_with fail
            have BB := below_then WA.out.2.1 (tx_below_drewN BQ nq)
            go_roundw
            case rel => exact ⟨0 + 1, by go_num, by omega, Lib.hid BB⟩
            case measure => simp [intOf]; omega
          have e1 : ((0 : Int) == (n : Int) - 1) = false := by rw [beq_eq_false_iff_ne]; have := EN.out; omega
          by_cases h6 : tk = 6
          · subst h6
            obtain ⟨x, rfl, x1, x2⟩ := G.st (.inr (.inr (.inl rfl)))
            have KW : Hid (decide (tt.data.toList ∈ kwL) = true) := Lib.hid (decide_eq_true (G.w6 rfl))
            go_quiet (fail)
            have S0 := WA.out.2.2 _ (tx_below_drewN (Below.refl _ wa) nq)
            generalize wa.drewN nq = wq at S0 ⊢
            obtain ⟨BQ, q0, q1, q3⟩ := S0
            go_wp2_with fail
            go_quiet (first | exact Calls.quiet_of_same (stands_q s tt x _ x1 x2 SZ) | exact Calls.quiet_of_same (keyword_q tt true KW.out _))
            go_wp2_with fail
            have BB := below_then WA.out.2.1 (tx_below_drewN BQ nq)
            go_roundw
            case rel => exact ⟨0 + 1, by go_num, by omega, Lib.hid BB⟩
            case measure => simp [intOf]; omega
          by_cases h4 : tk = 4
          · subst h4
            obtain ⟨x, rfl, x1, x2⟩ := G.st (.inl rfl)
            have KW : Hid (decide (tt.data.toList ∈ kwL) = false) := Lib.hid (decide_eq_false (G.w45 (.inl rfl)))
            go_quiet (fail)
            have S0 := WA.out.2.2 _ (tx_below_drewN (Below.refl _ wa) nq)
            generalize wa.drewN nq = wq at S0 ⊢
            obtain ⟨BQ, q0, q1, q3⟩ := S0
            go_wp2_with fail
            go_quiet (first | exact Calls.quiet_of_same (stands_q s tt x _ x1 x2 SZ) | exact Calls.quiet_of_same (keyword_q tt false KW.out _))
            go_wp2_with fail
            have BB := below_then WA.out.2.1 (tx_below_drewN BQ nq)
            go_roundw
            case rel => exact ⟨0 + 1, by go_num, by omega, Lib.hid BB⟩
            case measure => simp [intOf]; omega
          by_cases h5 : tk = 5
          · subst h5
            obtain ⟨x, rfl, x1, x2⟩ := G.st (.inr (.inl rfl))
            have KW : Hid (decide (tt.data.toList ∈ kwL) = false) := Lib.hid (decide_eq_false (G.w45 (.inr rfl)))
            go_quiet (fail)
            have S0 := WA.out.2.2 _ (tx_below_drewN (Below.refl _ wa) nq)
            generalize wa.drewN nq = wq at S0 ⊢
            obtain ⟨BQ, q0, q1, q3⟩ := S0
            go_wp2_with fail
            go_quiet (first | exact Calls.quiet_of_same (stands_q s tt x _ x1 x2 SZ) | exact Calls.quiet_of_same (keyword_q tt false KW.out _))
            go_wp2_with fail
            have BB := below_then WA.out.2.1 (tx_below_drewN BQ nq)
            go_roundw
            case rel => exact ⟨0 + 1, by go_num, by omega, Lib.hid BB⟩
            case measure => simp [intOf]; omega
          by_cases h7 : tk = 7
          · subst h7
            obtain ⟨x, rfl, x1, x2⟩ := G.st (.inr (.inr (.inr rfl)))
            have KW : Hid (decide (tt.data.toList ∈ kwL) = false) := Lib.hid (decide_eq_false (mk_kw _ (G.w7 rfl)))
            go_quiet (fail)
            have S0 := WA.out.2.2 _ (tx_below_drewN (Below.refl _ wa) nq)
            generalize wa.drewN nq = wq at S0 ⊢
            obtain ⟨BQ, q0, q1, q3⟩ := S0
            go_wp2_with fail
            go_quiet (first | exact Calls.quiet_of_same (stands_q s tt x _ x1 x2 SZ) | exact Calls.quiet_of_same (keyword_q tt false KW.out _))
            go_wp2_with fail
            have BB := below_then WA.out.2.1 (tx_below_drewN BQ nq)
            go_roundw
            case rel => exact ⟨0 + 1, by go_num, by omega, Lib.hid BB⟩
            case measure => simp [intOf]; omega
          have e0 : (tk == 0) = false := by rw [beq_eq_false_iff_ne]; have := G.kb.1; dsimp only at this; omega
          have e4 : (tk == 4) = false := by rw [beq_eq_false_iff_ne]; exact h4
          have e5 : (tk == 5) = false := by rw [beq_eq_false_iff_ne]; exact h5
          have e6 : (tk == 6) = false := by rw [beq_eq_false_iff_ne]; exact h6
          have e7 : (tk == 7) = false := by rw [beq_eq_false_iff_ne]; exact h7
          go_quiet (fail)
          have S0 := WA.out.2.2 _ (tx_below_drewN (Below.refl _ wa) nq)
          generalize wa.drewN nq = wq at S0 ⊢
          obtain ⟨BQ, q0, q1, q3⟩ := S0
          go_wp2_with fail
          go_quiet (fail)
          go_wp2_with fail
          have BB := below_then WA.out.2.1 (tx_below_drewN BQ nq)
          go_roundw
          case rel => exact ⟨0 + 1, by go_num, by omega, Lib.hid BB⟩
          case measure => simp [intOf]; omega
        · obtain ⟨q, rfl⟩ : ∃ q, j = q + 1 := ⟨j - 1, by omega⟩
          obtain ⟨p, hp, hpc⟩ := PW.out q rfl
          have i5 : decide (ta ≤ p.a) = false := decide_eq_false (by omega)
          have i6 : (0 : Int) < (q : Int) + 1 := by omega
          have wr3 : IntKind.i64.wrap ((q : Int) + 1 - 1) = (q : Int) := by rw [IntKind.wrap_i64]; omega
          have wr4 : IntKind.i64.wrap (q : Int) = (q : Int) := by rw [IntKind.wrap_i64]; omega
          have i7 : (0 : Int) ≤ (q : Int) := by omega
          have wr5 : IntKind.i64.wrap ((q : Int) + 1 + 1) = (q : Int) + 1 + 1 := by rw [IntKind.wrap_i64]; omega
          have wr6 : IntKind.i64.wrap ((q : Int) + 1) = (q : Int) + 1 := by rw [IntKind.wrap_i64]; omega
          clear wr0 wr1
          have i8 : (q : Int) < (n : Int) := by omega
          rcases KJ.out with ⟨l1, l2⟩ | ⟨l1, G⟩
          · injection l2 with l2 l3 l4 l5
            subst l2 l3 l4 l5
            have e1 : ((q : Int) + 1 == (n : Int) - 1) = true := by rw [beq_iff_eq]; have := EN.out; omega
            go_quiet (fail)
            have S0 := WA.out.2.2 _ (tx_below_drewN (Below.refl _ wa) nq)
            generalize wa.drewN nq = wq at S0 ⊢
            obtain ⟨BQ, q0, q1, q3⟩ := S0
            go_wp2_with fail
            go_quiet (fail)
            go_wp2_with fail
            have BB := below_then WA.out.2.1 (tx_below_drewN BQ nq)
            go_roundw
            case rel => exact ⟨(q + 1) + 1, by go_num, by omega, Lib.hid BB⟩
            case measure => simp [intOf]; omega
          have e1 : ((q : Int) + 1 == (n : Int) - 1) = false := by rw [beq_eq_false_iff_ne]; have := EN.out; omega
          by_cases h6 : tk = 6
          · subst h6
            obtain ⟨x, rfl, x1, x2⟩ := G.st (.inr (.inr (.inl rfl)))
            have KW : Hid (decide (tt.data.toList ∈ kwL) = true) := Lib.hid (decide_eq_true (G.w6 rfl))
            go_quiet (fail)
            have S0 := WA.out.2.2 _ (tx_below_drewN (Below.refl _ wa) nq)
            generalize wa.drewN nq = wq at S0 ⊢
            obtain ⟨BQ, q0, q1, q3⟩ := S0
            go_wp2_with fail
            go_quiet (first | exact Calls.quiet_of_same (stands_q s tt x _ x1 x2 SZ) | exact Calls.quiet_of_same (keyword_q tt true KW.out _))
            go_wp2_with fail
            have BB := below_then WA.out.2.1 (tx_below_drewN BQ nq)
            go_roundw
            case rel => exact ⟨(q + 1) + 1, by go_num, by omega, Lib.hid BB⟩
            case measure => simp [intOf]; omega
          by_cases h4 : tk = 4
          · subst h4
            obtain ⟨x, rfl, x1, x2⟩ := G.st (.inl rfl)
            have KW : Hid (decide (tt.data.toList ∈ kwL) = false) := Lib.hid (decide_eq_false (G.w45 (.inl rfl)))
            go_quiet (fail)
            have S0 := WA.out.2.2 _ (tx_below_drewN (Below.refl _ wa) nq)
            generalize wa.drewN nq = wq at S0 ⊢
            obtain ⟨BQ, q0, q1, q3⟩ := S0
            go_wp2_with fail
            go_quiet (first | exact Calls.quiet_of_same (stands_q s tt x _ x1 x2 SZ) | exact Calls.quiet_of_same (keyword_q tt false KW.out _))
            go_wp2_with fail
            have BB := below_then WA.out.2.1 (tx_below_drewN BQ nq)
            go_roundw
            case rel => exact ⟨(q + 1) + 1, by go_num, by omega, Lib.hid BB⟩
            case measure => simp [intOf]; omega
          by_cases h5 : tk = 5
          · subst h5
            obtain ⟨x, rfl, x1, x2⟩ := G.st (.inr (.inl rfl))
            have KW : Hid (decide (tt.data.toList ∈ kwL) = false) := Lib.hid (decide_eq_false (G.w45 (.inr rfl)))
            go_quiet (fail)
            have S0 := WA.out.2.2 _ (tx_below_drewN (Below.refl _ wa) nq)
            generalize wa.drewN nq = wq at S0 ⊢
            obtain ⟨BQ, q0, q1, q3⟩ := S0
            go_wp2_with fail
            go_quiet (first | exact Calls.quiet_of_same (stands_q s tt x _ x1 x2 SZ) | exact Calls.quiet_of_same (keyword_q tt false KW.out _))
            go_wp2_with fail
            have BB := below_then WA.out.2.1 (tx_below_drewN BQ nq)
            go_roundw
            case rel => exact ⟨(q + 1) + 1, by go_num, by omega, Lib.hid BB⟩
            case measure => simp [intOf]; omega
          by_cases h7 : tk = 7
          · subst h7
            obtain ⟨x, rfl, x1, x2⟩ := G.st (.inr (.inr (.inr rfl)))
            have KW : Hid (decide (tt.data.toList ∈ kwL) = false) := Lib.hid (decide_eq_false (mk_kw _ (G.w7 rfl)))
            go_quiet (fail)
            have S0 := WA.out.2.2 _ (tx_below_drewN (Below.refl _ wa) nq)
            generalize wa.drewN nq = wq at S0 ⊢
            obtain ⟨BQ, q0, q1, q3⟩ := S0
            go_wp2_with fail
            go_quiet (first | exact Calls.quiet_of_same (stands_q s tt x _ x1 x2 SZ) | exact Calls.quiet_of_same (keyword_q tt false KW.out _))
            go_wp2_with fail
            have BB := below_then WA.out.2.1 (tx_below_drewN BQ nq)
            go_roundw
            case rel => exact ⟨(q + 1) + 1, by go_num, by omega, Lib.hid BB⟩
            case measure => simp [intOf]; omega
          have e0 : (tk == 0) = false := by rw [beq_eq_false_iff_ne]; have := G.kb.1; dsimp only at this; omega
          have e4 : (tk == 4) = false := by rw [beq_eq_false_iff_ne]; exact h4
          have e5 : (tk == 5) = false := by rw [beq_eq_false_iff_ne]; exact h5
          have e6 : (tk == 6) = false := by rw [beq_eq_false_iff_ne]; exact h6
          have e7 : (tk == 7) = false := by rw [beq_eq_false_iff_ne]; exact h7
          go_quiet (fail)
          have S0 := WA.out.2.2 _ (tx_below_drewN (Below.refl _ wa) nq)
          generalize wa.drewN nq = wq at S0 ⊢
          obtain ⟨BQ, q0, q1, q3⟩ := S0
          go_wp2_with fail
          go_quiet (fail)
          go_wp2_with fail
          have BB := below_then WA.out.2.1 (tx_below_drewN BQ nq)
          go_roundw
          case rel => exact ⟨(q + 1) + 1, by go_num, by omega, Lib.hid BB⟩
          case measure => simp [intOf]; omega
      · have j2 : ¬ (j : Int) < (n : Int) := by omega
        obtain ⟨k0, k1, k2, k3⟩ := C.out (n - 1) _ LAST.out
        rw [← B.cell (p := ⟨g, _, none⟩) hg] at k0 k1 k2 k3
        have wr2 : IntKind.i64.wrap ((n : Int) - 1) = (n : Int) - 1 := by rw [IntKind.wrap_i64]; omega
        have i1 : (0 : Int) < (n : Int) := by omega
        have i2 : (0 : Int) ≤ (n : Int) - 1 := by omega
        have i3 : (n : Int) - 1 < (n : Int) := by omega
        have i4 : ((n : Int) - 1).toNat = n - 1 := by omega
        clear hm
        have k3' : wr.cell? ⟨g, (n - 1) * 4 + 3, none⟩ = some (.int .i64 (s.size : Int)) := k3
        go_wp2_with (first | (go_at_call 12; refine (awake_any _).mono ?_; rintro e w5 ⟨rfl, hb5⟩))
        go_ret
        exact ⟨rfl, below_then (below_then B1.out B) hb5⟩
end Go.Proofs.Ytbioflajonafdaa
