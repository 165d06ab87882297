/- walks: skip -/
import Derived.Test.YtbioflajonafdaaSa
namespace Go.Proofs.Ytbioflajonafdaa
open Go.RowKit
open Tx
def atOf (w : World) (p : Nat) : Nat := match w.cell? ⟨p, 1, none⟩ with
  | some (.int _ x) => x.toNat
  | _ => 0
theorem LX.atOf {p : Nat} {s : ByteArray} {j : Nat} {v : Value} {T : List Tok} {er pos : Int} {w : World} (h : LX p s j v T er pos w) : atOf w p = j := by
  have c1 := blk_cell h.blk 1
  simp only [List.getElem?_toArray, List.getElem?_cons_zero, List.getElem?_cons_succ] at c1
  unfold Go.Proofs.Ytbioflajonafdaa.atOf; rw [c1]; simp
theorem LX.atOf' {p : Nat} {s : ByteArray} {x : Int} {v : Value} {T : List Tok} {er pos : Int} {w : World} (h : LX p s x v T er pos w) : Go.Proofs.Ytbioflajonafdaa.atOf w p = x.toNat := by
  have c1 := blk_cell h.blk 1
  simp only [List.getElem?_toArray, List.getElem?_cons_zero, List.getElem?_cons_succ] at c1
  unfold Go.Proofs.Ytbioflajonafdaa.atOf; rw [c1]
theorem LX.cast {p : Nat} {s : ByteArray} {x y : Int} {v : Value} {T : List Tok} {er pos : Int} {w : World} (h : LX p s x v T er pos w) (e : x = y) : LX p s y v T er pos w := e ▸ h
theorem LX.cells {p : Nat} {s : ByteArray} {a : Int} {v : Value} {T : List Tok} {er pos : Int} {w : World} (h : LX p s a v T er pos w) :
    w.cell? ⟨p, 0, none⟩ = some (.string s) ∧ w.cell? ⟨p, 1, none⟩ = some (.int .i64 a) ∧ w.cell? ⟨p, 2, none⟩ = some v ∧ w.cell? ⟨p, 3, none⟩ = some (.int .i64 er) ∧ w.cell? ⟨p, 4, none⟩ = some (.int .i64 pos) ∧ w.frozen? ⟨p, 1, none⟩ = false :=
  ⟨blk_cell h.blk 0, blk_cell h.blk 1, blk_cell h.blk 2, blk_cell h.blk 3, blk_cell h.blk 4, blk_frozen h.blk 1⟩
theorem peek_is (p : Nat) (s : ByteArray) (j k c : Nat) (v : Value) (T : List Tok) (er pos : Int) (w : World) (h : LX p s j v T er pos w) (hs : s.size ≤ 8192) (ha : j ≤ s.size) (hk : k ≤ 1) (hc : pk s (j + k) = c) :
    Calls Try.prog 35 #[.pointer (some ⟨p, 0, none⟩), .int .i64 (k : Int)] w fun e w' => e = .returned (.int .u8 (c : Int)) ∧ LX p s j v T er pos w' ∧ Below w.heap.size w w' := by
  rw [← hc]
  exact (peek_any p s j k v T er pos w h hs ha hk).mono fun _ _ ⟨h1, h2⟩ => ⟨h1, h.below h2, h2⟩
theorem idx_at (u : ByteArray) (k : Int) (w : World) (h : Lib.indexByte u.data.toList 10 = k) :
    Calls Try.prog 36 #[.string u, .int .u8 10] w fun e w' => e = .returned (.int .i64 k) ∧ w = w' := by
  refine (Try.strings_IndexByte u 10 w).mono fun e w' ⟨h1, h2⟩ => ⟨?_, h2.symm⟩
  rw [h1, ← h]; rfl
/-- what a drawn region of the lexer keeps -/
theorem LX.held {p : Nat} {s : ByteArray} {a : Int} {v : Value} {T : List Tok} {er pos : Int} {w0 w : World} (h : LX p s a v T er pos w) (b : Below p w0 w) :
    LX p s a v T er pos w ∧ Below p w0 w ∧ w.cell? ⟨p, 0, none⟩ = some (.string s) ∧ w.cell? ⟨p, 1, none⟩ = some (.int .i64 a) ∧ w.cell? ⟨p, 2, none⟩ = some v ∧ w.cell? ⟨p, 3, none⟩ = some (.int .i64 er) ∧ w.cell? ⟨p, 4, none⟩ = some (.int .i64 pos) ∧ w.frozen? ⟨p, 1, none⟩ = false := ⟨h, b, h.cells⟩
set_option maxHeartbeats 2000000 in
theorem skip_any (p : Nat) (s : ByteArray) (a : Nat) (v : Value) (T : List Tok) (er pos : Int) (w : World) (h : LX p s a v T er pos w) (hs : s.size ≤ 8192) (ha : a ≤ s.size) :
    Calls Try.prog 24 #[.pointer (some ⟨p, 0, none⟩)] w fun e w' => e = .returned (.tuple #[]) ∧ LX p s (skS s a) v T er pos w' ∧ Below p w w' := by
  have H := Lib.hid h
  clear h
  go_enter Try.func24, Try.ntmps24
  go_wp2_with fail
  go_loopw [2] (fun _ wr => ∃ j : Nat, j ≤ s.size ∧ Hid (skS s j = skS s a) ∧ Hid (LX p s j v T er pos wr) ∧ Hid (Below p w wr)) (fun _ wr => s.size - atOf wr p)
  case atStart => exact ⟨a, ha, Lib.hid rfl, H, Lib.hid (Below.refl _ _)⟩
  case round =>
    obtain ⟨j, js, SK, L, Br⟩ := hrel
    obtain ⟨c, hc⟩ : ∃ c, pk s (j + 0) = c := ⟨_, rfl⟩
    have HC := Lib.hid hc
    have PB : p ≤ wr.heap.size := by have := L.out.size; omega
    by_cases h0 : s.size ≤ j
    · have N : Hid (skS s a = j) := Lib.hid (by rw [← SK.out]; exact skS_none (by unfold sk1; rw [if_pos h0]))
      have i1 : (s.size : Int) ≤ (j : Int) := by omega
      go_wp2_with (go_at_call 35; refine (peek_is p s j 0 c v T er pos _ L.out hs js (by omega) HC.out).mono ?_; rintro e w1 ⟨rfl, L1, hb1⟩; obtain ⟨c0, c1, -, -, -, f1⟩ := L1.cells; have L1' := Lib.hid L1; have B1 := Lib.hid (Br.out.trans (hb1.mono PB)); clear L1)
      go_quiet (fail)
      go_wp2_with fail
      (try simp only [Exit.inBlock, Exit.then]); refine bodyPost_ret (results_none rfl _ _ _) rfl ?_
      exact ⟨rfl, by rw [N.out]; exact L1'.out.below (tx_below_drewN (Below.refl _ _) _), tx_below_drewN B1.out _⟩
    · have i1 : ¬ (s.size : Int) ≤ (j : Int) := by omega
      have i0 : (j : Int) < (s.size : Int) := by omega
      by_cases hcb : c = 32
      · subst hcb
        have S1 : Hid (skS s (j + 1) = skS s a) := Lib.hid (by rw [← SK.out]; exact (skS_step (by unfold sk1; rw [if_neg h0, if_pos (.inl hc)])).symm)
        have wr1 : IntKind.i64.wrap ((j : Int) + 1) = (j : Int) + 1 := by rw [IntKind.wrap_i64]; omega
        go_wp2_with (go_at_call 35; refine (peek_is p s j 0 32 v T er pos wr L.out hs js (by omega) HC.out).mono ?_; rintro e w1 ⟨rfl, L1, hb1⟩; obtain ⟨c0, c1, -, -, -, f1⟩ := L1.cells; have L1' := Lib.hid L1; have B1 := Lib.hid (Br.out.trans (hb1.mono PB)); clear L1)
        go_quiet (fail)
        go_wp2_with fail
        have LQ := (L1'.out.below (tx_below_drewN (Below.refl _ _) nq)).set1 ((j : Int) + 1)
        have MQ := LQ.1.atOf'
        go_roundw
        case rel => exact ⟨j + 1, by omega, S1, Lib.hid (LQ.1.cast (by omega)), Lib.hid ((tx_below_drewN B1.out _).trans LQ.2)⟩
        case measure => rw [L.out.atOf, MQ]; omega
      by_cases hcb : c = 9
      · subst hcb
        have S1 : Hid (skS s (j + 1) = skS s a) := Lib.hid (by rw [← SK.out]; exact (skS_step (by unfold sk1; rw [if_neg h0, if_pos (.inr hc)])).symm)
        have wr1 : IntKind.i64.wrap ((j : Int) + 1) = (j : Int) + 1 := by rw [IntKind.wrap_i64]; omega
        go_wp2_with (go_at_call 35; refine (peek_is p s j 0 9 v T er pos wr L.out hs js (by omega) HC.out).mono ?_; rintro e w1 ⟨rfl, L1, hb1⟩; obtain ⟨c0, c1, -, -, -, f1⟩ := L1.cells; have L1' := Lib.hid L1; have B1 := Lib.hid (Br.out.trans (hb1.mono PB)); clear L1)
        go_quiet (fail)
        go_wp2_with fail
        have LQ := (L1'.out.below (tx_below_drewN (Below.refl _ _) nq)).set1 ((j : Int) + 1)
        have MQ := LQ.1.atOf'
        go_roundw
        case rel => exact ⟨j + 1, by omega, S1, Lib.hid (LQ.1.cast (by omega)), Lib.hid ((tx_below_drewN B1.out _).trans LQ.2)⟩
        case measure => rw [L.out.atOf, MQ]; omega
      by_cases hcb2 : c = 92
      · subst hcb2
        obtain ⟨d, hd⟩ : ∃ d, pk s (j + 1) = d := ⟨_, rfl⟩
        have HD := Lib.hid hd
        go_wp2_with (go_at_call 35; refine (peek_is p s j 0 92 v T er pos wr L.out hs js (by omega) HC.out).mono ?_; rintro e w1 ⟨rfl, L1, hb1⟩; obtain ⟨c0, c1, -, -, -, f1⟩ := L1.cells; have L1' := Lib.hid L1; have B1 := Lib.hid (Br.out.trans (hb1.mono PB)); clear L1)
        go_quiet (fail)
        have LQ := Lib.hid (L1'.out.below (tx_below_drewN (Below.refl _ _) nq))
        have BQ := Lib.hid (tx_below_drewN B1.out nq)
        by_cases hd10 : d = 10
        · subst hd10
          have hc' : pk s j = 92 := hc
          have S1 : Hid (skS s (j + 2) = skS s a) := Lib.hid (by rw [← SK.out]; exact (skS_step (by unfold sk1; rw [if_neg h0, if_neg (by rw [hc']; decide), if_pos ⟨hc, hd⟩])).symm)
          have j2 : j + 2 ≤ s.size := by have := pk_lt hd (by omega); omega
          have wr1 : IntKind.i64.wrap ((j : Int) + 2) = (j : Int) + 2 := by rw [IntKind.wrap_i64]; omega
          go_wp2_with (go_at_call 35; refine (peek_is p s j 1 10 v T er pos _ LQ.out hs js (by omega) HD.out).mono ?_; rintro e w2 ⟨rfl, L2, hb2⟩; obtain ⟨c20, c21, -, -, -, f21⟩ := L2.cells; have L2' := Lib.hid L2; have B2 := Lib.hid (BQ.out.trans (hb2.mono (by have := LQ.out.size; omega))); clear L2)
          have LS := L2'.out.set1 ((j : Int) + 2)
          have MQ := LS.1.atOf'
          go_roundw
          case rel => exact ⟨j + 2, by omega, S1, Lib.hid (LS.1.cast (by omega)), Lib.hid (B2.out.trans LS.2)⟩
          case measure => rw [L.out.atOf, MQ]; omega
        · have hc' : pk s j = 92 := hc
          have N : Hid (skS s a = j) := Lib.hid (by rw [← SK.out]; exact skS_none (by unfold sk1; rw [if_neg h0, if_neg (by rw [hc']; decide), if_neg (fun x => hd10 (hd.symm.trans x.2)), if_neg (by rw [hc']; decide)]))
          have t2 : ((d : Int) == 10) = false := by rw [beq_eq_false_iff_ne]; omega
          go_wp2_with (go_at_call 35; refine (peek_is p s j 1 d v T er pos _ LQ.out hs js (by omega) HD.out).mono ?_; rintro e w2 ⟨rfl, L2, hb2⟩; have L2' := Lib.hid L2; have B2 := Lib.hid (BQ.out.trans (hb2.mono (by have := LQ.out.size; omega))); clear L2)
          (try simp only [Exit.inBlock, Exit.then]); refine bodyPost_ret (results_none rfl _ _ _) rfl ?_
          exact ⟨rfl, by rw [N.out]; exact L2'.out, B2.out⟩
      by_cases hc35 : c = 35
      · subst hc35
        have hc' : pk s j = 35 := hc
        have S1 : Hid (skS s (cend s j) = skS s a) := Lib.hid (by rw [← SK.out]; exact (skS_step (by unfold sk1; rw [if_neg h0, if_neg (by rw [hc']; decide), if_neg (by rw [hc']; omega), if_pos hc'])).symm)
        have C1 := cend_lt s j hc'
        have C2 := (cend_le s j js).2
        obtain ⟨m, hm⟩ : ∃ m, cend s j = m := ⟨_, rfl⟩
        rw [hm] at S1 C1 C2
        obtain ⟨u, hu⟩ : ∃ u, s.extract j s.size = u := ⟨_, rfl⟩
        have hu' : u.data.toList = s.data.toList.drop j := by rw [← hu]; exact Lib.extract_to_end s j
        obtain ⟨k, hk⟩ : ∃ k, Lib.indexByte u.data.toList 10 = k := ⟨_, rfl⟩
        have hge : -1 ≤ k := by rw [← hk, ← Lib.index_one]; exact Lib.index_ge _ _
        have X := idx_nl u.data.toList
        rw [hk, hu', List.length_drop, ← size_len] at X
        unfold cend at hm
        by_cases hk1 : k = -1
        · have m1 : m = s.size := by have := X.1 hk1; omega
          subst hk1
          have HK := Lib.hid hk
          clear X hm hk hu' hge
          have wr1 : IntKind.i64.wrap ((s.size : Int) - (j : Int)) = (s.size : Int) - (j : Int) := by rw [IntKind.wrap_i64]; omega
          have wr2 : IntKind.i64.wrap ((j : Int) + ((s.size : Int) - (j : Int))) = (j : Int) + ((s.size : Int) - (j : Int)) := by rw [IntKind.wrap_i64]; omega
          go_wp2_with (go_at_call 35; refine (peek_is p s j 0 35 v T er pos wr L.out hs js (by omega) HC.out).mono ?_; rintro e w1 ⟨rfl, L1, hb1⟩; obtain ⟨c0, c1, -, -, -, f1⟩ := L1.cells; have L1' := Lib.hid L1; have B1 := Lib.hid (Br.out.trans (hb1.mono PB)); clear L1)
          go_quiet (fail)
          go_wp2_with fail
          have S0 := (L1'.out.below (tx_below_drewN (Below.refl _ _) nq).drew).held (tx_below_drewN B1.out nq).drew
          go_region_held3 (fun w' => LX p s j v T er pos w' ∧ Below p w w' ∧ w'.cell? ⟨p, 0, none⟩ = some (.string s) ∧ w'.cell? ⟨p, 1, none⟩ = some (.int .i64 j) ∧ w'.cell? ⟨p, 2, none⟩ = some v ∧ w'.cell? ⟨p, 3, none⟩ = some (.int .i64 er) ∧ w'.cell? ⟨p, 4, none⟩ = some (.int .i64 pos) ∧ w'.frozen? ⟨p, 1, none⟩ = false) (first | exact S0)
            (first | (go_at_call 36; refine (idx_at u (-1) _ HK.out).mono ?_; rintro e w2 ⟨rfl, rfl⟩))
          rename_i hH
          obtain ⟨LH, BH, d0, d1, -, -, -, df⟩ := hH
          clear S0
          have LH := Lib.hid LH
          have BH := Lib.hid BH
          go_wp2_with fail
          go_quiet (fail)
          go_wp2_with fail
          have LS := fun k => (L1'.out.below (tx_below_drewN (Below.refl _ _) k)).set1 ((j : Int) + ((s.size : Int) - (j : Int)))
          have BS := fun k => (tx_below_drewN B1.out k).trans (LS k).2
          go_roundw
          case rel => exact ⟨m, C2, S1, Lib.hid ((LS _).1.cast (by omega)), Lib.hid (BS _)⟩
          case measure => rw [L.out.atOf, (LS _).1.atOf']; omega
        · obtain ⟨n, rfl⟩ : ∃ n : Nat, k = n := ⟨k.toNat, by omega⟩
          have m1 : m = j + n := by have := X.2 n rfl; omega
          have HK := Lib.hid hk
          clear X hm hk hu' hge hk1
          have wr2 : IntKind.i64.wrap ((j : Int) + (n : Int)) = (j : Int) + (n : Int) := by rw [IntKind.wrap_i64]; omega
          go_wp2_with (go_at_call 35; refine (peek_is p s j 0 35 v T er pos wr L.out hs js (by omega) HC.out).mono ?_; rintro e w1 ⟨rfl, L1, hb1⟩; obtain ⟨c0, c1, -, -, -, f1⟩ := L1.cells; have L1' := Lib.hid L1; have B1 := Lib.hid (Br.out.trans (hb1.mono PB)); clear L1)
          go_quiet (fail)
          go_wp2_with fail
          have S0 := (L1'.out.below (tx_below_drewN (Below.refl _ _) nq).drew).held (tx_below_drewN B1.out nq).drew
          go_region_held3 (fun w' => LX p s j v T er pos w' ∧ Below p w w' ∧ w'.cell? ⟨p, 0, none⟩ = some (.string s) ∧ w'.cell? ⟨p, 1, none⟩ = some (.int .i64 j) ∧ w'.cell? ⟨p, 2, none⟩ = some v ∧ w'.cell? ⟨p, 3, none⟩ = some (.int .i64 er) ∧ w'.cell? ⟨p, 4, none⟩ = some (.int .i64 pos) ∧ w'.frozen? ⟨p, 1, none⟩ = false) (first | exact S0)
            (first | (go_at_call 36; refine (idx_at u n _ HK.out).mono ?_; rintro e w2 ⟨rfl, rfl⟩))
          rename_i hH
          obtain ⟨LH, BH, d0, d1, -, -, -, df⟩ := hH
          clear S0
          have LH := Lib.hid LH
          have BH := Lib.hid BH
          go_wp2_with fail
          go_wp2_with fail
          have LS := fun k => (L1'.out.below (tx_below_drewN (Below.refl _ _) k)).set1 ((j : Int) + (n : Int))
          have BS := fun k => (tx_below_drewN B1.out k).trans (LS k).2
          go_roundw
          case rel => exact ⟨m, C2, S1, Lib.hid ((LS _).1.cast (by omega)), Lib.hid (BS _)⟩
          case measure => rw [L.out.atOf, (LS _).1.atOf']; omega
      · have hc' : pk s j = c := hc
        have N : Hid (skS s a = j) := Lib.hid (by rw [← SK.out]; exact skS_none (by unfold sk1; rw [if_neg h0, if_neg (by rw [hc']; omega), if_neg (by rw [hc']; omega), if_neg (by rw [hc']; omega)]))
        have t1 : ((c : Int) == 32) = false := by rw [beq_eq_false_iff_ne]; omega
        have t2 : ((c : Int) == 9) = false := by rw [beq_eq_false_iff_ne]; omega
        have t3 : ((c : Int) == 92) = false := by rw [beq_eq_false_iff_ne]; omega
        have t4 : ((c : Int) == 35) = false := by rw [beq_eq_false_iff_ne]; omega
        go_wp2_with (go_at_call 35; refine (peek_is p s j 0 c v T er pos wr L.out hs js (by omega) HC.out).mono ?_; rintro e w1 ⟨rfl, L1, hb1⟩; obtain ⟨c0, c1, -, -, -, f1⟩ := L1.cells; have L1' := Lib.hid L1; have B1 := Lib.hid (Br.out.trans (hb1.mono PB)); clear L1)
        go_quiet (fail)
        go_wp2_with fail
        (try simp only [Exit.inBlock, Exit.then]); refine bodyPost_ret (results_none rfl _ _ _) rfl ?_
        exact ⟨rfl, by rw [N.out]; exact L1'.out.below (tx_below_drewN (Below.refl _ _) _), tx_below_drewN B1.out _⟩
end Go.Proofs.Ytbioflajonafdaa
