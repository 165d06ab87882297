/- walks: the reference's word, quoted, mark (written by gen_sm.py) -/
import Derived.Test.YtbioflajonafdaaSl
namespace Go.Proofs.Ytbioflajonafdaa
open Go.RowKit
open Tx
/-- what the reference's functions on one token return -/
def RetO (a : Nat) (e : Ending) : Out → Prop
  | .tk k t n b => e = .returned (.tuple #[tokV ⟨k, t, n, a⟩, .int .i64 b, .int .i64 0, .int .i64 0])
  | .er x k => ∃ t z, e = .returned (.tuple #[tokV t, .int .i64 z, .int .i64 x, .int .i64 k])
  | .sk _ => False
theorem RetO.of {a : Nat} {e : Ending} {o o' : Out} (h : o = o') (p : RetO a e o') : RetO a e o := h ▸ p
theorem two_new {w w1 : World} {xs ys : Array Value} {T T2 : TypeId} (hb : Below ((w.alloc (.cells xs T (0, 0))).alloc (.cells ys T2 (0, 0))).heap.size ((w.alloc (.cells xs T (0, 0))).alloc (.cells ys T2 (0, 0))) w1) :
    w1.heap[w.heap.size]? = some (.cells xs T (0, 0)) ∧ w1.heap[w.heap.size + 1]? = some (.cells ys T2 (0, 0)) ∧ Below w.heap.size w w1 := by
  have s1 : (w.alloc (.cells xs T (0, 0))).heap.size = w.heap.size + 1 := World.size_alloc _ _
  have s2 : ((w.alloc (.cells xs T (0, 0))).alloc (.cells ys T2 (0, 0))).heap.size = w.heap.size + 1 + 1 := by rw [World.size_alloc, s1]
  refine ⟨?_, ?_, below_step (below_step hb)⟩
  · rw [hb.block _ (by omega), Below.heap_alloc _ _ _ (by omega)]; exact heap_alloc_new _ _
  · rw [hb.block _ (by omega)]
    have := heap_alloc_new (w.alloc (.cells xs T (0, 0))) (.cells ys T2 (0, 0))
    rw [s1] at this; exact this
theorem one_new {w w1 : World} {xs : Array Value} {T : TypeId} (hb : Below (w.alloc (.cells xs T (0, 0))).heap.size (w.alloc (.cells xs T (0, 0))) w1) :
    w1.heap[w.heap.size]? = some (.cells xs T (0, 0)) ∧ Below w.heap.size w w1 := by
  have s1 : (w.alloc (.cells xs T (0, 0))).heap.size = w.heap.size + 1 := World.size_alloc _ _
  refine ⟨?_, below_step hb⟩
  rw [hb.block _ (by omega)]; exact heap_alloc_new _ _
/-- a block of four cells -/
def Four (w : World) (n : Nat) (T : TypeId) (x y z u : Value) : Prop := w.heap[n]? = some (.cells #[x, y, z, u] T (0, 0))
theorem Four.at {w : World} {n : Nat} {T : TypeId} {x y z u : Value} (h : Four w n T x y z u) : w.cell? ⟨n, 0, none⟩ = some x ∧ w.cell? ⟨n, 1, none⟩ = some y ∧ w.cell? ⟨n, 2, none⟩ = some z ∧ w.cell? ⟨n, 3, none⟩ = some u ∧ w.frozen? ⟨n, 0, none⟩ = false ∧ w.frozen? ⟨n, 1, none⟩ = false ∧ w.frozen? ⟨n, 2, none⟩ = false ∧ w.frozen? ⟨n, 3, none⟩ = false :=
  ⟨blk_cell h 0, blk_cell h 1, blk_cell h 2, blk_cell h 3, blk_frozen h 0, blk_frozen h 1, blk_frozen h 2, blk_frozen h 3⟩
theorem Four.set0 {w : World} {n : Nat} {T : TypeId} {x y z u : Value} (h : Four w n T x y z u) (v : Value) : Four (w.setCell ⟨n, 0, none⟩ v) n T v y z u := set_at h
theorem Four.sets {w : World} {n : Nat} {T : TypeId} {x y z u : Value} (h : Four w n T x y z u) (a b c d : Value) : Four ((((w.setCell ⟨n, 0, none⟩ a).setCell ⟨n, 1, none⟩ b).setCell ⟨n, 2, none⟩ c).setCell ⟨n, 3, none⟩ d) n T a b c d :=
  set_at (set_at (set_at (set_at h)))
theorem Four.far {w : World} {n m i : Nat} {T : TypeId} {x y z u : Value} (h : Four w n T x y z u) (hm : n ≠ m) (v : Value) : Four (w.setCell ⟨m, i, none⟩ v) n T x y z u := by
  unfold Four; rw [Below.heap_setCell _ _ _ _ hm]; exact h
theorem Four.below {w w1 : World} {n : Nat} {T : TypeId} {x y z u : Value} (h : Four w n T x y z u) {B : Nat} (hb : Below B w w1) (hn : n < B) : Four w1 n T x y z u := by
  unfold Four; rw [hb.block _ hn]; exact h
theorem sets_below {B n : Nat} {w w' : World} (h : Below B w w') (hn : B ≤ n) (a b c d : Value) : Below B w ((((w'.setCell ⟨n, 0, none⟩ a).setCell ⟨n, 1, none⟩ b).setCell ⟨n, 2, none⟩ c).setCell ⟨n, 3, none⟩ d) :=
  (((h.setCell hn a).setCell hn b).setCell hn c).setCell hn d
set_option maxHeartbeats 4000000 in
theorem rword_any (s : ByteArray) (a : Nat) (w : World) (hs : s.size ≤ 8192) (ha : a < s.size) :
    Calls Try.prog 48 #[.string s, .int .i64 (a : Int)] w fun e w' => RetO a e (wordM s a) ∧ Below w.heap.size w w' := by
  go_enter Try.func48, Try.ntmps48
  go_wp2_with fail
  go_loop [8] (fun i => ∃ j : Nat, i = .int .i64 j ∧ j ≤ s.size ∧ a ≤ j ∧ Hid (wend s j = wend s a)) (fun i => s.size - (intOf i).toNat)
  case atStart => exact ⟨a, rfl, by omega, by omega, Lib.hid rfl⟩
  case round =>
    obtain ⟨j, rfl, hj, haj, HJ⟩ := hrel
    have j1 : (0 : Int) ≤ (j : Int) := by omega
    have i3 : (0 : Int) ≤ (a : Int) := by omega
    have i4 : (a : Int) ≤ (j : Int) := by omega
    have i5 : (j : Int) ≤ (s.size : Int) := by omega
    have wr3 : IntKind.i64.wrap ((j : Int) - (a : Int)) = (j : Int) - (a : Int) := by rw [IntKind.wrap_i64]; omega
    obtain ⟨u, hu⟩ : ∃ u, s.extract a j = u := ⟨_, rfl⟩
    by_cases hlt : j < s.size
    · have i2 : (j : Int) < (s.size : Int) := by omega
      have wr1 : IntKind.i64.wrap ((j : Int) + 1) = (j : Int) + 1 := by rw [IntKind.wrap_i64]; omega
      have PK := Lib.hid (pk_at hlt)
      cases hl : lt s[j].toNat with
      | true =>
        have N : Hid (wend s (j + 1) = wend s a) := Lib.hid (by rw [← HJ.out]; exact (wend_step (by rw [PK.out]; unfold wb; rw [hl]; rfl)).symm)
        have HL := Lib.hid hl
        clear hl
        go_wp2_with (go_at_call 47; refine (rlet_is s[j].toNat true (UInt8.toNat_lt _) HL.out _).mono ?_; rintro e w1 ⟨rfl, rfl⟩)
        go_round
        case rel => exact ⟨j + 1, by go_num, by omega, by omega, N⟩
        case measure => simp [intOf]; omega
      | false =>
        cases hd : dgn s[j].toNat with
        | true =>
          have N : Hid (wend s (j + 1) = wend s a) := Lib.hid (by rw [← HJ.out]; exact (wend_step (by rw [PK.out]; unfold wb; rw [hd]; simp)).symm)
          have HL := Lib.hid hl
          have HD := Lib.hid hd
          clear hl hd
          go_wp2_with (first | (go_at_call 47; refine (rlet_is s[j].toNat false (UInt8.toNat_lt _) HL.out _).mono ?_; rintro e w1 ⟨rfl, rfl⟩) | (go_at_call 45; refine (rdig_is s[j].toNat true HD.out _).mono ?_; rintro e w1 ⟨rfl, rfl⟩))
          go_round
          case rel => exact ⟨j + 1, by go_num, by omega, by omega, N⟩
          case measure => simp [intOf]; omega
        | false =>
          have N : Hid (wend s a = j) := Lib.hid (by rw [← HJ.out]; exact wend_stop (by rw [PK.out]; unfold wb; rw [hl, hd]; rfl))
          have HL := Lib.hid hl
          have HD := Lib.hid hd
          clear hl hd
          by_cases hk : u.data.toList ∈ kwL
          · have O : Hid (wordM s a = .tk 6 u 0 j) := Lib.hid (by unfold wordM; rw [N.out, hu, if_pos hk])
            have HK : Hid (decide (u.data.toList ∈ kwL) = true) := Lib.hid (decide_eq_true hk)
            clear hk
            go_wp2_with (first | (go_at_call 47; refine (rlet_is s[j].toNat false (UInt8.toNat_lt _) HL.out _).mono ?_; rintro e w1 ⟨rfl, rfl⟩) | (go_at_call 45; refine (rdig_is s[j].toNat false HD.out _).mono ?_; rintro e w1 ⟨rfl, rfl⟩) | (go_at_call 23; refine (rkeyword_is u true HK.out _).mono ?_; rintro e w1 ⟨rfl, hb1⟩; obtain ⟨e0, e1, B1⟩ := two_new hb1; have e0 : Four w1 w.heap.size _ _ _ _ _ := e0; have e1 : Four w1 (w.heap.size + 1) _ _ _ _ _ := e1; obtain ⟨p0, p1, p2, p3, f0, -, -, -⟩ := e1.at; have e1' := e1.set0 (.int .i64 6); have e0' := e0.far (i := 0) (show w.heap.size ≠ w.heap.size + 1 by omega) (.int .i64 6); obtain ⟨p0', p1', p2', p3', -, -, -, -⟩ := e1'.at; obtain ⟨c0, c1, c2, c3, g0, g1, g2, g3⟩ := e0'.at; have B2 := B1.setCell (p := ⟨w.heap.size + 1, 0, none⟩) (show w.heap.size ≤ w.heap.size + 1 by omega) (.int .i64 6)))
            obtain ⟨r0, r1, r2, r3, -, -, -, -⟩ := (e0'.sets (.int .i64 6) (.string u) (.int .i64 0) (.int .i64 a)).at
            exact bodyPost_ret (v := .tuple #[tokV ⟨6, u, 0, a⟩, .int .i64 j, .int .i64 0, .int .i64 0]) (by simp [results, Try.results48, go_sem, r0, r1, r2, r3]) rfl ⟨RetO.of O.out rfl, sets_below B2 (Nat.le_refl _) _ _ _ _⟩
          have HK : Hid (decide (u.data.toList ∈ kwL) = false) := Lib.hid (decide_eq_false hk)
          by_cases h32 : 32 < j - a
          · have O : Hid (wordM s a = .er 3 a) := Lib.hid (by unfold wordM; rw [N.out, hu, if_neg hk, if_pos (by omega)])
            have i6 : (32 : Int) < (j : Int) - (a : Int) := by omega
            clear hk h32
            go_wp2_with (first | (go_at_call 47; refine (rlet_is s[j].toNat false (UInt8.toNat_lt _) HL.out _).mono ?_; rintro e w1 ⟨rfl, rfl⟩) | (go_at_call 45; refine (rdig_is s[j].toNat false HD.out _).mono ?_; rintro e w1 ⟨rfl, rfl⟩) | (go_at_call 23; refine (rkeyword_is u false HK.out _).mono ?_; rintro e w1 ⟨rfl, hb1⟩; obtain ⟨e0, e1, B1⟩ := two_new hb1; have e0 : Four w1 w.heap.size _ _ _ _ _ := e0; have e1 : Four w1 (w.heap.size + 1) _ _ _ _ _ := e1; obtain ⟨p0, p1, p2, p3, f0, -, -, -⟩ := e1.at; obtain ⟨c0, c1, c2, c3, g0, g1, g2, g3⟩ := e0.at; have e0' := e0; have B2 := B1))
            obtain ⟨r0, r1, r2, r3, -, -, -, -⟩ := (e0'.sets (.int .i64 4) (.string u) (.int .i64 0) (.int .i64 a)).at
            exact bodyPost_ret (v := .tuple #[tokV ⟨4, u, 0, a⟩, .int .i64 a, .int .i64 3, .int .i64 a]) (by simp [results, Try.results48, go_sem, r0, r1, r2, r3]) rfl ⟨RetO.of O.out ⟨_, _, rfl⟩, sets_below B2 (Nat.le_refl _) _ _ _ _⟩
          have i6 : ¬ (32 : Int) < (j : Int) - (a : Int) := by omega
          by_cases h40 : s[j].toNat = 40
          · have O : Hid (wordM s a = .tk 5 u 0 j) := Lib.hid (by unfold wordM; rw [N.out, hu, if_neg hk, if_neg (by omega), if_pos (by rw [PK.out]; exact h40)])
            have t1 : ((s[j].toNat : Int) == 40) = true := by rw [beq_iff_eq]; omega
            clear hk h32 h40
            go_wp2_with (first | (go_at_call 47; refine (rlet_is s[j].toNat false (UInt8.toNat_lt _) HL.out _).mono ?_; rintro e w1 ⟨rfl, rfl⟩) | (go_at_call 45; refine (rdig_is s[j].toNat false HD.out _).mono ?_; rintro e w1 ⟨rfl, rfl⟩) | (go_at_call 23; refine (rkeyword_is u false HK.out _).mono ?_; rintro e w1 ⟨rfl, hb1⟩; obtain ⟨e0, e1, B1⟩ := two_new hb1; have e0 : Four w1 w.heap.size _ _ _ _ _ := e0; have e1 : Four w1 (w.heap.size + 1) _ _ _ _ _ := e1; obtain ⟨p0, p1, p2, p3, f0, -, -, -⟩ := e1.at; have e1' := e1.set0 (.int .i64 5); have e0' := e0.far (i := 0) (show w.heap.size ≠ w.heap.size + 1 by omega) (.int .i64 5); obtain ⟨p0', p1', p2', p3', -, -, -, -⟩ := e1'.at; obtain ⟨c0, c1, c2, c3, g0, g1, g2, g3⟩ := e0'.at; have B2 := B1.setCell (p := ⟨w.heap.size + 1, 0, none⟩) (show w.heap.size ≤ w.heap.size + 1 by omega) (.int .i64 5)))
            obtain ⟨r0, r1, r2, r3, -, -, -, -⟩ := (e0'.sets (.int .i64 5) (.string u) (.int .i64 0) (.int .i64 a)).at
            exact bodyPost_ret (v := .tuple #[tokV ⟨5, u, 0, a⟩, .int .i64 j, .int .i64 0, .int .i64 0]) (by simp [results, Try.results48, go_sem, r0, r1, r2, r3]) rfl ⟨RetO.of O.out rfl, sets_below B2 (Nat.le_refl _) _ _ _ _⟩
          · have O : Hid (wordM s a = .tk 4 u 0 j) := Lib.hid (by unfold wordM; rw [N.out, hu, if_neg hk, if_neg (by omega), if_neg (by rw [PK.out]; exact h40)])
            have t1 : ((s[j].toNat : Int) == 40) = false := by rw [beq_eq_false_iff_ne]; omega
            clear hk h32 h40
            go_wp2_with (first | (go_at_call 47; refine (rlet_is s[j].toNat false (UInt8.toNat_lt _) HL.out _).mono ?_; rintro e w1 ⟨rfl, rfl⟩) | (go_at_call 45; refine (rdig_is s[j].toNat false HD.out _).mono ?_; rintro e w1 ⟨rfl, rfl⟩) | (go_at_call 23; refine (rkeyword_is u false HK.out _).mono ?_; rintro e w1 ⟨rfl, hb1⟩; obtain ⟨e0, e1, B1⟩ := two_new hb1; have e0 : Four w1 w.heap.size _ _ _ _ _ := e0; have e1 : Four w1 (w.heap.size + 1) _ _ _ _ _ := e1; obtain ⟨p0, p1, p2, p3, f0, -, -, -⟩ := e1.at; obtain ⟨c0, c1, c2, c3, g0, g1, g2, g3⟩ := e0.at; have e0' := e0; have B2 := B1))
            obtain ⟨r0, r1, r2, r3, -, -, -, -⟩ := (e0'.sets (.int .i64 4) (.string u) (.int .i64 0) (.int .i64 a)).at
            exact bodyPost_ret (v := .tuple #[tokV ⟨4, u, 0, a⟩, .int .i64 j, .int .i64 0, .int .i64 0]) (by simp [results, Try.results48, go_sem, r0, r1, r2, r3]) rfl ⟨RetO.of O.out rfl, sets_below B2 (Nat.le_refl _) _ _ _ _⟩
    · have N : Hid (wend s a = j) := Lib.hid (by rw [← HJ.out]; exact wend_stop (by rw [pk_ge (by omega)]; decide))
      have i2 : ¬ (j : Int) < (s.size : Int) := by omega
      by_cases hk : u.data.toList ∈ kwL
      · have O : Hid (wordM s a = .tk 6 u 0 j) := Lib.hid (by unfold wordM; rw [N.out, hu, if_pos hk])
        have HK : Hid (decide (u.data.toList ∈ kwL) = true) := Lib.hid (decide_eq_true hk)
        clear hk
        go_wp2_with (first | (go_at_call 23; refine (rkeyword_is u true HK.out _).mono ?_; rintro e w1 ⟨rfl, hb1⟩; obtain ⟨e0, e1, B1⟩ := two_new hb1; have e0 : Four w1 w.heap.size _ _ _ _ _ := e0; have e1 : Four w1 (w.heap.size + 1) _ _ _ _ _ := e1; obtain ⟨p0, p1, p2, p3, f0, -, -, -⟩ := e1.at; have e1' := e1.set0 (.int .i64 6); have e0' := e0.far (i := 0) (show w.heap.size ≠ w.heap.size + 1 by omega) (.int .i64 6); obtain ⟨p0', p1', p2', p3', -, -, -, -⟩ := e1'.at; obtain ⟨c0, c1, c2, c3, g0, g1, g2, g3⟩ := e0'.at; have B2 := B1.setCell (p := ⟨w.heap.size + 1, 0, none⟩) (show w.heap.size ≤ w.heap.size + 1 by omega) (.int .i64 6)))
        obtain ⟨r0, r1, r2, r3, -, -, -, -⟩ := (e0'.sets (.int .i64 6) (.string u) (.int .i64 0) (.int .i64 a)).at
        exact bodyPost_ret (v := .tuple #[tokV ⟨6, u, 0, a⟩, .int .i64 j, .int .i64 0, .int .i64 0]) (by simp [results, Try.results48, go_sem, r0, r1, r2, r3]) rfl ⟨RetO.of O.out rfl, sets_below B2 (Nat.le_refl _) _ _ _ _⟩
      have HK : Hid (decide (u.data.toList ∈ kwL) = false) := Lib.hid (decide_eq_false hk)
      by_cases h32 : 32 < j - a
      · have O : Hid (wordM s a = .er 3 a) := Lib.hid (by unfold wordM; rw [N.out, hu, if_neg hk, if_pos (by omega)])
        have i6 : (32 : Int) < (j : Int) - (a : Int) := by omega
        clear hk h32
        go_wp2_with (first | (go_at_call 23; refine (rkeyword_is u false HK.out _).mono ?_; rintro e w1 ⟨rfl, hb1⟩; obtain ⟨e0, e1, B1⟩ := two_new hb1; have e0 : Four w1 w.heap.size _ _ _ _ _ := e0; have e1 : Four w1 (w.heap.size + 1) _ _ _ _ _ := e1; obtain ⟨p0, p1, p2, p3, f0, -, -, -⟩ := e1.at; obtain ⟨c0, c1, c2, c3, g0, g1, g2, g3⟩ := e0.at; have e0' := e0; have B2 := B1))
        obtain ⟨r0, r1, r2, r3, -, -, -, -⟩ := (e0'.sets (.int .i64 4) (.string u) (.int .i64 0) (.int .i64 a)).at
        exact bodyPost_ret (v := .tuple #[tokV ⟨4, u, 0, a⟩, .int .i64 a, .int .i64 3, .int .i64 a]) (by simp [results, Try.results48, go_sem, r0, r1, r2, r3]) rfl ⟨RetO.of O.out ⟨_, _, rfl⟩, sets_below B2 (Nat.le_refl _) _ _ _ _⟩
      have i6 : ¬ (32 : Int) < (j : Int) - (a : Int) := by omega
      have O : Hid (wordM s a = .tk 4 u 0 j) := Lib.hid (by unfold wordM; rw [N.out, hu, if_neg hk, if_neg (by omega), if_neg (by rw [pk_ge (by omega)]; decide)])
      clear hk h32
      go_wp2_with (first | (go_at_call 23; refine (rkeyword_is u false HK.out _).mono ?_; rintro e w1 ⟨rfl, hb1⟩; obtain ⟨e0, e1, B1⟩ := two_new hb1; have e0 : Four w1 w.heap.size _ _ _ _ _ := e0; have e1 : Four w1 (w.heap.size + 1) _ _ _ _ _ := e1; obtain ⟨p0, p1, p2, p3, f0, -, -, -⟩ := e1.at; obtain ⟨c0, c1, c2, c3, g0, g1, g2, g3⟩ := e0.at; have e0' := e0; have B2 := B1))
      obtain ⟨r0, r1, r2, r3, -, -, -, -⟩ := (e0'.sets (.int .i64 4) (.string u) (.int .i64 0) (.int .i64 a)).at
      exact bodyPost_ret (v := .tuple #[tokV ⟨4, u, 0, a⟩, .int .i64 j, .int .i64 0, .int .i64 0]) (by simp [results, Try.results48, go_sem, r0, r1, r2, r3]) rfl ⟨RetO.of O.out rfl, sets_below B2 (Nat.le_refl _) _ _ _ _⟩
end Go.Proofs.Ytbioflajonafdaa
