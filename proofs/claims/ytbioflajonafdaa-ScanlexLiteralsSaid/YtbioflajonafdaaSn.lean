/- walks: the reference's quoted, mark (written by gen_sm.py) -/
import Derived.Test.YtbioflajonafdaaSm
namespace Go.Proofs.Ytbioflajonafdaa
open Go.RowKit
open Tx
theorem runesc_ok (u : ByteArray) (l : List UInt8) (w : World) (hs : u.size ≤ 8192) (h : unesc u.data.toList = .ok l) :
    Calls Try.prog 63 #[.string u] w fun e w' => e = .returned (.tuple #[.string ⟨l.toArray⟩, .int .i64 0, .int .i64 0]) ∧ Below w.heap.size w w' := by
  refine (runescape_any u w (by omega)).mono fun e w' ⟨h1, h2⟩ => ⟨?_, h2⟩
  rw [h1, h]; rfl
theorem runesc_er (u : ByteArray) (k : Nat) (w : World) (hs : u.size ≤ 8192) (h : unesc u.data.toList = .error k) :
    Calls Try.prog 63 #[.string u] w fun e w' => e = .returned (.tuple #[.string ⟨#[]⟩, .int .i64 1, .int .i64 k]) ∧ Below w.heap.size w w' := by
  refine (runescape_any u w (by omega)).mono fun e w' ⟨h1, h2⟩ => ⟨?_, h2⟩
  rw [h1, h]; rfl
set_option maxHeartbeats 4000000 in
theorem rquoted_any (s : ByteArray) (a c : Nat) (w : World) (hs : s.size ≤ 8192) (ha : a < s.size) (hp : pk s a = c) (hc : c = 34 ∨ c = 47) :
    Calls Try.prog 50 #[.string s, .int .i64 (a : Int)] w fun e w' => RetO a e (quoM s c a) ∧ Below w.heap.size w w' := by
  have i1 : (0 : Int) ≤ (a : Int) := by omega
  have i2 : (a : Int) < (s.size : Int) := by omega
  have PC : s[a].toNat = c := by rw [← pk_at ha]; exact hp
  have c10 : c ≠ 10 := by omega
  have HP := Lib.hid hp
  cases hz : clz s c (a + 1) with
  | none =>
    have O : Hid (quoM s c a = .er 1 a) := Lib.hid (by unfold quoM; rw [hz])
    have HR : Hid (clzI s c (a + 1) = -1) := Lib.hid (by unfold clzI; rw [hz])
    clear hz hp PC
    go_enter Try.func50, Try.ntmps50
    go_wp2_with (first | (go_at_call 62; refine (rclosing_any s a c _ hs ha HP.out c10 (-1) HR.out).mono ?_; rintro e w1 ⟨rfl, hb1⟩; obtain ⟨e0, B1⟩ := one_new hb1; have e0 : Four w1 w.heap.size _ _ _ _ _ := e0; obtain ⟨c0, c1, c2, c3, g0, g1, g2, g3⟩ := e0.at))
    obtain ⟨r0, r1, r2, r3, -, -, -, -⟩ := (e0.sets (.int .i64 0) (.string ⟨#[]⟩) (.int .i64 0) (.int .i64 0)).at
    exact bodyPost_ret (v := .tuple #[tokV ⟨0, ⟨#[]⟩, 0, 0⟩, .int .i64 a, .int .i64 1, .int .i64 a]) (by simp [results, Try.results50, go_sem, r0, r1, r2, r3]) rfl ⟨RetO.of O.out ⟨_, _, rfl⟩, sets_below B1 (Nat.le_refl _) _ _ _ _⟩
  | some e =>
    obtain ⟨b1, b2, -⟩ := clz_bd s c _ _ _ (Nat.le_refl _) hz
    have HR : Hid (clzI s c (a + 1) = e) := Lib.hid (by unfold clzI; rw [hz])
    obtain ⟨u, hu⟩ : ∃ u, s.extract (a + 1) e = u := ⟨_, rfl⟩
    have us : u.size ≤ 8192 := by rw [← hu, size_len, Byt.ext_mid, List.length_take, List.length_drop, ← size_len]; omega
    have US := Lib.hid us
    have i0 : ¬ (e : Int) < 0 := by omega
    have i3 : (0 : Int) ≤ (a : Int) + 1 := by omega
    have i4 : (a : Int) + 1 ≤ (e : Int) := by omega
    have i5 : (e : Int) ≤ (s.size : Int) := by omega
    have wr1 : IntKind.i64.wrap ((a : Int) + 1) = (a : Int) + 1 := by rw [IntKind.wrap_i64]; omega
    have wr2 : IntKind.i64.wrap ((e : Int) + 1) = (e : Int) + 1 := by rw [IntKind.wrap_i64]; omega
    rcases hc with rfl | rfl
    · have t1 : ((s[a].toNat : Int) == 47) = false := by rw [beq_eq_false_iff_ne]; omega
      clear PC hp
      cases hr : unesc u.data.toList with
      | ok l =>
        have O : Hid (quoM s 34 a = .tk 2 ⟨l.toArray⟩ 0 (e + 1)) := Lib.hid (by unfold quoM; rw [hz]; simp only; rw [if_neg (by decide), hu, hr])
        have HU := Lib.hid hr
        clear hz hr us
        go_enter Try.func50, Try.ntmps50
        go_wp2_with (first | (go_at_call 62; refine (rclosing_any s a 34 _ hs ha HP.out c10 e HR.out).mono ?_; rintro er w1 ⟨rfl, hb1⟩; obtain ⟨e0, B1⟩ := one_new hb1; have e0 : Four w1 w.heap.size _ _ _ _ _ := e0; obtain ⟨c0, c1, c2, c3, g0, g1, g2, g3⟩ := e0.at) | (go_at_call 63; refine (runesc_ok u l _ US.out HU.out).mono ?_; rintro er w2 ⟨rfl, hb2⟩; have e2 := e0.below hb2 (Nat.lt_of_lt_of_le (Nat.lt_succ_self _) (by have := hb1.size; rw [World.size_alloc] at this; exact this)); obtain ⟨d0, d1, d2, d3, h0, h1, h2, h3⟩ := e2.at; have B2 := B1.trans (hb2.mono B1.size)))
        obtain ⟨r0, r1, r2, r3, -, -, -, -⟩ := (e2.sets (.int .i64 2) (.string ⟨l.toArray⟩) (.int .i64 0) (.int .i64 a)).at
        exact bodyPost_ret (v := .tuple #[tokV ⟨2, ⟨l.toArray⟩, 0, a⟩, .int .i64 (e + 1), .int .i64 0, .int .i64 0]) (by simp [results, Try.results50, go_sem, r0, r1, r2, r3]) rfl ⟨RetO.of O.out (by simp only [RetO]; simp), sets_below B2 (Nat.le_refl _) _ _ _ _⟩
      | error k =>
        have hk := une_err _ _ _ _ (show une u.data.toList.length u.data.toList 0 = .error k from hr)
        rw [← size_len] at hk
        have O : Hid (quoM s 34 a = .er 1 (a + 1 + k)) := Lib.hid (by unfold quoM; rw [hz]; simp only; rw [if_neg (by decide), hu, hr])
        have HU := Lib.hid hr
        have wr3 : IntKind.i64.wrap ((a : Int) + 1 + (k : Int)) = (a : Int) + 1 + (k : Int) := by rw [IntKind.wrap_i64]; omega
        clear hz hr us
        go_enter Try.func50, Try.ntmps50
        go_wp2_with (first | (go_at_call 62; refine (rclosing_any s a 34 _ hs ha HP.out c10 e HR.out).mono ?_; rintro er w1 ⟨rfl, hb1⟩; obtain ⟨e0, B1⟩ := one_new hb1; have e0 : Four w1 w.heap.size _ _ _ _ _ := e0; obtain ⟨c0, c1, c2, c3, g0, g1, g2, g3⟩ := e0.at) | (go_at_call 63; refine (runesc_er u k _ US.out HU.out).mono ?_; rintro er w2 ⟨rfl, hb2⟩; have e2 := e0.below hb2 (Nat.lt_of_lt_of_le (Nat.lt_succ_self _) (by have := hb1.size; rw [World.size_alloc] at this; exact this)); obtain ⟨d0, d1, d2, d3, h0, h1, h2, h3⟩ := e2.at; have B2 := B1.trans (hb2.mono B1.size)))
        obtain ⟨r0, r1, r2, r3, -, -, -, -⟩ := (e2.sets (.int .i64 0) (.string ⟨#[]⟩) (.int .i64 0) (.int .i64 0)).at
        exact bodyPost_ret (v := .tuple #[tokV ⟨0, ⟨#[]⟩, 0, 0⟩, .int .i64 a, .int .i64 1, .int .i64 ((a : Int) + 1 + (k : Int))]) (by simp [results, Try.results50, go_sem, r0, r1, r2, r3]) rfl ⟨RetO.of O.out ⟨⟨0, ⟨#[]⟩, 0, 0⟩, a, by simp⟩, sets_below B2 (Nat.le_refl _) _ _ _ _⟩
    · have t1 : ((s[a].toNat : Int) == 47) = true := by rw [beq_iff_eq]; omega
      clear PC hp
      have O : Hid (quoM s 47 a = .tk 3 u 0 (e + 1)) := Lib.hid (by unfold quoM; rw [hz]; simp only; rw [if_pos trivial, hu])
      clear hz us
      go_enter Try.func50, Try.ntmps50
      go_wp2_with (first | (go_at_call 62; refine (rclosing_any s a 47 _ hs ha HP.out c10 e HR.out).mono ?_; rintro er w1 ⟨rfl, hb1⟩; obtain ⟨e0, B1⟩ := one_new hb1; have e0 : Four w1 w.heap.size _ _ _ _ _ := e0; obtain ⟨c0, c1, c2, c3, g0, g1, g2, g3⟩ := e0.at))
      obtain ⟨r0, r1, r2, r3, -, -, -, -⟩ := (e0.sets (.int .i64 3) (.string u) (.int .i64 0) (.int .i64 a)).at
      exact bodyPost_ret (v := .tuple #[tokV ⟨3, u, 0, a⟩, .int .i64 (e + 1), .int .i64 0, .int .i64 0]) (by simp [results, Try.results50, go_sem, r0, r1, r2, r3]) rfl ⟨RetO.of O.out (by simp only [RetO]; simp), sets_below B1 (Nat.le_refl _) _ _ _ _⟩
end Go.Proofs.Ytbioflajonafdaa
