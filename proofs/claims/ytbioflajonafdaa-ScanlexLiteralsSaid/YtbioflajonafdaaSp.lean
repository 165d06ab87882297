/- walks: the reference's skip (written by gen_sp.py) -/
import Derived.Test.YtbioflajonafdaaSo
namespace Go.Proofs.Ytbioflajonafdaa
open Go.RowKit
open Tx
/-- where the reference's skip goes on -/
def rskM (s : ByteArray) (a : Nat) (b : Bool) : Nat :=
  if pk s a = 32 ∨ pk s a = 9 then a + 1
  else if pk s a = 10 then (if b then a + 1 else a)
  else if pk s a = 92 ∧ pk s (a + 1) = 10 then a + 2
  else if pk s a = 35 then cend s a else a
theorem cend_step {s : ByteArray} {a : Nat} (ha : a < s.size) (h : pk s a ≠ 10) : cend s a = cend s (a + 1) := by
  unfold cend
  rw [Byt.drop_lt s a ha, List.takeWhile_cons_of_pos, List.length_cons]
  · omega
  · rw [pk_at ha] at h
    simp only [bne_iff_ne]
    intro x; rw [x] at h; exact h rfl
theorem cend_stop {s : ByteArray} {a : Nat} (ha : a ≤ s.size) (h : pk s a = 10 ∨ a = s.size) : cend s a = a :=
  cend_of s a _ a rfl (Nat.le_refl _) ha (fun i _ _ => by omega) (h.imp id id)
theorem rskips_is (t : Tok) (r : Bool) (hr : skp t = r) (w : World) : Calls Try.prog 13 #[tokV t] w fun e w' => e = .returned (.bool r) ∧ Below w.heap.size w w' := by
  rw [← hr]; exact rskips_any t w
set_option maxHeartbeats 4000000 in
theorem rskip_any (s : ByteArray) (a : Nat) (bt : Tok) (w : World) (hs : s.size ≤ 8192) (ha : a < s.size) :
    Calls Try.prog 27 #[.string s, .int .i64 (a : Int), tokV bt] w fun e w' => e = .returned (.int .i64 (rskM s a (skp bt) : Nat)) ∧ Below w.heap.size w w' := by
  have i1 : (0 : Int) ≤ (a : Int) := by omega
  have i2 : (a : Int) < (s.size : Int) := by omega
  have wr1 : IntKind.i64.wrap ((a : Int) + 1) = (a : Int) + 1 := by rw [IntKind.wrap_i64]; omega
  have wr2 : IntKind.i64.wrap ((a : Int) + 2) = (a : Int) + 2 := by rw [IntKind.wrap_i64]; omega
  obtain ⟨bk, bx, bn, ba⟩ := bt
  obtain ⟨ob, hob⟩ : ∃ ob, skp ⟨bk, bx, bn, ba⟩ = ob := ⟨_, rfl⟩
  rw [hob]
  have HO := Lib.hid hob
  clear hob
  have AL := Lib.hid ((Below.refl w.heap.size w).alloc (Nat.le_refl _) (.cells #[.int .i64 bk, .string bx, .int .i64 bn, .int .i64 ba] 32))
  obtain ⟨c, hc⟩ : ∃ c, s[a].toNat = c := ⟨_, rfl⟩
  have hp : pk s a = c := (pk_at ha).trans hc
  have HP := Lib.hid hp
  clear hp
  by_cases h32 : c = 32
  · subst h32
    have O : Hid (rskM s a ob = a + 1) := Lib.hid (by unfold rskM; rw [HP.out, if_pos (.inl rfl)])
    have t32 : ((s[a].toNat : Int) == 32) = true := by rw [beq_iff_eq]; omega
    clear hc
    go_enter Try.func27, Try.ntmps27
    go_wp2_with fail
    go_ret
    exact ⟨by rw [O.out]; simp, AL.out⟩
  by_cases h9 : c = 9
  · subst h9
    have O : Hid (rskM s a ob = a + 1) := Lib.hid (by unfold rskM; rw [HP.out, if_pos (.inr rfl)])
    have t32 : ((s[a].toNat : Int) == 32) = false := by rw [beq_eq_false_iff_ne]; omega
    have t9 : ((s[a].toNat : Int) == 9) = true := by rw [beq_iff_eq]; omega
    clear hc
    go_enter Try.func27, Try.ntmps27
    go_wp2_with fail
    go_ret
    exact ⟨by rw [O.out]; simp, AL.out⟩
  have HN : Hid (¬ (pk s a = 32 ∨ pk s a = 9)) := Lib.hid (by rw [HP.out]; omega)
  by_cases h10 : c = 10
  · subst h10
    have t32 : ((s[a].toNat : Int) == 32) = false := by rw [beq_eq_false_iff_ne]; omega
    have t9 : ((s[a].toNat : Int) == 9) = false := by rw [beq_eq_false_iff_ne]; omega
    have t10 : ((s[a].toNat : Int) == 10) = true := by rw [beq_iff_eq]; omega
    have t92 : ((s[a].toNat : Int) == 92) = false := by rw [beq_eq_false_iff_ne]; omega
    have t35 : ((s[a].toNat : Int) == 35) = false := by rw [beq_eq_false_iff_ne]; omega
    clear hc
    cases ob with
    | true =>
      have O : Hid (rskM s a true = a + 1) := Lib.hid (by unfold rskM; rw [if_neg HN.out, HP.out, if_pos rfl, if_pos rfl])
      go_enter Try.func27, Try.ntmps27
      go_wp2_with (first | (go_at_call 13; refine (rskips_is ⟨bk, bx, bn, ba⟩ true HO.out _).mono ?_; rintro e w2 ⟨rfl, hb2⟩))
      go_ret
      exact ⟨by rw [O.out]; simp, below_step hb2⟩
    | false =>
      have O : Hid (rskM s a false = a) := Lib.hid (by unfold rskM; rw [if_neg HN.out, HP.out, if_pos rfl, if_neg (by decide)])
      go_enter Try.func27, Try.ntmps27
      go_wp2_with (first | (go_at_call 13; refine (rskips_is ⟨bk, bx, bn, ba⟩ false HO.out _).mono ?_; rintro e w2 ⟨rfl, hb2⟩))
      go_ret
      exact ⟨by rw [O.out]; rfl, below_step hb2⟩
  by_cases h92 : c = 92
  · subst h92
    have t32 : ((s[a].toNat : Int) == 32) = false := by rw [beq_eq_false_iff_ne]; omega
    have t9 : ((s[a].toNat : Int) == 9) = false := by rw [beq_eq_false_iff_ne]; omega
    have t10 : ((s[a].toNat : Int) == 10) = false := by rw [beq_eq_false_iff_ne]; omega
    have t92 : ((s[a].toNat : Int) == 92) = true := by rw [beq_iff_eq]; omega
    have t35 : ((s[a].toNat : Int) == 35) = false := by rw [beq_eq_false_iff_ne]; omega
    have wr1 := wr1
    by_cases hl1 : a + 1 < s.size
    · have i8 : (a : Int) + 1 < (s.size : Int) := by omega
      have i9 : (0 : Int) ≤ (a : Int) + 1 := by omega
      have i10 : ((a : Int) + 1).toNat = a + 1 := by omega
      have P1 := pk_at hl1
      by_cases q : s[a + 1].toNat = 10
      · have O : Hid (rskM s a ob = a + 2) := Lib.hid (by unfold rskM; rw [if_neg HN.out, HP.out, if_neg (by decide), if_pos ⟨rfl, by rw [P1]; exact q⟩])
        have t : ((s[a + 1].toNat : Int) == 10) = true := by rw [beq_iff_eq]; omega
        clear hc q P1
        go_enter Try.func27, Try.ntmps27
        go_wp2_with fail
        go_ret
        exact ⟨by rw [O.out]; simp, AL.out⟩
      · have O : Hid (rskM s a ob = a) := Lib.hid (by unfold rskM; rw [if_neg HN.out, HP.out, if_neg (by decide), if_neg (by rintro ⟨_, x⟩; rw [P1] at x; exact q x), if_neg (by decide)])
        have t : ((s[a + 1].toNat : Int) == 10) = false := by rw [beq_eq_false_iff_ne]; omega
        clear hc q P1
        go_enter Try.func27, Try.ntmps27
        go_wp2_with fail
        go_ret
        exact ⟨by rw [O.out]; rfl, AL.out⟩
    · have i8 : ¬ (a : Int) + 1 < (s.size : Int) := by omega
      have O : Hid (rskM s a ob = a) := Lib.hid (by unfold rskM; rw [if_neg HN.out, HP.out, if_neg (by decide), if_neg (by rintro ⟨_, x⟩; rw [pk_ge (by omega)] at x; cases x), if_neg (by decide)])
      clear hc
      go_enter Try.func27, Try.ntmps27
      go_wp2_with fail
      go_ret
      exact ⟨by rw [O.out]; rfl, AL.out⟩
  by_cases h35 : c = 35
  · subst h35
    have t32 : ((s[a].toNat : Int) == 32) = false := by rw [beq_eq_false_iff_ne]; omega
    have t9 : ((s[a].toNat : Int) == 9) = false := by rw [beq_eq_false_iff_ne]; omega
    have t10 : ((s[a].toNat : Int) == 10) = false := by rw [beq_eq_false_iff_ne]; omega
    have t92 : ((s[a].toNat : Int) == 92) = false := by rw [beq_eq_false_iff_ne]; omega
    have t35 : ((s[a].toNat : Int) == 35) = true := by rw [beq_iff_eq]; omega
    have O : Hid (rskM s a ob = cend s a) := Lib.hid (by unfold rskM; rw [if_neg HN.out, HP.out, if_neg (by decide), if_neg (by omega), if_pos rfl])
    clear hc
    go_enter Try.func27, Try.ntmps27
    go_wp2_with fail
    go_loop [1] (fun i => ∃ j : Nat, i = .int .i64 j ∧ j ≤ s.size ∧ Hid (cend s j = cend s a)) (fun i => s.size - (intOf i).toNat)
    case atStart => exact ⟨a, rfl, by omega, Lib.hid rfl⟩
    case round =>
      obtain ⟨j, rfl, hj, HJ⟩ := hrel
      have j1 : (0 : Int) ≤ (j : Int) := by omega
      by_cases hlt : j < s.size
      · have j2 : (j : Int) < (s.size : Int) := by omega
        have wr3 : IntKind.i64.wrap ((j : Int) + 1) = (j : Int) + 1 := by rw [IntKind.wrap_i64]; omega
        have PK := pk_at hlt
        by_cases q : s[j].toNat = 10
        · have N : Hid (rskM s a ob = j) := Lib.hid (by rw [O.out, ← HJ.out]; exact cend_stop hj (.inl (by rw [PK]; exact q)))
          have t1 : ((s[j].toNat : Int) != 10) = false := by rw [bne_eq_false_iff_eq]; omega
          clear PK
          go_wp2_with fail
          go_ret
          exact ⟨by rw [N.out]; rfl, AL.out⟩
        · have N : Hid (cend s (j + 1) = cend s a) := Lib.hid (by rw [← HJ.out]; exact (cend_step hlt (by rw [PK]; exact q)).symm)
          have t1 : ((s[j].toNat : Int) != 10) = true := by rw [bne_iff_ne]; omega
          clear PK
          go_wp2_with fail
          go_round
          case rel => exact ⟨j + 1, by go_num, by omega, N⟩
          case measure => simp [intOf]; omega
      · have j2 : ¬ (j : Int) < (s.size : Int) := by omega
        have N : Hid (rskM s a ob = j) := Lib.hid (by rw [O.out, ← HJ.out]; exact cend_stop hj (.inr (by omega)))
        go_wp2_with fail
        go_ret
        exact ⟨by rw [N.out]; rfl, AL.out⟩
  · have O : Hid (rskM s a ob = a) := Lib.hid (by unfold rskM; rw [if_neg HN.out, HP.out, if_neg h10, if_neg (by omega), if_neg h35])
    have t32 : ((s[a].toNat : Int) == 32) = false := by rw [beq_eq_false_iff_ne]; omega
    have t9 : ((s[a].toNat : Int) == 9) = false := by rw [beq_eq_false_iff_ne]; omega
    have t10 : ((s[a].toNat : Int) == 10) = false := by rw [beq_eq_false_iff_ne]; omega
    have t92 : ((s[a].toNat : Int) == 92) = false := by rw [beq_eq_false_iff_ne]; omega
    have t35 : ((s[a].toNat : Int) == 35) = false := by rw [beq_eq_false_iff_ne]; omega
    clear hc
    go_enter Try.func27, Try.ntmps27
    go_wp2_with fail
    go_ret
    exact ⟨by rw [O.out]; rfl, AL.out⟩
end Go.Proofs.Ytbioflajonafdaa
