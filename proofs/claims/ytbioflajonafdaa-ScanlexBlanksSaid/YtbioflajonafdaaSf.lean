/- walks: number, word -/
import Derived.Test.YtbioflajonafdaaSe
namespace Go.Proofs.Ytbioflajonafdaa
open Go.RowKit
open Tx
/-- what a step leaves in memory -/
def OutP (p : Nat) (s : ByteArray) (T : List Tok) (a : Nat) (pos : Int) (w : World) : Out → Prop
  | .tk k t n b => ∃ v, LX p s b v (T ++ [⟨k, t, n, a⟩]) 0 pos w
  | .er e k => ∃ v, LX p s a v T e k w
  | .sk b => ∃ v, LX p s b v T 0 pos w
theorem OutP.of {p : Nat} {s : ByteArray} {T : List Tok} {a : Nat} {pos : Int} {w : World} {o o' : Out} (e : o = o') (h : OutP p s T a pos w o') : OutP p s T a pos w o := e ▸ h
theorem prefix_is (u : ByteArray) (w : World) (d : Int) (n : Nat) (hs : u.size ≤ 8192) (hd : Byt.preV u.data.toList = d) (hn : Byt.preN u.data.toList = n) :
    Calls Try.prog 56 #[.string u] w fun e w' => e = .returned (.tuple #[.int .i64 d, .int .i64 n]) ∧ w = w' := by
  rw [← hd, ← hn]; exact prefix_any u w (by omega)
set_option maxHeartbeats 4000000 in
theorem snumber_any (p : Nat) (s : ByteArray) (a : Nat) (v : Value) (T : List Tok) (pos : Int) (w : World) (h : LX p s a v T 0 pos w) (hs : s.size ≤ 8192) (ha : a < s.size) (hT : T.length ≤ 1048576) :
    Calls Try.prog 39 #[.pointer (some ⟨p, 0, none⟩)] w fun e w' => e = .returned (.tuple #[]) ∧ OutP p s T a pos w' (numM s a) ∧ Below p w w' := by
  obtain ⟨c0, c1, -, -, -, -⟩ := h.cells
  have HX := Lib.hid h
  have HT := Lib.hid hT
  have hp : p < w.heap.size := by have := h.size; omega
  have S0 : Below w.heap.size w w.drew ∧ w.drew.cell? ⟨p, 0, none⟩ = some (.string s) ∧ w.drew.cell? ⟨p, 1, none⟩ = some (.int .i64 a) := ⟨(Below.refl _ _).drew, c0, c1⟩
  have B1 := Lib.hid (Below.refl w.heap.size w).drew
  clear h hT
  obtain ⟨u, hu⟩ : ∃ u, s.extract a s.size = u := ⟨_, rfl⟩
  have hul : u.data.toList = s.data.toList.drop a := by rw [← hu]; exact Lib.extract_to_end s a
  have us : u.size ≤ 8192 := by rw [size_len, hul, List.length_drop, ← size_len]; omega
  obtain ⟨d, hd⟩ : ∃ d, Byt.preV u.data.toList = d := ⟨_, rfl⟩
  obtain ⟨n, hn⟩ : ∃ n, Byt.preN u.data.toList = n := ⟨_, rfl⟩
  have HD := Lib.hid hd
  have HN := Lib.hid hn
  have US := Lib.hid us
  have i3 : (0 : Int) ≤ (a : Int) := by omega
  have i4 : (a : Int) ≤ (s.size : Int) := by omega
  rw [hul] at hd hn
  by_cases h15 : 15 < n
  · have O : Hid (numM s a = .er 3 a) := Lib.hid (by unfold numM; rw [hn, if_pos h15])
    have i6 : (15 : Int) < (n : Int) := by omega
    clear hd hn hul us
    go_enter Try.func39, Try.ntmps39
    go_wp2_with fail
    go_region_held3 (fun w' => Below w.heap.size w w' ∧ w'.cell? ⟨p, 0, none⟩ = some (.string s) ∧ w'.cell? ⟨p, 1, none⟩ = some (.int .i64 a)) (first | exact S0) (first | (go_at_call 56; refine (prefix_is u _ d n US.out HD.out HN.out).mono ?_; rintro e w1 ⟨rfl, rfl⟩))
    go_wp2_with (go_at_call 57; refine (fail_any p s a v T pos 3 a _ (HX.out.below B1.out)).mono ?_; rintro e w2 ⟨rfl, L2, hb2⟩)
    (try simp only [Exit.inBlock, Exit.then]); refine bodyPost_ret (results_none rfl _ _ _) rfl ?_
    exact ⟨rfl, OutP.of O.out ⟨v, L2⟩, (B1.out.mono (by omega)).trans hb2⟩
  · have O : Hid (numM s a = .tk 1 ⟨#[]⟩ d (a + n)) := Lib.hid (by unfold numM; rw [hn, hd, if_neg h15])
    have i6 : ¬ (15 : Int) < (n : Int) := by omega
    have wr1 : IntKind.i64.wrap ((a : Int) + (n : Int)) = (a : Int) + (n : Int) := by rw [IntKind.wrap_i64]; omega
    clear hd hn hul us
    go_enter Try.func39, Try.ntmps39
    go_wp2_with fail
    go_region_held3 (fun w' => Below w.heap.size w w' ∧ w'.cell? ⟨p, 0, none⟩ = some (.string s) ∧ w'.cell? ⟨p, 1, none⟩ = some (.int .i64 a)) (first | exact S0) (first | (go_at_call 56; refine (prefix_is u _ d n US.out HD.out HN.out).mono ?_; rintro e w1 ⟨rfl, rfl⟩))
    go_wp2_with (go_at_call 25; refine (put_any p s a (a + n) v T ⟨1, ⟨#[]⟩, d, 0⟩ 0 pos _ (HX.out.below B1.out) HT.out).mono ?_; rintro e w2 ⟨rfl, hb2, v2, L2⟩)
    go_end0
    exact ⟨rfl, OutP.of O.out ⟨v2, L2.cast (by omega)⟩, (B1.out.mono (by omega)).trans hb2⟩
theorem wordch_is (c : Nat) (r : Bool) (hc : c < 256) (hr : lt c = r) (w : World) : Calls Try.prog 40 #[.int .u8 (c : Int)] w fun e w' => e = .returned (.bool r) ∧ w = w' := by
  rw [← hr]; exact sletter_any c hc w
theorem digch_is (c : Nat) (r : Bool) (hr : dgn c = r) (w : World) : Calls Try.prog 38 #[.int .u8 (c : Int)] w fun e w' => e = .returned (.bool r) ∧ w = w' := by
  rw [← hr]; exact sdigit_any c w
theorem keyword_is (u : ByteArray) (r : Bool) (hr : decide (u.data.toList ∈ kwL) = r) (w : World) : Calls Try.prog 16 #[.string u] w fun e w' => e = .returned (.bool r) ∧ w = w' := by
  rw [← hr]; exact keyword_any u w
set_option maxHeartbeats 4000000 in
theorem sword_any (p : Nat) (s : ByteArray) (a : Nat) (v : Value) (T : List Tok) (pos : Int) (w : World) (h : LX p s a v T 0 pos w) (hs : s.size ≤ 8192) (ha : a < s.size) (hT : T.length ≤ 1048576) :
    Calls Try.prog 41 #[.pointer (some ⟨p, 0, none⟩)] w fun e w' => e = .returned (.tuple #[]) ∧ OutP p s T a pos w' (wordM s a) ∧ Below p w w' := by
  obtain ⟨c0, c1, -, -, -, -⟩ := h.cells
  have HX := Lib.hid h
  have HT := Lib.hid hT
  have hp : p < w.heap.size := by have := h.size; omega
  have KP : Hid (∀ w', Below w.heap.size w w' → Below w.heap.size w w' ∧ w'.cell? ⟨p, 0, none⟩ = some (.string s) ∧ w'.cell? ⟨p, 1, none⟩ = some (.int .i64 a)) := Lib.hid fun w' b => ⟨b, (b.cell (p := ⟨p, 0, none⟩) hp).trans c0, (b.cell (p := ⟨p, 1, none⟩) hp).trans c1⟩
  have BA : Hid (∀ (k : Int) (u : ByteArray), Below w.heap.size w ((w.alloc (.cells #[.int .i64 k, .string u, .int .i64 0, .int .i64 0] 32)).drew)) := Lib.hid fun k u => ((Below.refl _ _).alloc (Nat.le_refl _) _).drew
  clear h hT
  go_enter Try.func41, Try.ntmps41
  go_wp2_with fail
  go_loop [2] (fun i => ∃ j : Nat, i = .int .i64 j ∧ j ≤ s.size ∧ a ≤ j ∧ Hid (wend s j = wend s a)) (fun i => s.size - (intOf i).toNat)
  case atStart => exact ⟨a, rfl, by omega, by omega, Lib.hid rfl⟩
  case round =>
    obtain ⟨j, rfl, hj, haj, HJ⟩ := hrel
    by_cases hlt : j < s.size
    · have i1 : (0 : Int) ≤ (j : Int) := by omega
      have i2 : (j : Int) < (s.size : Int) := by omega
      have wr1 : IntKind.i64.wrap ((j : Int) + 1) = (j : Int) + 1 := by rw [IntKind.wrap_i64]; omega
      have PK := Lib.hid (pk_at hlt)
      cases hl : lt s[j].toNat with
      | true =>
        have N : Hid (wend s (j + 1) = wend s a) := Lib.hid (by rw [← HJ.out]; exact (wend_step (by rw [PK.out]; unfold wb; rw [hl]; rfl)).symm)
        have HL := Lib.hid hl
        clear hl
        go_wp2_with (go_at_call 40; refine (wordch_is s[j].toNat true (UInt8.toNat_lt _) HL.out _).mono ?_; rintro e w1 ⟨rfl, rfl⟩)
        go_round
        case rel => exact ⟨j + 1, by go_num, by omega, by omega, N⟩
        case measure => simp [intOf]; omega
      | false =>
        cases hd : dgn s[j].toNat with
        | true =>
          have N : Hid (wend s (j + 1) = wend s a) := Lib.hid (by rw [← HJ.out]; exact (wend_step (by rw [PK.out]; unfold wb; rw [hd]; simp)).symm)
          have HL := Lib.hid hl
          have HD := Lib.hid hd
          clear hl hd
          go_wp2_with (first | (go_at_call 40; refine (wordch_is s[j].toNat false (UInt8.toNat_lt _) HL.out _).mono ?_; rintro e w1 ⟨rfl, rfl⟩) | (go_at_call 38; refine (digch_is s[j].toNat true HD.out _).mono ?_; rintro e w1 ⟨rfl, rfl⟩))
          go_round
          case rel => exact ⟨j + 1, by go_num, by omega, by omega, N⟩
          case measure => simp [intOf]; omega
        | false =>
          have N : Hid (wend s a = j) := Lib.hid (by rw [← HJ.out]; exact wend_stop (by rw [PK.out]; unfold wb; rw [hl, hd]; rfl))
          have HL := Lib.hid hl
          have HD := Lib.hid hd
          clear hl hd
          go_wp2_with (first | (go_at_call 40; refine (wordch_is s[j].toNat false (UInt8.toNat_lt _) HL.out _).mono ?_; rintro e w1 ⟨rfl, rfl⟩) | (go_at_call 38; refine (digch_is s[j].toNat false HD.out _).mono ?_; rintro e w1 ⟨rfl, rfl⟩))
          obtain ⟨u, hu⟩ : ∃ u, s.extract a j = u := ⟨_, rfl⟩
          have us : u.size = j - a := by rw [← hu, size_len, Byt.ext_mid, List.length_take, List.length_drop, ← size_len]; omega
          have i3 : (0 : Int) ≤ (a : Int) := by omega
          have i4 : (a : Int) ≤ (j : Int) := by omega
          have i5 : (j : Int) ≤ (s.size : Int) := by omega
          have S0 := KP.out _ (Below.refl w.heap.size w).drew
          by_cases hk : u.data.toList ∈ kwL
          · have O : Hid (wordM s a = .tk 6 u 0 j) := Lib.hid (by unfold wordM; rw [N.out, hu, if_pos hk])
            have HK : Hid (decide (u.data.toList ∈ kwL) = true) := Lib.hid (decide_eq_true hk)
            clear hk us
            go_region_held3 (fun w' => Below w.heap.size w w' ∧ w'.cell? ⟨p, 0, none⟩ = some (.string s) ∧ w'.cell? ⟨p, 1, none⟩ = some (.int .i64 a)) (first | exact S0 | exact KP.out _ ((Below.refl _ _).alloc (Nat.le_refl _) _).drew) (first | fail)
            go_wp2_with (first | (go_at_call 16; refine (keyword_is u true HK.out _).mono ?_; rintro e w1 ⟨rfl, rfl⟩) | (go_at_call 25; refine (put_any p s a j v T ⟨6, u, 0, 0⟩ 0 pos _ (HX.out.below (BA.out 6 u)) HT.out).mono ?_; rintro e w2 ⟨rfl, hb2, v2, L2⟩))
            go_end0
            exact ⟨rfl, OutP.of O.out ⟨v2, L2⟩, ((BA.out 6 u).mono (by omega)).trans hb2⟩
          have HK : Hid (decide (u.data.toList ∈ kwL) = false) := Lib.hid (decide_eq_false hk)
          by_cases h32 : 32 < j - a
          · have O : Hid (wordM s a = .er 3 a) := Lib.hid (by unfold wordM; rw [N.out, hu, if_neg hk, if_pos (by omega)])
            have i6 : (32 : Int) < (u.size : Int) := by omega
            clear hk us h32
            go_region_held3 (fun w' => Below w.heap.size w w' ∧ w'.cell? ⟨p, 0, none⟩ = some (.string s) ∧ w'.cell? ⟨p, 1, none⟩ = some (.int .i64 a)) (first | exact S0 | exact KP.out _ ((Below.refl _ _).alloc (Nat.le_refl _) _).drew) (first | fail)
            go_wp2_with (first | (go_at_call 16; refine (keyword_is u false HK.out _).mono ?_; rintro e w1 ⟨rfl, rfl⟩) | (go_at_call 57; refine (fail_any p s a v T pos 3 a _ (HX.out.below (BA.out 4 u))).mono ?_; rintro e w2 ⟨rfl, L2, hb2⟩))
            (try simp only [Exit.inBlock, Exit.then]); refine bodyPost_ret (results_none rfl _ _ _) rfl ?_
            exact ⟨rfl, OutP.of O.out ⟨v, L2⟩, ((BA.out 4 u).mono (by omega)).trans hb2⟩
          by_cases h40 : s[j].toNat = 40
          · have O : Hid (wordM s a = .tk 5 u 0 j) := Lib.hid (by unfold wordM; rw [N.out, hu, if_neg hk, if_neg (by omega), if_pos (by rw [PK.out]; exact h40)])
            have i6 : ¬ (32 : Int) < (u.size : Int) := by omega
            have t1 : ((s[j].toNat : Int) == 40) = true := by rw [beq_iff_eq]; omega
            clear hk us h32
            go_region_held3 (fun w' => Below w.heap.size w w' ∧ w'.cell? ⟨p, 0, none⟩ = some (.string s) ∧ w'.cell? ⟨p, 1, none⟩ = some (.int .i64 a)) (first | exact S0 | exact KP.out _ ((Below.refl _ _).alloc (Nat.le_refl _) _).drew) (first | fail)
            go_wp2_with (first | (go_at_call 16; refine (keyword_is u false HK.out _).mono ?_; rintro e w1 ⟨rfl, rfl⟩) | (go_at_call 25; refine (put_any p s a j v T ⟨5, u, 0, 0⟩ 0 pos _ (HX.out.below (BA.out 5 u)) HT.out).mono ?_; rintro e w2 ⟨rfl, hb2, v2, L2⟩))
            go_end0
            exact ⟨rfl, OutP.of O.out ⟨v2, L2⟩, ((BA.out 5 u).mono (by omega)).trans hb2⟩
          · have O : Hid (wordM s a = .tk 4 u 0 j) := Lib.hid (by unfold wordM; rw [N.out, hu, if_neg hk, if_neg (by omega), if_neg (by rw [PK.out]; exact h40)])
            have i6 : ¬ (32 : Int) < (u.size : Int) := by omega
            have t1 : ((s[j].toNat : Int) == 40) = false := by rw [beq_eq_false_iff_ne]; omega
            clear hk us h32
            go_region_held3 (fun w' => Below w.heap.size w w' ∧ w'.cell? ⟨p, 0, none⟩ = some (.string s) ∧ w'.cell? ⟨p, 1, none⟩ = some (.int .i64 a)) (first | exact S0 | exact KP.out _ ((Below.refl _ _).alloc (Nat.le_refl _) _).drew) (first | fail)
            go_wp2_with (first | (go_at_call 16; refine (keyword_is u false HK.out _).mono ?_; rintro e w1 ⟨rfl, rfl⟩) | (go_at_call 25; refine (put_any p s a j v T ⟨4, u, 0, 0⟩ 0 pos _ (HX.out.below (BA.out 4 u)) HT.out).mono ?_; rintro e w2 ⟨rfl, hb2, v2, L2⟩))
            go_end0
            exact ⟨rfl, OutP.of O.out ⟨v2, L2⟩, ((BA.out 4 u).mono (by omega)).trans hb2⟩
    · have N : Hid (wend s a = j) := Lib.hid (by rw [← HJ.out]; exact wend_stop (by rw [pk_ge (by omega)]; decide))
      have i2 : ¬ (j : Int) < (s.size : Int) := by omega
      go_wp2_with fail
      obtain ⟨u, hu⟩ : ∃ u, s.extract a j = u := ⟨_, rfl⟩
      have us : u.size = j - a := by rw [← hu, size_len, Byt.ext_mid, List.length_take, List.length_drop, ← size_len]; omega
      have i3 : (0 : Int) ≤ (a : Int) := by omega
      have i4 : (a : Int) ≤ (j : Int) := by omega
      have i5 : (j : Int) ≤ (s.size : Int) := by omega
      have S0 := KP.out _ (Below.refl w.heap.size w).drew
      by_cases hk : u.data.toList ∈ kwL
      · have O : Hid (wordM s a = .tk 6 u 0 j) := Lib.hid (by unfold wordM; rw [N.out, hu, if_pos hk])
        have HK : Hid (decide (u.data.toList ∈ kwL) = true) := Lib.hid (decide_eq_true hk)
        clear hk us
        go_region_held3 (fun w' => Below w.heap.size w w' ∧ w'.cell? ⟨p, 0, none⟩ = some (.string s) ∧ w'.cell? ⟨p, 1, none⟩ = some (.int .i64 a)) (first | exact S0 | exact KP.out _ ((Below.refl _ _).alloc (Nat.le_refl _) _).drew) (first | fail)
        go_wp2_with (first | (go_at_call 16; refine (keyword_is u true HK.out _).mono ?_; rintro e w1 ⟨rfl, rfl⟩) | (go_at_call 25; refine (put_any p s a j v T ⟨6, u, 0, 0⟩ 0 pos _ (HX.out.below (BA.out 6 u)) HT.out).mono ?_; rintro e w2 ⟨rfl, hb2, v2, L2⟩))
        go_end0
        exact ⟨rfl, OutP.of O.out ⟨v2, L2⟩, ((BA.out 6 u).mono (by omega)).trans hb2⟩
      have HK : Hid (decide (u.data.toList ∈ kwL) = false) := Lib.hid (decide_eq_false hk)
      by_cases h32 : 32 < j - a
      · have O : Hid (wordM s a = .er 3 a) := Lib.hid (by unfold wordM; rw [N.out, hu, if_neg hk, if_pos (by omega)])
        have i6 : (32 : Int) < (u.size : Int) := by omega
        clear hk us h32
        go_region_held3 (fun w' => Below w.heap.size w w' ∧ w'.cell? ⟨p, 0, none⟩ = some (.string s) ∧ w'.cell? ⟨p, 1, none⟩ = some (.int .i64 a)) (first | exact S0 | exact KP.out _ ((Below.refl _ _).alloc (Nat.le_refl _) _).drew) (first | fail)
        go_wp2_with (first | (go_at_call 16; refine (keyword_is u false HK.out _).mono ?_; rintro e w1 ⟨rfl, rfl⟩) | (go_at_call 57; refine (fail_any p s a v T pos 3 a _ (HX.out.below (BA.out 4 u))).mono ?_; rintro e w2 ⟨rfl, L2, hb2⟩))
        (try simp only [Exit.inBlock, Exit.then]); refine bodyPost_ret (results_none rfl _ _ _) rfl ?_
        exact ⟨rfl, OutP.of O.out ⟨v, L2⟩, ((BA.out 4 u).mono (by omega)).trans hb2⟩
      have O : Hid (wordM s a = .tk 4 u 0 j) := Lib.hid (by unfold wordM; rw [N.out, hu, if_neg hk, if_neg (by omega), if_neg (by rw [pk_ge (by omega)]; decide)])
      have i6 : ¬ (32 : Int) < (u.size : Int) := by omega
      clear hk us h32
      go_region_held3 (fun w' => Below w.heap.size w w' ∧ w'.cell? ⟨p, 0, none⟩ = some (.string s) ∧ w'.cell? ⟨p, 1, none⟩ = some (.int .i64 a)) (first | exact S0 | exact KP.out _ ((Below.refl _ _).alloc (Nat.le_refl _) _).drew) (first | fail)
      go_wp2_with (first | (go_at_call 16; refine (keyword_is u false HK.out _).mono ?_; rintro e w1 ⟨rfl, rfl⟩) | (go_at_call 25; refine (put_any p s a j v T ⟨4, u, 0, 0⟩ 0 pos _ (HX.out.below (BA.out 4 u)) HT.out).mono ?_; rintro e w2 ⟨rfl, hb2, v2, L2⟩))
      go_end0
      exact ⟨rfl, OutP.of O.out ⟨v2, L2⟩, ((BA.out 4 u).mono (by omega)).trans hb2⟩
end Go.Proofs.Ytbioflajonafdaa
