/- walks: positions -/
import Derived.Test.YtnbellffbbaamaaDoorRows
import Derived.Test.YtnbellffbbaamaaDoorShelf
import Derived.Test.YtnbellffbbaamaaDoorTplain
import Derived.WalkKit
import Derived.WalkSpells
import Derived.WalkLawsBesides
import Derived.Lib.Hide
import Derived.Deep.RegionHeld3
import Derived.Deep.QuietTactic
namespace Go.Proofs.YtnbellffbbaamaaDoor
open Go.RowKit
open Tx
theorem ret_int {k : IntKind} {a b : Int} (h : a = b) : Ending.returned (.int k a) = .returned (.int k b) := by rw [h]
theorem count_is (s : ByteArray) (w : World) : Calls Tryd.prog 29 #[.string s, .string ⟨#[10]⟩] w fun e w' => e = .returned (.int .i64 ((s.data.toList.count 10 : Nat) : Int)) ∧ w = w' :=
  (Tryd.strings_Count_one s 10 w).mono fun _ _ ⟨h, h'⟩ => ⟨h, h'.symm⟩
theorem last_is (s : ByteArray) (w : World) (hs : s.size < 4611686018427387904) : Calls Tryd.prog 30 #[.string s, .int .u8 10] w fun e w' => e = .returned (.int .i64 (Lib.lastIndexByte s 10)) ∧ w = w' :=
  (Tryd.strings_LastIndexByte s 10 hs w).mono fun _ _ ⟨h, h'⟩ => ⟨h, h'.symm⟩
theorem below_step {w w1 : World} {o : Obj} (hb : Below (w.alloc o).heap.size (w.alloc o) w1) : Below w.heap.size w w1 :=
  ((Below.refl w.heap.size w).alloc (Nat.le_refl _) o).trans (hb.mono ((Below.refl w.heap.size w).alloc (Nat.le_refl _) o).size)
abbrev vpos (a b : Int) : Value := .agg #[.int .i64 a, .int .i64 b]
theorem ext_take (s : ByteArray) (n : Nat) : (s.extract 0 n).data.toList = s.data.toList.take n := by
  rw [Lib.extract_data]; simp
theorem count_to (s : ByteArray) (c : Nat) (w : World) (h : Hid (s.data.toList.count 10 = c)) : Calls Tryd.prog 29 #[.string s, .string ⟨#[10]⟩] w fun e w' => e = .returned (.int .i64 (c : Int)) ∧ w = w' := by
  rw [← h.out]; exact count_is s w
theorem last_to (s : ByteArray) (i : Int) (w : World) (hs : Hid (s.size < 4611686018427387904)) (h : Hid (Lib.lastIndexByte s 10 = i)) : Calls Tryd.prog 30 #[.string s, .int .u8 10] w fun e w' => e = .returned (.int .i64 i) ∧ w = w' := by
  rw [← h.out]; exact last_is s w hs.out
set_option maxHeartbeats 2000000 in
theorem position_any (s : ByteArray) (at_ : Int) (w : World) (hs : s.size ≤ 140737488351232) :
    Calls Tryd.prog 17 #[.string s, .int .i64 at_] w fun e w' => e = .returned (vpos (lineAt s at_) (colAt s at_)) ∧ Below w.heap.size w w' := by
  obtain ⟨n, hn⟩ : ∃ n, (min (max at_ 0) (s.size : Int)).toNat = n := ⟨_, rfl⟩
  have hn' : clamp at_ s.size = n := hn
  have hle := clamp_le at_ s.size
  rw [hn'] at hle
  obtain ⟨u, hu⟩ : ∃ u, s.extract 0 n = u := ⟨_, rfl⟩
  have hul : u.data.toList = s.data.toList.take n := by rw [← hu]; exact ext_take s n
  have hus : u.size = n := by rw [size_len, hul, List.length_take, ← size_len]; omega
  have US : Hid (u.size < 4611686018427387904) := Lib.hid (by omega)
  obtain ⟨c, hc⟩ : ∃ c : Nat, u.data.toList.count 10 = c := ⟨_, rfl⟩
  obtain ⟨i, hi⟩ : ∃ i, Lib.lastIndexByte u 10 = i := ⟨_, rfl⟩
  have hcol := col_of u
  rw [hi] at hcol
  have hcb := pCol_bd u.data.toList 1 (by omega)
  rw [← hcol, ← size_len] at hcb
  have hcc : c ≤ u.size := by rw [← hc, size_len]; exact List.count_le_length
  have L : Hid (lineAt s at_ = 1 + (c : Int)) := Lib.hid (by unfold lineAt pLine; rw [hn', ← hul, hc])
  have K : Hid (colAt s at_ = (n : Int) - i) := Lib.hid (by unfold colAt; rw [hn', ← hul, ← hcol, hus])
  have C := Lib.hid hc; clear hc
  have I := Lib.hid hi; clear hi
  have HC : c ≤ 140737488351232 := by omega
  have HI : -1 ≤ i := by omega
  have HI2 : i ≤ 140737488351232 := by omega
  clear hcol hcb hcc hul hn'
  go_enter Tryd.func17, Tryd.ntmps17
  go_wp2_with (first
    | (go_at_call 29; refine (count_to u c _ C).mono ?_; rintro e w' ⟨rfl, rfl⟩)
    | (go_at_call 30; refine (last_to u i _ US I).mono ?_; rintro e w' ⟨rfl, rfl⟩))
  refine bodyPost_ret (v := vpos (1 + (c : Int)) ((n : Int) - i)) (by simp [results, Tryd.results17, go_sem]) rfl ⟨by rw [L.out, K.out], below_step (Below.refl _ _)⟩
theorem line_hit (s : ByteArray) (j : Nat) (h : j < s.size) (hc : (s[j].toNat : Int) = 10) : pLine (s.data.toList.take (j + 1)) = pLine (s.data.toList.take j) + 1 ∧ pCol (s.data.toList.take (j + 1)) 1 = 1 := by
  have hc' := (is_nl _).2 hc
  refine ⟨?_, ?_⟩
  · unfold pLine; rw [count_snoc s j h, if_pos hc']; omega
  · rw [take_snoc s j h, pCol_app, if_pos hc']
theorem line_miss (s : ByteArray) (j : Nat) (h : j < s.size) (hc : ¬ (s[j].toNat : Int) = 10) : pLine (s.data.toList.take (j + 1)) = pLine (s.data.toList.take j) ∧ pCol (s.data.toList.take (j + 1)) 1 = pCol (s.data.toList.take j) 1 + 1 := by
  have hc' : ¬ s[j] = 10 := fun e => hc ((is_nl _).1 e)
  refine ⟨?_, ?_⟩
  · unfold pLine; rw [count_snoc s j h, if_neg hc']; omega
  · rw [take_snoc s j h, pCol_app, if_neg hc']
theorem line_bd (s : ByteArray) (j : Nat) (h : j ≤ s.size) : (1 ≤ pLine (s.data.toList.take j) ∧ pLine (s.data.toList.take j) ≤ 1 + j) ∧ 1 ≤ pCol (s.data.toList.take j) 1 ∧ pCol (s.data.toList.take j) 1 ≤ 1 + j := by
  have hl : (s.data.toList.take j).length = j := by rw [List.length_take, ← size_len]; omega
  have h1 := pCol_bd (s.data.toList.take j) 1 (by omega)
  have h2 : (s.data.toList.take j).count 10 ≤ (s.data.toList.take j).length := List.count_le_length
  unfold pLine
  omega
set_option maxHeartbeats 2000000 in
theorem rposition_any (s : ByteArray) (at_ : Int) (w : World) (hs : s.size ≤ 140737488351232) :
    Calls Tryd.prog 18 #[.string s, .int .i64 at_] w fun e w' => e = .returned (vpos (lineAt s at_) (colAt s at_)) ∧ Below w.heap.size w w' := by
  obtain ⟨n, hn⟩ : ∃ n, clamp at_ s.size = n := ⟨_, rfl⟩
  have hle := clamp_le at_ s.size
  rw [hn] at hle
  have hin : ∀ j : Nat, j < n → j < s.size ∧ (j : Int) < at_ := by
    intro j hj; rw [← hn] at hj; unfold clamp at hj; omega
  have hout : ¬ (n < s.size) ∨ ¬ ((n : Int) < at_) := by
    rw [← hn]; unfold clamp; omega
  have IN := Lib.hid hin; clear hin
  have OUT := Lib.hid hout; clear hout
  have N := Lib.hid hn; clear hn
  go_enter Tryd.func18, Tryd.ntmps18
  go_wp2_with fail
  go_loopw [6] (fun i wr => ∃ j : Nat, j ≤ n ∧ i = .int .i64 j ∧ wr = (w.alloc (.cells #[.int .i64 0, .int .i64 0] 31)).alloc (.cells #[.int .i64 (pLine (s.data.toList.take j)), .int .i64 (pCol (s.data.toList.take j) 1)] 31)) (fun i _ => n - (intOf i).toNat)
  case atStart => exact ⟨0, by omega, rfl, rfl⟩
  case round =>
    obtain ⟨j, hj, rfl, rfl⟩ := hrel
    obtain ⟨⟨b1, b2⟩, b3, b4⟩ := line_bd s j (by omega)
    by_cases hlt : j < n
    · obtain ⟨i1, i2⟩ := IN.out j hlt
      by_cases hc : (s[j].toNat : Int) = 10
      · obtain ⟨l1, l2⟩ := line_hit s j i1 hc
        have L1 := Lib.hid l1; have L2 := Lib.hid l2; clear l1 l2
        have t : ((s[j].toNat : Int) == 10) = true := by rw [hc]; rfl
        clear hc
        obtain ⟨l, hl⟩ : ∃ l, pLine (s.data.toList.take j) = l := ⟨_, rfl⟩
        obtain ⟨c, hc⟩ : ∃ c, pCol (s.data.toList.take j) 1 = c := ⟨_, rfl⟩
        rw [hl] at b1 b2 L1 ⊢
        rw [hc] at b3 b4 ⊢
        clear hl hc
        go_wp2_with fail
        go_roundw
        case rel => exact ⟨j + 1, by omega, by go_num, by rw [L1.out, L2.out]⟩
        case measure => simp [intOf]; omega
      · obtain ⟨l1, l2⟩ := line_miss s j i1 hc
        have L1 := Lib.hid l1; have L2 := Lib.hid l2; clear l1 l2
        have t : ((s[j].toNat : Int) == 10) = false := by rw [beq_eq_false_iff_ne]; exact hc
        clear hc
        obtain ⟨l, hl⟩ : ∃ l, pLine (s.data.toList.take j) = l := ⟨_, rfl⟩
        obtain ⟨c, hc⟩ : ∃ c, pCol (s.data.toList.take j) 1 = c := ⟨_, rfl⟩
        rw [hl] at b1 b2 L1 ⊢
        rw [hc] at b3 b4 L2 ⊢
        clear hl hc
        go_wp2_with fail
        go_roundw
        case rel => exact ⟨j + 1, by omega, by go_num, by rw [L1.out, L2.out]⟩
        case measure => simp [intOf]; omega
    · obtain rfl : j = n := by omega
      have L : Hid (lineAt s at_ = pLine (s.data.toList.take j) ∧ colAt s at_ = pCol (s.data.toList.take j) 1) := Lib.hid (by unfold lineAt colAt; rw [N.out]; exact ⟨rfl, rfl⟩)
      obtain ⟨l, hl⟩ : ∃ l, pLine (s.data.toList.take j) = l := ⟨_, rfl⟩
      obtain ⟨c, hc⟩ : ∃ c, pCol (s.data.toList.take j) 1 = c := ⟨_, rfl⟩
      rw [hl, hc] at L
      rw [hl] at b1 b2 ⊢
      rw [hc] at b3 b4 ⊢
      clear hl hc
      by_cases h1 : j < s.size
      · have h2 : ¬ (j : Int) < at_ := by
          have := OUT.out
          omega
        go_wp2_with fail
        refine bodyPost_ret (v := vpos l c) (by simp [results, Tryd.results18, go_sem]) rfl ⟨by rw [L.out.1, L.out.2], below_step (below_step (Below.refl _ _))⟩
      · go_wp2_with fail
        refine bodyPost_ret (v := vpos l c) (by simp [results, Tryd.results18, go_sem]) rfl ⟨by rw [L.out.1, L.out.2], below_step (below_step (Below.refl _ _))⟩
end Go.Proofs.YtnbellffbbaamaaDoor
