/- walks: Count, both -/
import Derived.Test.YtpakciceohgfhaaDoorNc
import Derived.Laws.RangeAny
import Derived.Laws.RangeString
namespace Go.Proofs.YtpakciceohgfhaaDoor
open Go.RowKit
open Tx
theorem get_eq (s : ByteArray) (i : Nat) (h : i < s.size) : s.get! i = s[i] := by
  simp [ByteArray.get!, getElem!_pos, h]; rfl
theorem dec_cont (s : ByteArray) (pos t : Nat) (h1 : 1 ≤ t) (h2 : t < (Utf8.decode s pos).2) : pos + t < s.size ∧ (s.get! (pos + t)).toNat / 64 = 2 := by
  simp only [Utf8.decode] at h2
  split at h2
  · simp at h2; omega
  · split at h2
    · rename_i h; simp only [Bool.and_eq_true, decide_eq_true_eq, beq_iff_eq] at h
      split at h2
      · obtain rfl : t = 1 := by simp at h2; omega
        exact h.2
      · simp at h2; omega
    · split at h2
      · rename_i h; simp only [Bool.and_eq_true, decide_eq_true_eq, beq_iff_eq] at h
        split at h2
        · have : t = 1 ∨ t = 2 := by simp at h2; omega
          rcases this with rfl | rfl
          · exact h.1.2
          · exact h.2
        · simp at h2; omega
      · split at h2
        · rename_i h; simp only [Bool.and_eq_true, decide_eq_true_eq, beq_iff_eq] at h
          split at h2
          · have : t = 1 ∨ t = 2 ∨ t = 3 := by simp at h2; omega
            rcases this with rfl | rfl | rfl
            · exact h.1.1.2
            · exact h.1.2
            · exact h.2
          · simp at h2; omega
        · simp at h2; omega
theorem count_skip (s : ByteArray) (pos : Nat) : ∀ k, (∀ t, t < k → ∃ h : pos + t < s.size, s[pos + t] ≠ 10) → (s.data.toList.drop pos).count 10 = (s.data.toList.drop (pos + k)).count 10 := by
  intro k
  induction k with
  | zero => intro _; rfl
  | succ k ih =>
    intro h
    rw [ih (fun t ht => h t (by omega))]
    obtain ⟨h1, h2⟩ := h k (by omega)
    rw [drop_at s (pos + k) h1, List.count_cons_of_ne (by simpa using h2)]
    rfl
theorem dec_step (s : ByteArray) (pos : Nat) (h : pos < s.size) : pos + (Utf8.decode s pos).2 ≤ s.size ∧ 1 ≤ (Utf8.decode s pos).2 ∧
    (s.data.toList.drop pos).count 10 = (if (Utf8.decode s pos).1 = 10 then 1 else 0) + (s.data.toList.drop (pos + (Utf8.decode s pos).2)).count 10 := by
  by_cases ha : (s[pos]'h).toNat < 128
  · rw [decode_ascii s pos h ha]
    refine ⟨by show pos + 1 ≤ s.size; omega, Nat.le_refl _, ?_⟩
    rw [drop_at s pos h, List.count_cons]
    have e : (s[pos].toNat = 10) ↔ s[pos] = 10 := by
      rw [is_nl]; omega
    show _ + _ = (if s[pos].toNat = 10 then 1 else 0) + _
    by_cases hc : s[pos] = 10
    · rw [if_pos (e.2 hc), hc]; simp; omega
    · rw [if_neg (fun x => hc (e.1 x))]; simp [hc]
  · obtain ⟨d1, d2⟩ := decode_high s pos h (by omega)
    have hn : ¬ (Utf8.decode s pos).1 = 10 := by omega
    rw [if_neg hn, Nat.zero_add]
    have C : ∀ t, t < (Utf8.decode s pos).2 → ∃ h : pos + t < s.size, s[pos + t] ≠ 10 := by
      intro t ht
      by_cases h0 : t = 0
      · subst h0
        refine ⟨h, fun e => ?_⟩
        have e' : s[pos] = 10 := e
        rw [e'] at ha; exact ha (by decide)
      · obtain ⟨c1, c2⟩ := dec_cont s pos t (by omega) ht
        refine ⟨c1, fun e => ?_⟩
        rw [get_eq s (pos + t) c1, e] at c2
        exact absurd c2 (by decide)
    refine ⟨?_, d2, count_skip s pos _ C⟩
    have := (C ((Utf8.decode s pos).2 - 1) (by omega)).1
    omega
theorem below_iter (w : World) (s : ByteArray) (pos : Nat) : Below w.heap.size w (w.iter s pos) :=
  (Below.refl w.heap.size w).alloc (Nat.le_refl _) _
set_option maxHeartbeats 1000000 in
set_option maxRecDepth 100000 in
theorem count_any (s : ByteArray) (w : World) (hs : s.size ≤ 1048576) :
    Calls Tryd.prog 15 #[.string s] w fun e w' => e = .returned (.tuple #[.int .i64 ((s.data.toList.count 10 : Nat) : Int), .int .i64 ((wrds s.data.toList).length : Int), .int .i64 (s.size : Int)]) ∧ Below w.heap.size w w' := by
  have HS := Lib.hid hs
  go_enter Tryd.func15, Tryd.ntmps15
  go_wp2_with fail
  go_loopw [2] (fun n wr => ∃ (pos c : Nat), wr = w.iter s pos ∧ n = .int .i64 c ∧ c ≤ pos ∧ pos ≤ s.size ∧ Hid (c + (s.data.toList.drop pos).count 10 = s.data.toList.count 10)) (fun _ wr => s.size - wr.iterPos w.heap.size)
  case atStart => exact ⟨0, 0, rfl, rfl, by omega, by omega, Lib.hid (by simp)⟩
  case round =>
    obtain ⟨pos, c, rfl, rfl, cp, ps, E⟩ := hrel
    by_cases hp : pos < s.size
    · have hnx : ∀ ty, (Instr.next (.pointer (some ⟨w.heap.size, 0, none⟩)) true ty).run Tryd.prog (w.iter s pos) = _ := fun ty => run_next_any w s pos ty hp
      obtain ⟨d1, d2, d3⟩ := dec_step s pos hp
      obtain ⟨r, hr⟩ : ∃ r, (Utf8.decode s pos).1 = r := ⟨_, rfl⟩
      obtain ⟨k, hk⟩ : ∃ k, (Utf8.decode s pos).2 = k := ⟨_, rfl⟩
      rw [hr, hk] at d3
      rw [hk] at d1 d2
      rw [hr, hk] at hnx
      have D3 := Lib.hid d3
      clear d3 hr hk
      by_cases h10 : r = 10
      · subst h10
        go_wp2_with fail
        go_roundw
        case rel => exact ⟨pos + k, c + 1, rfl, by go_num, by omega, by omega, Lib.hid (by have := D3.out; have := E.out; rw [if_pos rfl] at D3; have := D3.out; omega)⟩
        case measure => simp; omega
      · have t : ((r : Int) == 10) = false := by rw [beq_eq_false_iff_ne]; omega
        go_wp2_with fail
        go_roundw
        case rel => exact ⟨pos + k, c, rfl, by go_num, by omega, by omega, Lib.hid (by have h := D3.out; rw [if_neg h10] at h; have := E.out; omega)⟩
        case measure => simp; omega
    · have hnx : ∀ ty, (Instr.next (.pointer (some ⟨w.heap.size, 0, none⟩)) true ty).run Tryd.prog (w.iter s pos) = _ := fun ty => run_next_end w s pos ty hp
      have F : c = s.data.toList.count 10 := by
        have := E.out
        rw [List.drop_of_length_le (by rw [← size_len]; omega)] at this
        simpa using this
      have FF := Lib.hid F
      clear F
      go_wp2_with (go_at_call 25; refine (words_any s _ (by have := HS.out; omega)).mono ?_; rintro e w1 ⟨v, L, rfl, hL, hO, hb1⟩; obtain ⟨a, cap, rfl, _⟩ := hO.strs; have LW := Lib.hid (congrArg List.length hL); clear hL)
      go_ret3
      refine ⟨?_, (below_iter w s pos).trans (hb1.mono (below_iter w s pos).size)⟩
      have := LW.out
      rw [List.length_map] at this
      rw [← this, ← FF.out]; rfl
theorem rcount_any (s : ByteArray) (w : World) (hs : s.size ≤ 1048576) :
    Calls Tryd.prog 16 #[.string s] w fun e w' => e = .returned (.tuple #[.int .i64 ((s.data.toList.count 10 : Nat) : Int), .int .i64 ((wrds s.data.toList).length : Int), .int .i64 (s.size : Int)]) ∧ Below w.heap.size w w' := by
  have HS := Lib.hid hs
  go_enter Tryd.func16, Tryd.ntmps16
  go_wp2_with fail
  go_loop [5, 6] (fun n i => ∃ (j c : Nat), i = .int .i64 j ∧ n = .int .i64 c ∧ c ≤ j ∧ j ≤ s.size ∧ Hid (c = (s.data.toList.take j).count 10)) (fun _ i => s.size - (intOf i).toNat)
  case atStart => exact ⟨0, 0, rfl, rfl, by omega, by omega, Lib.hid (by simp)⟩
  case round =>
    obtain ⟨j, c, rfl, rfl, cj, js, E⟩ := hrel
    by_cases hlt : j < s.size
    · have sn := count_snoc s j hlt
      by_cases hx : s[j] = 10
      · rw [if_pos hx] at sn
        have t1 := (is_nl _).1 hx
        have t2 : ((s[j].toNat : Int) == 10) = true := by rw [t1]; rfl
        have SN := Lib.hid sn
        clear sn hx t1
        go_wp2_with fail
        go_round
        case rel => exact ⟨j + 1, c + 1, by go_num, by go_num, by omega, by omega, Lib.hid (by rw [SN.out, E.out])⟩
        case measure => simp [intOf]; omega
      · rw [if_neg hx] at sn
        have t2 : ((s[j].toNat : Int) == 10) = false := by rw [beq_eq_false_iff_ne]; exact fun e => hx ((is_nl _).2 e)
        have SN := Lib.hid sn
        clear sn hx
        go_wp2_with fail
        go_round
        case rel => exact ⟨j + 1, c, by go_num, rfl, by omega, by omega, Lib.hid (by rw [SN.out, E.out]; rfl)⟩
        case measure => simp [intOf]; omega
    · have F : Hid (c = s.data.toList.count 10) := Lib.hid (by
        rw [E.out, List.take_of_length_le (by rw [← size_len]; omega)])
      go_wp2_with (go_at_call 26; refine (rwords_any s _ (by have := HS.out; omega)).mono ?_; rintro e w1 ⟨v, L, rfl, hL, hO, hb1⟩; obtain ⟨a, cap, rfl, _⟩ := hO.strs; have LW := Lib.hid (congrArg List.length hL); clear hL)
      go_ret3
      refine ⟨?_, hb1⟩
      have := LW.out
      rw [List.length_map] at this
      rw [← this, ← F.out]; rfl
end Go.Proofs.YtpakciceohgfhaaDoor
