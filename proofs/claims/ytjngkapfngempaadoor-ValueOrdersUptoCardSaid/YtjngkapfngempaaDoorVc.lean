/- walks: values: the value of a string of the input -/
import Derived.Test.YtjngkapfngempaaDoorVb
import Derived.Test.YtjngkapfngempaaDoorShelf
namespace Go.Proofs.YtjngkapfngempaaDoor
open Go.RowKit
open Dcm Byt Vl
theorem dw_all (p : UInt8 → Bool) : ∀ l : List UInt8, l.dropWhile p = [] ↔ l.all p = true := by
  intro l
  induction l with
  | nil => simp
  | cons c r ih =>
    rw [List.dropWhile_cons, List.all_cons]
    cases hc : p c
    · simp
    · simpa using ih
theorem dw_all2 (p : UInt8 → Bool) : ∀ l : List UInt8, (l.dropWhile p).all p = l.all p := by
  intro l
  induction l with
  | nil => rfl
  | cons c r ih =>
    rw [List.dropWhile_cons]
    cases hc : p c
    · simp
    · simpa [hc] using ih
theorem bl_set (c : UInt8) : ([32, 9] : List UInt8).contains c = bl c := by
  unfold bl
  rw [Bool.eq_iff_iff]
  simp only [List.contains_cons, List.contains_nil, Bool.or_false, Bool.or_eq_true, beq_iff_eq, decide_eq_true_eq, ← UInt8.toNat_inj]
  exact Iff.rfl
theorem trim_blank (l : List UInt8) : (Lib.trimS l [32, 9] = []) ↔ blanksL l = true := by
  have hf : (fun c => ([32, 9] : List UInt8).contains c) = bl := funext bl_set
  unfold Lib.trimS Lib.trimLeftS Lib.trimRightS
  rw [hf, dw_all, List.all_reverse, dw_all2, List.all_reverse]; exact Iff.rfl
theorem blanks_any (s : ByteArray) (w : World) (hs : s.size ≤ 9223372036854775807) :
    Calls Tryd.prog 33 #[.string s] w fun e w' => e = .returned (.bool (blanksL s.data.toList)) ∧ Below w.heap.size w w' := by
  have hcon := Tryd.strings_Trim_set s w hs
  have hb := trim_blank s.data.toList
  generalize Lib.trimS s.data.toList [32, 9] = l at hcon hb
  obtain ⟨r, hr⟩ : ∃ r : ByteArray, (⟨l.toArray⟩ : ByteArray) = r := ⟨_, rfl⟩
  rw [hr] at hcon
  have hl : r.data.toList = l := by rw [← hr]
  cases hB : blanksL s.data.toList
  · have t : (r.toList == []) = false := by
      rw [str_eq, decide_eq_false_iff_not, hl, hb, hB]; simp
    clear hb hr hl hB
    go_enter Tryd.func33, Tryd.ntmps33
    go_wp2_with (go_at_call 59; refine hcon.mono ?_; rintro e w' ⟨rfl, hB⟩)
    go_ret
    exact ⟨rfl, hB⟩
  · have t : (r.toList == []) = true := by
      rw [str_eq, decide_eq_true_eq, hl, hb, hB]
    clear hb hr hl hB
    go_enter Tryd.func33, Tryd.ntmps33
    go_wp2_with (go_at_call 59; refine hcon.mono ?_; rintro e w' ⟨rfl, hB⟩)
    go_ret
    exact ⟨rfl, hB⟩
/-- the value of a string of the input: its kind, its number -/
def inK (l : List UInt8) : Int := if inB l then 3 else 2
def inD (l : List UInt8) : Int := if inB l then preV l else 0
theorem prefix_is (s : ByteArray) (v m : Int) (w : World) (hs : s.size ≤ 9223372036854775807) (hv : Hid (preV s.data.toList = v)) (hm : Hid (((preN s.data.toList : Nat) : Int) = m)) :
    Calls Tryd.prog 27 #[.string s] w fun x w' => x = .returned (.tuple #[.int .i64 v, .int .i64 m]) ∧ w = w' := prefix_at s v m w hs ⟨hv.out, hm.out⟩
theorem rprefix_is (s : ByteArray) (v m : Int) (w : World) (hs : s.size ≤ 9223372036854775807) (hv : Hid (preV s.data.toList = v)) (hm : Hid (((preN s.data.toList : Nat) : Int) = m)) :
    Calls Tryd.prog 30 #[.string s] w fun x w' => x = .returned (.tuple #[.int .i64 v, .int .i64 m]) ∧ w = w' := by
  rw [← hv.out, ← hm.out]; exact rprefix_any s w hs
theorem blanks_is (s : ByteArray) (b : Bool) (w : World) (hs : s.size ≤ 9223372036854775807) (hb : Hid (blanksL s.data.toList = b)) :
    Calls Tryd.prog 33 #[.string s] w fun e w' => e = .returned (.bool b) ∧ Below w.heap.size w w' := by rw [← hb.out]; exact blanks_any s w hs
set_option maxHeartbeats 1000000 in
theorem input_any (s : ByteArray) (w : World) (hs : s.size ≤ 9223372036854775807) :
    Calls Tryd.prog 16 #[.string s] w fun e w' => e = .returned (vval (inK s.data.toList) (inD s.data.toList) s) ∧ Below w.heap.size w w' := by
  obtain ⟨v, hv⟩ : ∃ v, preV s.data.toList = v := ⟨_, rfl⟩
  obtain ⟨m, hm⟩ : ∃ m, preN s.data.toList = m := ⟨_, rfl⟩
  have hle : m ≤ s.size := by rw [← hm, size_len]; exact preN_le _
  have V := Lib.hid hv
  have M : Hid (((preN s.data.toList : Nat) : Int) = (m : Int)) := Lib.hid (by rw [hm])
  obtain ⟨u, hu⟩ : ∃ u, s.extract m s.size = u := ⟨_, rfl⟩
  have hul : u.data.toList = s.data.toList.drop m := by rw [← hu, ext_to]
  have hus : u.size ≤ 9223372036854775807 := by
    have : u.size ≤ s.size := by rw [← hu]; simp
    omega
  have US := Lib.hid hus; clear hus
  by_cases h0 : m = 0
  · subst h0
    have E : Hid (inB s.data.toList = false) := Lib.hid (by unfold inB; rw [hm]; rfl)
    have S := Lib.hid hs; clear hs hv hm hul hu
    go_enter Tryd.func16, Tryd.ntmps16
    go_wp2_with (first
      | (go_at_call 27; refine (prefix_is s v 0 _ S.out V M).mono ?_; rintro e w' ⟨rfl, rfl⟩)
      | (go_at_call 18; refine (fromText_any s _).mono ?_; rintro e w' ⟨rfl, hb2⟩; obtain ⟨f0, f1, f2, c0, c1, c2⟩ := own_cells hb2))
    obtain ⟨r0, r1, r2⟩ := three_set (.int .i64 2) (.int .i64 0) (.string s) c0 c1 c2
    refine bodyPost_ret (v := vval 2 0 s) (by simp [results, Tryd.results16, go_sem, r0, r1, r2]) rfl ⟨by simp only [inK, inD, E.out]; rfl, below_sets (below_step hb2) (Nat.le_refl _) _ _ _⟩
  · cases hB : blanksL u.data.toList
    · have E : Hid (inB s.data.toList = false) := Lib.hid (by unfold inB; rw [hm, ← hul, hB]; simp)
      have B := Lib.hid hB; clear hB
      have S := Lib.hid hs
      have h0' : 0 < m := by omega
      clear hv hm hul h0
      go_enter Tryd.func16, Tryd.ntmps16
      go_wp2_with (first
        | (go_at_call 27; refine (prefix_is s v m _ S.out V M).mono ?_; rintro e w' ⟨rfl, rfl⟩)
        | (go_at_call 33; refine (blanks_is u false _ US.out B).mono ?_; rintro e w' ⟨rfl, hb⟩; obtain ⟨f0, f1, f2, c0, c1, c2⟩ := own_cells hb)
        | (go_at_call 18; refine (fromText_any s _).mono ?_; rintro e w2 ⟨rfl, hb2⟩; obtain ⟨g0, g1, g2, d0, d1, d2⟩ := own_cells (below_two hb hb2)))
      obtain ⟨r0, r1, r2⟩ := three_set (.int .i64 2) (.int .i64 0) (.string s) d0 d1 d2
      refine bodyPost_ret (v := vval 2 0 s) (by simp [results, Tryd.results16, go_sem, r0, r1, r2]) rfl ⟨by simp only [inK, inD, E.out]; rfl, below_sets (below_step (below_two hb hb2)) (Nat.le_refl _) _ _ _⟩
    · have E : Hid (inB s.data.toList = true) := Lib.hid (by unfold inB; rw [hm, ← hul, hB]; simp; omega)
      have B := Lib.hid hB; clear hB
      have S := Lib.hid hs
      have h0' : 0 < m := by omega
      clear hv hm hul h0
      go_enter Tryd.func16, Tryd.ntmps16
      go_wp2_with (first
        | (go_at_call 27; refine (prefix_is s v m _ S.out V M).mono ?_; rintro e w' ⟨rfl, rfl⟩)
        | (go_at_call 33; refine (blanks_is u true _ US.out B).mono ?_; rintro e w' ⟨rfl, hb⟩; obtain ⟨f0, f1, f2, c0, c1, c2⟩ := own_cells hb))
      obtain ⟨r0, r1, r2⟩ := three_set (.int .i64 3) (.int .i64 v) (.string s) c0 c1 c2
      refine bodyPost_ret (v := vval 3 v s) (by simp [results, Tryd.results16, go_sem, r0, r1, r2]) rfl ⟨by simp only [inK, inD, E.out]; rw [V.out]; rfl, below_sets (below_step hb) (Nat.le_refl _) _ _ _⟩
/-- the reference's loop over the blanks behind the number -/
theorem bl_at (s : ByteArray) (i : Nat) (h : i < s.size) : blanksL (s.data.toList.drop i) = (bl s[i] && blanksL (s.data.toList.drop (i + 1))) := by
  unfold blanksL; rw [drop_lt s i h, List.all_cons]
theorem bl_end (s : ByteArray) (i : Nat) (h : s.size ≤ i) : blanksL (s.data.toList.drop i) = true := by
  rw [drop_ge s i h]; rfl
set_option maxHeartbeats 1000000 in
theorem rinput_any (s : ByteArray) (w : World) (hs : s.size ≤ 9223372036854775807) :
    Calls Tryd.prog 17 #[.string s] w fun e w' => e = .returned (vval (inK s.data.toList) (inD s.data.toList) s) ∧ Below w.heap.size w w' := by
  obtain ⟨v, hv⟩ : ∃ v, preV s.data.toList = v := ⟨_, rfl⟩
  obtain ⟨m, hm⟩ : ∃ m, preN s.data.toList = m := ⟨_, rfl⟩
  have hle : m ≤ s.size := by rw [← hm, size_len]; exact preN_le _
  have V := Lib.hid hv
  have M : Hid (((preN s.data.toList : Nat) : Int) = (m : Int)) := Lib.hid (by rw [hm])
  by_cases h0 : m = 0
  · subst h0
    have E : Hid (inB s.data.toList = false) := Lib.hid (by unfold inB; rw [hm]; rfl)
    have S := Lib.hid hs; clear hs hv hm
    go_enter Tryd.func17, Tryd.ntmps17
    go_wp2_with (first
      | (go_at_call 30; refine (rprefix_is s v 0 _ S.out V M).mono ?_; rintro e w' ⟨rfl, rfl⟩)
      | (go_at_call 19; refine (rfromText_any s _).mono ?_; rintro e w' ⟨rfl, hb2⟩; obtain ⟨f0, f1, f2, c0, c1, c2⟩ := own_cells hb2))
    obtain ⟨r0, r1, r2⟩ := three_set (.int .i64 2) (.int .i64 0) (.string s) c0 c1 c2
    refine bodyPost_ret (v := vval 2 0 s) (by simp [results, Tryd.results17, go_sem, r0, r1, r2]) rfl ⟨by simp only [inK, inD, E.out]; rfl, below_sets (below_step hb2) (Nat.le_refl _) _ _ _⟩
  · have S := Lib.hid hs
    have h0' : 0 < m := by omega
    have E : Hid (inB s.data.toList = blanksL (s.data.toList.drop m)) := Lib.hid (by unfold inB; rw [hm]; simp [h0'])
    clear hv hm h0
    go_enter Tryd.func17, Tryd.ntmps17
    go_wp2_with (first
      | (go_at_call 30; refine (rprefix_is s v m _ S.out V M).mono ?_; rintro e w' ⟨rfl, rfl⟩))
    go_loop [5] (fun i => ∃ j : Nat, m ≤ j ∧ j ≤ s.size ∧ i = .int .i64 j ∧ Hid (blanksL (s.data.toList.drop m) = blanksL (s.data.toList.drop j))) (fun i => s.size - (intOf i).toNat)
    case atStart => exact ⟨m, by omega, hle, rfl, Lib.hid rfl⟩
    case round =>
      obtain ⟨j, hj1, hj2, rfl, hI⟩ := hrel
      by_cases hlt : j < s.size
      · by_cases hb : bl s[j] = true
        · have N : Hid (blanksL (s.data.toList.drop m) = blanksL (s.data.toList.drop (j + 1))) := Lib.hid (by rw [hI.out, bl_at s j hlt, hb]; rfl)
          have hcs : (s[j].toNat : Int) = 32 ∨ (s[j].toNat : Int) = 9 := by
            unfold bl at hb; simp at hb; omega
          rcases hcs with hc | hc
          all_goals
            clear hb
            go_wp2_with fail
            go_round
            case rel => exact ⟨j + 1, by omega, by omega, by go_num, N⟩
            case measure => simp [intOf]; omega
        · have hB : bl s[j] = false := by simpa using hb
          have N : Hid (inB s.data.toList = false) := Lib.hid (by rw [E.out, hI.out, bl_at s j hlt, hB]; rfl)
          have e1 : ((s[j].toNat : Int) != 32) = true := by
            rw [bne_iff_ne]; intro h; unfold bl at hB; simp at hB; omega
          have e2 : ((s[j].toNat : Int) != 9) = true := by
            rw [bne_iff_ne]; intro h; unfold bl at hB; simp at hB; omega
          clear hb hB
          go_wp2_with (go_at_call 19; refine (rfromText_any s _).mono ?_; rintro e w' ⟨rfl, hb2⟩; obtain ⟨f0, f1, f2, c0, c1, c2⟩ := own_cells hb2)
          obtain ⟨r0, r1, r2⟩ := three_set (.int .i64 2) (.int .i64 0) (.string s) c0 c1 c2
          refine bodyPost_ret (v := vval 2 0 s) (by simp [results, Tryd.results17, go_sem, r0, r1, r2]) rfl ⟨by simp only [inK, inD, N.out]; rfl, below_sets (below_step hb2) (Nat.le_refl _) _ _ _⟩
      · have N : Hid (inB s.data.toList = true) := Lib.hid (by rw [E.out, hI.out, bl_end s j (by omega)])
        go_wp2_with fail
        refine bodyPost_ret (v := vval 3 v s) (by simp [results, Tryd.results17, go_sem]) rfl ⟨by simp only [inK, inD, N.out]; rw [V.out]; rfl, below_step (Below.refl _ _)⟩
end Go.Proofs.YtjngkapfngempaaDoor
