/- walks: Fields and get, the program's -/
import Derived.Test.YtbhdhcnbagjmcaaDoorPb
import Derived.Laws.BytesArg
namespace Go.Proofs.YtbhdhcnbagjmcaaDoor
open Go.RowKit
open Jn
theorem tx_conv_one (c : Int) (W : World) : (convert 49 9 (.slice (some ⟨W.heap.size, 0, none⟩) 1 1)).run Tryd.prog (W.alloc (.cells #[.int .u8 c] 5)) = .ok (.string (strOfNums [c])) (W.alloc (.cells #[.int .u8 c] 5)) :=
  run_convert_bytes_arg (W.alloc (.cells #[.int .u8 c] 5)) 49 5 Tryd.underlying49 Tryd.underlying5 W.heap.size 0 1 1 [c] rfl (fun i hi => by
    obtain rfl : i = 0 := by omega
    exact cell_one_new _ _ _ 0 _ rfl) 9 Tryd.underlying9
/-- a list of strings whose cells, if there are any, lie at B or above -/
def FrL (w : World) (B : Nat) (v : Value) (L : List (List UInt8)) : Prop := LSt w v L ∧ ∀ g, v.ownBlock = some g → B ≤ g ∧ g < w.heap.size
theorem FrL.below {w w' : World} {B : Nat} {v : Value} {L : List (List UInt8)} (h : FrL w B v L) (hb : Below w.heap.size w w') : FrL w' B v L := ⟨h.1.below hb, fun g hg => ⟨(h.2 g hg).1, Nat.lt_of_lt_of_le (h.2 g hg).2 hb.size⟩⟩
set_option maxRecDepth 100000 in
theorem isr_clo (w : World) : PredAt Tryd.prog 25 #[] encR isR w := by
  intro W x _
  show Calls Tryd.prog 25 #[.int .i32 (x : Int)] W _
  unfold isR
  by_cases h1 : x = 32
  · subst h1
    go_enter Tryd.func25, Tryd.ntmps25
    go_wp2_with fail
    go_ret
    exact ⟨rfl, 0, rfl⟩
  · have t1 : ((x : Int) == 32) = false := by rw [beq_eq_false_iff_ne]; omega
    by_cases h2 : x = 9
    · subst h2
      go_enter Tryd.func25, Tryd.ntmps25
      go_wp2_with fail
      go_ret
      exact ⟨rfl, 0, rfl⟩
    · have t2 : ((x : Int) == 9) = false := by rw [beq_eq_false_iff_ne]; omega
      have D1 := Lib.hid (decide_eq_false h1)
      have D2 := Lib.hid (decide_eq_false h2)
      clear h1 h2
      go_enter Tryd.func25, Tryd.ntmps25
      go_wp2_with fail
      go_ret
      exact ⟨by rw [D1.out, D2.out]; rfl, 0, rfl⟩
theorem split_of (s : ByteArray) (b : UInt8) (m : Int) (w : World) (hm : w.cell? ⟨0, 0, none⟩ = some (.int .i64 m)) (hs : s.size ≤ 1048576) :
    Calls Tryd.prog 23 #[.string s, .string ⟨#[b]⟩] w fun e w' => ∃ v, e = .returned v ∧ Hid (FrL w' w.heap.size v (spA b [] s.data.toList)) ∧ Hid (Below w.heap.size w w') := by
  have h := Tryd.strings_Split s ⟨#[b]⟩ m w (by omega) hm (by show 1 ≤ 1; omega)
  have sp := splitB_spA b s
  have ln := Lib.splitB_all ⟨#[b]⟩ (by show 1 ≤ 1; omega) 0 _ s rfl
  have hb : Lib.countB s ⟨#[b]⟩ ≤ s.size := Lib.countB_le ⟨#[b]⟩ (by show 1 ≤ 1; omega) _ s (Nat.le_refl _)
  obtain ⟨Ps, hP⟩ : ∃ Ps, Lib.splitB ⟨#[b]⟩ 0 (Lib.countB s ⟨#[b]⟩) s = Ps := ⟨_, rfl⟩
  obtain ⟨n, hn⟩ : ∃ n, Lib.countB s ⟨#[b]⟩ = n := ⟨_, rfl⟩
  rw [hP] at sp ln h
  rw [hn] at ln h hb
  refine h.mono fun e w' ⟨h1, h2⟩ => ⟨_, h1, Lib.hid ⟨?_, ?_⟩, Lib.hid ?_⟩
  · subst h2
    have C0 : (w.alloc (.cells (Ps.map Value.string).toArray 9)).heap[w.heap.size]? = some (.cells (Ps.map Value.string).toArray 9 (0, 0)) := heap_alloc_new w _
    have := Strs.block C0 (by unfold maxLen; omega)
    rw [ln] at this
    have e : (spA b [] s.data.toList).map bA = Ps := by
      rw [← sp, List.map_map]
      conv => rhs; rw [← List.map_id Ps]
      exact List.map_congr_left fun x _ => bA_data x
    unfold LSt
    rw [e]; exact this
  · intro g hg
    subst h2
    cases hg
    exact ⟨Nat.le_refl _, by rw [World.size_alloc]; exact Nat.lt_succ_self _⟩
  · subst h2; exact (Below.refl w.heap.size w).alloc (Nat.le_refl _) _
theorem wdA_len (l : List UInt8) : ∀ cur : List UInt8, (wdA cur l).length ≤ l.length + 1 := by
  induction l with
  | nil => intro cur; unfold wdA; split <;> simp
  | cons c r ih =>
    intro cur
    cases h : isB c
    · rw [wdA_no h]; have := ih (cur ++ [c]); simp only [List.length_cons]; omega
    · rw [wdA_sp h, List.length_append]
      have := ih []
      have : (if cur = [] then ([] : List (List UInt8)) else [cur]).length ≤ 1 := by split <;> simp
      simp only [List.length_cons]; omega
set_option maxRecDepth 100000 in
theorem fieldsf_of (s : ByteArray) (w : World) (hs : s.size ≤ 1048576) :
    Calls Tryd.prog 24 #[.string s, .func (.func 25) #[] #[]] w fun e w' => ∃ v, e = .returned v ∧ Hid (FrL w' w.heap.size v (wdA [] s.data.toList)) ∧ Hid (Below w.heap.size w w') := by
  have h := Tryd.strings_FieldsFunc 25 #[] (enters_of Tryd.func25 (by kernel_rfl) rfl) isR s w (by omega) (isr_clo w)
  rw [fieldsP_wd s] at h
  refine h.mono fun e w' ⟨A, h1, h2, h3, h4⟩ => ⟨_, h1, Lib.hid ⟨?_, ?_⟩, Lib.hid h4⟩
  · have e : (List.map bA (wdA [] s.data.toList)).length = (wdA [] s.data.toList).length := by simp
    exact OwnS.strs (B := w.heap.size) h3
  · intro g hg
    cases hg
    refine ⟨h2, ?_⟩
    rcases h3.2 with ⟨h5, -⟩ | ⟨g, cap, cur, h5, -, h6, -⟩
    · cases h5
    · simp only [Value.slice.injEq, Option.some.injEq, Addr.mk.injEq] at h5
      rw [h5.1.1]; exact (Array.getElem?_eq_some_iff.1 h6).1
set_option maxRecDepth 100000 in
theorem fields_any (s : ByteArray) (sep m : Int) (w : World) (hm : w.cell? ⟨0, 0, none⟩ = some (.int .i64 m)) (hs : s.size ≤ 1048576) :
    Calls Tryd.prog 9 #[.string s, .int .i64 sep] w fun e w' => ∃ v, e = .returned v ∧ Hid (FrL w' w.heap.size v (fieldsL sep s.data.toList)) ∧ Hid (Below w.heap.size w w') := by
  have HM := Lib.hid hm
  have HS := Lib.hid hs
  clear hm hs
  unfold fieldsL
  by_cases h1 : 0 ≤ sep
  · by_cases h2 : sep ≤ 255
    · rw [if_pos ⟨h1, h2⟩]
      have CV := tx_conv_one sep w
      have e : strOfNums [sep] = ⟨#[UInt8.ofNat sep.toNat]⟩ := by
        obtain ⟨k, rfl⟩ : ∃ k : Nat, sep = k := ⟨sep.toNat, by omega⟩
        simp [strOfNums]
      rw [e] at CV
      have B0 := Lib.hid ((Below.refl w.heap.size w).alloc (Nat.le_refl _) (.cells #[.int .u8 sep] 5))
      have WR : IntKind.u8.wrap sep = sep := by unfold IntKind.wrap; simp [IntKind.bits, IntKind.signed]; omega
      go_enter Tryd.func9, Tryd.ntmps9
      go_wp2_with (go_at_call 23; refine (split_of s _ m _ (kp B0.out HM.out) HS.out).mono ?_; rintro _ w1 ⟨v, rfl, F1, B1⟩)
      go_ret
      exact ⟨v, rfl, Lib.hid ⟨F1.out.1, fun g hg => ⟨Nat.le_trans B0.out.size (F1.out.2 g hg).1, (F1.out.2 g hg).2⟩⟩, Lib.hid (B0.out.trans (B1.out.mono B0.out.size))⟩
    · rw [if_neg (fun h => h2 h.2)]
      go_enter Tryd.func9, Tryd.ntmps9
      go_wp2_with (go_at_call 24; refine (fieldsf_of s _ HS.out).mono ?_; rintro _ w1 ⟨v, rfl, F1, B1⟩)
      go_ret
      exact ⟨v, rfl, F1, B1⟩
  · rw [if_neg (fun h => h1 h.1)]
    go_enter Tryd.func9, Tryd.ntmps9
    go_wp2_with (go_at_call 24; refine (fieldsf_of s _ HS.out).mono ?_; rintro _ w1 ⟨v, rfl, F1, B1⟩)
    go_ret
    exact ⟨v, rfl, F1, B1⟩
end Go.Proofs.YtbhdhcnbagjmcaaDoor
