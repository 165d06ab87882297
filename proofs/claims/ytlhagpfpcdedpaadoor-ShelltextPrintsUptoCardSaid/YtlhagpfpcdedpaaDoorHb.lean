/- walks: the parser's skip (written by gen_hb.py) -/
import Derived.Test.YtlhagpfpcdedpaaDoorHa
import Derived.ScopeJumps
import Derived.Deep.Cut
import Derived.Lib.IndexLaws
namespace Go.Proofs.YtlhagpfpcdedpaaDoor
open Go.RowKit
open Shp
/-- a scope that begins with the label to which it jumps back -/
theorem wp_scope_back {P : Program} {a : Act} {w : World} {Q : Exit → Act → World → Prop} {c : Code} (l : Nat) (J : Act → World → Prop) (μ : Act → World → Nat) (hf : findLabel ((Code.label l).seq c) l = some (Code.skip.seq c)) (start : J a w)
    (pass : ∀ a w, J a w → c.wp P (Exit.jump l (fun a' w' => J a' w' ∧ μ a' w' < μ a w) Q) a w) : (Code.scope ((Code.label l).seq c)).wp P Q a w := by
  refine wp_scope_jumps l J μ hf ?_ (fun a w h => wp_seq (wp_skip (pass a w h)))
  refine wp_seq (wp_label ?_)
  refine Code.wp_mono ?_ (pass a w start)
  intro e a' w' hq
  cases e <;> first | exact hq | exact ⟨hq.1, hq.2.1⟩
theorem gr_sd {p : Nat} {w w' : World} (h : Gr p w w') (j : Nat) (u : Value) : Gr p w (w'.setCell ⟨p, j, none⟩ u).drew := by
  have h2 := gr_trans h (gr_set w' p j u)
  obtain ⟨q1, q2, q3, q4, q5⟩ := h2
  exact ⟨q1, q2, q3, q4, q5⟩
theorem gr_dr {p : Nat} {w w' : World} (h : Gr p w w') : Gr p w w'.drew := by
  obtain ⟨q1, q2, q3, q4, q5⟩ := h
  exact ⟨q1, q2, q3, q4, q5⟩
theorem RX.set1d {p : Nat} {s : ByteArray} {a : Int} {tx : ByteArray} {wd bg : Bool} {ta er po : Int} {w : World} (h : RX p s a tx wd bg ta er po w) (x y : Int) (e : x = y) : RX p s x tx wd bg ta er po (w.setCell ⟨p, 1, none⟩ (.int .i64 y)).drew := by subst e; exact (h.set1 x).keep rfl
theorem hp_is (u o : ByteArray) (r : Bool) (w : World) (h : Hid (Lib.hasPrefix u.data.toList o.data.toList = r)) :
    Calls Tryd.prog 44 #[.string u, .string o] w fun e w' => e = .returned (.bool r) ∧ w = w' := by
  refine (Tryd.strings_HasPrefix u o w).mono fun e w' ⟨h1, h2⟩ => ⟨?_, h2.symm⟩
  rw [h1, h.out]
theorem pfx_of {s u : ByteArray} {j : Nat} (hu : u.data.toList = s.data.toList.drop j) (o : List UInt8) : Lib.hasPrefix u.data.toList o = pfx s j o := by
  unfold Lib.hasPrefix pfx
  rw [hu, Bool.eq_iff_iff, List.isPrefixOf_iff_prefix, decide_eq_true_iff]
theorem ext_drop (s : ByteArray) (j : Nat) : (s.extract j s.size).data.toList = s.data.toList.drop j := by
  rw [Lib.extract_data]
  have e : s.data.toList.length = s.size := rfl
  rw [List.take_of_length_le (by rw [List.length_drop]; omega)]
theorem tw_idx : ∀ l : List UInt8, Lib.indexByte l 10 = if (l.takeWhile (· != 10)).length = l.length then -1 else ((l.takeWhile (· != 10)).length : Int)
  | [] => rfl
  | c :: r => by
    have ih := tw_idx r
    unfold Lib.indexByte
    by_cases hc : c = 10
    · subst hc
      simp
    · have hb : (c == 10) = false := by simpa using hc
      have hn : (c != 10) = true := by simpa using hc
      rw [hb, ih, List.takeWhile_cons, if_pos hn]
      simp only [List.length_cons, Bool.false_eq_true, if_false, Nat.add_right_cancel_iff]
      by_cases e : (r.takeWhile (· != 10)).length = r.length
      · rw [if_pos e, if_pos e]; rfl
      · rw [if_neg e, if_neg e]
        simp
theorem idx_is (u : ByteArray) (k : Int) (w : World) (h : Hid (Lib.indexByte u.data.toList 10 = k)) :
    Calls Tryd.prog 53 #[.string u, .int .u8 10] w fun e w' => e = .returned (.int .i64 k) ∧ w = w' := by
  refine (Tryd.strings_IndexByte u 10 w).mono fun e w' ⟨h1, h2⟩ => ⟨?_, h2.symm⟩
  rw [h1, ← h.out]; rfl
set_option maxRecDepth 100000 in
set_option maxHeartbeats 8000000 in
theorem skip_any (p : Nat) (s : ByteArray) (a : Nat) (tx : ByteArray) (wd bg : Bool) (ta er po : Int) (w : World) (h : RX p s a tx wd bg ta er po w) (hs : s.size ≤ 8192) (ha : a ≤ s.size) :
    Calls Tryd.prog 43 #[.pointer (some ⟨p, 0, none⟩)] w fun e w' => e = .returned (.tuple #[]) ∧ Hid (RX p s (skS s a : Nat) tx wd bg ta er po w') ∧ Hid (Gr p w w') := by
  have H := Lib.hid h
  clear h
  go_enter Tryd.func43, Tryd.ntmps43
  go_upto_region 0 with (fail)
  refine wp_scope_back 0 (fun a' w' => ∃ (j : Nat) (u2 u3 u4 u5 u6 u7 u8 u9 u10 u11 u12 u13 u14 u15 u16 u17 u18 u19 u20 u21 u22 u23 u24 u25 u26 u27 u28 u29 u30 u31 u32 u33 u34 u35 u36 u37 u38 u39 u40 u41 u42 u43 u44 u45 u46 u47 u48 u49 u50 u51 u52 u53 : Value), a' = { tmps := #[.pointer (some ⟨p, 0, none⟩), undef, u2, u3, u4, u5, u6, u7, u8, u9, u10, u11, u12, u13, u14, u15, u16, u17, u18, u19, u20, u21, u22, u23, u24, u25, u26, u27, u28, u29, u30, u31, u32, u33, u34, u35, u36, u37, u38, u39, u40, u41, u42, u43, u44, u45, u46, u47, u48, u49, u50, u51, u52, u53], defers := [] } ∧ j ≤ s.size ∧ Hid (skS s j = skS s a) ∧ Hid (RX p s j tx wd bg ta er po w') ∧ Hid (Gr p w w')) (fun _ w' => s.size - atOf w' p) rfl ?_ ?_
  · exact ⟨a, _, _, _, _, _, _, _, _, _, _, _, _, _, _, _, _, _, _, _, _, _, _, _, _, _, _, _, _, _, _, _, _, _, _, _, _, _, _, _, _, _, _, _, _, _, _, _, _, _, _, _, _, rfl, ha, Lib.hid rfl, H, Lib.hid (gr_refl p w)⟩
  · rintro a' wr ⟨j, u2, u3, u4, u5, u6, u7, u8, u9, u10, u11, u12, u13, u14, u15, u16, u17, u18, u19, u20, u21, u22, u23, u24, u25, u26, u27, u28, u29, u30, u31, u32, u33, u34, u35, u36, u37, u38, u39, u40, u41, u42, u43, u44, u45, u46, u47, u48, u49, u50, u51, u52, u53, rfl, js, SK, L, Gw⟩
    obtain ⟨c0, c1, -, -, -, -, -, -⟩ := L.out.cells
    have f1 := L.out.fr 1
    obtain ⟨u, hu⟩ : ∃ u, s.extract j s.size = u := ⟨_, rfl⟩
    have DR : Hid (u.data.toList = s.data.toList.drop j) := Lib.hid (by rw [← hu]; exact ext_drop s j)
    have U : u.size = s.size - j := by
      have e1 : u.data.toList.length = u.size := rfl
      have e2 : s.data.toList.length = s.size := rfl
      rw [DR.out, List.length_drop] at e1; omega
    have q1 : (s.data.toList.drop j).length = s.size - j := by rw [List.length_drop]; rfl
    have q1 := Lib.hid q1
    clear ha
    by_cases t1 : at? s j = some 32
    · obtain ⟨jl, -⟩ := at_some t1
      have P32 : Hid (Lib.hasPrefix u.data.toList (ByteArray.mk #[32]).data.toList = true) := Lib.hid (by rw [pfx_of DR.out]; show pfx s j [32] = _; rw [pfx1, t1]; rfl)
      have SJ : Hid (sk1 s j = some (j + 1) ∧ j + 1 ≤ s.size) := Lib.hid (⟨by unfold sk1; rw [t1]; rfl, jl⟩)
      go_wp2_with fail
      go_region
      
      go_wp2_with (first | (go_at_call 44; (first | (with_reducible refine (hp_is _ _ _ _ P32).mono ?_)); rintro _ _ ⟨rfl, rfl⟩) | (go_at_call 53; refine (idx_is _ _ _ IX).mono ?_; rintro _ _ ⟨rfl, rfl⟩))
      go_step3
      refine (fun (LQ : RX p s (j + 1 : Nat) tx wd bg ta er po _) => ⟨rfl, ⟨j + 1, _, _, _, _, _, _, _, _, _, _, _, _, _, _, _, _, _, _, _, _, _, _, _, _, _, _, _, _, _, _, _, _, _, _, _, _, _, _, _, _, _, _, _, _, _, _, _, _, _, _, _, _, rfl, SJ.out.2, Lib.hid (by rw [← SK.out]; exact (skS_step SJ.out.1).symm), Lib.hid LQ, Lib.hid (gr_sd Gw.out 1 _)⟩, by rw [L.out.atOf, LQ.atOf]; have h1 := SJ.out.2; have h2 := (sk1_lt SJ.out.1).1; omega⟩) (L.out.set1d _ _ (by omega))
    by_cases t2 : at? s j = some 9
    · obtain ⟨jl, -⟩ := at_some t2
      have P32 : Hid (Lib.hasPrefix u.data.toList (ByteArray.mk #[32]).data.toList = false) := Lib.hid (by rw [pfx_of DR.out]; show pfx s j [32] = _; rw [pfx1, t2]; rfl)
      have P9 : Hid (Lib.hasPrefix u.data.toList (ByteArray.mk #[9]).data.toList = true) := Lib.hid (by rw [pfx_of DR.out]; show pfx s j [9] = _; rw [pfx1, t2]; rfl)
      have SJ : Hid (sk1 s j = some (j + 1) ∧ j + 1 ≤ s.size) := Lib.hid (⟨by unfold sk1; rw [t2]; rfl, jl⟩)
      go_wp2_with fail
      go_region
      
      go_wp2_with (first | (go_at_call 44; (first | (with_reducible refine (hp_is _ _ _ _ P32).mono ?_) | (with_reducible refine (hp_is _ _ _ _ P9).mono ?_)); rintro _ _ ⟨rfl, rfl⟩) | (go_at_call 53; refine (idx_is _ _ _ IX).mono ?_; rintro _ _ ⟨rfl, rfl⟩))
      go_step3
      refine (fun (LQ : RX p s (j + 1 : Nat) tx wd bg ta er po _) => ⟨rfl, ⟨j + 1, _, _, _, _, _, _, _, _, _, _, _, _, _, _, _, _, _, _, _, _, _, _, _, _, _, _, _, _, _, _, _, _, _, _, _, _, _, _, _, _, _, _, _, _, _, _, _, _, _, _, _, _, rfl, SJ.out.2, Lib.hid (by rw [← SK.out]; exact (skS_step SJ.out.1).symm), Lib.hid LQ, Lib.hid (gr_sd Gw.out 1 _)⟩, by rw [L.out.atOf, LQ.atOf]; have h1 := SJ.out.2; have h2 := (sk1_lt SJ.out.1).1; omega⟩) (L.out.set1d _ _ (by omega))
    by_cases t3 : at? s j = some 92 ∧ at? s (j + 1) = some 10
    · obtain ⟨t3, t5⟩ := t3
      have P32 : Hid (Lib.hasPrefix u.data.toList (ByteArray.mk #[32]).data.toList = false) := Lib.hid (by rw [pfx_of DR.out]; show pfx s j [32] = _; rw [pfx1, t3]; rfl)
      have P9 : Hid (Lib.hasPrefix u.data.toList (ByteArray.mk #[9]).data.toList = false) := Lib.hid (by rw [pfx_of DR.out]; show pfx s j [9] = _; rw [pfx1, t3]; rfl)
      have P92 : Hid (Lib.hasPrefix u.data.toList (ByteArray.mk #[92, 10]).data.toList = true) := Lib.hid (by rw [pfx_of DR.out]; show pfx s j [92, 10] = _; rw [pfx2, t3, t5]; rfl)
      have SJ : Hid (sk1 s j = some (j + 2) ∧ j + 2 ≤ s.size) := Lib.hid (⟨by unfold sk1; rw [t3, t5]; rfl, by obtain ⟨jl, -⟩ := at_some t5; omega⟩)
      obtain ⟨jl, -⟩ := at_some t5
      go_wp2_with fail
      go_region
      
      go_wp2_with (first | (go_at_call 44; (first | (with_reducible refine (hp_is _ _ _ _ P32).mono ?_) | (with_reducible refine (hp_is _ _ _ _ P9).mono ?_) | (with_reducible refine (hp_is _ _ _ _ P92).mono ?_)); rintro _ _ ⟨rfl, rfl⟩) | (go_at_call 53; refine (idx_is _ _ _ IX).mono ?_; rintro _ _ ⟨rfl, rfl⟩))
      go_step3
      refine (fun (LQ : RX p s (j + 2 : Nat) tx wd bg ta er po _) => ⟨rfl, ⟨j + 2, _, _, _, _, _, _, _, _, _, _, _, _, _, _, _, _, _, _, _, _, _, _, _, _, _, _, _, _, _, _, _, _, _, _, _, _, _, _, _, _, _, _, _, _, _, _, _, _, _, _, _, _, rfl, SJ.out.2, Lib.hid (by rw [← SK.out]; exact (skS_step SJ.out.1).symm), Lib.hid LQ, Lib.hid (gr_sd Gw.out 1 _)⟩, by rw [L.out.atOf, LQ.atOf]; have h1 := SJ.out.2; have h2 := (sk1_lt SJ.out.1).1; omega⟩) (L.out.set1d _ _ (by omega))
    by_cases t4 : at? s j = some 35
    · obtain ⟨jl, -⟩ := at_some t4
      have P32 : Hid (Lib.hasPrefix u.data.toList (ByteArray.mk #[32]).data.toList = false) := Lib.hid (by rw [pfx_of DR.out]; show pfx s j [32] = _; rw [pfx1, t4]; rfl)
      have P9 : Hid (Lib.hasPrefix u.data.toList (ByteArray.mk #[9]).data.toList = false) := Lib.hid (by rw [pfx_of DR.out]; show pfx s j [9] = _; rw [pfx1, t4]; rfl)
      have P92 : Hid (Lib.hasPrefix u.data.toList (ByteArray.mk #[92, 10]).data.toList = false) := Lib.hid (by rw [pfx_of DR.out]; show pfx s j [92, 10] = _; rw [pfx2, t4]; rfl)
      have P35 : Hid (Lib.hasPrefix u.data.toList (ByteArray.mk #[35]).data.toList = true) := Lib.hid (by rw [pfx_of DR.out]; show pfx s j [35] = _; rw [pfx1, t4]; rfl)
      have SJ : Hid (sk1 s j = some (nlF s j) ∧ nlF s j ≤ s.size) := Lib.hid ⟨by unfold sk1; rw [t4]; rfl, nlF_le s j js⟩
      have TI := tw_idx (s.data.toList.drop j)
      rw [q1.out] at TI
      obtain ⟨m, hm⟩ : ∃ m, ((s.data.toList.drop j).takeWhile (· != 10)).length = m := ⟨_, rfl⟩
      rw [hm] at TI
      have hn : nlF s j = j + m := by unfold nlF; rw [hm]
      rw [hn] at SJ
      have m1 := SJ.out.2
      by_cases e : m = s.size - j
      · rw [if_pos e] at TI
        subst e
        have IX : Hid (Lib.indexByte u.data.toList 10 = -1) := Lib.hid (by rw [DR.out]; exact TI)
        clear TI hm hn
        go_wp2_with fail
        go_region
        
        go_wp2_with (first | (go_at_call 44; (first | (with_reducible refine (hp_is _ _ _ _ P32).mono ?_) | (with_reducible refine (hp_is _ _ _ _ P9).mono ?_) | (with_reducible refine (hp_is _ _ _ _ P92).mono ?_) | (with_reducible refine (hp_is _ _ _ _ P35).mono ?_)); rintro _ _ ⟨rfl, rfl⟩) | (go_at_call 53; refine (idx_is _ _ _ IX).mono ?_; rintro _ _ ⟨rfl, rfl⟩))
        go_step3
        refine (fun (LQ : RX p s (j + (s.size - j) : Nat) tx wd bg ta er po _) => ⟨rfl, ⟨j + (s.size - j), _, _, _, _, _, _, _, _, _, _, _, _, _, _, _, _, _, _, _, _, _, _, _, _, _, _, _, _, _, _, _, _, _, _, _, _, _, _, _, _, _, _, _, _, _, _, _, _, _, _, _, _, rfl, SJ.out.2, Lib.hid (by rw [← SK.out]; exact (skS_step SJ.out.1).symm), Lib.hid LQ, Lib.hid (gr_sd Gw.out 1 _)⟩, by rw [L.out.atOf, LQ.atOf]; have h1 := SJ.out.2; have h2 := (sk1_lt SJ.out.1).1; omega⟩) (L.out.set1d _ _ (by omega))
      · rw [if_neg e] at TI
        have IX : Hid (Lib.indexByte u.data.toList 10 = (m : Int)) := Lib.hid (by rw [DR.out]; exact TI)
        clear TI hm hn
        go_wp2_with fail
        go_region
        
        go_wp2_with (first | (go_at_call 44; (first | (with_reducible refine (hp_is _ _ _ _ P32).mono ?_) | (with_reducible refine (hp_is _ _ _ _ P9).mono ?_) | (with_reducible refine (hp_is _ _ _ _ P92).mono ?_) | (with_reducible refine (hp_is _ _ _ _ P35).mono ?_)); rintro _ _ ⟨rfl, rfl⟩) | (go_at_call 53; refine (idx_is _ _ _ IX).mono ?_; rintro _ _ ⟨rfl, rfl⟩))
        go_step3
        refine (fun (LQ : RX p s (j + m : Nat) tx wd bg ta er po _) => ⟨rfl, ⟨j + m, _, _, _, _, _, _, _, _, _, _, _, _, _, _, _, _, _, _, _, _, _, _, _, _, _, _, _, _, _, _, _, _, _, _, _, _, _, _, _, _, _, _, _, _, _, _, _, _, _, _, _, _, rfl, SJ.out.2, Lib.hid (by rw [← SK.out]; exact (skS_step SJ.out.1).symm), Lib.hid LQ, Lib.hid (gr_sd Gw.out 1 _)⟩, by rw [L.out.atOf, LQ.atOf]; have h1 := SJ.out.2; have h2 := (sk1_lt SJ.out.1).1; omega⟩) (L.out.set1d _ _ (by omega))
    · skip
      have P32 : Hid (Lib.hasPrefix u.data.toList (ByteArray.mk #[32]).data.toList = false) := Lib.hid (by rw [pfx_of DR.out]; show pfx s j [32] = _; rw [pfx1]; exact decide_eq_false t1)
      have P9 : Hid (Lib.hasPrefix u.data.toList (ByteArray.mk #[9]).data.toList = false) := Lib.hid (by rw [pfx_of DR.out]; show pfx s j [9] = _; rw [pfx1]; exact decide_eq_false t2)
      have P92 : Hid (Lib.hasPrefix u.data.toList (ByteArray.mk #[92, 10]).data.toList = false) := Lib.hid (by rw [pfx_of DR.out]; show pfx s j [92, 10] = _; rw [pfx2]; simpa using fun x y => t3 ⟨x, y⟩)
      have P35 : Hid (Lib.hasPrefix u.data.toList (ByteArray.mk #[35]).data.toList = false) := Lib.hid (by rw [pfx_of DR.out]; show pfx s j [35] = _; rw [pfx1]; exact decide_eq_false t4)
      have SJ : Hid (sk1 s j = none) := Lib.hid (by
        unfold sk1
        cases hc : at? s j with
        | none => rfl
        | some c =>
          rw [hc] at t1 t2 t3 t4
          simp only [Option.some.injEq] at t1 t2 t3 t4
          simp only
          rw [if_neg (not_or.mpr ⟨t1, t2⟩), if_neg t3, if_neg t4])
      go_wp2_with fail
      go_region
      
      go_wp2_with (first | (go_at_call 44; (first | (with_reducible refine (hp_is _ _ _ _ P32).mono ?_) | (with_reducible refine (hp_is _ _ _ _ P9).mono ?_) | (with_reducible refine (hp_is _ _ _ _ P92).mono ?_) | (with_reducible refine (hp_is _ _ _ _ P35).mono ?_)); rintro _ _ ⟨rfl, rfl⟩) | (go_at_call 53; refine (idx_is _ _ _ IX).mono ?_; rintro _ _ ⟨rfl, rfl⟩))
      simp only [Exit.jump]
      go_end0
      have e := skS_none SJ.out
      rw [SK.out] at e
      exact ⟨rfl, Lib.hid (by rw [e]; exact L.out.keep rfl), Lib.hid (gr_dr Gw.out)⟩
end Go.Proofs.YtlhagpfpcdedpaaDoor
