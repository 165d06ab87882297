/- walks: the law Blanks -/
import Derived.Test.YtbioflajonafdaaSu
namespace Go.Proofs.Ytbioflajonafdaa
open Go.RowKit
open Tx
theorem TkR.drop {w : World} {g n cap : Nat} {T : List Tok} (h : TkR w (.slice (some ⟨g, 0, none⟩) n cap) T) (k m c : Nat) (hn : T.length = n) (hk : k < n) (hm : m = n - k) : TkR w (.slice (some ⟨g, k * 4, none⟩) m c) (T.drop k) := by
  obtain ⟨h1, p, cap', hv, h2⟩ := h
  obtain ⟨g', o', hp, hg, hc⟩ := h2 (by rintro rfl; simp at hn; omega)
  subst hp
  simp only [Value.slice.injEq, Option.some.injEq, Addr.mk.injEq, and_true] at hv
  obtain ⟨⟨rfl, rfl⟩, -, -⟩ := hv
  have cl : ∀ L : List Tok, (L.flatMap Tok.cells).length = L.length * 4 := by
    intro L
    induction L with
    | nil => rfl
    | cons t r ih => rw [List.flatMap_cons, List.length_append, ih, List.length_cons]; simp [Tok.cells]; omega
  refine ⟨by rw [List.length_drop]; omega, _, c, by rw [List.length_drop, hn, hm], fun _ => ⟨g, k * 4, rfl, hg, fun j u hu => ?_⟩⟩
  have := hc (k * 4 + j) u (by
    have e : T.flatMap Tok.cells = (T.take k).flatMap Tok.cells ++ (T.drop k).flatMap Tok.cells := by rw [← List.flatMap_append, List.take_append_drop]
    have e2 : ((T.take k).flatMap Tok.cells).length = k * 4 := by rw [cl, List.length_take]; congr 1; omega
    rw [e, List.getElem?_append_right (by omega), e2, show k * 4 + j - k * 4 = j by omega]
    exact hu)
  simpa using this
theorem cut_app (s : ByteArray) (c : UInt8) (a : Nat) : (s.extract 0 a ++ (ByteArray.mk #[c]) ++ s.extract a s.size).data.toList = s.data.toList.take a ++ (c :: s.data.toList.drop a) := by
  rw [app_data, app_data, Byt.ext_mid, Byt.ext_mid, List.drop_zero, Nat.sub_zero, List.take_of_length_le (l := s.data.toList.drop a) (by rw [List.length_drop, ← size_len]; exact Nat.le_refl _)]
  simp
set_option maxRecDepth 8000 in
set_option maxHeartbeats 8000000 in
theorem law_blanks (s : ByteArray) (k : Int) (tab : Bool) (w : World) : Calls Try.prog 5 #[.string s, .int .i64 k, .bool tab] w fun e w' => e = .returned (.bool true) ∧ Below w.heap.size w w' := by
  obtain ⟨r, hr⟩ : ∃ r, tokR s = r := ⟨_, rfl⟩
  have HR := Lib.hid hr
  have AW := Lib.hid awake_any
  cases r with
  | err x k =>
    obtain ⟨x1, x2⟩ := tokR_err hr
    clear hr
    go_enter Try.func5, Try.ntmps5
    go_wp2_with (first | (go_at_call 9; refine (stok_er s x k HR.out _).mono ?_; rintro e w1 ⟨rfl, B1⟩) | (go_at_call 12; refine (awake_any _).mono ?_; rintro e w5 ⟨rfl, hb5⟩))
    go_ret
    exact ⟨rfl, below_then B1.out hb5⟩
  | ok T =>
    obtain ⟨sz, hrun, hl⟩ := tokR_small hr
    obtain ⟨n, en⟩ : ∃ n, T.length = n := ⟨_, rfl⟩
    have EN := Lib.hid en
    rw [en] at hl
    have nb : n ≤ 8193 := by
      obtain ⟨Y', e, GY⟩ := run_good s _ 0 rfl (by omega) [] T (GT.nil _ _) hrun
      have := GY.len
      rw [← en, e]; simp; omega
    clear en hr
    by_cases hz : 8192 ≤ s.size
    · have i1 : decide ((8192 : Int) ≤ (s.size : Int)) = true := decide_eq_true (by omega)
      clear hz hrun
      go_enter Try.func5, Try.ntmps5
      go_wp2_with (first | (go_at_call 9; refine (stok_is s T n HR.out EN.out _).mono ?_; rintro e w1 ⟨g1, cap1, rfl, G1, N1, T1, B1⟩) | (go_at_call 12; refine (awake_any _).mono ?_; rintro e w5 ⟨rfl, hb5⟩))
      go_ret
      exact ⟨rfl, below_then B1.out hb5⟩
    have i1 : decide ((8192 : Int) ≤ (s.size : Int)) = false := decide_eq_false (by omega)
    by_cases hk : k < 0
    · have i2 : decide (k < 0) = true := decide_eq_true hk
      clear hz hrun hk
      go_enter Try.func5, Try.ntmps5
      go_wp2_with (first | (go_at_call 9; refine (stok_is s T n HR.out EN.out _).mono ?_; rintro e w1 ⟨g1, cap1, rfl, G1, N1, T1, B1⟩) | (go_at_call 12; refine (awake_any _).mono ?_; rintro e w5 ⟨rfl, hb5⟩))
      go_ret
      exact ⟨rfl, below_then B1.out hb5⟩
    have i2 : decide (k < 0) = false := decide_eq_false hk
    by_cases hn : (n : Int) ≤ k
    · have i3 : decide ((n : Int) ≤ k) = true := decide_eq_true hn
      clear hz hrun hk hn
      go_enter Try.func5, Try.ntmps5
      go_wp2_with (first | (go_at_call 9; refine (stok_is s T n HR.out EN.out _).mono ?_; rintro e w1 ⟨g1, cap1, rfl, G1, N1, T1, B1⟩) | (go_at_call 12; refine (awake_any _).mono ?_; rintro e w5 ⟨rfl, hb5⟩))
      go_ret
      exact ⟨rfl, below_then B1.out hb5⟩
    obtain ⟨q, rfl⟩ : ∃ q : Nat, k = q := ⟨k.toNat, by omega⟩
    have i3 : decide (n ≤ q) = false := decide_eq_false (by omega)
    have j3 : q < n := by omega
    have i2' : decide ((q : Int) < 0) = false := i2
    have j1 : (0 : Int) ≤ (q : Int) := by omega
    have j2 : (q : Int) < (n : Int) := by omega
    have wr0 : IntKind.i64.wrap (q : Int) = (q : Int) := by rw [IntKind.wrap_i64]; omega
    obtain ⟨t, ht⟩ : ∃ t, T[q]? = some t := ⟨_, List.getElem?_eq_getElem (by rw [EN.out]; omega)⟩
    have bd := toks_bd sz hrun t (List.mem_of_getElem? ht)
    obtain ⟨at_, hat⟩ : ∃ m : Nat, t.a = m := ⟨t.a.toNat, by omega⟩
    have HT := Lib.hid ht
    have MB : Hid (∀ t ∈ T.drop q, 0 ≤ t.a ∧ t.a ≤ 1048576) := Lib.hid fun t h => toks_bd sz hrun t (List.mem_of_mem_drop h)
    have PX : Hid ((T.take q).length = q) := Lib.hid (by rw [List.length_take, EN.out]; omega)
    have DX : Hid ((T.drop q).length = n - q) := Lib.hid (by rw [List.length_drop, EN.out])
    have ML : Hid (((T.drop q).map (Tok.mv 1)).length = n - q) := Lib.hid (by rw [List.length_map, DX.out])
    have XP : Hid (∃ Z, T = T.take q ++ Z) := Lib.hid ⟨T.drop q, (List.take_append_drop _ _).symm⟩
    have AS : Hid (at_ ≤ s.size) := Lib.hid (by
      obtain ⟨X, e, G⟩ := run_good s _ 0 rfl (by omega) [] T (GT.nil _ _) hrun
      have hm := List.mem_of_getElem? ht
      rw [e] at hm
      rcases List.mem_append.1 hm with hm | hm
      · have := G.lt t hm; omega
      · rw [List.mem_singleton.1 hm] at hat; simp only [endT] at hat; omega)
    have BL : ∀ (u : ByteArray) (c : UInt8), c = 32 ∨ c = 9 → u.data.toList = s.data.toList.take at_ ++ (c :: s.data.toList.drop at_) → (∀ t ∈ (T.take q).getLast?, t.k ≠ 5) → tokR u = .ok (([] ++ T.take q) ++ (T.drop q).map (Tok.mv 1)) := by
      intro u c hc hu h5
      have us : ¬ 8192 < u.size := by
        have : u.size = s.size + 1 := by rw [size_len, hu, List.length_append, List.length_cons, List.length_take, List.length_drop, ← size_len]; have := AS.out; omega
        omega
      unfold tokR; rw [if_neg us]
      exact (blanks_plain s u c T q at_ hrun (by rw [EN.out]; omega) (by rw [ht, Option.map_some, hat]) h5 hc hu).2
    have a1 : (0 : Int) ≤ (at_ : Int) := by omega
    have a2 : (at_ : Int) ≤ (s.size : Int) := by have := AS.out; omega
    have a3 : decide ((at_ : Int) < 0) = false := decide_eq_false (by omega)
    have a4 : decide (s.size < at_) = false := decide_eq_false (by omega)
    have a5 : at_ ≤ s.size := AS.out
    have a6 : ¬ (9223372036854775807 < at_ + 1) := by have := AS.out; omega
    have a7 : ¬ (9223372036854775807 < at_ + 1 + (s.size - at_)) := by have := AS.out; omega
    obtain ⟨tk, tt, tn, ta⟩ := t
    have hat : ta = (at_ : Int) := hat
    subst hat
    rcases Nat.eq_zero_or_pos q with hq0 | hq0
    · have d0 : decide ((0 : Int) < (q : Int)) = false := decide_eq_false (by omega)
      have d3 : decide (0 < q) = false := decide_eq_false (by omega)
      have H5 : ∀ t ∈ (T.take q).getLast?, t.k ≠ 5 := by rw [hq0]; simp
      clear hz hrun hk hn ht bd hq0
      cases tab with
      | false =>
        obtain ⟨u, hu⟩ : ∃ u, s.extract 0 at_ ++ (ByteArray.mk #[32]) ++ s.extract at_ s.size = u := ⟨_, rfl⟩
        have HU : Hid (tokR u = .ok (([] ++ T.take q) ++ (T.drop q).map (Tok.mv 1))) := Lib.hid (BL u 32 (.inl rfl) (by rw [← hu]; exact cut_app _ _ _) H5)
        clear BL
        go_enter Try.func5, Try.ntmps5
        go_wp2_with (first | (go_at_call 9; (first | (with_reducible refine (stok_is s T n HR.out EN.out w).mono ?_; rintro e w1 ⟨g1, cap1, rfl, G1, N1, T1, B1⟩; have R1 := Lib.hid T1.out.rd; have NP1 : q ≤ cap1 := (by omega); obtain ⟨k0, k1, k2, k3⟩ := R1.out.at0 q _ HT.out) )) | (at_builtin; refine append_toks rfl _ _ rfl (.slice none 0 0) [] ⟨g1, 0, none⟩ (T.take q) q cap1 w1.heap.size w1 _ (Toks.none _ _) (R1.out.srcp XP.out) PX.out (Below.refl _ _) (Nat.le_refl _) (by have := PX.out; simp; omega) rfl rfl ?_; intro v3 w3 own3 bel3; have C3 := Lib.hid (R1.out.below bel3.out)) | (go_at_call 14; refine (moved_is (T.drop q) (n - q) _ 1 _ _ (C3.out.drop q _ _ EN.out (by omega) (by omega)) DX.out (by omega) (by omega) (by omega) rfl MB.out).mono ?_; rintro e w5 ⟨g5, cap5, rfl, T5, B5⟩; have O5 := Lib.hid (owns_below own3.out B5.out); have W5 := Lib.hid (bel3.out.trans (B5.out.mono bel3.out.size))) | (at_builtin; refine append_toks rfl _ _ rfl v3 _ ⟨g5, 0, none⟩ ((T.drop q).map (Tok.mv 1)) (n - q) cap5 w1.heap.size w1 _ O5.out (fun j x hx => World.ownsRow.cells T5.out rfl j x hx) ML.out W5.out W5.out.size (by have := EN.out; simp; omega) rfl rfl ?_; intro v6 w6 own6 bel6))
        go_region_with (first | (go_at_call 9; refine (stok_ok u _ HU.out _).mono ?_; rintro e w7 ⟨⟨v7, rfl, T7⟩, B7⟩; have B67 := Lib.hid (below_then (Below.refl w6.heap.size w6).drew B7.out)))
        go_wp2_with (first | (go_at_call 11; refine (same_any _ _ _ _ T7.out.rd (own6.out.rd.below B67.out)).mono ?_; rintro e wa ⟨rfl, hba⟩) | (go_at_call 12; refine (awake_any _).mono ?_; rintro e w9 ⟨rfl, hb9⟩))
        go_ret
        exact ⟨rfl, below_then (below_then (below_then (B1.out.trans (bel6.out.mono B1.out.size)) B67.out) hba) hb9⟩
      | true =>
        obtain ⟨u, hu⟩ : ∃ u, s.extract 0 at_ ++ (ByteArray.mk #[9]) ++ s.extract at_ s.size = u := ⟨_, rfl⟩
        have HU : Hid (tokR u = .ok (([] ++ T.take q) ++ (T.drop q).map (Tok.mv 1))) := Lib.hid (BL u 9 (.inr rfl) (by rw [← hu]; exact cut_app _ _ _) H5)
        clear BL
        go_enter Try.func5, Try.ntmps5
        go_wp2_with (first | (go_at_call 9; (first | (with_reducible refine (stok_is s T n HR.out EN.out w).mono ?_; rintro e w1 ⟨g1, cap1, rfl, G1, N1, T1, B1⟩; have R1 := Lib.hid T1.out.rd; have NP1 : q ≤ cap1 := (by omega); obtain ⟨k0, k1, k2, k3⟩ := R1.out.at0 q _ HT.out) )) | (at_builtin; refine append_toks rfl _ _ rfl (.slice none 0 0) [] ⟨g1, 0, none⟩ (T.take q) q cap1 w1.heap.size w1 _ (Toks.none _ _) (R1.out.srcp XP.out) PX.out (Below.refl _ _) (Nat.le_refl _) (by have := PX.out; simp; omega) rfl rfl ?_; intro v3 w3 own3 bel3; have C3 := Lib.hid (R1.out.below bel3.out)) | (go_at_call 14; refine (moved_is (T.drop q) (n - q) _ 1 _ _ (C3.out.drop q _ _ EN.out (by omega) (by omega)) DX.out (by omega) (by omega) (by omega) rfl MB.out).mono ?_; rintro e w5 ⟨g5, cap5, rfl, T5, B5⟩; have O5 := Lib.hid (owns_below own3.out B5.out); have W5 := Lib.hid (bel3.out.trans (B5.out.mono bel3.out.size))) | (at_builtin; refine append_toks rfl _ _ rfl v3 _ ⟨g5, 0, none⟩ ((T.drop q).map (Tok.mv 1)) (n - q) cap5 w1.heap.size w1 _ O5.out (fun j x hx => World.ownsRow.cells T5.out rfl j x hx) ML.out W5.out W5.out.size (by have := EN.out; simp; omega) rfl rfl ?_; intro v6 w6 own6 bel6))
        go_region_with (first | (go_at_call 9; refine (stok_ok u _ HU.out _).mono ?_; rintro e w7 ⟨⟨v7, rfl, T7⟩, B7⟩; have B67 := Lib.hid (below_then (Below.refl w6.heap.size w6).drew B7.out)))
        go_wp2_with (first | (go_at_call 11; refine (same_any _ _ _ _ T7.out.rd (own6.out.rd.below B67.out)).mono ?_; rintro e wa ⟨rfl, hba⟩) | (go_at_call 12; refine (awake_any _).mono ?_; rintro e w9 ⟨rfl, hb9⟩))
        go_ret
        exact ⟨rfl, below_then (below_then (below_then (B1.out.trans (bel6.out.mono B1.out.size)) B67.out) hba) hb9⟩
    · obtain ⟨z, hz1⟩ : ∃ z, T[q - 1]? = some z := ⟨_, List.getElem?_eq_getElem (by rw [EN.out]; omega)⟩
      have LZ : (T.take q).getLast? = some z := by rw [List.getLast?_eq_getElem?, PX.out, List.getElem?_take, if_pos (by omega)]; exact hz1
      obtain ⟨p, hp⟩ : ∃ p, p = q - 1 := ⟨_, rfl⟩
      rw [← hp] at hz1
      have HZ := Lib.hid hz1
      have d0 : (0 : Int) < (q : Int) := by omega
      have wr1 : IntKind.i64.wrap ((q : Int) - 1) = (p : Int) := by rw [IntKind.wrap_i64]; omega
      have wr2 : IntKind.i64.wrap (p : Int) = (p : Int) := by rw [IntKind.wrap_i64]; omega
      have d1 : (0 : Int) ≤ (p : Int) := by omega
      have d2 : (p : Int) < (n : Int) := by omega
      have d3 : p < n := by omega
      have d4 : 0 < q := by omega
      obtain ⟨zk, zt, zn, za⟩ := z
      by_cases h5 : zk = 5
      · subst h5
        clear hz hrun hk hn ht bd hz1 LZ hp hq0 BL
        go_enter Try.func5, Try.ntmps5
        go_wp2_with (first | (go_at_call 9; (first | (with_reducible refine (stok_is s T n HR.out EN.out w).mono ?_; rintro e w1 ⟨g1, cap1, rfl, G1, N1, T1, B1⟩; have R1 := Lib.hid T1.out.rd; have NP1 : q ≤ cap1 := (by omega); obtain ⟨k0, k1, k2, k3⟩ := R1.out.at0 q _ HT.out; obtain ⟨z0, -, -, -⟩ := R1.out.at0 p _ HZ.out) )) | (go_at_call 12; refine (awake_any _).mono ?_; rintro e w9 ⟨rfl, hb9⟩))
        go_ret
        exact ⟨rfl, below_then B1.out hb9⟩
      · have e5 : (zk == 5) = false := by rw [beq_eq_false_iff_ne]; exact h5
        have H5 : ∀ t ∈ (T.take q).getLast?, t.k ≠ 5 := by rw [LZ]; intro x hx; simp at hx; rw [← hx]; exact h5
        clear hz hrun hk hn ht bd hz1 LZ hp hq0
        cases tab with
        | false =>
          obtain ⟨u, hu⟩ : ∃ u, s.extract 0 at_ ++ (ByteArray.mk #[32]) ++ s.extract at_ s.size = u := ⟨_, rfl⟩
          have HU : Hid (tokR u = .ok (([] ++ T.take q) ++ (T.drop q).map (Tok.mv 1))) := Lib.hid (BL u 32 (.inl rfl) (by rw [← hu]; exact cut_app _ _ _) H5)
          clear BL
          go_enter Try.func5, Try.ntmps5
          go_wp2_with (first | (go_at_call 9; (first | (with_reducible refine (stok_is s T n HR.out EN.out w).mono ?_; rintro e w1 ⟨g1, cap1, rfl, G1, N1, T1, B1⟩; have R1 := Lib.hid T1.out.rd; have NP1 : q ≤ cap1 := (by omega); obtain ⟨k0, k1, k2, k3⟩ := R1.out.at0 q _ HT.out; obtain ⟨z0, -, -, -⟩ := R1.out.at0 p _ HZ.out) )) | (at_builtin; refine append_toks rfl _ _ rfl (.slice none 0 0) [] ⟨g1, 0, none⟩ (T.take q) q cap1 w1.heap.size w1 _ (Toks.none _ _) (R1.out.srcp XP.out) PX.out (Below.refl _ _) (Nat.le_refl _) (by have := PX.out; simp; omega) rfl rfl ?_; intro v3 w3 own3 bel3; have C3 := Lib.hid (R1.out.below bel3.out)) | (go_at_call 14; refine (moved_is (T.drop q) (n - q) _ 1 _ _ (C3.out.drop q _ _ EN.out (by omega) (by omega)) DX.out (by omega) (by omega) (by omega) rfl MB.out).mono ?_; rintro e w5 ⟨g5, cap5, rfl, T5, B5⟩; have O5 := Lib.hid (owns_below own3.out B5.out); have W5 := Lib.hid (bel3.out.trans (B5.out.mono bel3.out.size))) | (at_builtin; refine append_toks rfl _ _ rfl v3 _ ⟨g5, 0, none⟩ ((T.drop q).map (Tok.mv 1)) (n - q) cap5 w1.heap.size w1 _ O5.out (fun j x hx => World.ownsRow.cells T5.out rfl j x hx) ML.out W5.out W5.out.size (by have := EN.out; simp; omega) rfl rfl ?_; intro v6 w6 own6 bel6))
          go_region_with (first | (go_at_call 9; refine (stok_ok u _ HU.out _).mono ?_; rintro e w7 ⟨⟨v7, rfl, T7⟩, B7⟩; have B67 := Lib.hid (below_then (Below.refl w6.heap.size w6).drew B7.out)))
          go_wp2_with (first | (go_at_call 11; refine (same_any _ _ _ _ T7.out.rd (own6.out.rd.below B67.out)).mono ?_; rintro e wa ⟨rfl, hba⟩) | (go_at_call 12; refine (awake_any _).mono ?_; rintro e w9 ⟨rfl, hb9⟩))
          go_ret
          exact ⟨rfl, below_then (below_then (below_then (B1.out.trans (bel6.out.mono B1.out.size)) B67.out) hba) hb9⟩
        | true =>
          obtain ⟨u, hu⟩ : ∃ u, s.extract 0 at_ ++ (ByteArray.mk #[9]) ++ s.extract at_ s.size = u := ⟨_, rfl⟩
          have HU : Hid (tokR u = .ok (([] ++ T.take q) ++ (T.drop q).map (Tok.mv 1))) := Lib.hid (BL u 9 (.inr rfl) (by rw [← hu]; exact cut_app _ _ _) H5)
          clear BL
          go_enter Try.func5, Try.ntmps5
          go_wp2_with (first | (go_at_call 9; (first | (with_reducible refine (stok_is s T n HR.out EN.out w).mono ?_; rintro e w1 ⟨g1, cap1, rfl, G1, N1, T1, B1⟩; have R1 := Lib.hid T1.out.rd; have NP1 : q ≤ cap1 := (by omega); obtain ⟨k0, k1, k2, k3⟩ := R1.out.at0 q _ HT.out; obtain ⟨z0, -, -, -⟩ := R1.out.at0 p _ HZ.out) )) | (at_builtin; refine append_toks rfl _ _ rfl (.slice none 0 0) [] ⟨g1, 0, none⟩ (T.take q) q cap1 w1.heap.size w1 _ (Toks.none _ _) (R1.out.srcp XP.out) PX.out (Below.refl _ _) (Nat.le_refl _) (by have := PX.out; simp; omega) rfl rfl ?_; intro v3 w3 own3 bel3; have C3 := Lib.hid (R1.out.below bel3.out)) | (go_at_call 14; refine (moved_is (T.drop q) (n - q) _ 1 _ _ (C3.out.drop q _ _ EN.out (by omega) (by omega)) DX.out (by omega) (by omega) (by omega) rfl MB.out).mono ?_; rintro e w5 ⟨g5, cap5, rfl, T5, B5⟩; have O5 := Lib.hid (owns_below own3.out B5.out); have W5 := Lib.hid (bel3.out.trans (B5.out.mono bel3.out.size))) | (at_builtin; refine append_toks rfl _ _ rfl v3 _ ⟨g5, 0, none⟩ ((T.drop q).map (Tok.mv 1)) (n - q) cap5 w1.heap.size w1 _ O5.out (fun j x hx => World.ownsRow.cells T5.out rfl j x hx) ML.out W5.out W5.out.size (by have := EN.out; simp; omega) rfl rfl ?_; intro v6 w6 own6 bel6))
          go_region_with (first | (go_at_call 9; refine (stok_ok u _ HU.out _).mono ?_; rintro e w7 ⟨⟨v7, rfl, T7⟩, B7⟩; have B67 := Lib.hid (below_then (Below.refl w6.heap.size w6).drew B7.out)))
          go_wp2_with (first | (go_at_call 11; refine (same_any _ _ _ _ T7.out.rd (own6.out.rd.below B67.out)).mono ?_; rintro e wa ⟨rfl, hba⟩) | (go_at_call 12; refine (awake_any _).mono ?_; rintro e w9 ⟨rfl, hb9⟩))
          go_ret
          exact ⟨rfl, below_then (below_then (below_then (B1.out.trans (bel6.out.mono B1.out.size)) B67.out) hba) hb9⟩
end Go.Proofs.Ytbioflajonafdaa
