/- walks: Number of the program -/
import Derived.Test.YtpakciceohgfhaaDoorNe
namespace Go.Proofs.YtpakciceohgfhaaDoor
open Go.RowKit
open Tx
set_option maxHeartbeats 2000000 in
theorem number_any (s : ByteArray) (n m : Int) (w : World) (hm : w.cell? ⟨0, 0, none⟩ = some (.int .i64 m)) (ht : Tab w) (hs : s.size ≤ 300) (h0 : -9223372036854775808 ≤ n) (h1 : n ≤ 9223372036854775807) :
    Calls Tryd.prog 17 #[.string s, .int .i64 n] w fun e w' => e = .returned (.string ⟨(numb (lnk s.data.toList) n).toArray⟩) ∧ Below w.heap.size w w' := by
  have IB := Lib.hid (Lib.IsBuilderF.of (Lib.fresh_isBuilder 39 5 w))
  have B0 := (Below.refl w.heap.size w).alloc (Nat.le_refl _) (.cells #[.pointer none, .slice none 0 0] 39)
  have LN := Lib.hid (lnk_any s m (w.alloc (.cells #[.pointer none, .slice none 0 0] 39)) (max_below hm B0) hs)
  have HS : Hid (s.data.toList.length ≤ 300) := Lib.hid (by rw [← size_len]; exact hs)
  have BB := Lib.hid B0
  have TW0 := Lib.hid ht
  have RNG := Lib.hid (And.intro h0 h1)
  have SZ : Hid ((w.alloc (.cells #[.pointer none, .slice none 0 0] 39)).heap.size = w.heap.size + 1) := Lib.hid (by simp)
  clear B0 hm ht hs h0 h1
  go_enter Tryd.func17, Tryd.ntmps17
  go_wp2_with (first
    | (go_at_call 20; refine LN.out.mono ?_; rintro e w1 ⟨v, L, rfl, hL, hV, hb1⟩; rcases hV with ⟨rfl, rfl⟩ | ⟨g, cap, rfl, hl, hc1, hne, hg, hc, cs, hcs, hcc⟩))
  · have I1 := Lib.hid (ibf_below (b := w.heap.size) (out := []) IB.out hb1)
    have E : lnk s.data.toList = [] := hL.symm
    have B1 := Lib.hid (BB.out.trans (hb1.mono BB.out.size))
    have EE := Lib.hid E
    clear hL E hb1
    go_loop [1, 11] (fun f i => i = .int .i64 0 ∧ f = .int .i64 n) (fun _ _ => 0)
    case atStart => exact ⟨rfl, rfl⟩
    case round =>
      obtain ⟨rfl, rfl⟩ := hrel
      go_wp2_with (go_at_call 30; refine (str_k w.heap.size [] _ I1.out B1.out.size).mono ?_; rintro e w2 ⟨rfl, hb2⟩)
      go_ret
      exact ⟨by rw [EE.out]; rfl, B1.out.trans hb2⟩
  · have I1 := Lib.hid (ibf_below (b := w.heap.size) (out := []) IB.out hb1)
    have B1 := Lib.hid (BB.out.trans (hb1.mono BB.out.size))
    have K1 : Hid (LK g cs w1) := Lib.hid hcs
    have GB : Hid (g ≠ w.heap.size) := Lib.hid (by
      intro e
      have hlt : g < (w.alloc (.cells #[.pointer none, .slice none 0 0] 39)).heap.size := by rw [SZ.out, e]; omega
      have h2 := hb1.block g hlt
      rw [hcs] at h2
      have h3 := heap_alloc_new w (.cells #[.pointer none, .slice none 0 0] 39)
      rw [← e] at h3
      rw [h3] at h2
      simp at h2)
    have HL := Lib.hid hL
    have HC := Lib.hid hcc
    have LF := lnk_full hL HS.out
    have NL := Lib.hid (numb_len L n RNG.out.1 RNG.out.2)
    have BD : Hid ((numb (L.map (·.data.toList)) n).length ≤ 7201) := Lib.hid (by have := NL.out; omega)
    obtain ⟨N, hN⟩ : ∃ N, L.length = N := ⟨_, rfl⟩
    have LN2 := LF.2
    have HN := Lib.hid hN
    rw [hN] at LN2 ⊢
    clear hL hb1 hcs hcc hc hg hl hc1 hne LF NL hN
    go_loopw [1, 11] (fun fv i wr => ∃ (j : Nat) (f : Int) (out : List UInt8), i = .int .i64 j ∧ fv = .int .i64 f ∧ j ≤ N ∧ Hid (-9223372036854775808 ≤ f ∧ f ≤ 9223372036854775807) ∧ Hid (out ++ numb ((L.drop j).map (·.data.toList)) f = numb (L.map (·.data.toList)) n) ∧ Hid (IBF w.heap.size out wr) ∧ Hid (Below w.heap.size w wr) ∧ Hid (LK g cs wr)) (fun _ i _ => N - (intOf i).toNat)
    case atStart => exact ⟨0, n, [], rfl, rfl, by omega, RNG, Lib.hid rfl, I1, B1, K1⟩
    case round =>
      obtain ⟨j, f, out, rfl, rfl, jn, RF, OE, IW, Br, KW⟩ := hrel
      have TW := Lib.hid (tab_below TW0.out Br.out)
      by_cases hlt : j < N
      · have x1 : j < L.length := by have := HN.out; omega
        have k1 := KW.out.cell (HC.out j _ (List.getElem?_eq_getElem x1))
        have ND := numb_drop x1 f
        obtain ⟨y, hy⟩ : ∃ y, L[j] = y := ⟨_, rfl⟩
        rw [hy] at k1 ND
        obtain ⟨t, ht⟩ : ∃ t, Lib.itoa f = t := ⟨_, rfl⟩
        have HT2 := Lib.hid ht
        rw [ht] at ND
        obtain ⟨f2, hf2⟩ : ∃ f2, (if f < 9223372036854775807 then f + 1 else f) = f2 := ⟨_, rfl⟩
        rw [hf2] at ND
        have OE2 : Hid ((((out ++ t) ++ [9]) ++ y.data.toList) ++ numb ((L.drop (j + 1)).map (·.data.toList)) f2 = numb (L.map (·.data.toList)) n) := Lib.hid (by rw [← OE.out, ND]; simp)
        have LB : Hid (out.length + t.length + 1 + y.size ≤ 7201) := Lib.hid (by
          have h := congrArg List.length OE2.out
          simp only [List.length_append, List.length_cons, List.length_nil, ← size_len] at h
          have := BD.out; omega)
        clear hy x1 ND ht
        by_cases hf : f < 9223372036854775807
        · rw [if_pos hf] at hf2
          have t1 : decide (f < 9223372036854775807) = true := decide_eq_true hf
          have R2 : Hid (-9223372036854775808 ≤ f + 1 ∧ f + 1 ≤ 9223372036854775807) := Lib.hid (by have := RF.out; omega)
          have W2 : Hid (wrap64 (f + 1) = f + 1) := Lib.hid (by have := R2.out; unfold wrap64; omega)
          subst hf2
          clear hf
          go_wp2_with (first
            | (go_at_call 28; refine (nfmt_is f t _ RF TW HT2).mono ?_; rintro e w2 ⟨rfl, hb2⟩)
            | (go_at_call 29; refine (wb_k w.heap.size (out ++ t) 9 9 _ i3.out rfl (by have := LB.out; rw [List.length_append]; omega) (Br.out.trans ((hb2.mono Br.out.size).trans hb3)).size).mono ?_; rintro e w4 ⟨rfl, i4, hb4, ok4⟩)
            | (go_at_call 27; first
                | (with_reducible refine (wl_k w.heap.size out t w2 (ibf_below IW.out hb2) (by have := LB.out; omega) (Br.out.trans (hb2.mono Br.out.size)).size).mono ?_; rintro e w3 ⟨rfl, i3, hb3, ok3⟩)
                | (with_reducible refine (ws_k w.heap.size ((out ++ t) ++ [9]) y w4 i4.out (by have := LB.out; rw [List.length_append, List.length_append, List.length_singleton]; omega) (Br.out.trans ((hb2.mono Br.out.size).trans (hb3.trans hb4))).size).mono ?_; rintro e w5 ⟨rfl, i5, hb5, ok5⟩)))
          go_roundw
          case rel => exact ⟨j + 1, f + 1, _, by go_num, by rw [W2.out], by omega, R2, OE2, i5, Lib.hid ((Br.out.trans (hb2.mono Br.out.size)).trans (hb3.trans (hb4.trans hb5))), Lib.hid ((((KW.out.below hb2).kept ok3 GB.out).kept ok4 GB.out).kept ok5 GB.out)⟩
          case measure => simp [intOf]; omega
        · have t1 : decide (f < 9223372036854775807) = false := decide_eq_false hf
          rw [if_neg hf] at hf2
          subst hf2
          clear hf
          go_wp2_with (first
            | (go_at_call 28; refine (nfmt_is f t _ RF TW HT2).mono ?_; rintro e w2 ⟨rfl, hb2⟩)
            | (go_at_call 29; refine (wb_k w.heap.size (out ++ t) 9 9 _ i3.out rfl (by have := LB.out; rw [List.length_append]; omega) (Br.out.trans ((hb2.mono Br.out.size).trans hb3)).size).mono ?_; rintro e w4 ⟨rfl, i4, hb4, ok4⟩)
            | (go_at_call 27; first
                | (with_reducible refine (wl_k w.heap.size out t w2 (ibf_below IW.out hb2) (by have := LB.out; omega) (Br.out.trans (hb2.mono Br.out.size)).size).mono ?_; rintro e w3 ⟨rfl, i3, hb3, ok3⟩)
                | (with_reducible refine (ws_k w.heap.size ((out ++ t) ++ [9]) y w4 i4.out (by have := LB.out; rw [List.length_append, List.length_append, List.length_singleton]; omega) (Br.out.trans ((hb2.mono Br.out.size).trans (hb3.trans hb4))).size).mono ?_; rintro e w5 ⟨rfl, i5, hb5, ok5⟩)))
          go_roundw
          case rel => exact ⟨j + 1, f, _, by go_num, rfl, by omega, RF, OE2, i5, Lib.hid ((Br.out.trans (hb2.mono Br.out.size)).trans (hb3.trans (hb4.trans hb5))), Lib.hid ((((KW.out.below hb2).kept ok3 GB.out).kept ok4 GB.out).kept ok5 GB.out)⟩
          case measure => simp [intOf]; omega
      · obtain rfl : j = N := by omega
        have FE : Hid (out = numb (lnk s.data.toList) n) := Lib.hid (by
          have h := OE.out
          rw [List.drop_of_length_le (by rw [HN.out]; exact Nat.le_refl _)] at h
          rw [← HL.out, ← h]; simp [numb])
        go_wp2_with (go_at_call 30; refine (str_k w.heap.size out _ IW.out Br.out.size).mono ?_; rintro e w2 ⟨rfl, hb2⟩)
        go_ret
        exact ⟨by rw [← FE.out]; rfl, Br.out.trans hb2⟩
end Go.Proofs.YtpakciceohgfhaaDoor
