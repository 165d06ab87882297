/- walks: the law that divides a text -/
import Derived.Test.YtpakciceohgfhaaDoorNi
namespace Go.Proofs.YtpakciceohgfhaaDoor
open Go.RowKit
open Tx
theorem hd_nn (q : Int) (M : Nat) (h : 0 ≤ q) : hdK q M = min q.toNat M := by unfold hdK; rw [if_neg (by omega)]
theorem hd_neg (q : Int) (M : Nat) (h : 0 < q) : hdK (-q) M = M - q.toNat := by
  unfold hdK; rw [if_pos (by omega)]; congr 2; omega
theorem cut_flat (L : List (List UInt8)) (k : Nat) : (L.take k).flatten ++ (L.drop k).flatten = L.flatten := by
  rw [← List.flatten_append, List.take_append_drop]
theorem div1 (l : List UInt8) (q : Int) (h : 0 < q) : headL l q ++ tailL l (-q) = l := by
  unfold headL tailL
  rw [hd_nn q _ (by omega), hd_neg q _ h]
  have e : (lnk l).length - ((lnk l).length - q.toNat) = min q.toNat (lnk l).length := by omega
  rw [e, cut_flat, lnk_flat]
theorem div2 (l : List UInt8) (q : Int) (h : 0 ≤ q) : headL l q ++ fromL l (q + 1) = l := by
  unfold headL fromL
  rw [hd_nn q _ h]
  have e : frK (q + 1) (lnk l).length = min q.toNat (lnk l).length := by unfold frK; congr 1; omega
  rw [e, cut_flat, lnk_flat]
theorem div3 (l : List UInt8) (q : Int) (h : 0 < q) : headL l (-q) ++ tailL l q = l := by
  unfold headL tailL
  rw [hd_nn q _ (by omega), hd_neg q _ h]
  have e : (lnk l).length - min q.toNat (lnk l).length = (lnk l).length - q.toNat := by omega
  rw [e, cut_flat, lnk_flat]
theorem div4 (l : List UInt8) (q : Int) (h : 0 ≤ q) : (lin (headL l q)).length = min q.toNat (lin l).length := by
  rw [← lnk_len, ← lnk_len]
  unfold headL
  rw [lnk_good (good_take _ _ (good_lnk l)), List.length_take, hd_nn q _ h]; omega
theorem div5 (l : List UInt8) (q : Int) (h : 0 ≤ q) : (lin (tailL l q)).length = min q.toNat (lin l).length := by
  rw [← lnk_len, ← lnk_len]
  unfold tailL
  rw [lnk_good (good_drop _ _ (good_lnk l)), List.length_drop, hd_nn q _ h]; omega
theorem div6 (l : List UInt8) (q : Int) (h : ((lnk l).length : Int) ≤ q) : headL l q = l := by
  unfold headL
  rw [hd_nn q _ (by omega), List.take_of_length_le (by omega), lnk_flat]
theorem div7 (l : List UInt8) : headL l 0 = [] ∧ tailL l 0 = [] ∧ fromL l 1 = l := by
  refine ⟨?_, ?_, ?_⟩
  · unfold headL; rw [hd_nn 0 _ (by omega)]; simp
  · unfold tailL; rw [hd_nn 0 _ (by omega)]; simp
  · unfold fromL frK; simp [lnk_flat]
theorem lnk_le (s : ByteArray) (hs : s.size ≤ 300) : (lnk s.data.toList).length ≤ 300 := by
  have hl : (lnk s.data.toList).length ≤ (lnk s.data.toList).flatten.length := by
    have g : ∀ L : List (List UInt8), (∀ x ∈ L, x ≠ []) → L.length ≤ L.flatten.length := by
      intro L
      induction L with
      | nil => intro _; simp
      | cons x r ih =>
        intro h
        have h1 := List.length_pos_iff.2 (h x (by simp))
        have := ih (fun y hy => h y (by simp [hy]))
        simp only [List.flatten_cons, List.length_append, List.length_cons]; omega
    apply g
    obtain ⟨out, cur, e⟩ := spl_ex s.data.toList
    rw [lnk_of e]
    intro x hx
    rcases List.mem_append.1 hx with hx | hx
    · obtain ⟨y, _, rfl⟩ := List.mem_map.1 hx; simp
    · split at hx
      · cases hx
      · rename_i hz; rw [List.mem_singleton] at hx; subst hx; exact hz
  rw [lnk_flat, ← size_len] at hl
  omega
theorem rl_is (s : ByteArray) (K : Nat) (w : World) (hs : s.size ≤ 1048576) (hK : (lin s.data.toList).length = K) :
    Calls Tryd.prog 19 #[.string s] w fun e w' => ∃ (a : Option Addr) (cap : Nat) (b : Bool), e = .returned (.tuple #[.slice a K cap, .bool b]) ∧ Below w.heap.size w w' := by
  refine (rlines_any s w hs).mono fun e w' ⟨v, L, h1, h2, h3, h4⟩ => ?_
  obtain ⟨a, cap, rfl, _⟩ := h3.strs
  have := congrArg List.length h2
  rw [List.length_map, hK] at this
  exact ⟨a, cap, _, by rw [h1, this], h4⟩
/-- what the law on dividing knows -/
structure DivF (s : ByteArray) (q : Int) (t1 t2 t3 t4 t5 : ByteArray) (M K : Nat) : Prop where
  h1 : t1 = ⟨(headL s.data.toList q).toArray⟩
  h2 : t2 = ⟨(tailL s.data.toList (-q)).toArray⟩
  h3 : t3 = ⟨(fromL s.data.toList (q + 1)).toArray⟩
  h4 : t4 = ⟨(tailL s.data.toList q).toArray⟩
  h5 : t5 = ⟨(headL s.data.toList (-q)).toArray⟩
  e1 : t1 ++ t2 = s
  e2 : t1 ++ t3 = s
  e3 : t5 ++ t4 = s
  m : (lin s.data.toList).length = M
  k1 : (lin t1.data.toList).length = K
  k4 : (lin t4.data.toList).length = K
  k : K = min q.toNat M
theorem DivF.mk' (s : ByteArray) (q : Int) (h : 0 < q) : ∃ t1 t2 t3 t4 t5 M K, DivF s q t1 t2 t3 t4 t5 M K :=
  ⟨_, _, _, _, _, _, _, rfl, rfl, rfl, rfl, rfl, str_ext (by simp; exact div1 _ q h), str_ext (by simp; exact div2 _ q (by omega)), str_ext (by simp; exact div3 _ q h), rfl, div4 _ q (by omega), div5 _ q (by omega), rfl⟩
theorem cat_le {a b s : ByteArray} (h : a ++ b = s) : a.size + b.size = s.size := by rw [← h, ByteArray.size_append]
theorem head_v (s t : ByteArray) (v q m : Int) (w : World) (E : Env m w) (hs : s.size ≤ 300) (ht : t = ⟨(headL s.data.toList q).toArray⟩) (hv : v = q) :
    Calls Tryd.prog 9 #[.string s, .int .i64 v] w fun e w' => e = .returned (.string t) ∧ Below w.heap.size w w' := by subst hv; exact head_is s t v m w E hs ht
theorem tail_v (s t : ByteArray) (v q m : Int) (w : World) (E : Env m w) (hs : s.size ≤ 300) (ht : t = ⟨(tailL s.data.toList q).toArray⟩) (hv : v = q) :
    Calls Tryd.prog 11 #[.string s, .int .i64 v] w fun e w' => e = .returned (.string t) ∧ Below w.heap.size w w' := by subst hv; exact tail_is s t v m w E hs ht
theorem from_v (s t : ByteArray) (v q m : Int) (w : World) (E : Env m w) (hs : s.size ≤ 300) (hq : q ≤ 9223372036854775807) (ht : t = ⟨(fromL s.data.toList q).toArray⟩) (hv : v = q) :
    Calls Tryd.prog 13 #[.string s, .int .i64 v] w fun e w' => e = .returned (.string t) ∧ Below w.heap.size w w' := by subst hv; exact from_is s t v m w E hs hq ht
set_option maxHeartbeats 2000000 in
theorem divide_big (s : ByteArray) (n q m : Int) (w : World) (E : Hid (Env m w)) (hs : s.size ≤ 300) (hn : (0 ≤ n ∧ q = n) ∨ (n < 0 ∧ n = -1 - q)) (hq : 4611686018427387904 ≤ q) (hq2 : q ≤ 9223372036854775807) :
    Calls Tryd.prog 6 #[.string s, .int .i64 n] w fun e w' => e = .returned (.bool true) ∧ Below w.heap.size w w' := by
  have HT : Hid (s = ⟨(headL s.data.toList q).toArray⟩) := Lib.hid (str_ext (by have := lnk_le s hs; show _ = headL s.data.toList q; rw [div6 _ _ (by omega)]))
  have HS := Lib.hid hs
  obtain ⟨M, hM⟩ : ∃ M, (lin s.data.toList).length = M := ⟨_, rfl⟩
  have HM := Lib.hid hM
  clear hM
  rcases hn with ⟨h0, rfl⟩ | ⟨h0, rfl⟩
  all_goals go_enter Tryd.func6, Tryd.ntmps6
  all_goals go_wp2_with (first
    | (go_at_call 19; refine (rl_is s M _ (by have := HS.out; omega) HM.out).mono ?_; rintro e w1 ⟨a1, c1, b1, rfl, hb1⟩; have E1 := Lib.hid (E.out.below hb1))
    | (go_at_call 9; refine (head_v s s _ q m _ E1.out HS.out HT.out (by omega)).mono ?_; rintro e w2 ⟨rfl, hb2⟩; have B2 := Lib.hid (hb1.trans (hb2.mono hb1.size)))
    | (go_at_call 8; refine (awake31 m _ (Lib.hid (E.out.below B2.out))).mono ?_; rintro e w7 ⟨rfl, hb7⟩))
  all_goals go_ret
  all_goals exact ⟨rfl, B2.out.trans (hb7.mono B2.out.size)⟩
set_option maxHeartbeats 2000000 in
theorem divide_zero (s : ByteArray) (n m : Int) (w : World) (E : Hid (Env m w)) (hs : s.size ≤ 300) (hn : n = 0 ∨ n = -1) :
    Calls Tryd.prog 6 #[.string s, .int .i64 n] w fun e w' => e = .returned (.bool true) ∧ Below w.heap.size w w' := by
  obtain ⟨d1, d2, d3⟩ := div7 s.data.toList
  have T1 : Hid ((⟨#[]⟩ : ByteArray) = ⟨(headL s.data.toList 0).toArray⟩) := Lib.hid (by rw [d1])
  have T2 : Hid ((⟨#[]⟩ : ByteArray) = ⟨(tailL s.data.toList 0).toArray⟩) := Lib.hid (by rw [d2])
  have T3 : Hid (s = ⟨(fromL s.data.toList 1).toArray⟩) := Lib.hid (by rw [d3])
  have HS := Lib.hid hs
  obtain ⟨M, hM⟩ : ∃ M, (lin s.data.toList).length = M := ⟨_, rfl⟩
  have HM := Lib.hid hM
  have K0 : Hid ((lin (ByteArray.mk #[]).data.toList).length = 0) := Lib.hid rfl
  have Z : Hid ((ByteArray.mk #[]).size ≤ 300) := Lib.hid (by show 0 ≤ 300; omega)
  clear hM d1 d2 d3
  rcases hn with rfl | rfl
  all_goals go_enter Tryd.func6, Tryd.ntmps6
  all_goals go_wp2_with (first
    | (go_at_call 19; first
        | (with_reducible refine (rl_is s M _ (by have := HS.out; omega) HM.out).mono ?_; rintro e w1 ⟨a1, c1, b1, rfl, hb1⟩; have E1 := Lib.hid (E.out.below hb1))
        | (with_reducible refine (rl_is (ByteArray.mk #[]) 0 _ (by have := Z.out; omega) K0.out).mono ?_; rintro e w5 ⟨a2, c2, b2, rfl, hb5⟩; have E5 := Lib.hid (E4.out.below hb5); have B5 := Lib.hid (B4.out.trans (hb5.mono B4.out.size))))
    | (go_at_call 9; refine (head_v s ⟨#[]⟩ _ 0 m _ E1.out HS.out T1.out (by omega)).mono ?_; rintro e w2 ⟨rfl, hb2⟩; have E2 := Lib.hid (E1.out.below hb2); have B2 := Lib.hid (hb1.trans (hb2.mono hb1.size)))
    | (go_at_call 11; first
        | (with_reducible refine (tail_v s ⟨#[]⟩ _ 0 m w2 E2.out HS.out T2.out (by omega)).mono ?_; rintro e w3 ⟨rfl, hb3⟩; have E3 := Lib.hid (E2.out.below hb3); have B3 := Lib.hid (B2.out.trans (hb3.mono B2.out.size)))
        | (with_reducible refine (tail_v s ⟨#[]⟩ _ 0 m w5 E5.out HS.out T2.out (by omega)).mono ?_; rintro e w6 ⟨rfl, hb6⟩; have E6 := Lib.hid (E5.out.below hb6); have B6 := Lib.hid (B5.out.trans (hb6.mono B5.out.size))))
    | (go_at_call 13; refine (from_v s s _ 1 m _ E3.out HS.out (by omega) T3.out (by omega)).mono ?_; rintro e w4 ⟨rfl, hb4⟩; have E4 := Lib.hid (E3.out.below hb4); have B4 := Lib.hid (B3.out.trans (hb4.mono B3.out.size)))
    | (go_at_call 8; refine (awake31 m _ (Lib.hid (E.out.below B6.out))).mono ?_; rintro e w7 ⟨rfl, hb7⟩))
  all_goals go_ret
  all_goals exact ⟨rfl, B6.out.trans (hb7.mono B6.out.size)⟩
set_option maxHeartbeats 4000000 in
theorem divide_mid (s : ByteArray) (n q m : Int) (w : World) (E : Hid (Env m w)) (hs : s.size ≤ 300) (hn : (0 ≤ n ∧ q = n) ∨ (n < 0 ∧ n = -1 - q)) (hq : 0 < q) (hq2 : q < 4611686018427387904) :
    Calls Tryd.prog 6 #[.string s, .int .i64 n] w fun e w' => e = .returned (.bool true) ∧ Below w.heap.size w w' := by
  obtain ⟨t1, t2, t3, t4, t5, M, K, D⟩ := DivF.mk' s q hq
  have F := Lib.hid D
  have e1 := D.e1
  have e2 := D.e2
  have e3 := D.e3
  have z1 := cat_le e1
  have z2 := cat_le e2
  have z3 := cat_le e3
  have kk : ((K : Int) == min q (M : Int)) = true := by rw [beq_iff_eq, D.k]; omega
  have kk2 : ((K : Int) == min (-(-1 - q + 1)) (M : Int)) = true := by rw [beq_iff_eq, D.k]; omega
  have HS := Lib.hid hs
  clear D
  rcases hn with ⟨h0, rfl⟩ | ⟨h0, rfl⟩
  all_goals go_enter Tryd.func6, Tryd.ntmps6
  all_goals go_wp2_with (first
    | (go_at_call 19; first
        | (with_reducible refine (rl_is s M _ (by have := HS.out; omega) F.out.m).mono ?_; rintro e w1 ⟨a1, c1, b1, rfl, hb1⟩; have E1 := Lib.hid (E.out.below hb1))
        | (with_reducible refine (rl_is t1 K _ (by omega) F.out.k1).mono ?_; rintro e w5 ⟨a2, c2, b2, rfl, hb5⟩; have E5 := Lib.hid (E4.out.below hb5); have B5 := Lib.hid (B4.out.trans (hb5.mono B4.out.size)))
        | (with_reducible refine (rl_is t4 K _ (by omega) F.out.k4).mono ?_; rintro e w7 ⟨a3, c3, b3, rfl, hb7⟩; have E7 := Lib.hid (E6.out.below hb7); have B7 := Lib.hid (B6.out.trans (hb7.mono B6.out.size))))
    | (go_at_call 9; first
        | (with_reducible refine (head_v s t1 _ q m w1 E1.out HS.out F.out.h1 (by omega)).mono ?_; rintro e w2 ⟨rfl, hb2⟩; have E2 := Lib.hid (E1.out.below hb2); have B2 := Lib.hid (hb1.trans (hb2.mono hb1.size)))
        | (with_reducible refine (head_v s t5 _ (-q) m w7 E7.out HS.out F.out.h5 (by omega)).mono ?_; rintro e w8 ⟨rfl, hb8⟩; have E8 := Lib.hid (E7.out.below hb8); have B8 := Lib.hid (B7.out.trans (hb8.mono B7.out.size))))
    | (go_at_call 11; first
        | (with_reducible refine (tail_v s t2 _ (-q) m w2 E2.out HS.out F.out.h2 (by omega)).mono ?_; rintro e w3 ⟨rfl, hb3⟩; have E3 := Lib.hid (E2.out.below hb3); have B3 := Lib.hid (B2.out.trans (hb3.mono B2.out.size)))
        | (with_reducible refine (tail_v s t4 _ q m w5 E5.out HS.out F.out.h4 (by omega)).mono ?_; rintro e w6 ⟨rfl, hb6⟩; have E6 := Lib.hid (E5.out.below hb6); have B6 := Lib.hid (B5.out.trans (hb6.mono B5.out.size)))
        | (with_reducible refine (tail_v s t4 _ q m w8 E8.out HS.out F.out.h4 (by omega)).mono ?_; rintro e w9 ⟨rfl, hb9⟩; have E9 := Lib.hid (E8.out.below hb9); have B9 := Lib.hid (B8.out.trans (hb9.mono B8.out.size))))
    | (go_at_call 13; refine (from_v s t3 _ (q + 1) m _ E3.out HS.out (by omega) F.out.h3 (by omega)).mono ?_; rintro e w4 ⟨rfl, hb4⟩; have E4 := Lib.hid (E3.out.below hb4); have B4 := Lib.hid (B3.out.trans (hb4.mono B3.out.size)))
    | (go_at_call 8; refine (awake31 m _ (Lib.hid (E.out.below B9.out))).mono ?_; rintro e w10 ⟨rfl, hb10⟩))
  all_goals go_ret
  all_goals exact ⟨rfl, B9.out.trans (hb10.mono B9.out.size)⟩
theorem law_divide (s : ByteArray) (n m : Int) (w : World) (hE : Env m w) (hn : -9223372036854775808 ≤ n ∧ n ≤ 9223372036854775807) :
    Calls Tryd.prog 6 #[.string s, .int .i64 n] w fun e w' => e = .returned (.bool true) ∧ Below w.heap.size w w' := by
  have E := Lib.hid hE
  by_cases hs : s.size ≤ 300
  · obtain ⟨q, hq⟩ : ∃ q : Int, (0 ≤ n ∧ q = n) ∨ (n < 0 ∧ n = -1 - q) := by
      by_cases h : 0 ≤ n
      · exact ⟨n, .inl ⟨h, rfl⟩⟩
      · exact ⟨-1 - n, .inr ⟨by omega, by omega⟩⟩
    by_cases h1 : 4611686018427387904 ≤ q
    · exact divide_big s n q m w E hs hq h1 (by omega)
    · by_cases h2 : 0 < q
      · exact divide_mid s n q m w E hs hq h2 (by omega)
      · exact divide_zero s n m w E hs (by omega)
  · clear hn hE
    go_enter Tryd.func6, Tryd.ntmps6
    go_wp2_with (go_at_call 8; refine (awake31 m _ E).mono ?_; rintro e w7 ⟨rfl, hb7⟩)
    go_ret
    exact ⟨rfl, hb7⟩
end Go.Proofs.YtpakciceohgfhaaDoor
