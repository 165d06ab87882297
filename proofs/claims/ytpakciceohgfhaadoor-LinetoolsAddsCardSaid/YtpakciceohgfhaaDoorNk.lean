/- walks: the law that adds counts, and the numbered lines' lines -/
import Derived.Test.YtpakciceohgfhaaDoorNj
namespace Go.Proofs.YtpakciceohgfhaaDoor
open Go.RowKit
open Tx
theorem dd_nl : ∀ (k u : Nat), u ≤ k → (10 : UInt8) ∉ Lib.decDigits u := by
  have dig : ∀ d : Nat, d < 10 → (10 : UInt8) ≠ UInt8.ofNat (48 + d) := by
    intro d hd e
    have := congrArg UInt8.toNat e
    rw [UInt8.toNat_ofNat'] at this
    have h10 : (10 : UInt8).toNat = 10 := rfl
    omega
  intro k
  induction k with
  | zero =>
    intro u hu
    rw [Lib.decDigits, dif_pos (by omega)]
    simp only [List.mem_singleton]; exact dig u (by omega)
  | succ k ih =>
    intro u hu
    rw [Lib.decDigits]
    split
    · rename_i h; simp only [List.mem_singleton]; exact dig u h
    · rw [List.mem_append, not_or]
      exact ⟨ih (u / 10) (by omega), by simp only [List.mem_singleton]; exact dig (u % 10) (by omega)⟩
theorem itoa_nl (n : Int) : (10 : UInt8) ∉ Lib.itoa n := by
  unfold Lib.itoa
  split
  · simp only [List.mem_cons, not_or]
    exact ⟨by decide, dd_nl _ _ (Nat.le_refl _)⟩
  · exact dd_nl _ _ (Nat.le_refl _)
theorem numb_spl : ∀ (out : List (List UInt8)) (cur : List UInt8) (f : Int), (∀ x ∈ out, (10 : UInt8) ∉ x) → (10 : UInt8) ∉ cur →
    ∃ out' cur', spl (numb (out.map (· ++ [10]) ++ (if cur = [] then [] else [cur])) f) = out' ++ [cur'] ∧ out'.length = out.length ∧ (cur' = [] ↔ cur = []) := by
  intro out
  induction out with
  | nil =>
    intro cur f _ hc
    by_cases hz : cur = []
    · rw [if_pos hz]; exact ⟨[], [], rfl, rfl, by simp [hz]⟩
    · rw [if_neg hz]
      refine ⟨[], Lib.itoa f ++ (9 :: cur), ?_, rfl, by simp [hz]⟩
      have e : numb (([] : List (List UInt8)).map (· ++ [10]) ++ [cur]) f = Lib.itoa f ++ (9 :: cur) := by simp [numb]
      rw [e]
      exact spl_line0 _ (by simp only [List.mem_append, List.mem_cons, not_or]; exact ⟨itoa_nl f, by decide, hc⟩)
  | cons x o ih =>
    intro cur f ho hc
    obtain ⟨o', c', e1, e2, e3⟩ := ih cur (if f < 9223372036854775807 then f + 1 else f) (fun y hy => ho y (by simp [hy])) hc
    refine ⟨(Lib.itoa f ++ (9 :: x)) :: o', c', ?_, by simp [e2], e3⟩
    have e : numb ((x :: o).map (· ++ [10]) ++ (if cur = [] then [] else [cur])) f = (Lib.itoa f ++ (9 :: x)) ++ 10 :: numb (o.map (· ++ [10]) ++ (if cur = [] then [] else [cur])) (if f < 9223372036854775807 then f + 1 else f) := by
      simp [numb]
    rw [e, spl_step _ _ (by simp only [List.mem_append, List.mem_cons, not_or]; exact ⟨itoa_nl f, by decide, ho x (by simp)⟩), e1]
    rfl
theorem numb_facts (l : List UInt8) (f : Int) : (numb (lnk l) f).count 10 = l.count 10 ∧ (lin (numb (lnk l) f)).length = (lin l).length ∧ linE (numb (lnk l) f) = linE l := by
  obtain ⟨out, cur, e⟩ := spl_ex l
  obtain ⟨_, s2, s3, s4, _⟩ := spl_size l out cur e
  obtain ⟨o', c', e1, e2, e3⟩ := numb_spl out cur f s4 s3
  rw [← lnk_of e] at e1
  obtain ⟨_, q2, _, _, _⟩ := spl_size _ o' c' e1
  obtain ⟨f1, f2⟩ := lin_of e
  obtain ⟨g1, g2⟩ := lin_of e1
  refine ⟨by rw [← q2, e2, s2], ?_, ?_⟩
  · rw [f1, g1]
    by_cases hz : cur = []
    · rw [if_pos hz, if_pos (e3.2 hz), e2]
    · rw [if_neg hz, if_neg (fun h => hz (e3.1 h))]; simp [e2]
  · rw [f2, g2]
    by_cases hz : cur = []
    · rw [decide_eq_true hz, decide_eq_true (e3.2 hz)]
    · rw [decide_eq_false hz, decide_eq_false (fun h => hz (e3.1 h))]
theorem wgo_ne : ∀ (t cur cur' : List UInt8), cur ≠ [] → cur' ≠ [] → (wgo cur t).length = (wgo cur' t).length := by
  intro t
  induction t with
  | nil => intro cur cur' h h'; simp only [wgo]; rw [if_neg h, if_neg h']; rfl
  | cons c r ih =>
    intro cur cur' h h'
    cases hx : isSp c
    · rw [wgo_no _ _ _ hx, wgo_no _ _ _ hx]; exact ih _ _ (by simp) (by simp)
    · rw [wgo_sp _ _ _ hx, wgo_sp _ _ _ hx, if_neg h, if_neg h']; simp
theorem wgo_cur (t cur : List UInt8) : (wgo cur t).length ≤ (if cur = [] then 0 else 1) + (wgo [] t).length := by
  cases t with
  | nil => simp only [wgo]; split <;> simp
  | cons c r =>
    cases hx : isSp c
    · rw [wgo_no _ _ _ hx, wgo_no _ _ _ hx, wgo_ne r (cur ++ [c]) ([] ++ [c]) (by simp) (by simp)]; omega
    · rw [wgo_sp _ _ _ hx, wgo_sp _ _ _ hx, List.length_append]
      split <;> simp
theorem wgo_le : ∀ (s cur t : List UInt8), (wgo cur (s ++ t)).length ≤ (wgo cur s).length + (wgo [] t).length := by
  intro s
  induction s with
  | nil =>
    intro cur t
    have := wgo_cur t cur
    rw [List.nil_append]
    simp only [wgo]
    split
    · rename_i h; rw [if_pos h] at this; simpa using this
    · rename_i h; rw [if_neg h] at this; simpa using this
  | cons c r ih =>
    intro cur t
    cases hx : isSp c
    · rw [List.cons_append, wgo_no _ _ _ hx, wgo_no _ _ _ hx]; exact ih _ t
    · rw [List.cons_append, wgo_sp _ _ _ hx, wgo_sp _ _ _ hx, List.length_append, List.length_append]
      have := ih [] t; omega
theorem words_add (s t : List UInt8) : (wrds (s ++ t)).length ≤ (wrds s).length + (wrds t).length := wgo_le s [] t
theorem words_nl (s t : List UInt8) (h : s = [] ∨ ∃ r, s = r ++ [10]) : (wrds (s ++ t)).length = (wrds s).length + (wrds t).length := by
  rcases h with rfl | ⟨r, rfl⟩
  · show _ = 0 + _; simp
  · have e1 : r ++ [10] ++ t = r ++ 10 :: t := by simp
    have e2 : wrds (r ++ 10 :: t) = wgo [] r ++ wgo [] t := wgo_app 10 rfl r [] t
    have e3 : wrds (r ++ [10]) = wgo [] r ++ wgo [] [] := wgo_app 10 rfl r [] []
    rw [e1, e2, e3, List.length_append, List.length_append]
    show _ = _ + 0 + _; rfl
/-- what the law on adding knows -/
structure AddF (s t u : ByteArray) (a b d e y K : Nat) (z : Bool) : Prop where
  a1 : s.data.toList.count 10 = a
  b1 : (wrds s.data.toList).length = b
  d1 : t.data.toList.count 10 = d
  e1 : (wrds t.data.toList).length = e
  x1 : (s ++ t).data.toList.count 10 = a + d
  y1 : (wrds (s ++ t).data.toList).length = y
  le : y ≤ b + e
  eq : (s.data.toList = [] ∨ ∃ r, s.data.toList = r ++ [10]) → y = b + e
  u1 : u = ⟨(numb (lnk s.data.toList) 1).toArray⟩
  n1 : u.data.toList.count 10 = a
  k1 : (lin s.data.toList).length = K
  k2 : (lin u.data.toList).length = K
  z1 : linE s.data.toList = z
  z2 : linE u.data.toList = z
theorem wrds_len (s : ByteArray) : (wrds s.data.toList).length ≤ s.size + 1 := by
  have h1 := wgo_size s.data.toList []
  have h2 := full_ge (wrds s.data.toList)
  rw [← size_len] at h1
  unfold full at h2
  unfold wrds at *
  simp only [List.length_nil] at h1; omega
theorem AddF.mk' (s t : ByteArray) : ∃ u a b d e y K z, AddF s t u a b d e y K z := by
  obtain ⟨n1, n2, n3⟩ := numb_facts s.data.toList 1
  have e : (s ++ t).data.toList = s.data.toList ++ t.data.toList := by simp
  exact ⟨_, _, _, _, _, _, _, _, rfl, rfl, rfl, rfl, by rw [e, List.count_append], rfl, by rw [e]; exact words_add _ _, fun h => by rw [e]; exact words_nl _ _ h, rfl, n1, rfl, n2, rfl, n3⟩
theorem count_is3 (s : ByteArray) (a b c : Nat) (w : World) (hs : s.size ≤ 1048576) (ha : s.data.toList.count 10 = a) (hb : (wrds s.data.toList).length = b) (hc : s.size = c) :
    Calls Tryd.prog 15 #[.string s] w fun e w' => e = .returned (.tuple #[.int .i64 (a : Int), .int .i64 (b : Int), .int .i64 (c : Int)]) ∧ Below w.heap.size w w' := by rw [← hc]; exact count_is2 s a b w hs ha hb
theorem rl_is2 (s : ByteArray) (K : Nat) (z : Bool) (w : World) (hs : s.size ≤ 1048576) (hK : (lin s.data.toList).length = K) (hz : linE s.data.toList = z) :
    Calls Tryd.prog 19 #[.string s] w fun e w' => ∃ (a : Option Addr) (cap : Nat), e = .returned (.tuple #[.slice a K cap, .bool z]) ∧ Below w.heap.size w w' := by
  refine (rlines_any s w hs).mono fun e w' ⟨v, L, h1, h2, h3, h4⟩ => ?_
  obtain ⟨a, cap, rfl, _⟩ := h3.strs
  have := congrArg List.length h2
  rw [List.length_map, hK] at this
  exact ⟨a, cap, by rw [h1, this, hz], h4⟩
theorem numb_size (s : ByteArray) (hs : s.size ≤ 300) : (numb (lnk s.data.toList) 1).length ≤ 7201 := by
  obtain ⟨L, hL⟩ : ∃ L : List ByteArray, L.map (·.data.toList) = lnk s.data.toList := ⟨(lnk s.data.toList).map (fun l => ⟨l.toArray⟩), by rw [List.map_map]; exact List.map_id' _⟩
  have h1 := lnk_full hL (by rw [← size_len]; exact hs)
  have h2 := numb_len L 1 (by omega) (by omega)
  rw [hL] at h2; omega
set_option maxHeartbeats 4000000 in
set_option maxRecDepth 100000 in
theorem law_adds (s t : ByteArray) (m : Int) (w : World) (hE : Env m w) :
    Calls Tryd.prog 7 #[.string s, .string t] w fun e w' => e = .returned (.bool true) ∧ Below w.heap.size w w' := by
  have E := Lib.hid hE
  clear hE
  by_cases hs : s.size ≤ 300
  · by_cases ht : t.size ≤ 300
    · obtain ⟨u, a, b, d, f, y, K, z, D⟩ := AddF.mk' s t
      have F := Lib.hid D
      have le := D.le
      have ba : a ≤ s.size := by rw [← D.a1, size_len]; exact List.count_le_length
      have bd : d ≤ t.size := by rw [← D.d1, size_len]; exact List.count_le_length
      have bb : b ≤ s.size + 1 := by rw [← D.b1]; exact wrds_len s
      have bf : f ≤ t.size + 1 := by rw [← D.e1]; exact wrds_len t
      have U : Hid (u.size ≤ 1048576) := Lib.hid (by rw [D.u1]; have := numb_size s hs; show (numb (lnk s.data.toList) 1).length ≤ 1048576; omega)
      have ST : Hid ((s ++ t).size ≤ 1048576) := Lib.hid (by rw [ByteArray.size_append]; omega)
      obtain ⟨c3, hc3⟩ : ∃ c, (s ++ t).size = c := ⟨_, rfl⟩
      have sz : c3 = s.size + t.size := by rw [← hc3]; exact ByteArray.size_append
      have C3 := Lib.hid hc3
      clear hc3
      have HS := Lib.hid hs
      have EQ := D.eq
      clear D
      have sc : (s = ⟨#[]⟩ ∧ y = b + f) ∨ (∃ k, ∃ h : k < s.size, s.size = k + 1 ∧ s[k] = 10 ∧ y = b + f) ∨ (∃ k, ∃ h : k < s.size, s.size = k + 1 ∧ s[k] ≠ 10) := by
        by_cases h0 : s.data.toList = []
        · exact .inl ⟨str_ext h0, EQ (.inl h0)⟩
        · have hp : 0 < s.size := by rw [size_len]; exact List.length_pos_iff.2 h0
          have hk : s.size - 1 < s.size := by omega
          by_cases h10 : s[s.size - 1] = 10
          · refine .inr (.inl ⟨s.size - 1, hk, by omega, h10, EQ (.inr ⟨s.data.toList.take (s.size - 1), ?_⟩)⟩)
            have := take_snoc s (s.size - 1) hk
            rw [List.take_of_length_le (by rw [← size_len]; omega), h10] at this
            exact this
          · exact .inr (.inr ⟨s.size - 1, hk, by omega, h10⟩)
      clear EQ
      rcases sc with ⟨hs0, hy⟩ | ⟨k, hk, hk1, h10, hy⟩ | ⟨k, hk, hk1, h10⟩
      · have ne : (s.toList == []) = true := by rw [Lib.toList_data, hs0]; rfl
        have h0 : s.size = 0 := by rw [hs0]; rfl
        have HZ := Lib.hid h0
        rw [h0] at sz ba bb
        subst hy
        subst sz
        have slen : decide ((300 : Int) < (s.size : Int)) = false := decide_eq_false (by omega)
        clear hs0 h0
        go_enter Tryd.func7, Tryd.ntmps7
        go_wp2_with (first
          | (go_at_call 15; first
              | (with_reducible refine (count_is3 s a b 0 w (by omega) F.out.a1 F.out.b1 HZ.out).mono ?_; rintro e w1 ⟨rfl, hb1⟩; have B1 := Lib.hid hb1)
              | (with_reducible refine (count_is2 t d f w1 (by omega) F.out.d1 F.out.e1).mono ?_; rintro e w2 ⟨rfl, hb2⟩; have B2 := Lib.hid (B1.out.trans (hb2.mono B1.out.size)))
              | (with_reducible refine (count_is3 (s ++ t) _ _ _ w2 ST.out F.out.x1 F.out.y1 C3.out).mono ?_; rintro e w3 ⟨rfl, hb3⟩; have B3 := Lib.hid (B2.out.trans (hb3.mono B2.out.size)))
              | (with_reducible refine (count_is2 u a _ w4 U.out F.out.n1 rfl).mono ?_; rintro e w5 ⟨rfl, hb5⟩; have B5 := Lib.hid (B4.out.trans (hb5.mono B4.out.size))))
          | (go_at_call 17; first
              | (with_reducible refine (number_is s u 1 m w3 (E.out.below B3.out) HS.out (by omega) F.out.u1).mono ?_; rintro e w4 ⟨rfl, hb4⟩; have B4 := Lib.hid (B3.out.trans (hb4.mono B3.out.size)))
              | (with_reducible refine (number_is s u 1 m w6 (E.out.below B6.out) HS.out (by omega) F.out.u1).mono ?_; rintro e w7 ⟨rfl, hb7⟩; have B7 := Lib.hid (B6.out.trans (hb7.mono B6.out.size))))
          | (go_at_call 19; first
              | (with_reducible refine (rl_is2 s K z w5 (by have := HS.out; omega) F.out.k1 F.out.z1).mono ?_; rintro e w6 ⟨a1, c1, rfl, hb6⟩; have B6 := Lib.hid (B5.out.trans (hb6.mono B5.out.size)))
              | (with_reducible refine (rl_is2 u K z w7 U.out F.out.k2 F.out.z2).mono ?_; rintro e w8 ⟨a2, c2, rfl, hb8⟩; have B8 := Lib.hid (B7.out.trans (hb8.mono B7.out.size)))
              | (with_reducible refine (rl_is2 s K z w8 (by have := HS.out; omega) F.out.k1 F.out.z1).mono ?_; rintro e w9 ⟨a3, c3, rfl, hb9⟩; have B9 := Lib.hid (B8.out.trans (hb9.mono B8.out.size))))
          | (go_at_call 8; refine (awake31 m _ (Lib.hid (E.out.below B9.out))).mono ?_; rintro e w10 ⟨rfl, hb10⟩))
        go_ret
        exact ⟨rfl, B9.out.trans (hb10.mono B9.out.size)⟩
      · have t1 := (is_nl _).1 h10
        have t2 : ((s[k].toNat : Int) == 10) = true := by rw [t1]; rfl
        have ne : (s.toList == []) = false := by
          rw [Lib.toList_data, beq_eq_false_iff_ne]; intro x; rw [size_len, x] at hk; simp at hk
        subst hy
        rw [hk1] at sz
        subst sz
        clear h10 t1
        go_enter Tryd.func7, Tryd.ntmps7
        go_wp2_with (first
          | (go_at_call 15; first
              | (with_reducible refine (count_is2 s a b w (by omega) F.out.a1 F.out.b1).mono ?_; rintro e w1 ⟨rfl, hb1⟩; have B1 := Lib.hid hb1)
              | (with_reducible refine (count_is2 t d f w1 (by omega) F.out.d1 F.out.e1).mono ?_; rintro e w2 ⟨rfl, hb2⟩; have B2 := Lib.hid (B1.out.trans (hb2.mono B1.out.size)))
              | (with_reducible refine (count_is3 (s ++ t) _ _ _ w2 ST.out F.out.x1 F.out.y1 C3.out).mono ?_; rintro e w3 ⟨rfl, hb3⟩; have B3 := Lib.hid (B2.out.trans (hb3.mono B2.out.size)))
              | (with_reducible refine (count_is2 u a _ w4 U.out F.out.n1 rfl).mono ?_; rintro e w5 ⟨rfl, hb5⟩; have B5 := Lib.hid (B4.out.trans (hb5.mono B4.out.size))))
          | (go_at_call 17; first
              | (with_reducible refine (number_is s u 1 m w3 (E.out.below B3.out) HS.out (by omega) F.out.u1).mono ?_; rintro e w4 ⟨rfl, hb4⟩; have B4 := Lib.hid (B3.out.trans (hb4.mono B3.out.size)))
              | (with_reducible refine (number_is s u 1 m w6 (E.out.below B6.out) HS.out (by omega) F.out.u1).mono ?_; rintro e w7 ⟨rfl, hb7⟩; have B7 := Lib.hid (B6.out.trans (hb7.mono B6.out.size))))
          | (go_at_call 19; first
              | (with_reducible refine (rl_is2 s K z w5 (by have := HS.out; omega) F.out.k1 F.out.z1).mono ?_; rintro e w6 ⟨a1, c1, rfl, hb6⟩; have B6 := Lib.hid (B5.out.trans (hb6.mono B5.out.size)))
              | (with_reducible refine (rl_is2 u K z w7 U.out F.out.k2 F.out.z2).mono ?_; rintro e w8 ⟨a2, c2, rfl, hb8⟩; have B8 := Lib.hid (B7.out.trans (hb8.mono B7.out.size)))
              | (with_reducible refine (rl_is2 s K z w8 (by have := HS.out; omega) F.out.k1 F.out.z1).mono ?_; rintro e w9 ⟨a3, c3, rfl, hb9⟩; have B9 := Lib.hid (B8.out.trans (hb9.mono B8.out.size))))
          | (go_at_call 8; refine (awake31 m _ (Lib.hid (E.out.below B9.out))).mono ?_; rintro e w10 ⟨rfl, hb10⟩))
        go_ret
        exact ⟨rfl, B9.out.trans (hb10.mono B9.out.size)⟩
      · have t2 : ((s[k].toNat : Int) == 10) = false := by rw [beq_eq_false_iff_ne]; exact fun x => h10 ((is_nl _).2 x)
        have ne : (s.toList == []) = false := by
          rw [Lib.toList_data, beq_eq_false_iff_ne]; intro x; rw [size_len, x] at hk; simp at hk
        rw [hk1] at sz
        subst sz
        clear h10
        go_enter Tryd.func7, Tryd.ntmps7
        go_wp2_with (first
          | (go_at_call 15; first
              | (with_reducible refine (count_is2 s a b w (by omega) F.out.a1 F.out.b1).mono ?_; rintro e w1 ⟨rfl, hb1⟩; have B1 := Lib.hid hb1)
              | (with_reducible refine (count_is2 t d f w1 (by omega) F.out.d1 F.out.e1).mono ?_; rintro e w2 ⟨rfl, hb2⟩; have B2 := Lib.hid (B1.out.trans (hb2.mono B1.out.size)))
              | (with_reducible refine (count_is3 (s ++ t) _ _ _ w2 ST.out F.out.x1 F.out.y1 C3.out).mono ?_; rintro e w3 ⟨rfl, hb3⟩; have B3 := Lib.hid (B2.out.trans (hb3.mono B2.out.size)))
              | (with_reducible refine (count_is2 u a _ w4 U.out F.out.n1 rfl).mono ?_; rintro e w5 ⟨rfl, hb5⟩; have B5 := Lib.hid (B4.out.trans (hb5.mono B4.out.size))))
          | (go_at_call 17; first
              | (with_reducible refine (number_is s u 1 m w3 (E.out.below B3.out) HS.out (by omega) F.out.u1).mono ?_; rintro e w4 ⟨rfl, hb4⟩; have B4 := Lib.hid (B3.out.trans (hb4.mono B3.out.size)))
              | (with_reducible refine (number_is s u 1 m w6 (E.out.below B6.out) HS.out (by omega) F.out.u1).mono ?_; rintro e w7 ⟨rfl, hb7⟩; have B7 := Lib.hid (B6.out.trans (hb7.mono B6.out.size))))
          | (go_at_call 19; first
              | (with_reducible refine (rl_is2 s K z w5 (by have := HS.out; omega) F.out.k1 F.out.z1).mono ?_; rintro e w6 ⟨a1, c1, rfl, hb6⟩; have B6 := Lib.hid (B5.out.trans (hb6.mono B5.out.size)))
              | (with_reducible refine (rl_is2 u K z w7 U.out F.out.k2 F.out.z2).mono ?_; rintro e w8 ⟨a2, c2, rfl, hb8⟩; have B8 := Lib.hid (B7.out.trans (hb8.mono B7.out.size)))
              | (with_reducible refine (rl_is2 s K z w8 (by have := HS.out; omega) F.out.k1 F.out.z1).mono ?_; rintro e w9 ⟨a3, c3, rfl, hb9⟩; have B9 := Lib.hid (B8.out.trans (hb9.mono B8.out.size))))
          | (go_at_call 8; refine (awake31 m _ (Lib.hid (E.out.below B9.out))).mono ?_; rintro e w10 ⟨rfl, hb10⟩))
        go_ret
        exact ⟨rfl, B9.out.trans (hb10.mono B9.out.size)⟩
    · go_enter Tryd.func7, Tryd.ntmps7
      go_wp2_with (go_at_call 8; refine (awake31 m _ E).mono ?_; rintro e w7 ⟨rfl, hb7⟩)
      go_ret
      exact ⟨rfl, hb7⟩
  · go_enter Tryd.func7, Tryd.ntmps7
    go_wp2_with (go_at_call 8; refine (awake31 m _ E).mono ?_; rintro e w7 ⟨rfl, hb7⟩)
    go_ret
    exact ⟨rfl, hb7⟩
end Go.Proofs.YtpakciceohgfhaaDoor
