/- walks: one escape sequence -/
import Derived.Test.YtbioflajonafdaaTa
import Derived.Test.YtbioflajonafdaaPb
namespace Go.Proofs.Ytbioflajonafdaa
open Go.RowKit
open Tx
theorem tx_str_eq (s : ByteArray) (l : List UInt8) : (s.toList == l) = decide (s.data.toList = l) := by
  rw [Lib.toList_data]; by_cases h : s.data.toList = l <;> simp [h]
theorem u8_back (x : UInt8) : ((x.toNat : Int).toNat.toUInt8) = x := by
  apply UInt8.toNat_inj.1
  have := x.toNat_lt
  simp [Nat.toUInt8]
theorem letter_is (x : UInt8) (k : Int) (w : World) (h : Lib.indexByte lettersL x = k) :
    Calls Try.prog 36 #[.string ⟨#[110, 116, 114, 97, 98, 102, 118]⟩, .int .u8 (x.toNat : Int)] w fun e w' => e = .returned (.int .i64 k) ∧ w = w' := by
  have := Try.strings_IndexByte ⟨#[110, 116, 114, 97, 98, 102, 118]⟩ (x.toNat : Int) w
  refine this.mono fun e w' ⟨h1, h2⟩ => ⟨?_, h2.symm⟩
  rw [h1, u8_back]
  show Ending.returned (.int .i64 (Lib.indexByte lettersL x)) = _
  rw [h]
theorem letter_at (c k : Int) (w : World) (h : Lib.indexByte lettersL c.toNat.toUInt8 = k) :
    Calls Try.prog 36 #[.string ⟨#[110, 116, 114, 97, 98, 102, 118]⟩, .int .u8 c] w fun e w' => e = .returned (.int .i64 k) ∧ w = w' := by
  refine (Try.strings_IndexByte ⟨#[110, 116, 114, 97, 98, 102, 118]⟩ c w).mono fun e w' ⟨h1, h2⟩ => ⟨?_, h2.symm⟩
  rw [h1]
  show Ending.returned (.int .i64 (Lib.indexByte lettersL c.toNat.toUInt8)) = _
  rw [h]
theorem let_no (x : UInt8) (h : letB x = 0) : Lib.indexByte lettersL x = -1 := by
  unfold letB at h
  by_cases h0 : x = 110
  · subst h0; cases h
  by_cases h1 : x = 116
  · subst h1; cases h
  by_cases h2 : x = 114
  · subst h2; cases h
  by_cases h3 : x = 97
  · subst h3; cases h
  by_cases h4 : x = 98
  · subst h4; cases h
  by_cases h5 : x = 102
  · subst h5; cases h
  by_cases h6 : x = 118
  · subst h6; cases h
  simp only [lettersL, Lib.indexByte, beq_eq_false_iff_ne.2 (Ne.symm h0), beq_eq_false_iff_ne.2 (Ne.symm h1), beq_eq_false_iff_ne.2 (Ne.symm h2), beq_eq_false_iff_ne.2 (Ne.symm h3), beq_eq_false_iff_ne.2 (Ne.symm h4), beq_eq_false_iff_ne.2 (Ne.symm h5), beq_eq_false_iff_ne.2 (Ne.symm h6)]
  rfl
theorem head_get (s : ByteArray) (h : 0 < s.size) : s.data.toList = s[0] :: s.data.toList.drop 1 := by
  have h' : 0 < s.data.toList.length := by rw [← size_len]; exact h
  have := List.drop_eq_getElem_cons h'
  rw [List.drop_zero] at this
  exact this
theorem let_cases (x : UInt8) (h : letB x ≠ 0) : (x = 110 ∧ letB x = 10) ∨ (x = 116 ∧ letB x = 9) ∨ (x = 114 ∧ letB x = 13) ∨ (x = 97 ∧ letB x = 7) ∨ (x = 98 ∧ letB x = 8) ∨ (x = 102 ∧ letB x = 12) ∨ (x = 118 ∧ letB x = 11) := by
  by_cases h0 : x = 110
  · subst h0; exact .inl ⟨rfl, rfl⟩
  by_cases h1 : x = 116
  · subst h1; exact .inr (.inl ⟨rfl, rfl⟩)
  by_cases h2 : x = 114
  · subst h2; exact .inr (.inr (.inl ⟨rfl, rfl⟩))
  by_cases h3 : x = 97
  · subst h3; exact .inr (.inr (.inr (.inl ⟨rfl, rfl⟩)))
  by_cases h4 : x = 98
  · subst h4; exact .inr (.inr (.inr (.inr (.inl ⟨rfl, rfl⟩))))
  by_cases h5 : x = 102
  · subst h5; exact .inr (.inr (.inr (.inr (.inr (.inl ⟨rfl, rfl⟩)))))
  by_cases h6 : x = 118
  · subst h6; exact .inr (.inr (.inr (.inr (.inr (.inr ⟨rfl, rfl⟩)))))
  exfalso; apply h; unfold letB
  rw [if_neg h0, if_neg h1, if_neg h2, if_neg h3, if_neg h4, if_neg h5, if_neg h6]
structure SeqF (s : ByteArray) (b n : Nat) (o : Bool) : Prop where
  v : seqV s.data.toList = b
  n : seqN s.data.toList = n
  o : seqO s.data.toList = o
theorem ret_bnb {a b c d : Int} {p q : Bool} (h : a = b) (h' : c = d) (h'' : p = q) : Ending.returned (.tuple #[.int .u8 a, .int .i64 c, .bool p]) = .returned (.tuple #[.int .u8 b, .int .i64 d, .bool q]) := by rw [h, h', h'']
theorem seq_let (s : ByteArray) (h : 0 < s.size) (b : Nat) (hb : (letB s[0]).toNat = b) (h0 : letB s[0] ≠ 0) : SeqF s b 1 true := by
  refine ⟨?_, ?_, ?_⟩
  all_goals rw [head_get s h]
  · simp only [seqV]; rw [if_pos h0, hb]
  · simp only [seqN]; rw [if_pos h0]
  · simp only [seqO]; rw [if_pos h0]
theorem seq_self (s : ByteArray) (h : 0 < s.size) (h0 : letB s[0] = 0) (hs : isSelf s[0] = true) : SeqF s s[0].toNat 1 true := by
  refine ⟨?_, ?_, ?_⟩
  all_goals rw [head_get s h]
  · simp only [seqV]; rw [if_neg (fun e => e h0), if_pos hs]
  · simp only [seqN]; rw [if_neg (fun e => e h0), if_pos hs]
  · simp only [seqO]; rw [if_neg (fun e => e h0), if_pos hs]
theorem seq_oct (s : ByteArray) (h : 0 < s.size) (h0 : letB s[0] = 0) (hs : isSelf s[0] = false) : SeqF s ((octGo 3 s.data.toList 0 0).1 % 256) (octGo 3 s.data.toList 0 0).2 (decide (0 < (octGo 3 s.data.toList 0 0).2) && decide ((octGo 3 s.data.toList 0 0).1 < 256)) := by
  have e := head_get s h
  refine ⟨?_, ?_, ?_⟩
  all_goals rw [e]
  · simp only [seqV]; rw [if_neg (fun e => e h0), hs]; rfl
  · simp only [seqN]; rw [if_neg (fun e => e h0), hs]; rfl
  · simp only [seqO]; rw [if_neg (fun e => e h0), hs]; rfl
/-- the loop over the octal digits -/
structure OcI (s : ByteArray) (k v : Nat) : Prop where
  eq : octGo (3 - k) (s.data.toList.drop k) v k = octGo 3 s.data.toList 0 0
  k3 : k ≤ 3
  ks : k ≤ s.size
  vb : v < 8 ^ k
theorem seqF_of {s : ByteArray} {y k : Nat} (F : SeqF s ((octGo 3 s.data.toList 0 0).1 % 256) (octGo 3 s.data.toList 0 0).2 (decide (0 < (octGo 3 s.data.toList 0 0).2) && decide ((octGo 3 s.data.toList 0 0).1 < 256))) (S : octGo 3 s.data.toList 0 0 = (y, k)) : SeqF s (y % 256) k (decide (0 < k) && decide (y < 256)) := by
  rw [S] at F; exact F
theorem OcI.start (s : ByteArray) : OcI s 0 0 := ⟨rfl, by omega, by omega, by decide⟩
theorem OcI.hit {s : ByteArray} {k v : Nat} (h : OcI s k v) (h3 : k < 3) (hs : k < s.size) (hc : oct s[k] = true) : OcI s (k + 1) (8 * v + (s[k].toNat - 48)) := by
  obtain ⟨e, _, _, hv⟩ := h
  have hd : s[k].toNat - 48 ≤ 7 := by simp [oct] at hc; omega
  refine ⟨?_, by omega, by omega, ?_⟩
  · rw [← e, show 3 - k = (3 - (k + 1)) + 1 from by omega, List.drop_eq_getElem_cons (show k < s.data.toList.length by rw [← size_len]; exact hs)]
    simp only [octGo]
    exact (if_pos (show oct s.data.toList[k] = true from hc)).symm
  · rw [Nat.pow_succ]; omega
theorem OcI.stop {s : ByteArray} {k v : Nat} (h : OcI s k v) (hn : k = 3 ∨ k = s.size ∨ ∃ hs : k < s.size, oct s[k] = false) : octGo 3 s.data.toList 0 0 = (v, k) := by
  obtain ⟨e, h3, _, _⟩ := h
  rw [← e]
  rcases hn with rfl | rfl | ⟨hs, hc⟩
  · rfl
  · rw [List.drop_eq_nil_of_le (by rw [← size_len]; exact Nat.le_refl _)]
    cases 3 - s.size <;> rfl
  · rw [List.drop_eq_getElem_cons (by rw [← size_len]; exact hs)]
    have hc' : oct s.data.toList[k] = false := hc
    cases hk : 3 - k with
    | zero => rfl
    | succ m => simp only [octGo]; rw [hc']; rfl
theorem SeqF.post {s : ByteArray} {b n : Nat} {o : Bool} (F : SeqF s b n o) : Ending.returned (.tuple #[.int .u8 (b : Int), .int .i64 (n : Int), .bool o]) = .returned (.tuple #[.int .u8 ((seqV s.data.toList : Nat) : Int), .int .i64 ((seqN s.data.toList : Nat) : Int), .bool (seqO s.data.toList)]) := by
  rw [F.v, F.n, F.o]
set_option maxHeartbeats 4000000 in
theorem sequence_any (s : ByteArray) (w : World) (hs : s.size ≤ 140737488351232) :
    Calls Try.prog 70 #[.string s] w fun e w' => e = .returned (.tuple #[.int .u8 ((seqV s.data.toList : Nat) : Int), .int .i64 ((seqN s.data.toList : Nat) : Int), .bool (seqO s.data.toList)]) ∧ w = w' := by
  by_cases h : 0 < s.size
  · have h' : decide ((0 : Int) < (s.size : Int)) = true := by rw [decide_eq_true_eq]; omega
    have hne : (s.toList == []) = false := by
      rw [tx_str_eq, decide_eq_false_iff_not]; intro e
      rw [size_len, e] at h; exact absurd h (by simp)
    obtain ⟨x, hx⟩ : ∃ x, s[0] = x := ⟨_, rfl⟩
    by_cases h0 : letB x = 0
    · have K := let_no x h0
      have k0 : decide ((0 : Int) ≤ -1) = false := by decide
      by_cases hself : isSelf x = true
      · have F := Lib.hid (hx ▸ seq_self s h (by rw [hx]; exact h0) (by rw [hx]; exact hself) : SeqF s x.toNat 1 true)
        have hc : (x.toNat : Int) = 92 ∨ (x.toNat : Int) = 34 ∨ (x.toNat : Int) = 47 := by
          unfold isSelf at hself
          simp only [Bool.or_eq_true, decide_eq_true_eq] at hself
          rcases hself with (rfl | rfl) | rfl
          · left; rfl
          · right; left; rfl
          · right; right; rfl
        clear K
        clear h0 hself
        rcases hc with hc | hc | hc
        all_goals
          go_enter Try.func70, Try.ntmps70
          go_wp2_with (go_at_call 36; (first | (with_reducible refine (letter_at 92 (-1) _ (by decide)).mono ?_) | (with_reducible refine (letter_at 34 (-1) _ (by decide)).mono ?_) | (with_reducible refine (letter_at 47 (-1) _ (by decide)).mono ?_)); rintro e w' ⟨rfl, rfl⟩)
          go_ret3
          refine ⟨Eq.trans ?_ F.out.post, rfl⟩
          first | rfl | (rw [hc]; rfl)
      · have hself' : isSelf x = false := by simpa using hself
        have F := Lib.hid (seq_oct s h (by rw [hx]; exact h0) (by rw [hx]; exact hself'))
        have n1 : ((x.toNat : Int) == 92) = false := by
          rw [beq_eq_false_iff_ne]; intro e
          have : x = 92 := UInt8.toNat_inj.1 (by have e2 : (92 : UInt8).toNat = 92 := rfl; omega)
          subst this; cases hself'
        have n2 : ((x.toNat : Int) == 34) = false := by
          rw [beq_eq_false_iff_ne]; intro e
          have : x = 34 := UInt8.toNat_inj.1 (by have e2 : (34 : UInt8).toNat = 34 := rfl; omega)
          subst this; cases hself'
        have n3 : ((x.toNat : Int) == 47) = false := by
          rw [beq_eq_false_iff_ne]; intro e
          have : x = 47 := UInt8.toNat_inj.1 (by have e2 : (47 : UInt8).toNat = 47 := rfl; omega)
          subst this; cases hself'
        have KK := Lib.hid K; clear K
        clear h0 hself hself'
        go_enter Try.func70, Try.ntmps70
        go_wp2_with (go_at_call 36; refine (letter_is x (-1) _ KK.out).mono ?_; rintro e w' ⟨rfl, rfl⟩)
        go_loop [6, 7] (fun v n => ∃ k x : Nat, v = .int .i64 x ∧ n = .int .i64 k ∧ OcI s k x) (fun _ n => 3 - (intOf n).toNat)
        case atStart => exact ⟨0, 0, rfl, rfl, OcI.start s⟩
        case round =>
          obtain ⟨k, y, rfl, rfl, I⟩ := hrel
          have k3 := I.k3
          have ks := I.ks
          have vk := Lib.hid I.vb
          have vb : y < 512 := by
            have h1 := I.vb
            have h2 : 8 ^ k ≤ 8 ^ 3 := Nat.pow_le_pow_right (by decide) k3
            have h3 : 8 ^ 3 = 512 := rfl
            omega
          by_cases g3 : k < 3
          · by_cases gs : k < s.size
            · by_cases ho : oct s[k] = true
              · have J := Lib.hid (I.hit g3 gs ho)
                have d1 : 48 ≤ s[k].toNat := by simp [oct] at ho; omega
                have d2 : s[k].toNat ≤ 55 := by simp [oct] at ho; omega
                have II := Lib.hid I; clear I ho
                go_wp2_with fail
                go_round
                case rel => exact ⟨k + 1, 8 * y + (s[k].toNat - 48), by go_num, by go_num, J.out⟩
                case measure => simp [intOf]; omega
              · have S := Lib.hid (I.stop (.inr (.inr ⟨gs, by simpa using ho⟩)))
                have hno : (decide (48 ≤ s[k].toNat) && decide (s[k].toNat ≤ 55)) = false := by simpa [oct] using ho
                clear ho
                by_cases d1 : 48 ≤ s[k].toNat
                · have d2 : ¬ s[k].toNat ≤ 55 := by intro e; rw [decide_eq_true d1, decide_eq_true e] at hno; cases hno
                  clear hno
                  have F2 := Lib.hid (seqF_of F.out S.out)
                  clear I
                  by_cases k0 : 0 < k
                  · by_cases y0 : y < 256
                    · go_wp2_with fail
                      go_ret3
                      refine ⟨Eq.trans (ret_bnb (by omega) rfl (by rw [decide_eq_true k0, Bool.true_and, decide_eq_decide]; omega)) F2.out.post, rfl⟩
                    · go_wp2_with fail
                      go_ret3
                      refine ⟨Eq.trans (ret_bnb (by omega) rfl (by rw [decide_eq_true k0, Bool.true_and, decide_eq_decide]; omega)) F2.out.post, rfl⟩
                  · have hk : k = 0 := by omega
                    subst hk
                    have hy : y = 0 := by have := vk.out; simpa using this
                    subst hy
                    rw [hx] at d1 d2
                    go_wp2_with fail
                    go_ret3
                    exact ⟨Eq.trans (ret_bnb rfl rfl rfl) F2.out.post, rfl⟩
                · clear hno
                  have F2 := Lib.hid (seqF_of F.out S.out)
                  clear I
                  by_cases k0 : 0 < k
                  · by_cases y0 : y < 256
                    · go_wp2_with fail
                      go_ret3
                      refine ⟨Eq.trans (ret_bnb (by omega) rfl (by rw [decide_eq_true k0, Bool.true_and, decide_eq_decide]; omega)) F2.out.post, rfl⟩
                    · go_wp2_with fail
                      go_ret3
                      refine ⟨Eq.trans (ret_bnb (by omega) rfl (by rw [decide_eq_true k0, Bool.true_and, decide_eq_decide]; omega)) F2.out.post, rfl⟩
                  · have hk : k = 0 := by omega
                    subst hk
                    have hy : y = 0 := by have := vk.out; simpa using this
                    subst hy
                    rw [hx] at d1
                    go_wp2_with fail
                    go_ret3
                    exact ⟨Eq.trans (ret_bnb rfl rfl rfl) F2.out.post, rfl⟩
            · have S := Lib.hid (I.stop (.inr (.inl (by omega))))
              have F2 := Lib.hid (seqF_of F.out S.out)
              clear I
              by_cases k0 : 0 < k
              · by_cases y0 : y < 256
                · go_wp2_with fail
                  go_ret3
                  refine ⟨Eq.trans (ret_bnb (by omega) rfl (by rw [decide_eq_true k0, Bool.true_and, decide_eq_decide]; omega)) F2.out.post, rfl⟩
                · go_wp2_with fail
                  go_ret3
                  refine ⟨Eq.trans (ret_bnb (by omega) rfl (by rw [decide_eq_true k0, Bool.true_and, decide_eq_decide]; omega)) F2.out.post, rfl⟩
              · have hk : k = 0 := by omega
                exfalso; omega
          · have S := Lib.hid (I.stop (.inl (by omega)))
            have hk3 : k = 3 := by omega
            subst hk3
            clear k3 g3
            have F2 := Lib.hid (seqF_of F.out S.out)
            clear I
            have k0 : 0 < 3 := by omega
            by_cases y0 : y < 256
            · go_wp2_with fail
              go_ret3
              refine ⟨Eq.trans (ret_bnb (by omega) rfl (by rw [decide_eq_true k0, Bool.true_and, decide_eq_decide]; omega)) F2.out.post, rfl⟩
            · go_wp2_with fail
              go_ret3
              refine ⟨Eq.trans (ret_bnb (by omega) rfl (by rw [decide_eq_true k0, Bool.true_and, decide_eq_decide]; omega)) F2.out.post, rfl⟩
    · rcases let_cases x h0 with ⟨rfl, hb⟩ | ⟨rfl, hb⟩ | ⟨rfl, hb⟩ | ⟨rfl, hb⟩ | ⟨rfl, hb⟩ | ⟨rfl, hb⟩ | ⟨rfl, hb⟩
      · have F := Lib.hid (seq_let s h 10 (by rw [hx]; rfl) (by rw [hx]; decide))
        clear h0 hb
        go_enter Try.func70, Try.ntmps70
        go_wp2_with (go_at_call 36; refine (letter_at 110 0 _ (by decide)).mono ?_; rintro e w' ⟨rfl, rfl⟩)
        go_ret3
        exact ⟨F.out.post, rfl⟩
      · have F := Lib.hid (seq_let s h 9 (by rw [hx]; rfl) (by rw [hx]; decide))
        clear h0 hb
        go_enter Try.func70, Try.ntmps70
        go_wp2_with (go_at_call 36; refine (letter_at 116 1 _ (by decide)).mono ?_; rintro e w' ⟨rfl, rfl⟩)
        go_ret3
        exact ⟨F.out.post, rfl⟩
      · have F := Lib.hid (seq_let s h 13 (by rw [hx]; rfl) (by rw [hx]; decide))
        clear h0 hb
        go_enter Try.func70, Try.ntmps70
        go_wp2_with (go_at_call 36; refine (letter_at 114 2 _ (by decide)).mono ?_; rintro e w' ⟨rfl, rfl⟩)
        go_ret3
        exact ⟨F.out.post, rfl⟩
      · have F := Lib.hid (seq_let s h 7 (by rw [hx]; rfl) (by rw [hx]; decide))
        clear h0 hb
        go_enter Try.func70, Try.ntmps70
        go_wp2_with (go_at_call 36; refine (letter_at 97 3 _ (by decide)).mono ?_; rintro e w' ⟨rfl, rfl⟩)
        go_ret3
        exact ⟨F.out.post, rfl⟩
      · have F := Lib.hid (seq_let s h 8 (by rw [hx]; rfl) (by rw [hx]; decide))
        clear h0 hb
        go_enter Try.func70, Try.ntmps70
        go_wp2_with (go_at_call 36; refine (letter_at 98 4 _ (by decide)).mono ?_; rintro e w' ⟨rfl, rfl⟩)
        go_ret3
        exact ⟨F.out.post, rfl⟩
      · have F := Lib.hid (seq_let s h 12 (by rw [hx]; rfl) (by rw [hx]; decide))
        clear h0 hb
        go_enter Try.func70, Try.ntmps70
        go_wp2_with (go_at_call 36; refine (letter_at 102 5 _ (by decide)).mono ?_; rintro e w' ⟨rfl, rfl⟩)
        go_ret3
        exact ⟨F.out.post, rfl⟩
      · have F := Lib.hid (seq_let s h 11 (by rw [hx]; rfl) (by rw [hx]; decide))
        clear h0 hb
        go_enter Try.func70, Try.ntmps70
        go_wp2_with (go_at_call 36; refine (letter_at 118 6 _ (by decide)).mono ?_; rintro e w' ⟨rfl, rfl⟩)
        go_ret3
        exact ⟨F.out.post, rfl⟩
  · obtain ⟨⟨l⟩⟩ := s
    have hl : l = [] := by
      cases l with
      | nil => rfl
      | cons c r => exfalso; apply h; show 0 < (c :: r).length; simp
    subst hl
    go_enter Try.func70, Try.ntmps70
    go_wp2
    go_ret3
    exact ⟨rfl, rfl⟩
end Go.Proofs.Ytbioflajonafdaa
