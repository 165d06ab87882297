/- walks: the reference's blank, special, skip, operator (written by gen_ka.py) -/
import Derived.Test.YtlhagpfpcdedpaaDoorHw
namespace Go.Proofs.YtlhagpfpcdedpaaDoor
open Go.RowKit
open Shp
namespace Shp
theorem tw_stop {p : UInt8 → Bool} : ∀ (l : List UInt8) {c : UInt8}, l[(l.takeWhile p).length]? = some c → p c = false
  | [], c, h => by simp at h
  | x :: l, c, h => by
    rw [List.takeWhile_cons] at h
    split at h
    · rw [List.length_cons, List.getElem?_cons_succ] at h
      exact tw_stop l h
    · rename_i hx
      rw [List.length_nil, List.getElem?_cons_zero] at h
      cases h
      simpa using hx
theorem nl_ge {s : ByteArray} {j : Nat} (h : s.size ≤ j) : nlF s j = j := by
  unfold nlF
  rw [List.drop_of_length_le (by exact h)]; rfl
theorem nl_at {s : ByteArray} {j : Nat} (h : at? s j = some 10) : nlF s j = j := by
  obtain ⟨hl, e⟩ := List.getElem?_eq_some_iff.1 h
  unfold nlF
  rw [List.drop_eq_getElem_cons hl, e, List.takeWhile_cons, if_neg (by decide)]; rfl
theorem nl_step {s : ByteArray} {j : Nat} {c : UInt8} (h : at? s j = some c) (hc : c ≠ 10) : nlF s j = nlF s (j + 1) := by
  obtain ⟨hl, e⟩ := List.getElem?_eq_some_iff.1 h
  unfold nlF
  rw [List.drop_eq_getElem_cons hl, e, List.takeWhile_cons, if_pos (by simpa using hc), List.length_cons]; omega
theorem nl_stop (s : ByteArray) (j : Nat) : sk1 s (nlF s j) = none := by
  unfold sk1
  cases hc : at? s (nlF s j) with
  | none => rfl
  | some c =>
    have : c = 10 := by
      have h2 : (s.data.toList.drop j)[((s.data.toList.drop j).takeWhile (· != 10)).length]? = some c := by rw [List.getElem?_drop]; exact hc
      simpa using tw_stop _ h2
    subst this
    rfl
end Shp
theorem rblank_any (c : UInt8) (v : Int) (hv : v = (c.toNat : Int)) (w : World) {r : Bool} (hr : Hid ((c == 32 || c == 9) = r)) :
    Calls Tryd.prog 70 #[.int .u8 v] w fun e w' => e = .returned (.bool r) ∧ w = w' := by
  subst hv
  by_cases h32 : c = 32
  · subst h32
    obtain rfl : r = true := hr.out.symm
    go_enter Tryd.func70, Tryd.ntmps70
    go_wp2_with fail
    go_ret
    exact ⟨rfl, rfl⟩
  by_cases h9 : c = 9
  · subst h9
    obtain rfl : r = true := hr.out.symm
    go_enter Tryd.func70, Tryd.ntmps70
    go_wp2_with fail
    go_ret
    exact ⟨rfl, rfl⟩
  obtain rfl : r = false := by rw [← hr.out]; simp [h32, h9]
  have t32 : ((c.toNat : Int) == 32) = false := by rw [beq_eq_false_iff_ne]; exact fun e => h32 (UInt8.toNat_inj.mp (by show _ = 32; omega))
  have t9 : ((c.toNat : Int) == 9) = false := by rw [beq_eq_false_iff_ne]; exact fun e => h9 (UInt8.toNat_inj.mp (by show _ = 9; omega))
  clear h32 h9
  go_enter Tryd.func70, Tryd.ntmps70
  go_wp2_with fail
  go_ret
  exact ⟨rfl, rfl⟩
set_option maxHeartbeats 4000000 in
theorem rspecial_any (c : UInt8) (v : Int) (hv : v = (c.toNat : Int)) (w : World) {r : Bool} (hr : Hid (spB c = r)) :
    Calls Tryd.prog 71 #[.int .u8 v] w fun e w' => e = .returned (.bool r) ∧ w = w' := by
  subst hv
  by_cases h32 : c = 32
  · subst h32
    obtain rfl : r = true := by rw [← hr.out]; rfl
    have RB : Hid (((32 : UInt8) == 32 || (32 : UInt8) == 9) = true) := Lib.hid rfl
    go_enter Tryd.func71, Tryd.ntmps71
    go_wp2_with (go_at_call 70; with_reducible refine (rblank_any 32 _ (by first | rfl | simp) _ RB).mono ?_; rintro _ _ ⟨rfl, rfl⟩)
    go_ret
    exact ⟨rfl, rfl⟩
  by_cases h9 : c = 9
  · subst h9
    obtain rfl : r = true := by rw [← hr.out]; rfl
    have RB : Hid (((9 : UInt8) == 32 || (9 : UInt8) == 9) = true) := Lib.hid rfl
    go_enter Tryd.func71, Tryd.ntmps71
    go_wp2_with (go_at_call 70; with_reducible refine (rblank_any 9 _ (by first | rfl | simp) _ RB).mono ?_; rintro _ _ ⟨rfl, rfl⟩)
    go_ret
    exact ⟨rfl, rfl⟩
  by_cases h10 : c = 10
  · subst h10
    obtain rfl : r = true := by rw [← hr.out]; rfl
    have RB : Hid (((10 : UInt8) == 32 || (10 : UInt8) == 9) = false) := Lib.hid rfl
    go_enter Tryd.func71, Tryd.ntmps71
    go_wp2_with (go_at_call 70; with_reducible refine (rblank_any 10 _ (by first | rfl | simp) _ RB).mono ?_; rintro _ _ ⟨rfl, rfl⟩)
    go_ret
    exact ⟨rfl, rfl⟩
  by_cases h124 : c = 124
  · subst h124
    obtain rfl : r = true := by rw [← hr.out]; rfl
    have RB : Hid (((124 : UInt8) == 32 || (124 : UInt8) == 9) = false) := Lib.hid rfl
    go_enter Tryd.func71, Tryd.ntmps71
    go_wp2_with (go_at_call 70; with_reducible refine (rblank_any 124 _ (by first | rfl | simp) _ RB).mono ?_; rintro _ _ ⟨rfl, rfl⟩)
    go_ret
    exact ⟨rfl, rfl⟩
  by_cases h59 : c = 59
  · subst h59
    obtain rfl : r = true := by rw [← hr.out]; rfl
    have RB : Hid (((59 : UInt8) == 32 || (59 : UInt8) == 9) = false) := Lib.hid rfl
    go_enter Tryd.func71, Tryd.ntmps71
    go_wp2_with (go_at_call 70; with_reducible refine (rblank_any 59 _ (by first | rfl | simp) _ RB).mono ?_; rintro _ _ ⟨rfl, rfl⟩)
    go_ret
    exact ⟨rfl, rfl⟩
  by_cases h38 : c = 38
  · subst h38
    obtain rfl : r = true := by rw [← hr.out]; rfl
    have RB : Hid (((38 : UInt8) == 32 || (38 : UInt8) == 9) = false) := Lib.hid rfl
    go_enter Tryd.func71, Tryd.ntmps71
    go_wp2_with (go_at_call 70; with_reducible refine (rblank_any 38 _ (by first | rfl | simp) _ RB).mono ?_; rintro _ _ ⟨rfl, rfl⟩)
    go_ret
    exact ⟨rfl, rfl⟩
  by_cases h60 : c = 60
  · subst h60
    obtain rfl : r = true := by rw [← hr.out]; rfl
    have RB : Hid (((60 : UInt8) == 32 || (60 : UInt8) == 9) = false) := Lib.hid rfl
    go_enter Tryd.func71, Tryd.ntmps71
    go_wp2_with (go_at_call 70; with_reducible refine (rblank_any 60 _ (by first | rfl | simp) _ RB).mono ?_; rintro _ _ ⟨rfl, rfl⟩)
    go_ret
    exact ⟨rfl, rfl⟩
  by_cases h62 : c = 62
  · subst h62
    obtain rfl : r = true := by rw [← hr.out]; rfl
    have RB : Hid (((62 : UInt8) == 32 || (62 : UInt8) == 9) = false) := Lib.hid rfl
    go_enter Tryd.func71, Tryd.ntmps71
    go_wp2_with (go_at_call 70; with_reducible refine (rblank_any 62 _ (by first | rfl | simp) _ RB).mono ?_; rintro _ _ ⟨rfl, rfl⟩)
    go_ret
    exact ⟨rfl, rfl⟩
  obtain rfl : r = false := by
    rw [← hr.out]
    unfold spB
    simp only [Bool.or_eq_false_iff, beq_eq_false_iff_ne]
    exact ⟨⟨⟨⟨⟨⟨⟨h32, h9⟩, h10⟩, h124⟩, h59⟩, h38⟩, h60⟩, h62⟩
  have RB : Hid ((c == 32 || c == 9) = false) := Lib.hid (by simp [h32, h9])
  have t32 : ((c.toNat : Int) == 32) = false := by rw [beq_eq_false_iff_ne]; exact fun e => h32 (UInt8.toNat_inj.mp (by show _ = 32; omega))
  have t9 : ((c.toNat : Int) == 9) = false := by rw [beq_eq_false_iff_ne]; exact fun e => h9 (UInt8.toNat_inj.mp (by show _ = 9; omega))
  have t10 : ((c.toNat : Int) == 10) = false := by rw [beq_eq_false_iff_ne]; exact fun e => h10 (UInt8.toNat_inj.mp (by show _ = 10; omega))
  have t124 : ((c.toNat : Int) == 124) = false := by rw [beq_eq_false_iff_ne]; exact fun e => h124 (UInt8.toNat_inj.mp (by show _ = 124; omega))
  have t59 : ((c.toNat : Int) == 59) = false := by rw [beq_eq_false_iff_ne]; exact fun e => h59 (UInt8.toNat_inj.mp (by show _ = 59; omega))
  have t38 : ((c.toNat : Int) == 38) = false := by rw [beq_eq_false_iff_ne]; exact fun e => h38 (UInt8.toNat_inj.mp (by show _ = 38; omega))
  have t60 : ((c.toNat : Int) == 60) = false := by rw [beq_eq_false_iff_ne]; exact fun e => h60 (UInt8.toNat_inj.mp (by show _ = 60; omega))
  have t62 : ((c.toNat : Int) == 62) = false := by rw [beq_eq_false_iff_ne]; exact fun e => h62 (UInt8.toNat_inj.mp (by show _ = 62; omega))
  clear h32 h9 h10 h124 h59 h38 h60 h62
  go_enter Tryd.func71, Tryd.ntmps71
  go_wp2_with (go_at_call 70; with_reducible refine (rblank_any c _ (by first | rfl | simp) _ RB).mono ?_; rintro _ _ ⟨rfl, rfl⟩)
  go_ret
  exact ⟨rfl, rfl⟩
set_option maxHeartbeats 4000000 in
theorem rskip_any (s : ByteArray) (a : Nat) (w : World) (hs : s.size ≤ 8192) (ha : a ≤ s.size) :
    Calls Tryd.prog 61 #[.string s, .int .i64 (a : Int)] w fun e w' => e = .returned (.int .i64 (skS s a : Nat)) ∧ w = w' := by
  go_enter Tryd.func61, Tryd.ntmps61
  go_wp2_with fail
  go_loopw [1] (fun i wr => ∃ j : Nat, j ≤ s.size ∧ i = .int .i64 j ∧ Hid (skS s j = skS s a) ∧ wr = w) (fun i _ => s.size - (intOf i).toNat)
  case atStart => exact ⟨a, ha, rfl, Lib.hid rfl, rfl⟩
  case round =>
    obtain ⟨j, js, rfl, SK, rfl⟩ := hrel
    by_cases hlt : j < s.size
    · obtain ⟨c, hc⟩ : ∃ c, s[j] = c := ⟨_, rfl⟩
      have AC : Hid (at? s j = some c) := Lib.hid (by rw [at_lt hlt, hc])
      by_cases hb : c = 32 ∨ c = 9
      · have RB : Hid ((c == 32 || c == 9) = true) := Lib.hid (by rcases hb with rfl | rfl <;> rfl)
        have ST : Hid (sk1 s j = some (j + 1)) := Lib.hid (by unfold sk1; rw [AC.out]; simp only; rw [if_pos hb])
        clear hb
        go_wp2_with (go_at_call 70; with_reducible refine (rblank_any c _ (by first | rfl | simp) _ RB).mono ?_; rintro _ _ ⟨rfl, rfl⟩)
        go_roundw
        case rel => exact ⟨j + 1, by omega, by go_num, Lib.hid (by rw [← SK.out]; exact (skS_step ST.out).symm), trivial⟩
        case measure => simp [intOf]; omega
      · have RB : Hid ((c == 32 || c == 9) = false) := Lib.hid (by simpa using hb)
        have NB := Lib.hid hb
        clear hb
        by_cases h92 : c = 92
        · subst h92
          by_cases hl2 : j + 1 < s.size
          · obtain ⟨d, hd⟩ : ∃ d, s[j + 1] = d := ⟨_, rfl⟩
            have AD : Hid (at? s (j + 1) = some d) := Lib.hid (by rw [at_lt hl2, hd])
            by_cases h10 : d = 10
            · subst h10
              have ST : Hid (sk1 s j = some (j + 2)) := Lib.hid (by unfold sk1; rw [AC.out]; simp only; rw [if_neg NB.out, if_pos ⟨trivial, AD.out⟩])
              go_wp2_with (go_at_call 70; with_reducible refine (rblank_any 92 _ (by first | rfl | simp) _ RB).mono ?_; rintro _ _ ⟨rfl, rfl⟩)
              go_roundw
              case rel => exact ⟨j + 2, by omega, by go_num, Lib.hid (by rw [← SK.out]; exact (skS_step ST.out).symm), trivial⟩
              case measure => simp [intOf]; omega
            · have t10 : ((d.toNat : Int) == 10) = false := by rw [beq_eq_false_iff_ne]; exact fun e => h10 (UInt8.toNat_inj.mp (by show _ = 10; omega))
              have ST : Hid (sk1 s j = none) := Lib.hid (by unfold sk1; rw [AC.out]; simp only; rw [if_neg NB.out, if_neg (fun h => h10 (Option.some.inj (AD.out.symm.trans h.2))), if_neg (by decide)])
              have RV : Hid (skS s a = j) := Lib.hid (by rw [← SK.out]; exact skS_none ST.out)
              clear h10
              go_wp2_with (go_at_call 70; with_reducible refine (rblank_any 92 _ (by first | rfl | simp) _ RB).mono ?_; rintro _ _ ⟨rfl, rfl⟩)
              go_ret
              exact ⟨by rw [RV.out]; rfl, rfl⟩
          · have ST : Hid (sk1 s j = none) := Lib.hid (by unfold sk1; rw [AC.out]; simp only; rw [if_neg NB.out, if_neg (fun h => by rw [at_ge (by omega)] at h; cases h.2), if_neg (by decide)])
            have RV : Hid (skS s a = j) := Lib.hid (by rw [← SK.out]; exact skS_none ST.out)
            go_wp2_with (go_at_call 70; with_reducible refine (rblank_any 92 _ (by first | rfl | simp) _ RB).mono ?_; rintro _ _ ⟨rfl, rfl⟩)
            go_ret
            exact ⟨by rw [RV.out]; rfl, rfl⟩
        · have t92 : ((c.toNat : Int) == 92) = false := by rw [beq_eq_false_iff_ne]; exact fun e => h92 (UInt8.toNat_inj.mp (by show _ = 92; omega))
          by_cases h35 : c = 35
          · subst h35
            have ST : Hid (sk1 s j = some (nlF s j)) := Lib.hid (by unfold sk1; rw [AC.out]; simp only; rw [if_neg NB.out, if_neg (fun h => h92 h.1), if_pos trivial])
            have RV : Hid (skS s a = nlF s j) := Lib.hid (by rw [← SK.out, skS_step ST.out, skS_none (nl_stop s j)])
            clear h92
            go_wp2_with (go_at_call 70; with_reducible refine (rblank_any 35 _ (by first | rfl | simp) _ RB).mono ?_; rintro _ _ ⟨rfl, rfl⟩)
            go_loopw [1] (fun i wx => ∃ k : Nat, k ≤ s.size ∧ i = .int .i64 k ∧ Hid (nlF s k = nlF s j) ∧ wx = wr) (fun i _ => s.size - (intOf i).toNat)
            case atStart => exact ⟨j, js, rfl, Lib.hid rfl, rfl⟩
            case round =>
              obtain ⟨k, ks, rfl, NK, rfl⟩ := hrel
              by_cases hkt : k < s.size
              · obtain ⟨d, hd⟩ : ∃ d, s[k] = d := ⟨_, rfl⟩
                have AD : Hid (at? s k = some d) := Lib.hid (by rw [at_lt hkt, hd])
                by_cases h10 : d = 10
                · subst h10
                  have RK : Hid (skS s a = k) := Lib.hid (by rw [RV.out, ← NK.out, nl_at AD.out])
                  go_wp2_with fail
                  go_ret
                  exact ⟨by rw [RK.out]; rfl, rfl⟩
                · have t10 : ((d.toNat : Int) == 10) = false := by rw [beq_eq_false_iff_ne]; exact fun e => h10 (UInt8.toNat_inj.mp (by show _ = 10; omega))
                  have t11 : ((d.toNat : Int) != 10) = true := by rw [bne, t10]; rfl
                  have SX : Hid (nlF s k = nlF s (k + 1)) := Lib.hid (nl_step AD.out h10)
                  clear h10
                  go_wp2_with fail
                  go_roundw
                  case rel => exact ⟨k + 1, by omega, by go_num, Lib.hid (by rw [← NK.out, SX.out]), trivial⟩
                  case measure => simp [intOf]; omega
              · have RK : Hid (skS s a = k) := Lib.hid (by rw [RV.out, ← NK.out, nl_ge (by omega)])
                go_wp2_with fail
                go_ret
                exact ⟨by rw [RK.out]; rfl, rfl⟩
          · have t35 : ((c.toNat : Int) == 35) = false := by rw [beq_eq_false_iff_ne]; exact fun e => h35 (UInt8.toNat_inj.mp (by show _ = 35; omega))
            have ST : Hid (sk1 s j = none) := Lib.hid (by unfold sk1; rw [AC.out]; simp only; rw [if_neg NB.out, if_neg (fun h => h92 h.1), if_neg h35])
            have RV : Hid (skS s a = j) := Lib.hid (by rw [← SK.out]; exact skS_none ST.out)
            clear h35 h92
            go_wp2_with (go_at_call 70; with_reducible refine (rblank_any c _ (by first | rfl | simp) _ RB).mono ?_; rintro _ _ ⟨rfl, rfl⟩)
            go_ret
            exact ⟨by rw [RV.out]; rfl, rfl⟩
    · have RV : Hid (skS s a = j) := Lib.hid (by rw [← SK.out]; exact skS_none (by unfold sk1; rw [at_ge (by omega)]))
      go_wp2_with fail
      go_ret
      exact ⟨by rw [RV.out]; rfl, rfl⟩
theorem ext_arr (s : ByteArray) (i j : Nat) : s.extract i j = ⟨((s.data.toList.drop i).take (j - i)).toArray⟩ := by
  have h := Lib.extract_data s i j
  generalize s.extract i j = t at h
  obtain ⟨⟨l⟩⟩ := t
  simp only at h
  rw [h]
theorem ext1 {s : ByteArray} {j : Nat} {c : UInt8} (_hj : j < s.size) (h : at? s j = some c) : s.extract j (j + 1) = ⟨#[c]⟩ := by
  rw [ext_arr, Nat.add_sub_cancel_left]
  unfold at? at h
  obtain ⟨hl, e⟩ := List.getElem?_eq_some_iff.1 h
  rw [List.drop_eq_getElem_cons hl, e]; rfl
theorem ext2 {s : ByteArray} {j : Nat} {c d : UInt8} (h : at? s j = some c) (h2 : at? s (j + 1) = some d) : s.extract j (j + 2) = ⟨#[c, d]⟩ := by
  rw [ext_arr, Nat.add_sub_cancel_left]
  unfold at? at h h2
  obtain ⟨hl, e⟩ := List.getElem?_eq_some_iff.1 h
  obtain ⟨hl2, e2⟩ := List.getElem?_eq_some_iff.1 h2
  rw [List.drop_eq_getElem_cons hl, e, List.drop_eq_getElem_cons hl2, e2]; rfl
def opS (s : ByteArray) (j : Nat) : ByteArray := ⟨((opT s j).getD []).toArray⟩
set_option maxHeartbeats 4000000 in
theorem roper_any (s : ByteArray) (j : Nat) (w : World) (hs : s.size ≤ 8192) (hlt : j < s.size) :
    Calls Tryd.prog 62 #[.string s, .int .i64 (j : Int)] w fun e w' => e = .returned (.string (opS s j)) ∧ w = w' := by
  unfold opS
  obtain ⟨c, hc⟩ : ∃ c, s[j] = c := ⟨_, rfl⟩
  have AC : Hid (at? s j = some c) := Lib.hid (by rw [at_lt hlt, hc])
  by_cases hl2 : j + 1 < s.size
  · obtain ⟨d, hd⟩ : ∃ d, s[j + 1] = d := ⟨_, rfl⟩
    have AD : Hid (at? s (j + 1) = some d) := Lib.hid (by rw [at_lt hl2, hd])
    clear hd
    obtain ⟨u, hu⟩ : ∃ u, s.extract j (j + 2) = u := ⟨_, rfl⟩
    have UD : Hid (u.toList = [c, d]) := Lib.hid (by rw [← hu, ext2 AC.out AD.out, Lib.toList_data])
    have EXX : Hid (s.extract j (j + 2) = ⟨#[c, d]⟩) := Lib.hid (ext2 AC.out AD.out)
    have u1 : (j : Int) + 2 ≤ (s.size : Int) := by omega
    by_cases e1 : c = 124 ∧ d = 124
    · obtain ⟨rfl, rfl⟩ := e1
      have q1 : (u.toList == [124, 124]) = true := by rw [UD.out]; rfl
      have OT : Hid (opT s j = some [124, 124]) := Lib.hid (by unfold opT; rw [AC.out, AD.out]; rfl)
      go_enter Tryd.func62, Tryd.ntmps62
      go_wp2_with fail
      go_ret
      exact ⟨by rw [EXX.out, OT.out]; rfl, rfl⟩
    have q1 : (u.toList == [124, 124]) = false := by rw [UD.out, beq_eq_false_iff_ne]; intro h; injection h with h1 h2; injection h2 with h2; exact e1 ⟨h1, h2⟩
    by_cases e2 : c = 38 ∧ d = 38
    · obtain ⟨rfl, rfl⟩ := e2
      have q2 : (u.toList == [38, 38]) = true := by rw [UD.out]; rfl
      have OT : Hid (opT s j = some [38, 38]) := Lib.hid (by unfold opT; rw [AC.out, AD.out]; rfl)
      clear e1
      go_enter Tryd.func62, Tryd.ntmps62
      go_wp2_with fail
      go_ret
      exact ⟨by rw [EXX.out, OT.out]; rfl, rfl⟩
    have q2 : (u.toList == [38, 38]) = false := by rw [UD.out, beq_eq_false_iff_ne]; intro h; injection h with h1 h2; injection h2 with h2; exact e2 ⟨h1, h2⟩
    by_cases e3 : c = 62 ∧ d = 62
    · obtain ⟨rfl, rfl⟩ := e3
      have q3 : (u.toList == [62, 62]) = true := by rw [UD.out]; rfl
      have OT : Hid (opT s j = some [62, 62]) := Lib.hid (by unfold opT; rw [AC.out, AD.out]; rfl)
      clear e1 e2
      go_enter Tryd.func62, Tryd.ntmps62
      go_wp2_with fail
      go_ret
      exact ⟨by rw [EXX.out, OT.out]; rfl, rfl⟩
    have q3 : (u.toList == [62, 62]) = false := by rw [UD.out, beq_eq_false_iff_ne]; intro h; injection h with h1 h2; injection h2 with h2; exact e3 ⟨h1, h2⟩
    have M1 : Hid (c = 124 → ¬ at? s (j + 1) = some 124) := Lib.hid (fun h h2 => e1 ⟨h, Option.some.inj (AD.out.symm.trans h2)⟩)
    have M2 : Hid (c = 38 → ¬ at? s (j + 1) = some 38) := Lib.hid (fun h h2 => e2 ⟨h, Option.some.inj (AD.out.symm.trans h2)⟩)
    have M3 : Hid (c = 62 → ¬ at? s (j + 1) = some 62) := Lib.hid (fun h h2 => e3 ⟨h, Option.some.inj (AD.out.symm.trans h2)⟩)
    clear e1 e2 e3
    by_cases h10 : c = 10
    · subst h10
      have OT : Hid (opT s j = some [10]) := Lib.hid (by unfold opT; rw [AC.out]; simp only; simp)
      have EX : Hid (s.extract j (j + 1) = ⟨#[10]⟩) := Lib.hid (ext1 hlt AC.out)
      go_enter Tryd.func62, Tryd.ntmps62
      go_wp2_with fail
      go_ret
      exact ⟨by rw [EX.out, OT.out]; rfl, rfl⟩
    by_cases h124 : c = 124
    · subst h124
      have OT : Hid (opT s j = some [124]) := Lib.hid (by unfold opT; rw [AC.out]; simp only; simp [M1.out rfl])
      have EX : Hid (s.extract j (j + 1) = ⟨#[124]⟩) := Lib.hid (ext1 hlt AC.out)
      go_enter Tryd.func62, Tryd.ntmps62
      go_wp2_with fail
      go_ret
      exact ⟨by rw [EX.out, OT.out]; rfl, rfl⟩
    by_cases h59 : c = 59
    · subst h59
      have OT : Hid (opT s j = some [59]) := Lib.hid (by unfold opT; rw [AC.out]; simp only; simp)
      have EX : Hid (s.extract j (j + 1) = ⟨#[59]⟩) := Lib.hid (ext1 hlt AC.out)
      go_enter Tryd.func62, Tryd.ntmps62
      go_wp2_with fail
      go_ret
      exact ⟨by rw [EX.out, OT.out]; rfl, rfl⟩
    by_cases h60 : c = 60
    · subst h60
      have OT : Hid (opT s j = some [60]) := Lib.hid (by unfold opT; rw [AC.out]; simp only; simp)
      have EX : Hid (s.extract j (j + 1) = ⟨#[60]⟩) := Lib.hid (ext1 hlt AC.out)
      go_enter Tryd.func62, Tryd.ntmps62
      go_wp2_with fail
      go_ret
      exact ⟨by rw [EX.out, OT.out]; rfl, rfl⟩
    by_cases h62 : c = 62
    · subst h62
      have OT : Hid (opT s j = some [62]) := Lib.hid (by unfold opT; rw [AC.out]; simp only; simp [M3.out rfl])
      have EX : Hid (s.extract j (j + 1) = ⟨#[62]⟩) := Lib.hid (ext1 hlt AC.out)
      go_enter Tryd.func62, Tryd.ntmps62
      go_wp2_with fail
      go_ret
      exact ⟨by rw [EX.out, OT.out]; rfl, rfl⟩
    have OT : Hid (opT s j = none) := Lib.hid (by
      unfold opT
      rw [AC.out]
      simp only
      rw [if_neg h10, if_neg h124, if_neg h59]
      by_cases h38 : c = 38
      · subst h38
        rw [if_pos rfl, if_neg (M2.out rfl)]
      · rw [if_neg h38, if_neg h60, if_neg h62])
    have t10 : ((c.toNat : Int) == 10) = false := by rw [beq_eq_false_iff_ne]; exact fun e => h10 (UInt8.toNat_inj.mp (by show _ = 10; omega))
    have t124 : ((c.toNat : Int) == 124) = false := by rw [beq_eq_false_iff_ne]; exact fun e => h124 (UInt8.toNat_inj.mp (by show _ = 124; omega))
    have t59 : ((c.toNat : Int) == 59) = false := by rw [beq_eq_false_iff_ne]; exact fun e => h59 (UInt8.toNat_inj.mp (by show _ = 59; omega))
    have t60 : ((c.toNat : Int) == 60) = false := by rw [beq_eq_false_iff_ne]; exact fun e => h60 (UInt8.toNat_inj.mp (by show _ = 60; omega))
    have t62 : ((c.toNat : Int) == 62) = false := by rw [beq_eq_false_iff_ne]; exact fun e => h62 (UInt8.toNat_inj.mp (by show _ = 62; omega))
    clear h10 h124 h59 h60 h62
    go_enter Tryd.func62, Tryd.ntmps62
    go_wp2_with fail
    go_ret
    exact ⟨by rw [OT.out]; rfl, rfl⟩
  · have hge : ∀ x : UInt8, ¬ at? s (j + 1) = some x := fun x h => by rw [at_ge (by omega)] at h; cases h
    have HG := Lib.hid hge
    clear hge
    have u1 : ¬ ((j : Int) + 2 ≤ (s.size : Int)) := by omega
    by_cases h10 : c = 10
    · subst h10
      have OT : Hid (opT s j = some [10]) := Lib.hid (by unfold opT; rw [AC.out]; simp only; simp)
      have EX : Hid (s.extract j (j + 1) = ⟨#[10]⟩) := Lib.hid (ext1 hlt AC.out)
      go_enter Tryd.func62, Tryd.ntmps62
      go_wp2_with fail
      go_ret
      exact ⟨by rw [EX.out, OT.out]; rfl, rfl⟩
    by_cases h124 : c = 124
    · subst h124
      have OT : Hid (opT s j = some [124]) := Lib.hid (by unfold opT; rw [AC.out]; simp only; simp [HG.out])
      have EX : Hid (s.extract j (j + 1) = ⟨#[124]⟩) := Lib.hid (ext1 hlt AC.out)
      go_enter Tryd.func62, Tryd.ntmps62
      go_wp2_with fail
      go_ret
      exact ⟨by rw [EX.out, OT.out]; rfl, rfl⟩
    by_cases h59 : c = 59
    · subst h59
      have OT : Hid (opT s j = some [59]) := Lib.hid (by unfold opT; rw [AC.out]; simp only; simp)
      have EX : Hid (s.extract j (j + 1) = ⟨#[59]⟩) := Lib.hid (ext1 hlt AC.out)
      go_enter Tryd.func62, Tryd.ntmps62
      go_wp2_with fail
      go_ret
      exact ⟨by rw [EX.out, OT.out]; rfl, rfl⟩
    by_cases h60 : c = 60
    · subst h60
      have OT : Hid (opT s j = some [60]) := Lib.hid (by unfold opT; rw [AC.out]; simp only; simp)
      have EX : Hid (s.extract j (j + 1) = ⟨#[60]⟩) := Lib.hid (ext1 hlt AC.out)
      go_enter Tryd.func62, Tryd.ntmps62
      go_wp2_with fail
      go_ret
      exact ⟨by rw [EX.out, OT.out]; rfl, rfl⟩
    by_cases h62 : c = 62
    · subst h62
      have OT : Hid (opT s j = some [62]) := Lib.hid (by unfold opT; rw [AC.out]; simp only; simp [HG.out])
      have EX : Hid (s.extract j (j + 1) = ⟨#[62]⟩) := Lib.hid (ext1 hlt AC.out)
      go_enter Tryd.func62, Tryd.ntmps62
      go_wp2_with fail
      go_ret
      exact ⟨by rw [EX.out, OT.out]; rfl, rfl⟩
    have OT : Hid (opT s j = none) := Lib.hid (by
      unfold opT
      rw [AC.out]
      simp only
      rw [if_neg h10, if_neg h124, if_neg h59]
      by_cases h38 : c = 38
      · subst h38
        rw [if_pos rfl, if_neg (HG.out _)]
      · rw [if_neg h38, if_neg h60, if_neg h62])
    have t10 : ((c.toNat : Int) == 10) = false := by rw [beq_eq_false_iff_ne]; exact fun e => h10 (UInt8.toNat_inj.mp (by show _ = 10; omega))
    have t124 : ((c.toNat : Int) == 124) = false := by rw [beq_eq_false_iff_ne]; exact fun e => h124 (UInt8.toNat_inj.mp (by show _ = 124; omega))
    have t59 : ((c.toNat : Int) == 59) = false := by rw [beq_eq_false_iff_ne]; exact fun e => h59 (UInt8.toNat_inj.mp (by show _ = 59; omega))
    have t60 : ((c.toNat : Int) == 60) = false := by rw [beq_eq_false_iff_ne]; exact fun e => h60 (UInt8.toNat_inj.mp (by show _ = 60; omega))
    have t62 : ((c.toNat : Int) == 62) = false := by rw [beq_eq_false_iff_ne]; exact fun e => h62 (UInt8.toNat_inj.mp (by show _ = 62; omega))
    clear h10 h124 h59 h60 h62
    go_enter Tryd.func62, Tryd.ntmps62
    go_wp2_with fail
    go_ret
    exact ⟨by rw [OT.out]; rfl, rfl⟩
end Go.Proofs.YtlhagpfpcdedpaaDoor
