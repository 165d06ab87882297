/- walks: the reference's single, double, part (written by gen_kb.py) -/
import Derived.Test.YtlhagpfpcdedpaaDoorKa
namespace Go.Proofs.YtlhagpfpcdedpaaDoor
open Go.RowKit
open Shp
/-- the two results for a part -/
def retP : Option (List UInt8 × Nat) → Value
  | some x => .tuple #[.string ⟨x.1.toArray⟩, .int .i64 x.2]
  | none => .tuple #[.string ⟨#[]⟩, .int .i64 (-1)]
theorem ext_snoc {s : ByteArray} {a k : Nat} {c : UInt8} (hk : a ≤ k) (h : at? s k = some c) : (s.data.toList.drop a).take (k + 1 - a) = (s.data.toList.drop a).take (k - a) ++ [c] := by
  rw [show k + 1 - a = k - a + 1 by omega, List.take_add_one, List.getElem?_drop, show a + (k - a) = k by omega]
  unfold at? at h
  rw [h]; rfl
set_option maxHeartbeats 4000000 in
theorem rsingle_any (s : ByteArray) (a : Nat) (w : World) (hs : s.size ≤ 8192) (ha : a < s.size) {r : Value} (hr : Hid (retP (quP s 39 a) = r)) :
    Calls Tryd.prog 79 #[.string s, .int .i64 (a : Int)] w fun e w' => e = .returned r ∧ w = w' := by
  go_enter Tryd.func79, Tryd.ntmps79
  go_wp2_with fail
  go_loopw [6] (fun i wr => ∃ k : Nat, a + 1 ≤ k ∧ k ≤ s.size ∧ i = .int .i64 k ∧ Hid (quS s 39 (k, (s.data.toList.drop (a + 1)).take (k - (a + 1))) = quS s 39 (a + 1, [])) ∧ wr = w) (fun i _ => s.size - (intOf i).toNat)
  case atStart => exact ⟨a + 1, Nat.le_refl _, ha, by go_num, Lib.hid (by rw [Nat.sub_self, List.take_zero]), rfl⟩
  case round =>
    obtain ⟨k, ak, ks, rfl, QK, rfl⟩ := hrel
    by_cases hlt : k < s.size
    · obtain ⟨c, hc⟩ : ∃ c, s[k] = c := ⟨_, rfl⟩
      have AC : Hid (at? s k = some c) := Lib.hid (by rw [at_lt hlt, hc])
      by_cases h39 : c = 39
      · subst h39
        have RV : Hid (r = .tuple #[.string (s.extract (a + 1) k), .int .i64 (k + 1 : Nat)]) := Lib.hid (by
          have e := quS_none (s := s) (q := 39) (x := (k, (s.data.toList.drop (a + 1)).take (k - (a + 1)))) (by unfold qu1; simp only [AC.out]; rw [if_pos trivial])
          rw [QK.out] at e
          rw [← hr.out]
          unfold quP
          rw [e, if_pos AC.out, ext_arr]; rfl)
        clear hr
        go_wp2_with fail
        go_ret2
        exact ⟨by rw [RV.out]; simp, rfl⟩
      · have t39 : ((c.toNat : Int) == 39) = false := by rw [beq_eq_false_iff_ne]; exact fun e => h39 (UInt8.toNat_inj.mp (by show _ = 39; omega))
        have ST : Hid (qu1 s 39 (k, (s.data.toList.drop (a + 1)).take (k - (a + 1))) = some (k + 1, (s.data.toList.drop (a + 1)).take (k + 1 - (a + 1)))) := Lib.hid (by
          unfold qu1
          simp only [AC.out]
          rw [if_neg h39, if_neg (fun h => absurd h.1 (by decide)), ext_snoc ak AC.out])
        clear h39
        go_wp2_with fail
        go_roundw
        case rel => exact ⟨k + 1, by omega, by omega, by go_num, Lib.hid (by rw [← QK.out]; exact (quS_step ST.out).symm), trivial⟩
        case measure => simp [intOf]; omega
    · have RV : Hid (r = .tuple #[.string ⟨#[]⟩, .int .i64 (-1)]) := Lib.hid (by
        have e := quS_none (s := s) (q := 39) (x := (k, (s.data.toList.drop (a + 1)).take (k - (a + 1)))) (by unfold qu1; simp only [at_ge (show s.size ≤ k by omega)])
        rw [QK.out] at e
        rw [← hr.out]
        unfold quP
        rw [e, if_neg (fun h => by rw [at_ge (by show s.size ≤ k; omega)] at h; cases h)]; rfl)
      clear hr
      go_wp2_with fail
      go_ret2
      exact ⟨by rw [RV.out]; rfl, rfl⟩
set_option maxRecDepth 100000 in
set_option maxHeartbeats 4000000 in
theorem rdouble_any (s : ByteArray) (a : Nat) (w : World) (hs : s.size ≤ 8192) (ha : a < s.size) {r : Value} (hr : Hid (retP (quP s 34 a) = r)) :
    Calls Tryd.prog 80 #[.string s, .int .i64 (a : Int)] w fun e w' => e = .returned r ∧ Hid (Below w.heap.size w w') := by
  go_enter Tryd.func80, Tryd.ntmps80
  have O0 : Hid (Own w w.heap.size (.slice none 0 0) []) := Lib.hid ⟨by simp [Lib.byteCells], .inl ⟨rfl, rfl⟩⟩
  go_wp2_with fail
  go_loopw [6, 7] (fun v i wr => ∃ (k : Nat) (l : List UInt8), a + 1 ≤ k ∧ k ≤ s.size ∧ i = .int .i64 k ∧ Hid (quS s 34 (k, l) = quS s 34 (a + 1, [])) ∧ Hid (l.length ≤ k) ∧ Hid (Own wr w.heap.size v l) ∧ Hid (Below w.heap.size w wr)) (fun _ i _ => s.size - (intOf i).toNat)
  case atStart => exact ⟨a + 1, [], Nat.le_refl _, ha, by go_num, Lib.hid rfl, Lib.hid (Nat.zero_le _), O0, Lib.hid (Below.refl _ _)⟩
  case round =>
    obtain ⟨k, l, ak, ks, rfl, QK, HL, OW, Br⟩ := hrel
    clear O0
    by_cases hlt : k < s.size
    · obtain ⟨c, hc⟩ : ∃ c, s[k] = c := ⟨_, rfl⟩
      have AC : Hid (at? s k = some c) := Lib.hid (by rw [at_lt hlt, hc])
      by_cases h34 : c = 34
      · subst h34
        have RV : Hid (r = .tuple #[.string ⟨l.toArray⟩, .int .i64 (k + 1 : Nat)]) := Lib.hid (by
          have e := quS_none (s := s) (q := 34) (x := (k, l)) (by unfold qu1; simp only [AC.out]; rw [if_pos trivial])
          rw [QK.out] at e
          rw [← hr.out]
          unfold quP
          rw [e, if_pos AC.out]; rfl)
        have CV := own_string OW.out
        clear hr
        go_wp2_with fail
        go_ret2
        exact ⟨by rw [RV.out]; simp, Br⟩
      · have t34 : ((c.toNat : Int) == 34) = false := by rw [beq_eq_false_iff_ne]; exact fun e => h34 (UInt8.toNat_inj.mp (by show _ = 34; omega))
        by_cases h92 : c = 92
        · subst h92
          by_cases hl2 : k + 1 < s.size
          · obtain ⟨d, hd⟩ : ∃ d, s[k + 1] = d := ⟨_, rfl⟩
            have AD : Hid (at? s (k + 1) = some d) := Lib.hid (by rw [at_lt hl2, hd])
            by_cases d92 : d = 92
            · subst d92
              have ST : Hid (qu1 s 34 (k, l) = some (k + 2, l ++ [92])) := Lib.hid (by unfold qu1; simp only [AC.out]; rw [if_neg (by decide), if_pos ⟨trivial, trivial⟩]; simp only [AD.out]; rw [if_pos (.inr trivial)])
              clear h34 hr
              go_wp2_with (at_builtin; refine append_byte rfl _ _ rfl _ l 92 _ rfl w.heap.size w _ OW.out Br.out Br.out.size (by have := HL.out; omega) rfl rfl ?_; intro v2 w2 own2 bel2)
              go_roundw
              case rel => exact ⟨k + 2, l ++ [92], by omega, by omega, by go_num, Lib.hid (by rw [← QK.out]; exact (quS_step ST.out).symm), Lib.hid (by rw [List.length_append, List.length_singleton]; have := HL.out; omega), own2, bel2⟩
              case measure => simp [intOf]; omega
            · by_cases d34 : d = 34
              · subst d34
                have ST : Hid (qu1 s 34 (k, l) = some (k + 2, l ++ [34])) := Lib.hid (by unfold qu1; simp only [AC.out]; rw [if_neg (by decide), if_pos ⟨trivial, trivial⟩]; simp only [AD.out]; rw [if_pos (.inl trivial)])
                clear h34 hr d92
                go_wp2_with (at_builtin; refine append_byte rfl _ _ rfl _ l 34 _ rfl w.heap.size w _ OW.out Br.out Br.out.size (by have := HL.out; omega) rfl rfl ?_; intro v2 w2 own2 bel2)
                go_roundw
                case rel => exact ⟨k + 2, l ++ [34], by omega, by omega, by go_num, Lib.hid (by rw [← QK.out]; exact (quS_step ST.out).symm), Lib.hid (by rw [List.length_append, List.length_singleton]; have := HL.out; omega), own2, bel2⟩
                case measure => simp [intOf]; omega
              · have u92 : ((d.toNat : Int) == 92) = false := by rw [beq_eq_false_iff_ne]; exact fun e => d92 (UInt8.toNat_inj.mp (by show _ = 92; omega))
                have u34 : ((d.toNat : Int) == 34) = false := by rw [beq_eq_false_iff_ne]; exact fun e => d34 (UInt8.toNat_inj.mp (by show _ = 34; omega))
                have ST : Hid (qu1 s 34 (k, l) = some (k + 1, l ++ [92])) := Lib.hid (by unfold qu1; simp only [AC.out]; rw [if_neg (by decide), if_pos ⟨trivial, trivial⟩]; simp only [AD.out]; rw [if_neg (not_or.mpr ⟨d34, d92⟩)])
                clear h34 hr d92 d34
                go_wp2_with (at_builtin; refine append_byte rfl _ _ rfl _ l 92 _ rfl w.heap.size w _ OW.out Br.out Br.out.size (by have := HL.out; omega) rfl rfl ?_; intro v2 w2 own2 bel2)
                go_roundw
                case rel => exact ⟨k + 1, l ++ [92], by omega, by omega, by go_num, Lib.hid (by rw [← QK.out]; exact (quS_step ST.out).symm), Lib.hid (by rw [List.length_append, List.length_singleton]; have := HL.out; omega), own2, bel2⟩
                case measure => simp [intOf]; omega
          · have ST : Hid (qu1 s 34 (k, l) = some (k + 1, l ++ [92])) := Lib.hid (by unfold qu1; simp only [AC.out]; rw [if_neg (by decide), if_pos ⟨trivial, trivial⟩, at_ge (by omega)])
            clear h34 hr
            go_wp2_with (at_builtin; refine append_byte rfl _ _ rfl _ l 92 _ rfl w.heap.size w _ OW.out Br.out Br.out.size (by have := HL.out; omega) rfl rfl ?_; intro v2 w2 own2 bel2)
            go_roundw
            case rel => exact ⟨k + 1, l ++ [92], by omega, by omega, by go_num, Lib.hid (by rw [← QK.out]; exact (quS_step ST.out).symm), Lib.hid (by rw [List.length_append, List.length_singleton]; have := HL.out; omega), own2, bel2⟩
            case measure => simp [intOf]; omega
        · have t92 : ((c.toNat : Int) == 92) = false := by rw [beq_eq_false_iff_ne]; exact fun e => h92 (UInt8.toNat_inj.mp (by show _ = 92; omega))
          have ST : Hid (qu1 s 34 (k, l) = some (k + 1, l ++ [c])) := Lib.hid (by unfold qu1; simp only [AC.out]; rw [if_neg h34, if_neg (fun h => h92 h.2)])
          clear h34 h92 hr
          go_wp2_with (at_builtin; refine append_byte rfl _ _ rfl _ l c _ rfl w.heap.size w _ OW.out Br.out Br.out.size (by have := HL.out; omega) rfl rfl ?_; intro v2 w2 own2 bel2)
          go_roundw
          case rel => exact ⟨k + 1, l ++ [c], by omega, by omega, by go_num, Lib.hid (by rw [← QK.out]; exact (quS_step ST.out).symm), Lib.hid (by rw [List.length_append, List.length_singleton]; have := HL.out; omega), own2, bel2⟩
          case measure => simp [intOf]; omega
    · have RV : Hid (r = .tuple #[.string ⟨#[]⟩, .int .i64 (-1)]) := Lib.hid (by
        have e := quS_none (s := s) (q := 34) (x := (k, l)) (by unfold qu1; simp only [at_ge (show s.size ≤ k by omega)])
        rw [QK.out] at e
        rw [← hr.out]
        unfold quP
        rw [e, if_neg (fun h => by rw [at_ge (by show s.size ≤ k; omega)] at h; cases h)]; rfl)
      clear hr
      go_wp2_with fail
      go_ret2
      exact ⟨by rw [RV.out]; rfl, Br⟩
set_option maxHeartbeats 4000000 in
theorem rpart_any (s : ByteArray) (j : Nat) (w : World) (hs : s.size ≤ 8192) (hlt : j < s.size) {r : Value} (hr : Hid (retP (Shp.part s j) = r)) :
    Calls Tryd.prog 72 #[.string s, .int .i64 (j : Int)] w fun e w' => e = .returned r ∧ Hid (Below w.heap.size w w') := by
  obtain ⟨c, hc⟩ : ∃ c, s[j] = c := ⟨_, rfl⟩
  have AC : Hid (at? s j = some c) := Lib.hid (by rw [at_lt hlt, hc])
  by_cases h39 : c = 39
  · subst h39
    cases hq : quP s 39 j with
    | none =>
      have RQ : Hid (retP (quP s 39 j) = .tuple #[.string ⟨#[]⟩, .int .i64 (-1)]) := Lib.hid (by rw [hq]; rfl)
      have PT : Hid (Shp.part s j = none) := Lib.hid (by rw [part_39 AC.out, hq])
      clear hq
      go_enter Tryd.func72, Tryd.ntmps72
      go_wp2_with (go_at_call 79; with_reducible refine (rsingle_any s j _ hs hlt RQ).mono ?_; rintro _ _ ⟨rfl, rfl⟩)
      go_ret2
      exact ⟨by rw [← hr.out, PT.out]; rfl, Lib.hid (Below.refl _ _)⟩
    | some x =>
      have RQ : Hid (retP (quP s 39 j) = .tuple #[.string ⟨x.1.toArray⟩, .int .i64 x.2]) := Lib.hid (by rw [hq]; rfl)
      have PT : Hid (Shp.part s j = some x) := Lib.hid (by rw [part_39 AC.out, hq])
      clear hq
      go_enter Tryd.func72, Tryd.ntmps72
      go_wp2_with (go_at_call 79; with_reducible refine (rsingle_any s j _ hs hlt RQ).mono ?_; rintro _ _ ⟨rfl, rfl⟩)
      go_ret2
      exact ⟨by rw [← hr.out, PT.out]; rfl, Lib.hid (Below.refl _ _)⟩
  have t39 : ((c.toNat : Int) == 39) = false := by rw [beq_eq_false_iff_ne]; exact fun e => h39 (UInt8.toNat_inj.mp (by show _ = 39; omega))
  by_cases h34 : c = 34
  · subst h34
    clear h39
    cases hq : quP s 34 j with
    | none =>
      have RQ : Hid (retP (quP s 34 j) = .tuple #[.string ⟨#[]⟩, .int .i64 (-1)]) := Lib.hid (by rw [hq]; rfl)
      have PT : Hid (Shp.part s j = none) := Lib.hid (by rw [part_34 AC.out, hq])
      clear hq
      go_enter Tryd.func72, Tryd.ntmps72
      go_wp2_with (go_at_call 80; with_reducible refine (rdouble_any s j _ hs hlt RQ).mono ?_; rintro _ w1 ⟨rfl, B1⟩)
      go_ret2
      exact ⟨by rw [← hr.out, PT.out]; rfl, B1⟩
    | some x =>
      have RQ : Hid (retP (quP s 34 j) = .tuple #[.string ⟨x.1.toArray⟩, .int .i64 x.2]) := Lib.hid (by rw [hq]; rfl)
      have PT : Hid (Shp.part s j = some x) := Lib.hid (by rw [part_34 AC.out, hq])
      clear hq
      go_enter Tryd.func72, Tryd.ntmps72
      go_wp2_with (go_at_call 80; with_reducible refine (rdouble_any s j _ hs hlt RQ).mono ?_; rintro _ w1 ⟨rfl, B1⟩)
      go_ret2
      exact ⟨by rw [← hr.out, PT.out]; rfl, B1⟩
  have t34 : ((c.toNat : Int) == 34) = false := by rw [beq_eq_false_iff_ne]; exact fun e => h34 (UInt8.toNat_inj.mp (by show _ = 34; omega))
  by_cases h92 : c = 92
  · subst h92
    by_cases hl2 : j + 1 < s.size
    · obtain ⟨d, hd⟩ : ∃ d, s[j + 1] = d := ⟨_, rfl⟩
      have AD : Hid (at? s (j + 1) = some d) := Lib.hid (by rw [at_lt hl2, hd])
      by_cases d10 : d = 10
      · subst d10
        have PT : Hid (Shp.part s j = some ([], j + 2)) := Lib.hid (by unfold Shp.part; simp only [AC.out, AD.out]; rw [if_neg (by decide), if_pos trivial, if_pos trivial])
        clear h39 h34
        go_enter Tryd.func72, Tryd.ntmps72
        go_wp2_with fail
        go_ret2
        exact ⟨by rw [← hr.out, PT.out]; show _ = Ending.returned (.tuple #[_, .int .i64 ((j + 2 : Nat) : Int)]); simp, Lib.hid (Below.refl _ _)⟩
      · have t10 : ((d.toNat : Int) == 10) = false := by rw [beq_eq_false_iff_ne]; exact fun e => d10 (UInt8.toNat_inj.mp (by show _ = 10; omega))
        have PT : Hid (Shp.part s j = some ([d], j + 2)) := Lib.hid (by unfold Shp.part; simp only [AC.out, AD.out]; rw [if_neg (by decide), if_pos trivial, if_neg d10])
        have EX : Hid (s.extract (j + 1) (j + 2) = ⟨#[d]⟩) := Lib.hid (ext1 hl2 AD.out)
        clear h39 h34 d10
        go_enter Tryd.func72, Tryd.ntmps72
        go_wp2_with fail
        go_ret2
        exact ⟨by rw [← hr.out, PT.out, EX.out]; show _ = Ending.returned (.tuple #[_, .int .i64 ((j + 2 : Nat) : Int)]); simp, Lib.hid (Below.refl _ _)⟩
    · have PT : Hid (Shp.part s j = none) := Lib.hid (by unfold Shp.part; simp only [AC.out]; rw [if_neg (by decide), if_pos trivial, at_ge (by omega)])
      clear h39 h34
      go_enter Tryd.func72, Tryd.ntmps72
      go_wp2_with fail
      go_ret2
      exact ⟨by rw [← hr.out, PT.out]; rfl, Lib.hid (Below.refl _ _)⟩
  · have t92 : ((c.toNat : Int) == 92) = false := by rw [beq_eq_false_iff_ne]; exact fun e => h92 (UInt8.toNat_inj.mp (by show _ = 92; omega))
    have PT : Hid (Shp.part s j = some ([c], j + 1)) := Lib.hid (by unfold Shp.part; simp only [AC.out]; rw [if_neg (not_or.mpr ⟨h39, h34⟩), if_neg h92])
    have EX : Hid (s.extract j (j + 1) = ⟨#[c]⟩) := Lib.hid (ext1 hlt AC.out)
    clear h39 h34 h92
    go_enter Tryd.func72, Tryd.ntmps72
    go_wp2_with fail
    go_ret2
    exact ⟨by rw [← hr.out, PT.out, EX.out]; show _ = Ending.returned (.tuple #[_, .int .i64 ((j + 1 : Nat) : Int)]); simp, Lib.hid (Below.refl _ _)⟩
end Go.Proofs.YtlhagpfpcdedpaaDoor
