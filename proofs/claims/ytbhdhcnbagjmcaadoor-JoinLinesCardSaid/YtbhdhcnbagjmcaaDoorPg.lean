/- walks: others, both; Check's small functions (written by gen_pg.py) -/
import Derived.Test.YtbhdhcnbagjmcaaDoorPf
namespace Go.Proofs.YtbhdhcnbagjmcaaDoor
open Go.RowKit
open Jn Lcl
theorem othL_hit {n : Int} {i : Nat} {x : List UInt8} {r : List (List UInt8)} (h : (i : Int) + 1 = n) : othL n i (x :: r) = othL n (i + 1) r := if_pos h
theorem othL_no {n : Int} {i : Nat} {x : List UInt8} {r : List (List UInt8)} (h : ¬ (i : Int) + 1 = n) : othL n i (x :: r) = x :: othL n (i + 1) r := if_neg h
theorem othL_len (n : Int) : ∀ (l : List (List UInt8)) (i : Nat), (othL n i l).length ≤ l.length
  | [], _ => Nat.le_refl _
  | x :: r, i => by
    by_cases h : (i : Int) + 1 = n
    · rw [othL_hit h, List.length_cons]; have := othL_len n r (i + 1); omega
    · rw [othL_no h, List.length_cons, List.length_cons]; have := othL_len n r (i + 1); omega
theorem LSt.at_ {w : World} {v : Value} {L : List (List UInt8)} (h : LSt w v L) (hL : L ≠ []) : ∃ g o cap, v = .slice (some ⟨g, o, none⟩) L.length cap ∧ ∀ (j : Nat) x, L[j]? = some x → w.cell? ⟨g, o + j, none⟩ = some (.string (bA x)) := by
  obtain ⟨g, o, cap, rfl, -, -, -, hc⟩ := Strs.cons h (fun e => hL (List.map_eq_nil_iff.1 e))
  refine ⟨g, o, cap, by rw [List.length_map], fun j x hx => hc j _ (by rw [List.getElem?_map, hx]; rfl)⟩
theorem LSt.none_ {w : World} {v : Value} (h : LSt w v []) : ∃ a cap, v = .slice a 0 cap := by
  obtain ⟨a, cap, e, -⟩ := h; exact ⟨a, cap, e⟩
set_option maxRecDepth 100000 in
set_option maxHeartbeats 1000000 in
theorem others_any (L : List (List UInt8)) (v : Value) (n : Int) (w : World) (h : LSt w v L) (hn : 1 ≤ n ∧ n ≤ 1024) (hl : L.length ≤ 1048576) :
    Calls Tryd.prog 55 #[v, .int .i64 n] w fun e w' => ∃ v', e = .returned v' ∧ Hid (OwnS w' w.heap.size v' ((othL n 0 L).map bA)) ∧ Hid (Below w.heap.size w w') := by
  obtain ⟨n1, n2⟩ := hn
  by_cases h0 : L = []
  · subst h0
    obtain ⟨a, cap, rfl⟩ := LSt.none_ h
    clear h hl
    go_enter Tryd.func55, Tryd.ntmps55
    go_wp2_with fail
    go_loop [5, 10] (fun v i => v = .slice none 0 0 ∧ i = .int .i64 0) (fun _ _ => 0)
    case atStart => exact ⟨rfl, rfl⟩
    case round =>
      obtain ⟨rfl, rfl⟩ := hrel
      go_wp2_with fail
      go_ret
      exact ⟨_, rfl, Lib.hid (OwnS.none _ _), Lib.hid (Below.refl _ _)⟩
  · obtain ⟨g, o, cap, rfl, hc⟩ := LSt.at_ h h0
    obtain ⟨m, hm⟩ : ∃ m, L.length = m := ⟨_, rfl⟩
    have HM := Lib.hid hm
    have HC := Lib.hid hc
    rw [hm] at hl ⊢
    clear h h0 hc hm
    go_enter Tryd.func55, Tryd.ntmps55
    go_wp2_with fail
    go_loopw [5, 10] (fun v i wr => ∃ (j : Nat) (R : List (List UInt8)), j ≤ m ∧ i = .int .i64 j ∧ Hid (othL n 0 L = R ++ othL n j (L.drop j) ∧ R.length ≤ j) ∧ Hid (OwnS wr w.heap.size v (R.map bA)) ∧ Hid (Below w.heap.size w wr)) (fun _ i _ => m - (intOf i).toNat)
    case atStart => exact ⟨0, [], Nat.zero_le _, rfl, Lib.hid ⟨rfl, Nat.le_refl _⟩, Lib.hid (OwnS.none _ _), Lib.hid (Below.refl _ _)⟩
    case round =>
      obtain ⟨j, R, hj, rfl, HO, OW, Br⟩ := hrel
      by_cases hlt : j < m
      · obtain ⟨x, hx⟩ : ∃ x, L[j]? = some x := ⟨_, List.getElem?_eq_getElem (by rw [HM.out]; exact hlt)⟩
        have c0 := kp Br.out (HC.out j x hx)
        have LL : Hid ((R.map bA).length ≤ 1048577) := Lib.hid (by rw [List.length_map]; have := HO.out.2; omega)
        have DR := Lib.hid (drop_get hx)
        clear hx
        by_cases hn : (j : Int) + 1 = n
        · have t1 : ((j : Int) + 1 != n) = false := by rw [bne_eq_false_iff_eq]; omega
          have HO2 : Hid (othL n 0 L = R ++ othL n (j + 1) (L.drop (j + 1)) ∧ R.length ≤ j + 1) := Lib.hid ⟨by rw [HO.out.1, DR.out, othL_hit hn], by have := HO.out.2; omega⟩
          clear hn HO DR
          go_wp2_with fail
          go_roundw
          case rel => exact ⟨j + 1, R, by omega, by go_num, HO2, OW, Br⟩
          case measure => simp [intOf] <;> omega
        · have t1 : ((j : Int) + 1 != n) = true := by rw [bne_iff_ne]; omega
          have HO2 : Hid (othL n 0 L = (R ++ [x]) ++ othL n (j + 1) (L.drop (j + 1)) ∧ (R ++ [x]).length ≤ j + 1) := Lib.hid ⟨by rw [HO.out.1, DR.out, othL_no hn, List.append_assoc]; rfl, by have := HO.out.2; rw [List.length_append]; simp; exact this⟩
          clear hn HO DR
          go_wp2_with (first | (at_builtin; refine append_strs rfl _ _ rfl _ (R.map bA) (bA x) w.heap.size w _ OW.out Br.out Br.out.size LL.out rfl rfl ?_; intro v2 w2 own2 bel2) | go_in)
          go_roundw
          case rel => exact ⟨j + 1, R ++ [x], by omega, by go_num, HO2, Lib.hid (by rw [List.map_append]; exact own2.out), bel2⟩
          case measure => simp [intOf] <;> omega
      · have E : Hid (othL n 0 L = R) := Lib.hid (by rw [HO.out.1, List.drop_eq_nil_of_le (by rw [HM.out]; omega)]; simp [othL])
        clear HO
        go_wp2_with fail
        go_ret
        exact ⟨_, rfl, Lib.hid (by rw [E.out]; exact OW.out), Br⟩
set_option maxRecDepth 100000 in
set_option maxHeartbeats 1000000 in
theorem rothers_any (L : List (List UInt8)) (v : Value) (n : Int) (w : World) (h : LSt w v L) (hn : 1 ≤ n ∧ n ≤ 1024) (hl : L.length ≤ 1048576) :
    Calls Tryd.prog 57 #[v, .int .i64 n] w fun e w' => ∃ v', e = .returned v' ∧ Hid (OwnS w' w.heap.size v' ((othL n 0 L).map bA)) ∧ Hid (Below w.heap.size w w') := by
  obtain ⟨n1, n2⟩ := hn
  by_cases h0 : L = []
  · subst h0
    obtain ⟨a, cap, rfl⟩ := LSt.none_ h
    clear h hl
    go_enter Tryd.func57, Tryd.ntmps57
    go_wp2_with fail
    go_loop [5, 6] (fun v i => v = .slice none 0 0 ∧ i = .int .i64 0) (fun _ _ => 0)
    case atStart => exact ⟨rfl, rfl⟩
    case round =>
      obtain ⟨rfl, rfl⟩ := hrel
      go_wp2_with fail
      go_ret
      exact ⟨_, rfl, Lib.hid (OwnS.none _ _), Lib.hid (Below.refl _ _)⟩
  · obtain ⟨g, o, cap, rfl, hc⟩ := LSt.at_ h h0
    obtain ⟨m, hm⟩ : ∃ m, L.length = m := ⟨_, rfl⟩
    have HM := Lib.hid hm
    have HC := Lib.hid hc
    rw [hm] at hl ⊢
    clear h h0 hc hm
    go_enter Tryd.func57, Tryd.ntmps57
    go_wp2_with fail
    go_loopw [5, 6] (fun v i wr => ∃ (j : Nat) (R : List (List UInt8)), j ≤ m ∧ i = .int .i64 j ∧ Hid (othL n 0 L = R ++ othL n j (L.drop j) ∧ R.length ≤ j) ∧ Hid (OwnS wr w.heap.size v (R.map bA)) ∧ Hid (Below w.heap.size w wr)) (fun _ i _ => m - (intOf i).toNat)
    case atStart => exact ⟨0, [], Nat.zero_le _, rfl, Lib.hid ⟨rfl, Nat.le_refl _⟩, Lib.hid (OwnS.none _ _), Lib.hid (Below.refl _ _)⟩
    case round =>
      obtain ⟨j, R, hj, rfl, HO, OW, Br⟩ := hrel
      by_cases hlt : j < m
      · obtain ⟨x, hx⟩ : ∃ x, L[j]? = some x := ⟨_, List.getElem?_eq_getElem (by rw [HM.out]; exact hlt)⟩
        have c0 := kp Br.out (HC.out j x hx)
        have LL : Hid ((R.map bA).length ≤ 1048577) := Lib.hid (by rw [List.length_map]; have := HO.out.2; omega)
        have DR := Lib.hid (drop_get hx)
        clear hx
        by_cases hn : (j : Int) + 1 = n
        · have t1 : ((j : Int) != n - 1) = false := by rw [bne_eq_false_iff_eq]; omega
          have HO2 : Hid (othL n 0 L = R ++ othL n (j + 1) (L.drop (j + 1)) ∧ R.length ≤ j + 1) := Lib.hid ⟨by rw [HO.out.1, DR.out, othL_hit hn], by have := HO.out.2; omega⟩
          clear hn HO DR
          go_wp2_with fail
          go_roundw
          case rel => exact ⟨j + 1, R, by omega, by go_num, HO2, OW, Br⟩
          case measure => simp [intOf] <;> omega
        · have t1 : ((j : Int) != n - 1) = true := by rw [bne_iff_ne]; omega
          have HO2 : Hid (othL n 0 L = (R ++ [x]) ++ othL n (j + 1) (L.drop (j + 1)) ∧ (R ++ [x]).length ≤ j + 1) := Lib.hid ⟨by rw [HO.out.1, DR.out, othL_no hn, List.append_assoc]; rfl, by have := HO.out.2; rw [List.length_append]; simp; exact this⟩
          clear hn HO DR
          go_wp2_with (first | (at_builtin; refine append_strs rfl _ _ rfl _ (R.map bA) (bA x) w.heap.size w _ OW.out Br.out Br.out.size LL.out rfl rfl ?_; intro v2 w2 own2 bel2) | go_in)
          go_roundw
          case rel => exact ⟨j + 1, R ++ [x], by omega, by go_num, HO2, Lib.hid (by rw [List.map_append]; exact own2.out), bel2⟩
          case measure => simp [intOf] <;> omega
      · have E : Hid (othL n 0 L = R) := Lib.hid (by rw [HO.out.1, List.drop_eq_nil_of_le (by rw [HM.out]; omega)]; simp [othL])
        clear HO
        go_wp2_with fail
        go_ret
        exact ⟨_, rfl, Lib.hid (by rw [E.out]; exact OW.out), Br⟩
theorem fld_any (n : Int) (b : Bool) (w : World) (hb : Hid (fldB n = b)) : Calls Tryd.prog 32 #[.int .i64 n] w fun e w' => e = .returned (.bool b) ∧ w' = w := by
  have h := hb.out
  unfold fldB at h
  by_cases h1 : 1 ≤ n
  · by_cases h2 : n ≤ 1024
    · obtain rfl : b = true := by rw [← h, decide_eq_true h1, decide_eq_true h2]; rfl
      clear h hb
      go_enter Tryd.func32, Tryd.ntmps32
      go_wp2_with fail
      go_ret
      exact ⟨rfl, rfl⟩
    · obtain rfl : b = false := by rw [← h, decide_eq_false h2, Bool.and_false]
      clear h hb
      go_enter Tryd.func32, Tryd.ntmps32
      go_wp2_with fail
      go_ret
      exact ⟨rfl, rfl⟩
  · obtain rfl : b = false := by rw [← h, decide_eq_false h1, Bool.false_and]
    clear h hb
    go_enter Tryd.func32, Tryd.ntmps32
    go_wp2_with fail
    go_ret
    exact ⟨rfl, rfl⟩
theorem rfld_any (n : Int) (b : Bool) (w : World) (hb : Hid (fldB n = b)) : Calls Tryd.prog 34 #[.int .i64 n] w fun e w' => e = .returned (.bool b) ∧ w' = w := by
  have h := hb.out
  unfold fldB at h
  by_cases h1 : 1 ≤ n
  · by_cases h2 : n ≤ 1024
    · obtain rfl : b = true := by rw [← h, decide_eq_true h1, decide_eq_true h2]; rfl
      clear h hb
      go_enter Tryd.func34, Tryd.ntmps34
      go_wp2_with fail
      go_ret
      exact ⟨rfl, rfl⟩
    · obtain rfl : b = false := by rw [← h, decide_eq_false h2, Bool.and_false]
      clear h hb
      go_enter Tryd.func34, Tryd.ntmps34
      go_wp2_with fail
      go_ret
      exact ⟨rfl, rfl⟩
  · obtain rfl : b = false := by rw [← h, decide_eq_false h1, Bool.false_and]
    clear h hb
    go_enter Tryd.func34, Tryd.ntmps34
    go_wp2_with fail
    go_ret
    exact ⟨rfl, rfl⟩
theorem contains_is (s : ByteArray) (b : Bool) (w : World) (hb : Hid (decide ((10 : UInt8) ∈ s.data.toList) = b)) : Calls Tryd.prog 33 #[.string s, .string ⟨#[10]⟩] w fun e w' => e = .returned (.bool b) ∧ w' = w := by
  refine (Tryd.strings_Contains_one s 10 w).mono fun e w' ⟨h1, h2⟩ => ⟨?_, h2⟩
  rw [h1, ← hb.out]
  have key : (0 ≤ Lib.indexByte s.data.toList 10) ↔ (10 : UInt8) ∈ s.data.toList := by
    induction s.data.toList with
    | nil => simp [Lib.indexByte]
    | cons c l ih =>
      have hg := Lib.indexByte_ge l 10
      unfold Lib.indexByte
      by_cases hc : c = 10
      · subst hc; simp
      · have hc' : ¬ (10 : UInt8) = c := fun e => hc e.symm
        simp only [List.mem_cons, hc', false_or, ← ih]
        simp [hc]
        split <;> omega
  rw [decide_eq_decide.2 key]
set_option maxRecDepth 100000 in
theorem has_any (s : ByteArray) (b : Bool) (w : World) (hs : s.size ≤ 9223372036854775806) (hb : Hid (decide ((10 : UInt8) ∈ s.data.toList) = b)) :
    Calls Tryd.prog 35 #[.string s, .int .u8 10] w fun e w' => e = .returned (.bool b) ∧ w' = w := by
  go_enter Tryd.func35, Tryd.ntmps35
  go_wp2_with fail
  go_loop [5] (fun i => ∃ j : Nat, i = .int .i64 j ∧ j ≤ s.size ∧ Hid (decide ((10 : UInt8) ∈ s.data.toList.drop j) = b)) (fun i => s.size - (intOf i).toNat)
  case atStart => exact ⟨0, rfl, Nat.zero_le _, hb⟩
  case round =>
    obtain ⟨j, rfl, hj, HB⟩ := hrel
    clear hb
    by_cases hlt : j < s.size
    · have DR := Lib.hid (pc_drop s j hlt)
      cases h1 : ((s[j].toNat : Int) == 10)
      · have HB2 : Hid (decide ((10 : UInt8) ∈ s.data.toList.drop (j + 1)) = b) := Lib.hid (by
          rw [← HB.out, DR.out]
          have hne : ¬ (10 : UInt8) = s[j] := fun e => by rw [← e] at h1; exact absurd h1 (by decide)
          simp only [List.mem_cons, hne, false_or])
        clear HB DR
        go_wp2_with fail
        go_round
        case rel => exact ⟨j + 1, by go_num, by omega, HB2⟩
        case measure => simp [intOf] <;> omega
      · obtain rfl : b = true := by
          rw [← HB.out, DR.out]
          have e : (10 : UInt8) = s[j] := UInt8.toNat_inj.1 (by have := beq_iff_eq.1 h1; show 10 = _; omega)
          rw [← e]; simp
        clear HB DR
        go_wp2_with fail
        go_ret
        exact ⟨rfl, rfl⟩
    · obtain rfl : b = false := by
        rw [← HB.out, List.drop_eq_nil_of_le (by show s.size ≤ j; omega)]; simp
      clear HB
      go_wp2_with fail
      go_ret
      exact ⟨rfl, rfl⟩
end Go.Proofs.YtbhdhcnbagjmcaaDoor
