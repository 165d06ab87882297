/- walks: the reference's words, Fields, field, key; the program's get (written by gen_pd.py) -/
import Derived.Test.YtbhdhcnbagjmcaaDoorPc
namespace Go.Proofs.YtbhdhcnbagjmcaaDoor
open Go.RowKit
open Jn
theorem pd_drop_end (s : ByteArray) : s.data.toList.drop s.size = [] := List.drop_eq_nil_of_le (Nat.le_refl _)
theorem pd_ex_one (s : ByteArray) (j : Nat) (h : j < s.size) : (s.extract j (j + 1)).data.toList = [s[j]] := by
  rw [ex_snoc s j j 1 (Nat.le_refl _) h, pc_drop s j h]; simp
theorem pd_ex_more (s : ByteArray) (k j : Nat) (hk : k ≤ j) (h : j < s.size) : (s.extract k (j + 1)).data.toList = (s.extract k j).data.toList ++ [s[j]] := by
  rw [ex_snoc s k j 1 hk h, pc_drop s j h]; simp
theorem pd_ex_ne (s : ByteArray) (k j : Nat) (hk : k < j) (h : j ≤ s.size) : (s.extract k j).data.toList ≠ [] := fun e => by
  have := congrArg List.length e
  simp at this; omega
/-- where words is: byte j, the words so far, where the word at hand begins -/
def WJ (s : ByteArray) (j : Nat) (f : Int) (L : List (List UInt8)) : Prop :=
  (j ≤ s.size ∧ f = -1 ∧ wdA [] s.data.toList = L ++ wdA [] (s.data.toList.drop j)) ∨ (∃ k : Nat, j ≤ s.size ∧ f = k ∧ k < j ∧ wdA [] s.data.toList = L ++ wdA (s.extract k j).data.toList (s.data.toList.drop j)) ∨ (j = s.size + 1 ∧ f = -1 ∧ wdA [] s.data.toList = L)
theorem WJ.len {s : ByteArray} {j : Nat} {f : Int} {L : List (List UInt8)} (h : WJ s j f L) : L.length ≤ s.size + 1 := by
  have := wdA_len s.data.toList []
  have hs : s.data.toList.length = s.size := by simp
  rcases h with ⟨-, -, h⟩ | ⟨k, -, -, -, h⟩ | ⟨-, -, h⟩
  · rw [h, List.length_append] at this; omega
  · rw [h, List.length_append] at this; omega
  · rw [h] at this; omega
theorem bl_true {c : UInt8} (h : ((c.toNat : Int) == 32) = true ∨ ((c.toNat : Int) == 9) = true) : isB c = true := by
  rw [isB_toNat]; unfold isR
  rcases h with h | h
  · have := beq_iff_eq.1 h; have : c.toNat = 32 := by omega
    rw [this]; rfl
  · have := beq_iff_eq.1 h; have : c.toNat = 9 := by omega
    rw [this]; rfl
theorem bl_false {c : UInt8} (h1 : ((c.toNat : Int) == 32) = false) (h2 : ((c.toNat : Int) == 9) = false) : isB c = false := by
  rw [isB_toNat]; unfold isR
  have := beq_eq_false_iff_ne.1 h1
  have := beq_eq_false_iff_ne.1 h2
  simp; omega
theorem bA_app (L : List (List UInt8)) (u : ByteArray) (l : List UInt8) (h : u.data.toList = l) : L.map bA ++ [u] = (L ++ [l]).map bA := by
  rw [← h, List.map_append, List.map_cons, List.map_nil, bA_data]
set_option maxRecDepth 100000 in
set_option maxHeartbeats 1000000 in
theorem rwords_any (s : ByteArray) (w : World) (hs : s.size ≤ 1048576) :
    Calls Tryd.prog 26 #[.string s] w fun e w' => ∃ v, e = .returned v ∧ Hid (OwnS w' w.heap.size v ((wdA [] s.data.toList).map bA)) ∧ Hid (Below w.heap.size w w') := by
  go_enter Tryd.func26, Tryd.ntmps26
  go_wp2_with fail
  go_loopw [3, 4, 5] (fun v g i wr => ∃ (j : Nat) (f : Int) (L : List (List UInt8)), i = .int .i64 j ∧ g = .int .i64 f ∧ Hid (WJ s j f L) ∧ Hid (OwnS wr w.heap.size v (L.map bA)) ∧ Hid (Below w.heap.size w wr)) (fun _ _ i _ => s.size + 2 - (intOf i).toNat)
  case atStart => exact ⟨0, -1, [], rfl, rfl, Lib.hid (.inl ⟨Nat.zero_le _, rfl, by simp⟩), Lib.hid (OwnS.none _ _), Lib.hid (Below.refl _ _)⟩
  case round =>
    obtain ⟨j, f, L, rfl, rfl, ST, OW, Br⟩ := hrel
    have LL : Hid ((L.map bA).length ≤ 1048577) := Lib.hid (by rw [List.length_map]; have := ST.out.len; omega)
    rcases ST.out with ⟨js, rfl, E⟩ | ⟨k, js, rfl, kj, E⟩ | ⟨rfl, rfl, E⟩
    · have E := Lib.hid E
      by_cases hlt : j < s.size
      · have tj : ((j : Int) == (s.size : Int)) = false := by rw [beq_eq_false_iff_ne]; omega
        have DR := Lib.hid (pc_drop s j hlt)
        cases h1 : ((s[j].toNat : Int) == 32)
        · cases h2 : ((s[j].toNat : Int) == 9)
          · skip
            have IB := Lib.hid (bl_false h1 h2)
            have ST2 : Hid (WJ s (j + 1) (j : Int) L) := Lib.hid (.inr (.inl ⟨j, hlt, rfl, Nat.lt_succ_self _, by rw [E.out, DR.out, wdA_no IB.out, pd_ex_one s j hlt]; rfl⟩))
            clear ST E DR IB js
            go_wp2_with (fail)
            go_roundw
            case rel => exact ⟨j + 1, (j : Int), L, by go_num, rfl, ST2, OW, Br⟩
            case measure => simp [intOf] <;> omega
          · skip
            have IB := Lib.hid (bl_true (.inr h2))
            have ST2 : Hid (WJ s (j + 1) (-1) L) := Lib.hid (.inl ⟨hlt, rfl, by rw [E.out, DR.out, wdA_sp IB.out]; simp⟩)
            clear ST E DR IB js
            go_wp2_with (fail)
            go_roundw
            case rel => exact ⟨j + 1, -1, L, by go_num, rfl, ST2, OW, Br⟩
            case measure => simp [intOf] <;> omega
        · skip
          have IB := Lib.hid (bl_true (.inl h1))
          have ST2 : Hid (WJ s (j + 1) (-1) L) := Lib.hid (.inl ⟨hlt, rfl, by rw [E.out, DR.out, wdA_sp IB.out]; simp⟩)
          clear ST E DR IB js
          go_wp2_with (fail)
          go_roundw
          case rel => exact ⟨j + 1, -1, L, by go_num, rfl, ST2, OW, Br⟩
          case measure => simp [intOf] <;> omega
      · obtain rfl : j = s.size := by omega
        have ST2 : Hid (WJ s (s.size + 1) (-1) L) := Lib.hid (.inr (.inr ⟨rfl, rfl, by rw [E.out, pd_drop_end]; simp [wdA]⟩))
        clear ST E js hlt
        go_wp2_with (fail)
        go_roundw
        case rel => exact ⟨s.size + 1, -1, L, by go_num, rfl, ST2, OW, Br⟩
        case measure => simp [intOf] <;> omega
    · have E := Lib.hid E
      by_cases hlt : j < s.size
      · have tj : ((j : Int) == (s.size : Int)) = false := by rw [beq_eq_false_iff_ne]; omega
        have DR := Lib.hid (pc_drop s j hlt)
        cases h1 : ((s[j].toNat : Int) == 32)
        · cases h2 : ((s[j].toNat : Int) == 9)
          · skip
            have IB := Lib.hid (bl_false h1 h2)
            have ST2 : Hid (WJ s (j + 1) (k : Int) L) := Lib.hid (.inr (.inl ⟨k, hlt, rfl, by omega, by rw [E.out, DR.out, wdA_no IB.out, pd_ex_more s k j (Nat.le_of_lt kj) hlt]⟩))
            clear ST E DR IB
            go_wp2_with (fail)
            go_roundw
            case rel => exact ⟨j + 1, (k : Int), L, by go_num, rfl, ST2, OW, Br⟩
            case measure => simp [intOf] <;> omega
          · skip
            have IB := Lib.hid (bl_true (.inr h2))
            obtain ⟨u, hu⟩ : ∃ u, s.extract k j = u := ⟨_, rfl⟩
            have ST2 : Hid (WJ s (j + 1) (-1) (L ++ [(s.extract k j).data.toList])) := Lib.hid (.inl ⟨hlt, rfl, by rw [E.out, DR.out, wdA_sp IB.out, if_neg (pd_ex_ne s k j kj js), List.append_assoc]⟩)
            have AP := Lib.hid (bA_app L u _ rfl)
            rw [hu] at ST2
            clear ST E DR IB
            go_wp2_with (first | (at_builtin; refine append_strs rfl _ _ rfl _ (L.map bA) u w.heap.size w _ OW.out Br.out Br.out.size LL.out rfl rfl ?_; intro v2 w2 own2 bel2) | go_in)
            go_roundw
            case rel => exact ⟨j + 1, -1, _, by go_num, rfl, ST2, Lib.hid (by rw [← AP.out]; exact own2.out), bel2⟩
            case measure => simp [intOf] <;> omega
        · skip
          have IB := Lib.hid (bl_true (.inl h1))
          obtain ⟨u, hu⟩ : ∃ u, s.extract k j = u := ⟨_, rfl⟩
          have ST2 : Hid (WJ s (j + 1) (-1) (L ++ [(s.extract k j).data.toList])) := Lib.hid (.inl ⟨hlt, rfl, by rw [E.out, DR.out, wdA_sp IB.out, if_neg (pd_ex_ne s k j kj js), List.append_assoc]⟩)
          have AP := Lib.hid (bA_app L u _ rfl)
          rw [hu] at ST2
          clear ST E DR IB
          go_wp2_with (first | (at_builtin; refine append_strs rfl _ _ rfl _ (L.map bA) u w.heap.size w _ OW.out Br.out Br.out.size LL.out rfl rfl ?_; intro v2 w2 own2 bel2) | go_in)
          go_roundw
          case rel => exact ⟨j + 1, -1, _, by go_num, rfl, ST2, Lib.hid (by rw [← AP.out]; exact own2.out), bel2⟩
          case measure => simp [intOf] <;> omega
      · obtain rfl : j = s.size := by omega
        obtain ⟨u, hu⟩ : ∃ u, s.extract k s.size = u := ⟨_, rfl⟩
        have ST2 : Hid (WJ s (s.size + 1) (-1) (L ++ [(s.extract k s.size).data.toList])) := Lib.hid (.inr (.inr ⟨rfl, rfl, by rw [E.out, pd_drop_end]; simp only [wdA]; rw [if_neg (pd_ex_ne s k s.size kj js)]⟩))
        have AP := Lib.hid (bA_app L u _ rfl)
        rw [hu] at ST2
        clear ST E hlt
        go_wp2_with (first | (at_builtin; refine append_strs rfl _ _ rfl _ (L.map bA) u w.heap.size w _ OW.out Br.out Br.out.size LL.out rfl rfl ?_; intro v2 w2 own2 bel2) | go_in)
        go_roundw
        case rel => exact ⟨s.size + 1, -1, _, by go_num, rfl, ST2, Lib.hid (by rw [← AP.out]; exact own2.out), bel2⟩
        case measure => simp [intOf] <;> omega
    · subst E
      clear ST
      go_wp2_with (fail)
      go_ret
      exact ⟨_, rfl, OW, Br⟩
theorem OwnS.fr {w : World} {B : Nat} {v : Value} {L : List (List UInt8)} (h : OwnS w B v (L.map bA)) : FrL w B v L :=
  ⟨OwnS.strs h, fun g hg => h.lt g hg⟩
theorem u8_64 (c : UInt8) : wrap64 (c.toNat : Int) = (c.toNat : Int) := by have := c.toNat_lt; unfold wrap64; omega
theorem bt_sep {c : UInt8} {sep : Int} (h0 : 0 ≤ sep) (h1 : sep ≤ 255) : ((c.toNat : Int) == sep) = decide (c = UInt8.ofNat sep.toNat) := by
  rw [Bool.eq_iff_iff, beq_iff_eq, decide_eq_true_iff]
  constructor
  · intro h; apply UInt8.toNat_inj.1; rw [UInt8.toNat_ofNat']; omega
  · intro h; rw [h, UInt8.toNat_ofNat']; omega
theorem spA_len (b : UInt8) (l : List UInt8) : ∀ cur : List UInt8, (spA b cur l).length ≤ l.length + 1 := by
  induction l with
  | nil => intro cur; simp [spA]
  | cons c r ih =>
    intro cur
    by_cases h : c = b
    · subst h; rw [spA_hit]; have := ih []; simp only [List.length_cons]; omega
    · rw [spA_no h]; have := ih (cur ++ [c]); simp only [List.length_cons]; omega
/-- where Fields is: byte j, the fields so far, where the one at hand begins -/
structure FJ (b : UInt8) (s : ByteArray) (j k : Nat) (L : List (List UInt8)) : Prop where
  kj : k ≤ j
  js : j ≤ s.size
  eq : spA b [] s.data.toList = L ++ spA b (s.extract k j).data.toList (s.data.toList.drop j)
theorem FJ.len {b : UInt8} {s : ByteArray} {j k : Nat} {L : List (List UInt8)} (h : FJ b s j k L) : L.length ≤ s.size + 1 := by
  have := spA_len b s.data.toList []
  have hs : s.data.toList.length = s.size := by simp
  rw [h.eq, List.length_append] at this; omega
theorem pd_ex_nil (s : ByteArray) (j : Nat) : (s.extract j j).data.toList = [] := by simp
set_option maxRecDepth 100000 in
set_option maxHeartbeats 1000000 in
theorem rfields_any (s : ByteArray) (sep : Int) (w : World) (hs : s.size ≤ 1048576) :
    Calls Tryd.prog 10 #[.string s, .int .i64 sep] w fun e w' => ∃ v, e = .returned v ∧ Hid (FrL w' w.heap.size v (fieldsL sep s.data.toList)) ∧ Hid (Below w.heap.size w w') := by
  unfold fieldsL
  by_cases h1 : 0 ≤ sep
  · by_cases h2 : sep ≤ 255
    · rw [if_pos ⟨h1, h2⟩]
      obtain ⟨b, hb⟩ : ∃ b, UInt8.ofNat sep.toNat = b := ⟨_, rfl⟩
      have SB : Hid (∀ c : UInt8, ((c.toNat : Int) == sep) = decide (c = b)) := Lib.hid (fun c => by rw [← hb]; exact bt_sep h1 h2)
      rw [hb]
      clear hb
      go_enter Tryd.func10, Tryd.ntmps10
      go_wp2_with fail
      go_loopw [5, 6, 7] (fun v g i wr => ∃ (j k : Nat) (L : List (List UInt8)), i = .int .i64 j ∧ g = .int .i64 k ∧ k ≤ j ∧ j ≤ s.size ∧ Hid (FJ b s j k L) ∧ Hid (OwnS wr w.heap.size v (L.map bA)) ∧ Hid (Below w.heap.size w wr)) (fun _ _ i _ => s.size - (intOf i).toNat)
      case atStart => exact ⟨0, 0, [], rfl, rfl, Nat.le_refl _, Nat.zero_le _, Lib.hid ⟨Nat.le_refl _, Nat.zero_le _, by simp⟩, Lib.hid (OwnS.none _ _), Lib.hid (Below.refl _ _)⟩
      case round =>
        obtain ⟨j, k, L, rfl, rfl, kj, js, ST, OW, Br⟩ := hrel
        have LL : Hid ((L.map bA).length ≤ 1048577) := Lib.hid (by rw [List.length_map]; have := ST.out.len; omega)
        by_cases hlt : j < s.size
        · have DR := Lib.hid (pc_drop s j hlt)
          by_cases hx : s[j] = b
          · have t2 : (wrap64 (s[j].toNat : Int) == sep) = true := by rw [u8_64, SB.out]; exact decide_eq_true hx
            obtain ⟨u, hu⟩ : ∃ u, s.extract k j = u := ⟨_, rfl⟩
            have ST2 : Hid (FJ b s (j + 1) (j + 1) (L ++ [(s.extract k j).data.toList])) := Lib.hid ⟨Nat.le_refl _, hlt, by rw [ST.out.eq, DR.out, hx, spA_hit, pd_ex_nil, List.append_assoc]; rfl⟩
            have AP := Lib.hid (bA_app L u _ rfl)
            rw [hu] at ST2
            clear hx ST DR
            go_wp2_with (first | (at_builtin; refine append_strs rfl _ _ rfl _ (L.map bA) u w.heap.size w _ OW.out Br.out Br.out.size LL.out rfl rfl ?_; intro v2 w2 own2 bel2) | go_in)
            go_roundw
            case rel => exact ⟨j + 1, j + 1, _, by go_num, by go_num, Nat.le_refl _, hlt, ST2, Lib.hid (by rw [← AP.out]; exact own2.out), bel2⟩
            case measure => simp [intOf] <;> omega
          · have t2 : (wrap64 (s[j].toNat : Int) == sep) = false := by rw [u8_64, SB.out]; exact decide_eq_false hx
            have ST2 : Hid (FJ b s (j + 1) k L) := Lib.hid ⟨by omega, hlt, by rw [ST.out.eq, DR.out, spA_no hx, pd_ex_more s k j kj hlt]⟩
            clear hx ST DR
            go_wp2_with fail
            go_roundw
            case rel => exact ⟨j + 1, k, L, by go_num, rfl, by omega, hlt, ST2, OW, Br⟩
            case measure => simp [intOf] <;> omega
        · obtain rfl : j = s.size := by omega
          obtain ⟨u, hu⟩ : ∃ u, s.extract k s.size = u := ⟨_, rfl⟩
          have E : Hid (spA b [] s.data.toList = L ++ [u.data.toList]) := Lib.hid (by rw [ST.out.eq, pd_drop_end, hu]; simp [spA])
          have AP := Lib.hid (bA_app L u _ rfl)
          clear ST hlt
          go_wp2_with (first | (at_builtin; refine append_strs rfl _ _ rfl _ (L.map bA) u w.heap.size w _ OW.out Br.out Br.out.size LL.out rfl rfl ?_; intro v2 w2 own2 bel2) | go_in)
          go_ret
          exact ⟨_, rfl, Lib.hid (by rw [E.out]; exact OwnS.fr (by rw [← AP.out]; exact own2.out)), bel2⟩
    · rw [if_neg (fun h => h2 h.2)]
      have HS := Lib.hid hs
      go_enter Tryd.func10, Tryd.ntmps10
      go_wp2_with (go_at_call 26; refine (rwords_any s _ HS.out).mono ?_; rintro _ w1 ⟨v, rfl, F1, B1⟩)
      go_ret
      exact ⟨v, rfl, Lib.hid (OwnS.fr F1.out), B1⟩
  · rw [if_neg (fun h => h1 h.1)]
    have HS := Lib.hid hs
    go_enter Tryd.func10, Tryd.ntmps10
    go_wp2_with (go_at_call 26; refine (rwords_any s _ HS.out).mono ?_; rintro _ w1 ⟨v, rfl, F1, B1⟩)
    go_ret
    exact ⟨v, rfl, Lib.hid (OwnS.fr F1.out), B1⟩
end Go.Proofs.YtbhdhcnbagjmcaaDoor
