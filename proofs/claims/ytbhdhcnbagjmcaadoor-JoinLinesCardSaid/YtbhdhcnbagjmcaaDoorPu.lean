/- walks: the statement's own small functions: same, few, key, distinct (written by gen_pu.py) -/
import Derived.Test.YtbhdhcnbagjmcaaDoorPe
import Derived.Test.YtbhdhcnbagjmcaaDoorPl
import Derived.Test.YtbhdhcnbagjmcaaDoorPm
import Derived.Deep.QuietTactic
import Derived.BigQuiet
namespace Go.Proofs.YtbhdhcnbagjmcaaDoor
open Go.RowKit
open Jn Lcl
theorem str_ext {a b : ByteArray} (h : a.data.toList = b.data.toList) : a = b := by
  obtain ⟨⟨l⟩⟩ := a; obtain ⟨⟨r⟩⟩ := b; simp only at h; rw [h]
theorem strs_ne {a b : ByteArray} (h : a ≠ b) : (a.toList == b.toList) = false := by
  rw [Lib.toList_data, Lib.toList_data, beq_eq_false_iff_ne]; exact fun e => h (str_ext e)
theorem same_any (v1 v2 : Value) (L1 L2 : List ByteArray) (w : World) (h1 : Strs w v1 L1) (h2 : Strs w v2 L2) :
    Calls Tryd.prog 8 #[v1, v2] w fun e w' => e = .returned (.bool (decide (L1 = L2))) ∧ Below w.heap.size w w' := by
  have m1 := h1.len
  have m2 := h2.len
  unfold maxLen at m1 m2
  by_cases hl : L1.length = L2.length
  · by_cases h0 : L1 = []
    · subst h0
      obtain rfl : L2 = [] := List.eq_nil_of_length_eq_zero hl.symm
      obtain ⟨a, ca, rfl⟩ := h1.nil
      obtain ⟨b, cb, rfl⟩ := h2.nil
      clear h1 h2 m1 m2 hl
      go_enter Tryd.func8, Tryd.ntmps8
      go_wp2_with fail
      go_loop [5] (fun i => i = .int .i64 0) (fun _ => 0)
      case atStart => rfl
      case round =>
        subst hrel
        go_wp2_with fail
        go_ret
        exact ⟨rfl, Below.refl _ _⟩
    · obtain ⟨g1, o1, ca, rfl, _, _, hg1, hc1⟩ := h1.cons h0
      obtain ⟨g2, o2, cb, rfl, _, _, hg2, hc2⟩ := h2.cons (fun e => h0 (List.eq_nil_of_length_eq_zero (by rw [hl, e]; rfl)))
      rw [← hl]
      have HL := Lib.hid hl
      have C1 := Lib.hid hc1
      have C2 := Lib.hid hc2
      obtain ⟨n, hn⟩ : ∃ n, L1.length = n := ⟨_, rfl⟩
      have HN := Lib.hid hn
      rw [hn] at m1 ⊢
      rw [← hl, hn] at m2
      clear h1 h2 hc1 hc2 hl hn
      go_enter Tryd.func8, Tryd.ntmps8
      go_wp2_with fail
      go_loopw [5] (fun i wr => ∃ j : Nat, i = .int .i64 j ∧ j ≤ n ∧ Hid (L1.take j = L2.take j) ∧ Hid (Below w.heap.size w wr)) (fun i _ => n - (intOf i).toNat)
      case atStart => exact ⟨0, rfl, by omega, Lib.hid rfl, Lib.hid (Below.refl _ _)⟩
      case round =>
        obtain ⟨j, rfl, js, E, Br⟩ := hrel
        by_cases hlt : j < n
        · have x1 : j < L1.length := by have := HN.out; omega
          have x2 : j < L2.length := by have := HL.out; omega
          have k1 := (Br.out.cell (p := ⟨g1, o1 + j, none⟩) hg1).trans (C1.out j _ (List.getElem?_eq_getElem x1))
          have k2 := (Br.out.cell (p := ⟨g2, o2 + j, none⟩) hg2).trans (C2.out j _ (List.getElem?_eq_getElem x2))
          have T1 := Lib.hid (List.take_succ_eq_append_getElem x1)
          have T2 := Lib.hid (List.take_succ_eq_append_getElem x2)
          generalize L1[j] = a at k1 T1
          generalize L2[j] = b at k2 T2
          clear x1 x2
          by_cases hab : a = b
          · subst hab
            go_wp2_with fail
            go_quiet (fail)
            go_wp2_with fail
            go_roundw
            case rel => exact ⟨j + 1, by go_num, by omega, Lib.hid (by rw [T1.out, T2.out, E.out]), Lib.hid (Br.out.trans ((bel_drewN _ _).mono Br.out.size))⟩
            case measure => simp [intOf]; omega
          · have ne := strs_ne hab
            have NE : L1 ≠ L2 := fun e => hab (by
              have h := T1.out; rw [e, T2.out, List.append_cancel_left_eq] at h
              exact (List.cons.inj h).1.symm)
            have D := Lib.hid (decide_eq_false NE); clear hab NE
            go_wp2_with fail
            go_quiet (fail)
            go_wp2_with fail
            go_ret
            exact ⟨by rw [D.out]; rfl, Br.out.trans ((bel_drewN _ _).mono Br.out.size)⟩
        · have EE : L1 = L2 := by
            have h := E.out
            have h1 := HN.out
            have h2 := HL.out
            rw [List.take_of_length_le (by omega), List.take_of_length_le (by omega)] at h
            exact h
          have D := Lib.hid (decide_eq_true EE); clear EE
          go_wp2_with fail
          go_ret
          exact ⟨by rw [D.out]; rfl, Br.out⟩
  · have NE : L1 ≠ L2 := fun e => hl (by rw [e])
    obtain ⟨a, ca, rfl, _, _, _⟩ := h1
    obtain ⟨b, cb, rfl, _, _, _⟩ := h2
    have t : (((L1.length : Nat) : Int) != ((L2.length : Nat) : Int)) = true := by rw [bne_iff_ne]; omega
    go_enter Tryd.func8, Tryd.ntmps8
    go_wp2_with fail
    go_ret
    exact ⟨by rw [decide_eq_false NE]; rfl, Below.refl _ _⟩
/-- few: at most 12 lines of at most 60 bytes -/
def fewB (L : List ByteArray) : Bool := decide (L.length ≤ 12) && L.all fun x => decide (x.size ≤ 60)
theorem few_iff {L : List ByteArray} : fewB L = true ↔ L.length ≤ 12 ∧ ∀ x ∈ L, x.size ≤ 60 := by
  unfold fewB; simp
set_option maxRecDepth 100000 in
set_option maxHeartbeats 1000000 in
theorem few_any (L : List ByteArray) (v : Value) (b : Bool) (w : World) (h : Strs w v L) (hb : Hid (fewB L = b)) (hs : ∀ x ∈ L, x.size ≤ 9223372036854775807) :
    Calls Tryd.prog 17 #[v] w fun e w' => e = .returned (.bool b) ∧ w' = w := by
  by_cases h0 : L = []
  · subst h0
    obtain rfl : b = true := hb.out.symm.trans rfl
    obtain ⟨a, cap, rfl⟩ := h.nil
    clear h hs hb
    go_enter Tryd.func17, Tryd.ntmps17
    go_wp2_with fail
    go_loop [3] (fun i => i = .int .i64 0) (fun _ => 0)
    case atStart => rfl
    case round =>
      subst hrel
      go_wp2_with fail
      go_ret
      exact ⟨rfl, rfl⟩
  · have m1 := h.len
    unfold maxLen at m1
    obtain ⟨g, o, cap, rfl, -, -, -, hc⟩ := h.cons h0
    obtain ⟨n, hn⟩ : ∃ n, L.length = n := ⟨_, rfl⟩
    have HN := Lib.hid hn
    have HC := Lib.hid hc
    have HS := Lib.hid hs
    rw [hn] at m1 ⊢
    clear h hc hs hn
    go_enter Tryd.func17, Tryd.ntmps17
    go_wp2_with fail
    go_loop [3] (fun i => ∃ j : Nat, i = .int .i64 j ∧ j ≤ n ∧ j ≤ 12 ∧ Hid (∀ x ∈ L.take j, x.size ≤ 60)) (fun i => n - (intOf i).toNat)
    case atStart => exact ⟨0, rfl, Nat.zero_le _, Nat.zero_le _, Lib.hid (fun x hx => by simp at hx)⟩
    case round =>
      obtain ⟨j, rfl, hj, hj12, HA⟩ := hrel
      by_cases hlt : j < n
      · by_cases h12 : 12 ≤ j
        · obtain rfl : b = false := by
            rw [← hb.out, ← Bool.not_eq_true, few_iff]
            intro h; have := h.1; have := HN.out; omega
          have t : decide ((12 : Int) ≤ (j : Int)) = true := decide_eq_true (by omega)
          clear hb HA
          go_wp2_with fail
          go_ret
          exact ⟨rfl, rfl⟩
        · have t : decide ((12 : Int) ≤ (j : Int)) = false := decide_eq_false (by omega)
          have hx1 : j < L.length := by have := HN.out; omega
          obtain ⟨x, hx⟩ : ∃ x, L[j]? = some x := ⟨_, List.getElem?_eq_getElem hx1⟩
          have c0 := HC.out j x hx
          have sx := HS.out x (List.mem_of_getElem? hx)
          have TK : Hid (L.take (j + 1) = L.take j ++ [x]) := Lib.hid (by rw [List.take_add_one, hx]; rfl)
          have p0 : (0 : Int) ≤ (j : Int) := by omega
          have p1 : (j : Int) < (n : Int) := by omega
          have MX := Lib.hid (List.mem_of_getElem? hx)
          clear hx hx1
          by_cases h60 : x.size ≤ 60
          · have t2 : decide ((60 : Int) < (x.size : Int)) = false := decide_eq_false (by omega)
            have HA2 : Hid (∀ y ∈ L.take (j + 1), y.size ≤ 60) := Lib.hid (fun y hy => by
              rw [TK.out] at hy
              rcases List.mem_append.1 hy with hy | hy
              · exact HA.out y hy
              · rw [List.mem_singleton.1 hy]; exact h60)
            clear HA hb
            go_wp2_with fail
            go_round
            case rel => exact ⟨j + 1, by go_num, by omega, by omega, HA2⟩
            case measure => simp [intOf]; omega
          · have t2 : decide ((60 : Int) < (x.size : Int)) = true := decide_eq_true (by omega)
            obtain rfl : b = false := by
              rw [← hb.out, ← Bool.not_eq_true, few_iff]
              intro h; exact h60 (h.2 x MX.out)
            clear HA hb
            go_wp2_with fail
            go_ret
            exact ⟨rfl, rfl⟩
      · obtain rfl : b = true := by
          rw [← hb.out, few_iff]
          refine ⟨by have := HN.out; omega, fun x hx => HA.out x ?_⟩
          rw [List.take_of_length_le (by have := HN.out; omega)]; exact hx
        clear hb HA
        go_wp2_with fail
        go_ret
        exact ⟨rfl, rfl⟩
set_option maxRecDepth 100000 in
set_option maxHeartbeats 1000000 in
theorem lkey_any (s : ByteArray) (n sep m : Int) (w : World) (hm : w.cell? ⟨0, 0, none⟩ = some (.int .i64 m)) (hs : s.size ≤ 1048576) :
    Calls Tryd.prog 20 #[.string s, .int .i64 n, .int .i64 sep] w fun e w' => e = .returned (.string (bA (keyL sep n s.data.toList))) ∧ Hid (Below w.heap.size w w') := by
  have FF := Lib.hid (fields_any s sep m w hm hs)
  have HS := Lib.hid (fieldsL_len sep s.data.toList)
  have hsz : s.data.toList.length = s.size := by simp
  clear hm
  unfold keyL
  obtain ⟨L, hL⟩ : ∃ L, fieldsL sep s.data.toList = L := ⟨_, rfl⟩
  rw [hL] at FF HS ⊢
  obtain ⟨q, hq⟩ : ∃ q, L.length = q := ⟨_, rfl⟩
  have HQ := Lib.hid hq
  have q0 : q ≤ 1048577 := by have := HS.out; omega
  clear hL hq HS hsz hs
  by_cases h1 : n < 1
  · have G := Lib.hid (getL_lo (L := L) h1)
    go_enter Tryd.func20, Tryd.ntmps20
    go_wp2_with (go_at_call 9; refine FF.out.mono ?_; rintro _ w1 ⟨v, rfl, F1, B1⟩; obtain ⟨a, cap, e, -⟩ := F1.out.1; rw [List.length_map, HQ.out] at e; subst e)
    go_ret
    exact ⟨by rw [G.out]; rfl, B1⟩
  · by_cases h2 : (q : Int) < n
    · have G := Lib.hid (getL_hi (L := L) h1 (by rw [HQ.out]; exact h2))
      go_enter Tryd.func20, Tryd.ntmps20
      go_wp2_with (go_at_call 9; refine FF.out.mono ?_; rintro _ w1 ⟨v, rfl, F1, B1⟩; obtain ⟨a, cap, e, -⟩ := F1.out.1; rw [List.length_map, HQ.out] at e; subst e)
      go_ret
      exact ⟨by rw [G.out]; rfl, B1⟩
    · obtain ⟨k, rfl⟩ : ∃ k : Nat, n = (k : Int) + 1 := ⟨(n - 1).toNat, by omega⟩
      have hk : k < q := by omega
      have HK : Hid (k < L.length) := Lib.hid (by rw [HQ.out]; exact hk)
      have G := Lib.hid (getL_at HK.out)
      have i1 : (k : Int) + 1 - 1 = k := by omega
      clear h1 h2
      go_enter Tryd.func20, Tryd.ntmps20
      go_wp2_with (go_at_call 9; refine FF.out.mono ?_; rintro _ w1 ⟨v, rfl, F1, B1⟩; obtain ⟨g, o, cap, e, -, -, -, hc⟩ := Strs.cons F1.out.1 (fun e => by rw [List.map_eq_nil_iff] at e; have := HQ.out; rw [e] at this; simp at this; omega); rw [List.length_map, HQ.out] at e; subst e; have c0 := hc k (bA (L[k]'HK.out)) (by rw [List.getElem?_map, List.getElem?_eq_getElem HK.out]; rfl); have HC := Lib.hid hc; clear hc)
      go_ret
      exact ⟨by rw [G.out]; rfl, B1⟩
/-- keys of lines are all different -/
def dstB (key : List UInt8 → List UInt8) : List (List UInt8) → Bool
  | [] => true
  | x :: r => r.all (fun y => !decide (key y = key x)) && dstB key r
theorem dst_iff {key : List UInt8 → List UInt8} : ∀ {L : List (List UInt8)}, dstB key L = true ↔ Dst key L
  | [] => by simp [dstB, Dst]
  | x :: r => by
    have ih := dst_iff (key := key) (L := r)
    unfold dstB Dst
    rw [Bool.and_eq_true, ih, List.pairwise_cons, List.all_eq_true]
    constructor
    · rintro ⟨h1, h2⟩; exact ⟨fun y hy e => by have := h1 y hy; simp [e] at this, h2⟩
    · rintro ⟨h1, h2⟩; exact ⟨fun y hy => by have := h1 y hy; simp [Ne.symm this], h2⟩
theorem dst_at {key : List UInt8 → List UInt8} {L : List (List UInt8)} : Dst key L ↔ ∀ (i k : Nat) x y, i < k → L[i]? = some x → L[k]? = some y → ¬ key y = key x := by
  unfold Dst
  rw [List.pairwise_iff_getElem]
  constructor
  · intro h i k x y hik hx hy
    obtain ⟨h1, rfl⟩ := List.getElem?_eq_some_iff.1 hx
    obtain ⟨h2, rfl⟩ := List.getElem?_eq_some_iff.1 hy
    exact fun e => h i k h1 h2 hik e.symm
  · intro h i k h1 h2 hik e
    exact h i k _ _ hik (List.getElem?_eq_getElem h1) (List.getElem?_eq_getElem h2) e.symm
set_option maxRecDepth 100000 in
set_option maxHeartbeats 4000000 in
theorem distinct_any (L : List ByteArray) (v : Value) (n sep m : Int) (b : Bool) (w : World) (hm : w.cell? ⟨0, 0, none⟩ = some (.int .i64 m)) (h : Strs w v L) (hl : L.length ≤ 12) (hs : ∀ x ∈ L, x.size ≤ 60) (hb : Hid (dstB (keyL sep n) (L.map (·.data.toList)) = b)) :
    Calls Tryd.prog 22 #[v, .int .i64 n, .int .i64 sep] w fun e w' => e = .returned (.bool b) ∧ Hid (Below w.heap.size w w') := by
  by_cases h0 : L = []
  · subst h0
    obtain rfl : b = true := hb.out.symm.trans rfl
    obtain ⟨a, cap, rfl⟩ := h.nil
    clear h hs hb hm hl
    go_enter Tryd.func22, Tryd.ntmps22
    go_wp2_with fail
    go_loop [7] (fun i => i = .int .i64 0) (fun _ => 0)
    case atStart => rfl
    case round =>
      subst hrel
      go_wp2_with fail
      go_ret
      exact ⟨rfl, Lib.hid (Below.refl _ _)⟩
  · obtain ⟨g, o, cap, rfl, -, -, -, hc⟩ := h.cons h0
    obtain ⟨q, hq⟩ : ∃ q, L.length = q := ⟨_, rfl⟩
    have HQ := Lib.hid hq
    have HC := Lib.hid hc
    have HS := Lib.hid hs
    have HM := Lib.hid hm
    rw [hq] at hl ⊢
    have KK := Lib.hid (fun W s (hb : Below w.heap.size w W) (hs : s.size ≤ 60) => lkey_any s n sep m W (kp hb HM.out) (by omega))
    have AT : Hid (∀ j, j < q → ∃ x, L[j]? = some x) := Lib.hid (fun j hj => ⟨_, List.getElem?_eq_getElem (by rw [HQ.out]; exact hj)⟩)
    have BF : Hid (∀ (i k : Nat) x y, i < k → L[i]? = some x → L[k]? = some y → keyL sep n y.data.toList = keyL sep n x.data.toList → b = false) := Lib.hid (fun i k x y hik hx hy e => by
      rw [← hb.out, ← Bool.not_eq_true, dst_iff, dst_at]
      intro hd
      exact hd i k x.data.toList y.data.toList hik (by rw [List.getElem?_map, hx]; rfl) (by rw [List.getElem?_map, hy]; rfl) e)
    have BT : Hid ((∀ (i k : Nat) x y, i < k → k < q → L[i]? = some x → L[k]? = some y → ¬ keyL sep n y.data.toList = keyL sep n x.data.toList) → b = true) := Lib.hid (fun H => by
      rw [← hb.out, dst_iff, dst_at]
      intro i k x y hik hx hy
      rw [List.getElem?_map] at hx hy
      obtain ⟨x', hx', rfl⟩ := Option.map_eq_some_iff.1 hx
      obtain ⟨y', hy', rfl⟩ := Option.map_eq_some_iff.1 hy
      exact H i k x' y' hik (by rw [← HQ.out]; exact (List.getElem?_eq_some_iff.1 hy').1) hx' hy')
    clear h hc hs hm hq hb h0
    go_enter Tryd.func22, Tryd.ntmps22
    go_wp2_with fail
    go_loopw [7] (fun i wr => ∃ j : Nat, i = .int .i64 j ∧ j ≤ q ∧ Hid (∀ (i k : Nat) x y, i < k → k < j → L[i]? = some x → L[k]? = some y → ¬ keyL sep n y.data.toList = keyL sep n x.data.toList) ∧ Hid (Below w.heap.size w wr)) (fun i _ => q - (intOf i).toNat)
    case atStart => exact ⟨0, rfl, Nat.zero_le _, Lib.hid (fun i k x y h1 h2 => by omega), Lib.hid (Below.refl _ _)⟩
    case round =>
      obtain ⟨j, rfl, hj, HD, BK⟩ := hrel
      by_cases hlt : j < q
      · obtain ⟨y, hy⟩ := AT.out j hlt
        have HY := Lib.hid hy
        have C1 := Lib.hid (HC.out j y hy)
        have SY := Lib.hid (HS.out y (List.mem_of_getElem? hy))
        clear hy
        go_wp2_with fail
        go_loopw [8] (fun i wr => ∃ k : Nat, i = .int .i64 k ∧ k ≤ j ∧ Hid (∀ (i : Nat) x, i < k → L[i]? = some x → ¬ keyL sep n y.data.toList = keyL sep n x.data.toList) ∧ Hid (Below w.heap.size w wr)) (fun i _ => j - (intOf i).toNat)
        case atStart => exact ⟨0, rfl, Nat.zero_le _, Lib.hid (fun i x h => by omega), BK⟩
        case round =>
          obtain ⟨k, rfl, hk, HE, BR⟩ := hrel
          by_cases hlt2 : k < j
          · obtain ⟨x, hx⟩ := AT.out k (by omega)
            have HX := Lib.hid hx
            have SX := Lib.hid (HS.out x (List.mem_of_getElem? hx))
            have d1 := kp BR.out C1.out
            have d2 := kp BR.out (HC.out k x hx)
            have D1 := Lib.hid d1
            have D2 := Lib.hid d2
            have KY := Lib.hid (fun W hb => KK.out W y hb SY.out)
            have KX := Lib.hid (fun W hb => KK.out W x hb SX.out)
            have S0 : Below wr.heap.size wr wr.drew ∧ wr.drew.cell? ⟨g, o + j, none⟩ = some (.string y) ∧ wr.drew.cell? ⟨g, o + k, none⟩ = some (.string x) := ⟨(Below.refl _ _).drew, d1, d2⟩
            have p0 : (0 : Int) ≤ (j : Int) := by omega
            have p1 : (j : Int) < (q : Int) := by omega
            have p2 : (0 : Int) ≤ (k : Int) := by omega
            have p3 : (k : Int) < (q : Int) := by omega
            have p4 : IntKind.i64.wrap (j : Int) = (j : Int) := IntWalk.i64_in _ (by omega)
            have p5 : IntKind.i64.wrap (k : Int) = (k : Int) := IntWalk.i64_in _ (by omega)
            clear hx d1 d2
            by_cases he : keyL sep n y.data.toList = keyL sep n x.data.toList
            · have EB := Lib.hid (BF.out k j x y hlt2 HX.out HY.out he)
              obtain ⟨u, hu⟩ : ∃ u, bA (keyL sep n x.data.toList) = u := ⟨_, rfl⟩
              rw [he, hu] at KY
              rw [hu] at KX
              clear he hu
              go_wp2_with fail
              go_region_held3 (fun w' => Below wr.heap.size wr w' ∧ w'.cell? ⟨g, o + j, none⟩ = some (.string y) ∧ w'.cell? ⟨g, o + k, none⟩ = some (.string x)) (first | exact S0)
                (first | (go_at_call 20; (first | (with_reducible refine (KY.out _ (BR.out.trans (S0.1.mono BR.out.size))).mono ?_) | (with_reducible refine (KX.out _ (BR.out.trans (S0.1.mono BR.out.size))).mono ?_)); rintro _ w1 ⟨rfl, B1⟩; have BB := Lib.hid (S0.1.trans (B1.out.mono S0.1.size)); have S0 := And.intro BB.out (And.intro (kp BB.out (kp BR.out C1.out)) (kp BB.out (kp BR.out (HC.out k x HX.out))))))
              go_wp2_with fail
              go_ret
              exact ⟨by rw [EB.out]; rfl, Lib.hid (BR.out.trans (S0.1.mono BR.out.size))⟩
            · have hne := bA_ne he
              have HE2 : Hid (∀ (i : Nat) x, i < k + 1 → L[i]? = some x → ¬ keyL sep n y.data.toList = keyL sep n x.data.toList) := Lib.hid (fun i x' hi hx' => by
                rcases Nat.lt_or_ge i k with h | h
                · exact HE.out i x' h hx'
                · obtain rfl : i = k := by omega
                  have := HX.out; rw [hx'] at this; cases this; exact he)
              obtain ⟨u, hu⟩ : ∃ u, bA (keyL sep n x.data.toList) = u := ⟨_, rfl⟩
              obtain ⟨t, ht⟩ : ∃ t, bA (keyL sep n y.data.toList) = t := ⟨_, rfl⟩
              rw [hu] at KX hne
              rw [ht] at KY hne
              have ne := strs_ne hne
              clear he hu ht hne HE
              go_wp2_with fail
              go_region_held3 (fun w' => Below wr.heap.size wr w' ∧ w'.cell? ⟨g, o + j, none⟩ = some (.string y) ∧ w'.cell? ⟨g, o + k, none⟩ = some (.string x)) (first | exact S0)
                (first | (go_at_call 20; (first | (with_reducible refine (KY.out _ (BR.out.trans (S0.1.mono BR.out.size))).mono ?_) | (with_reducible refine (KX.out _ (BR.out.trans (S0.1.mono BR.out.size))).mono ?_)); rintro _ w1 ⟨rfl, B1⟩; have BB := Lib.hid (S0.1.trans (B1.out.mono S0.1.size)); have S0 := And.intro BB.out (And.intro (kp BB.out (kp BR.out C1.out)) (kp BB.out (kp BR.out (HC.out k x HX.out))))))
              go_wp2_with fail
              go_roundw
              case rel => exact ⟨k + 1, by go_num, by omega, HE2, Lib.hid (BR.out.trans (S0.1.mono BR.out.size))⟩
              case measure => simp [intOf]; omega
          · obtain rfl : k = j := by omega
            have HD2 : Hid (∀ (i k' : Nat) x y, i < k' → k' < k + 1 → L[i]? = some x → L[k']? = some y → ¬ keyL sep n y.data.toList = keyL sep n x.data.toList) := Lib.hid (fun i k' x' y' h1 h2 hx hy => by
              rcases Nat.lt_or_ge k' k with h | h
              · exact HD.out i k' x' y' h1 h hx hy
              · obtain rfl : k' = k := by omega
                have := HY.out; rw [hy] at this; cases this; exact HE.out i x' h1 hx)
            clear HD HE
            go_wp2_with fail
            go_roundw
            case rel => exact ⟨k + 1, by go_num, by omega, HD2, BR⟩
            case measure => simp [intOf]; omega
      · obtain rfl : j = q := by omega
        have EB := Lib.hid (BT.out (fun i k x y h1 h2 => HD.out i k x y h1 h2))
        clear HD
        go_wp2_with fail
        go_ret
        exact ⟨by rw [EB.out]; rfl, BK⟩
theorem ddefault_any (w : World) : Calls Tryd.prog 12 #[] w fun e w' => ∃ v, e = .returned v ∧ Hid (DLoc w' v) ∧ Hid (Below w.heap.size w w') :=
  (rdefault_is w).mono fun _ _ ⟨_, _, e, h1, h2, _⟩ => ⟨_, e, Lib.hid ⟨_, rfl, h1.out⟩, h2⟩
end Go.Proofs.YtbhdhcnbagjmcaaDoor
