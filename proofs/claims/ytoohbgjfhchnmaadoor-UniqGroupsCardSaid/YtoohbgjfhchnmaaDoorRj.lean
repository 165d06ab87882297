/- walks: total of the law -/
import Derived.Test.YtoohbgjfhchnmaaDoorRi
namespace Go.Proofs.YtoohbgjfhchnmaaDoor
open Go.RowKit Go.Maps
open Lcl
/-- a line that begins with the digits of n, and a blank behind them -/
structure Ln (x : ByteArray) (m n : Nat) : Prop where
  lt : m < x.size
  le : x.size ≤ 9223372036854775807
  dg : ∀ (i : Nat) (h : i < x.size), i < m → 48 ≤ x[i].toNat
  bl : x[m].toNat = 32
  d : Dg (x.extract 0 m)
  v : valD (x.extract 0 m).data.toList = n
theorem dd_dig (u : Nat) : ∀ b ∈ Lib.decDigits u, 48 ≤ b.toNat ∧ b.toNat ≤ 57 := by
  induction u using Nat.strongRecOn with
  | ind u ih =>
    intro b hb
    rw [Lib.decDigits] at hb
    split at hb
    · rw [List.mem_singleton] at hb; subst hb
      rw [UInt8.toNat_ofNat']; omega
    · rcases List.mem_append.1 hb with h | h
      · exact ih _ (by omega) b h
      · rw [List.mem_singleton] at h; subst h
        rw [UInt8.toNat_ofNat']; omega
theorem dd_val (u : Nat) : valD (Lib.decDigits u) = u := by
  induction u using Nat.strongRecOn with
  | ind u ih =>
    rw [Lib.decDigits]
    split
    · show 10 * 0 + ((UInt8.ofNat (48 + u)).toNat - 48) = u
      rw [UInt8.toNat_ofNat']; omega
    · rw [valD_snoc, ih _ (by omega), UInt8.toNat_ofNat']; omega
theorem dd_first (u : Nat) (h : 1 ≤ u) : ∃ b r, Lib.decDigits u = b :: r ∧ 49 ≤ b.toNat := by
  induction u using Nat.strongRecOn with
  | ind u ih =>
    rw [Lib.decDigits]
    split
    · exact ⟨_, [], rfl, by rw [UInt8.toNat_ofNat']; omega⟩
    · obtain ⟨b, r, e, hb⟩ := ih (u / 10) (by omega) (by omega)
      exact ⟨b, r ++ [UInt8.ofNat (48 + u % 10)], by rw [e]; rfl, hb⟩
theorem get_l (s : ByteArray) (i : Nat) (h : i < s.size) : s.data.toList[i]? = some s[i] := by
  rw [List.getElem?_eq_getElem (by rw [len_of]; exact h)]; rfl
theorem ln_of (f : ByteArray) (n : Nat) (h1 : 1 ≤ n) (h2 : n ≤ 100000000000000) (hf : f.size ≤ 140737488351232) : Ln (lineS true f n) (Lib.decDigits n).length n := by
  have e : (lineS true f n).data.toList = Lib.decDigits n ++ 32 :: f.data.toList := by
    unfold lineS Lib.itoa
    rw [if_pos rfl, if_neg (by omega)]
    simp
  have hd := dd_len 20 n (by omega) (by omega)
  have hsz : (lineS true f n).size = (Lib.decDigits n).length + (1 + f.size) := by
    rw [← len_of, e, List.length_append, List.length_cons, len_of]; omega
  have ex : ((lineS true f n).extract 0 (Lib.decDigits n).length).data.toList = Lib.decDigits n := by
    rw [ByteArray.data_extract, Array.toList_extract, e]
    simp
  obtain ⟨b, r, ed, hb⟩ := dd_first n h1
  have xs : ((lineS true f n).extract 0 (Lib.decDigits n).length).size = (Lib.decDigits n).length := by rw [← len_of, ex]
  refine ⟨by omega, by omega, fun i h hi => ?_, ?_, ⟨?_, ?_, fun i h => ?_, fun h => ?_⟩, by rw [ex]; exact dd_val n⟩
  · have h3 := get_l _ i h
    rw [e, List.getElem?_append_left hi] at h3
    exact (dd_dig n _ (List.mem_of_getElem? h3)).1
  · have h3 := get_l (lineS true f n) (Lib.decDigits n).length (by omega)
    rw [e, List.getElem?_append_right (Nat.le_refl _), Nat.sub_self] at h3
    have h4 : (32 : UInt8) = (lineS true f n)[(Lib.decDigits n).length]'(by omega) := Option.some.inj h3
    rw [← h4]; rfl
  · rw [xs, ed]; simp
  · rw [xs]; omega
  · have h3 := get_l _ i h
    rw [ex] at h3
    exact dd_dig n _ (List.mem_of_getElem? h3)
  · have h3 := get_l _ 0 h
    have h5 : (Lib.decDigits n)[0]? = some b := by rw [ed]; rfl
    rw [ex, h5] at h3
    have h4 := Option.some.inj h3
    rw [← h4]; exact hb
def sumG (G : List (ByteArray × Nat)) : Nat := (G.map (·.2)).sum
theorem sumG_take (G : List (ByteArray × Nat)) (j : Nat) (p : ByteArray × Nat) (h : G[j]? = some p) : sumG (G.take (j + 1)) = sumG (G.take j) + p.2 := by
  rw [List.take_add_one, h]; simp [sumG]
theorem sumG_le (G : List (ByteArray × Nat)) (j : Nat) : sumG (G.take j) ≤ sumG G := by
  have e := List.take_append_drop j G
  have : sumG G = sumG (G.take j) + sumG (G.drop j) := by
    unfold sumG
    rw [← List.sum_append, ← List.map_append, e]
  omega
set_option maxHeartbeats 8000000 in
theorem total_any (v : Value) (G : List (ByteArray × Nat)) (w : World) (hr : RowsAt w v 1 (strs (G.map fun p => lineS true p.1 p.2))) (hG : ∀ p ∈ G, 1 ≤ p.2 ∧ p.1.size ≤ 140737488351232) (hs : sumG G ≤ 100000000000000) (hl : G.length ≤ 100000000000000) :
    Calls Tryd.prog 20 #[v] w fun e w' => e = .returned (.int .i64 (sumG G : Nat)) ∧ w = w' := by
  have HG := Lib.hid hG
  have HS := Lib.hid hs
  have R := Lib.hid hr
  obtain ⟨a0, cap0, e0⟩ := hr.slS
  rw [List.length_map] at e0
  subst e0
  clear hr hG hs
  go_enter Tryd.func20, Tryd.ntmps20
  go_wp2_with fail
  go_loop [3, 4, 5, 6, 7] (fun s i _ _ _ => ∃ j : Nat, j ≤ G.length ∧ i = .int .i64 j ∧ s = .int .i64 (sumG (G.take j) : Nat)) (fun _ i _ _ _ => G.length - (intOf i).toNat)
  case atStart => exact ⟨0, Nat.zero_le _, rfl, rfl⟩
  case round =>
    obtain ⟨j, hj, rfl, rfl⟩ := hrel
    by_cases hlt : j < G.length
    · obtain ⟨p, hp⟩ : ∃ p, G[j]? = some p := ⟨G[j], List.getElem?_eq_getElem hlt⟩
      have hpG := HG.out p (List.mem_of_getElem? hp)
      have hst := sumG_take G j p hp
      have hsl := Nat.le_trans (sumG_le G (j + 1)) HS.out
      have LN := Lib.hid (ln_of p.1 p.2 hpG.1 (by omega) hpG.2)
      obtain ⟨gl, ol, cl, el, hc1, hc2, hgl, hcell⟩ := R.out.consS (by intro e; have h0 := congrArg List.length e; rw [List.length_map, List.length_nil] at h0; omega)
      have hcx := hcell j (lineS true p.1 p.2) (by rw [List.getElem?_map, hp]; rfl)
      rw [List.length_map] at el hc1
      simp only [Value.slice.injEq, true_and] at el
      obtain ⟨rfl, rfl⟩ := el
      obtain ⟨p1, n⟩ := p
      simp only at hpG hst LN hcx
      obtain ⟨x, hx⟩ : ∃ x, lineS true p1 n = x := ⟨_, rfl⟩
      obtain ⟨m, hm⟩ : ∃ m, (Lib.decDigits n).length = m := ⟨_, rfl⟩
      rw [hx] at LN hcx
      rw [hm] at LN
      obtain ⟨v2, hv2⟩ : ∃ v2, sumG (G.take (j + 1)) = v2 := ⟨_, rfl⟩
      rw [hv2] at hst hsl
      have HV2 := Lib.hid hv2
      obtain ⟨v1, hv1⟩ : ∃ v1, sumG (G.take j) = v1 := ⟨_, rfl⟩
      rw [hv1] at hst ⊢
      have n1 := hpG.1
      have lx := LN.out.lt
      have zx := LN.out.le
      have C1 := Lib.hid hc1
      clear hc1 hc2 hcell hp hgl hx hm hv2 hv1 hpG
      obtain ⟨u, hu⟩ : ∃ u, x.extract 0 m = u := ⟨_, rfl⟩
      have PU : Hid (∀ w, Calls Tryd.prog 30 #[.string u] w fun e w' => e = .returned (.tuple #[.int .i64 (n : Nat), .int .i64 0]) ∧ w = w') := Lib.hid (fun w => by
        have d := LN.out.d
        have v := LN.out.v
        rw [hu] at d v
        have := parse_any u w d (by rw [v]; omega)
        rw [v] at this
        exact this)
      go_wp2_with fail
      go_loop [5] (fun k => ∃ q : Nat, q ≤ m ∧ k = .int .i64 q) (fun k => m - (intOf k).toNat)
      case atStart => exact ⟨0, Nat.zero_le _, rfl⟩
      case round =>
        obtain ⟨q, hq, rfl⟩ := hrel
        by_cases hqm : q < m
        · have hqx : q < x.size := by omega
          have d1 := LN.out.dg q hqx hqm
          have h257 := x[q].toNat_lt
          have e1 : ((x[q].toNat : Int) != 32) = true := by rw [bne_iff_ne]; omega
          go_wp2_with fail
          go_round
          case rel => exact ⟨q + 1, by omega, by go_num⟩
          case measure => simp [intOf]; omega
        · have eq : q = m := by omega
          subst eq
          have e1 : ((x[q].toNat : Int) != 32) = false := by rw [LN.out.bl]; rfl
          have h257 := x[q].toNat_lt
          have tn : decide ((n : Int) < 1) = false := by rw [decide_eq_false_iff_not]; omega
          have tq : ((q : Int) == (x.size : Int)) = false := by rw [beq_eq_false_iff_ne]; omega
          go_wp2_with (go_at_call 30; with_reducible refine (PU.out _).mono ?_; rintro e w' ⟨rfl, rfl⟩)
          go_round
          case rel => exact ⟨j + 1, by omega, by go_num, by rw [HV2.out]; go_num⟩
          case measure => simp [intOf]; omega
    · have ej : j = G.length := by omega
      subst ej
      have el : G.take G.length = G := List.take_length
      rw [el]
      go_wp2_with fail
      go_ret
      exact ⟨rfl, rfl⟩
end Go.Proofs.YtoohbgjfhchnmaaDoor
