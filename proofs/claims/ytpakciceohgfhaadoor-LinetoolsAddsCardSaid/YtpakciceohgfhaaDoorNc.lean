/- walks: the reference's lines, Head, Tail, From -/
import Derived.Test.YtpakciceohgfhaaDoorNb
namespace Go.Proofs.YtpakciceohgfhaaDoor
open Go.RowKit
open Tx
theorem lnk_at {l : List UInt8} {L : List ByteArray} (h : L.map (·.data.toList) = lin l) (j : Nat) (hj : j < L.length) : (lnk l)[j]? = some (if j + 1 < L.length ∨ linE l = true then L[j].data.toList ++ [10] else L[j].data.toList) := by
  obtain ⟨out, cur, e⟩ := spl_ex l
  obtain ⟨f1, f2⟩ := lin_of e
  have k := lnk_of e
  have hl := congrArg List.length h
  rw [List.length_map] at hl
  have ha : (L.map (·.data.toList))[j]? = some L[j].data.toList := by rw [List.getElem?_map, List.getElem?_eq_getElem hj]; rfl
  rw [h, f1] at ha
  rw [f1] at hl
  rw [k, f2]
  generalize L[j].data.toList = y at ha ⊢
  by_cases hz : cur = []
  · rw [if_pos hz] at ha hl
    rw [if_pos hz, List.append_nil, List.getElem?_map, ha, if_pos (.inr (decide_eq_true hz))]; rfl
  · rw [if_neg hz] at ha hl
    rw [if_neg hz]
    rw [List.length_append, List.length_singleton] at hl
    by_cases hx : j < out.length
    · rw [List.getElem?_append_left hx] at ha
      rw [List.getElem?_append_left (by rw [List.length_map]; exact hx), List.getElem?_map, ha, if_pos (.inl (by omega))]; rfl
    · have hj2 : j = out.length := by omega
      rw [hj2, List.getElem?_append_right (Nat.le_refl _), Nat.sub_self] at ha
      rw [if_neg (by rw [decide_eq_false hz]; intro x; rcases x with x | x; omega; cases x), hj2, List.getElem?_append_right (by rw [List.length_map]; exact Nat.le_refl _), List.length_map, Nat.sub_self]
      subst hj2
      exact ha
set_option maxHeartbeats 1000000 in
theorem rlnk_any (s : ByteArray) (w : World) (hs : s.size ≤ 300) :
    Calls Tryd.prog 22 #[.string s] w fun e w' => ∃ v R, e = .returned v ∧ R.map (·.data.toList) = lnk s.data.toList ∧ OwnS w' w.heap.size v R ∧ Below w.heap.size w w' := by
  obtain ⟨b, hb⟩ : ∃ b, linE s.data.toList = b := ⟨_, rfl⟩
  have RL := Lib.hid (rlines_any s w (by omega))
  rw [hb] at RL
  have HB := Lib.hid hb
  have HS : Hid (s.data.toList.length ≤ 300) := Lib.hid (by rw [← size_len]; exact hs)
  clear hb hs
  go_enter Tryd.func22, Tryd.ntmps22
  go_wp2_with (go_at_call 19; refine RL.out.mono ?_; rintro e w1 ⟨v, L, rfl, hL, hO, hb1⟩)
  obtain ⟨a, cap, rfl, _⟩ := hO.strs
  have HL := Lib.hid hL
  have O1 := Lib.hid hO
  have B1 := Lib.hid hb1
  have LL : Hid (∀ j (h : j < L.length), L[j].size + 1 ≤ 601) := Lib.hid (fun j h => by
    have h1 := lin_fullB s.data.toList L hL
    have h2 := fullB_snoc L j h
    have h3 := fullB_take L (j + 1)
    have := HS.out
    omega)
  have LN : L.length ≤ 301 := by have := lin_fullB s.data.toList L hL; have := fullB_ge L; have := HS.out; omega
  have AT := Lib.hid (fun j h => lnk_at hL j h)
  rw [HB.out] at AT
  obtain ⟨n, hn⟩ : ∃ n, L.length = n := ⟨_, rfl⟩
  have HN := Lib.hid hn
  rw [hn] at LN O1 ⊢
  clear hL hO hb1 hn
  go_loopw [5, 6] (fun v i wr => ∃ (j : Nat) (R : List ByteArray), i = .int .i64 j ∧ j ≤ n ∧ Hid (R.map (·.data.toList) = (lnk s.data.toList).take j ∧ R.length = j) ∧ Hid (OwnS wr w1.heap.size v R) ∧ Hid (Below w1.heap.size w1 wr)) (fun _ i _ => n - (intOf i).toNat)
  case atStart => exact ⟨0, [], rfl, by omega, Lib.hid ⟨rfl, rfl⟩, Lib.hid ⟨rfl, .inl ⟨rfl, rfl⟩⟩, Lib.hid (Below.refl _ _)⟩
  case round =>
    obtain ⟨j, R, rfl, jn, RE, OW, Br⟩ := hrel
    by_cases hlt : j < n
    · have x1 : j < L.length := by have := HN.out; omega
      obtain ⟨g, o, cap', e, _, _, hg, hc⟩ := (O1.out.strs.below Br.out).cons (by intro e; rw [e] at x1; simp at x1)
      rw [HN.out] at e
      simp only [Value.slice.injEq] at e
      obtain ⟨rfl, _, rfl⟩ := e
      have k1 := hc j _ (List.getElem?_eq_getElem x1)
      have sz := LL.out j x1
      have at_ := AT.out j x1
      rw [HN.out] at at_
      obtain ⟨y, hy⟩ : ∃ y, L[j] = y := ⟨_, rfl⟩
      rw [hy] at k1 sz at_
      have AY := Lib.hid at_
      have RLEN : Hid (R.length ≤ 1048576) := Lib.hid (by have := RE.out.2; omega)
      clear hc hy x1 hg at_
      have NX : ∀ z : ByteArray, (lnk s.data.toList)[j]? = some z.data.toList → Hid ((R ++ [z]).map (·.data.toList) = (lnk s.data.toList).take (j + 1) ∧ (R ++ [z]).length = j + 1) := fun z hz => Lib.hid (by
        refine ⟨?_, by rw [List.length_append, RE.out.2]; rfl⟩
        rw [List.take_add_one, hz, List.map_append, RE.out.1]; rfl)
      have HX := Lib.hid NX; clear NX
      by_cases hj : j + 1 < n
      · have N2 := HX.out (y ++ ⟨#[10]⟩) (by rw [AY.out, if_pos (.inl hj)]; simp)
        go_wp2_with (first
          | (at_builtin; refine append_strs rfl _ _ rfl _ R (y ++ ByteArray.mk #[10]) w1.heap.size w1 _ OW.out Br.out Br.out.size RLEN.out rfl rfl ?_; intro v2 w2 own2 bel2)
          | go_in)
        go_roundw
        case rel => exact ⟨j + 1, _, by go_num, by omega, N2, own2, bel2⟩
        case measure => simp [intOf]; omega
      · cases b
        · have N2 := HX.out y (by rw [AY.out, if_neg (by intro x; rcases x with x | x; exact hj x; cases x)])
          go_wp2_with (first
            | (at_builtin; refine append_strs rfl _ _ rfl _ R y w1.heap.size w1 _ OW.out Br.out Br.out.size RLEN.out rfl rfl ?_; intro v2 w2 own2 bel2)
            | go_in)
          go_roundw
          case rel => exact ⟨j + 1, _, by go_num, by omega, N2, own2, bel2⟩
          case measure => simp [intOf]; omega
        · have N2 := HX.out (y ++ ⟨#[10]⟩) (by rw [AY.out, if_pos (.inr rfl)]; simp)
          go_wp2_with (first
            | (at_builtin; refine append_strs rfl _ _ rfl _ R (y ++ ByteArray.mk #[10]) w1.heap.size w1 _ OW.out Br.out Br.out.size RLEN.out rfl rfl ?_; intro v2 w2 own2 bel2)
            | go_in)
          go_roundw
          case rel => exact ⟨j + 1, _, by go_num, by omega, N2, own2, bel2⟩
          case measure => simp [intOf]; omega
    · obtain rfl : j = n := by omega
      have E : Hid (R.map (·.data.toList) = lnk s.data.toList) := Lib.hid (by
        rw [RE.out.1, List.take_of_length_le]
        rw [lnk_len, ← HL.out, List.length_map, HN.out]; exact Nat.le_refl _)
      go_wp2_with fail
      go_ret
      exact ⟨_, R, rfl, E.out, own_mono OW.out B1.out.size, B1.out.trans (Br.out.mono B1.out.size)⟩
theorem bounded_any (k n : Int) (w : World) (hn : 0 ≤ n) (hn2 : n ≤ 1000) :
    Calls Tryd.prog 23 #[.int .i64 k, .int .i64 n] w fun e w' => e = .returned (.int .i64 (max (-n) (min k n))) ∧ w = w' := by
  go_enter Tryd.func23, Tryd.ntmps23
  go_wp2_with fail
  go_ret
  exact ⟨rfl, rfl⟩
/-- the lines from one index up to another, as one text -/
def jfl (L : List (List UInt8)) (f t : Nat) : List UInt8 := ((L.take t).drop f).flatten
theorem jfl_step (L : List ByteArray) (f j : Nat) (h : f ≤ j) (hj : j < L.length) : jfl (L.map (·.data.toList)) f (j + 1) = jfl (L.map (·.data.toList)) f j ++ L[j].data.toList := by
  unfold jfl
  rw [List.take_succ_eq_append_getElem (by rw [List.length_map]; exact hj), List.drop_append_of_le_length (by rw [List.length_take, List.length_map]; omega), List.flatten_append]
  simp
theorem jfl_le (L : List ByteArray) (f t : Nat) : (jfl (L.map (·.data.toList)) f t).length ≤ fullB L := by
  have e : ∀ M : List ByteArray, ((M.map (·.data.toList)).flatten).length ≤ fullB M := by
    intro M
    induction M with
    | nil => simp
    | cons x r ih =>
      rw [List.map_cons, List.flatten_cons, List.length_append, ← size_len]
      simp only [fullB, List.map_cons, List.sum_cons] at ih ⊢; omega
  unfold jfl
  rw [← List.map_take, ← List.map_drop]
  have := e ((L.take t).drop f)
  have h1 := fullB_drop (L.take t) f
  have h2 := fullB_take L t
  omega
set_option maxHeartbeats 1000000 in
theorem rjoined_any (v : Value) (L : List ByteArray) (f t : Int) (w : World) (hS : Strs w v L) (hL : fullB L ≤ 601) (ht : t ≤ 1000) :
    Calls Tryd.prog 24 #[v, .int .i64 f, .int .i64 t] w fun e w' => e = .returned (.string ⟨(jfl (L.map (·.data.toList)) f.toNat (min t.toNat L.length)).toArray⟩) ∧ w = w' := by
  have HS := Lib.hid hS
  have HL := Lib.hid hL
  have LN : L.length ≤ 601 := by have := fullB_ge L; omega
  obtain ⟨a, cap, rfl, _⟩ := hS
  obtain ⟨n, hn⟩ : ∃ n, L.length = n := ⟨_, rfl⟩
  have HN := Lib.hid hn
  rw [hn] at LN HS ⊢
  clear hL hn
  obtain ⟨F, hF⟩ : ∃ F : Nat, f.toNat = F := ⟨_, rfl⟩
  obtain ⟨T, hT⟩ : ∃ T : Nat, min t.toNat n = T := ⟨_, rfl⟩
  rw [hF, hT]
  go_enter Tryd.func24, Tryd.ntmps24
  go_wp2_with fail
  go_loop [7, 8] (fun s i => ∃ (j : Nat) (x : ByteArray), i = .int .i64 j ∧ s = .string x ∧ F ≤ j ∧ (j ≤ T ∨ j = F) ∧ Hid (x.data.toList = jfl (L.map (·.data.toList)) F j ∨ (x.data.toList = [] ∧ T ≤ F ∧ j = F))) (fun _ i => 2000 - (intOf i).toNat)
  case atStart =>
    refine ⟨F, ⟨#[]⟩, by go_num, rfl, by omega, .inr rfl, Lib.hid (.inl ?_)⟩
    unfold jfl
    rw [List.drop_of_length_le (by rw [List.length_take]; omega)]; rfl
  case round =>
    obtain ⟨j, x, rfl, rfl, j1, j2, X⟩ := hrel
    by_cases hlt : j < T
    · have x1 : j < L.length := by have := HN.out; omega
      obtain ⟨g, o, cap', e, _, _, hg, hc⟩ := HS.out.cons (by intro e; rw [e] at x1; simp at x1)
      rw [HN.out] at e
      simp only [Value.slice.injEq] at e
      obtain ⟨rfl, _, rfl⟩ := e
      have k1 := hc j _ (List.getElem?_eq_getElem x1)
      have X0 : x.data.toList = jfl (L.map (·.data.toList)) F j := by
        rcases X.out with h | ⟨_, h, h2⟩
        · exact h
        · omega
      have st := jfl_step L F j j1 x1
      rw [← X0] at st
      have b1 := jfl_le L F (j + 1)
      rw [st, List.length_append, ← size_len, ← size_len] at b1
      have b2 := HL.out
      obtain ⟨y, hy⟩ : ∃ y, L[j] = y := ⟨_, rfl⟩
      rw [hy] at k1 st b1
      have ST : Hid ((x ++ y).data.toList = jfl (L.map (·.data.toList)) F (j + 1)) := Lib.hid (by rw [st]; simp)
      have b3 : x.size + y.size ≤ 601 := by omega
      clear hc hy x1 hg st X0 b1 b2
      go_wp2_with fail
      go_round
      case rel => exact ⟨j + 1, x ++ y, by go_num, rfl, by omega, .inl (by omega), Lib.hid (.inl ST.out)⟩
      case measure => simp [intOf]; omega
    · have E : Hid (x.data.toList = jfl (L.map (·.data.toList)) F T) := Lib.hid (by
        have e0 : T ≤ F → jfl (L.map (·.data.toList)) F T = [] := fun h => by
          unfold jfl; rw [List.drop_of_length_le (by rw [List.length_take]; omega)]; rfl
        rcases X.out with h | ⟨h, h1, h2⟩
        · rw [h]
          by_cases hj : j = T
          · rw [hj]
          · have hjf : j = F := by omega
            rw [e0 (by omega), hjf]; unfold jfl; rw [List.drop_of_length_le (by rw [List.length_take]; omega)]; rfl
        · rw [h, e0 h1])
      have EX : Hid (x = ⟨(jfl (L.map (·.data.toList)) F T).toArray⟩) := Lib.hid (str_ext E.out)
      by_cases h1 : (j : Int) < t
      · have h2 : ¬ j < n := by omega
        go_wp2_with fail
        go_ret
        exact ⟨by rw [← EX.out]; rfl, rfl⟩
      · go_wp2_with fail
        go_ret
        exact ⟨by rw [← EX.out]; rfl, rfl⟩
end Go.Proofs.YtpakciceohgfhaaDoor
