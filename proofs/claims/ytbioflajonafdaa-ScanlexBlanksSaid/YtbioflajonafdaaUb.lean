/- walks: the reference's Escape -/
import Derived.Test.YtbioflajonafdaaUa
import Derived.Test.YtbioflajonafdaaTg
namespace Go.Proofs.Ytbioflajonafdaa
open Go.RowKit
open Tx
theorem append_bytes {ops : Array Oper} {rest : List Oper} {o : Oper} {a : Act} {Q : Exit → Act → World → Prop} (hgd : o.guard = none) (s x : Operand)
    (ho : o.op = .call { callee := .builtin .append, args := #[s, x], argTypes := #[51, 51] }) (v : Value) (out l : List UInt8) (us : Array Value) (hu : us.toList = Lib.byteCells l) (m : Nat) (hm : m = l.length) (h0 : 0 < m) (B : Nat) (w wr : World)
    (own : Own wr B v out) (bel : Below B w wr) (hB : B ≤ wr.heap.size) (len : out.length + l.length ≤ 140737488355328) (hs : a.eval s = v) (hx : a.eval x = .slice (some ⟨wr.heap.size, 0, none⟩) m m)
    (h : ∀ v' w', Hid (Own w' B v' (out ++ l)) → Hid (Below B w w') → wpList Try.prog ops Q rest (a.put o.dst v') w') : wpList Try.prog ops Q (o :: rest) a (wr.alloc (.cells us 5)) := by
  subst hm
  obtain ⟨i0, hi, hz0, hz1, hz2⟩ := info_parts info5
  refine wpList_append_own _ hgd s x 51 ho B 5 i0 (.int .u8 0) 1 1 Try.underlying51 hi hz0 hz1 hz2 rfl (by decide) v out.length (Lib.byteCells out) hs (own.alloc _) ⟨wr.heap.size, 0, none⟩ l.length l.length (Lib.byteCells l) hx (by simp [Lib.byteCells]) ?_ ?_ ?_ ?_ ?_ ?_
  · intro j y hj
    have h1 := heap_alloc_new wr (.cells us 5)
    have e : (⟨wr.heap.size, 0, none⟩ : Addr).add j = ⟨wr.heap.size, j, none⟩ := by
      by_cases h0 : j = 0
      · subst h0; simp [Addr.add]
      · simp [Addr.add, h0]
    rw [e, cells_at h1, ← hj, ← hu, Array.getElem?_toList]
  · intro y hy
    simp only [Lib.byteCells, List.mem_map] at hy
    obtain ⟨c, _, rfl⟩ := hy; rfl
  · unfold maxLen; omega
  · omega
  · simp; omega
  · intro v' w' h1 h2 _
    refine h v' w' (Lib.hid ?_) (Lib.hid ?_)
    · have e : Lib.byteCells out ++ Lib.byteCells l = Lib.byteCells (out ++ l) := by simp [Lib.byteCells]
      rw [e] at h1
      show w'.ownsRow B 5 1 v' (out ++ l).length (Lib.byteCells (out ++ l))
      rw [List.length_append]; exact h1
    · exact (bel.alloc hB _).grown h2 (by simp; omega) (fun k hk => (own.lt k hk).1)
theorem letC_no (x : UInt8) (h : escL x = 0) (h1 : x ≠ 92) : letC (x.toNat : Int) = 0 := by
  unfold escL at h
  have k : ∀ n : Nat, n < 256 → x ≠ UInt8.ofNat n → ¬ ((x.toNat : Int) = (n : Int)) := fun n hn hx e => hx (u8_of hn e.symm)
  by_cases a0 : x = 10
  · subst a0; cases h
  by_cases a1 : x = 9
  · subst a1; cases h
  by_cases a2 : x = 13
  · subst a2; cases h
  by_cases a3 : x = 7
  · subst a3; cases h
  by_cases a4 : x = 8
  · subst a4; cases h
  by_cases a5 : x = 12
  · subst a5; cases h
  by_cases a6 : x = 11
  · subst a6; cases h
  unfold letC
  rw [if_neg (show ¬ (x.toNat : Int) = 7 from k 7 (by omega) a3), if_neg (show ¬ (x.toNat : Int) = 8 from k 8 (by omega) a4), if_neg (show ¬ (x.toNat : Int) = 9 from k 9 (by omega) a1), if_neg (show ¬ (x.toNat : Int) = 10 from k 10 (by omega) a0), if_neg (show ¬ (x.toNat : Int) = 11 from k 11 (by omega) a6), if_neg (show ¬ (x.toNat : Int) = 12 from k 12 (by omega) a5), if_neg (show ¬ (x.toNat : Int) = 13 from k 13 (by omega) a2), if_neg (show ¬ (x.toNat : Int) = 92 from k 92 (by omega) h1)]
theorem oct_cells (x : UInt8) (n : Nat) (hn : x.toNat = n) : (#[Value.int .u8 92, .int .u8 (48 + (n : Int) / 64), .int .u8 (48 + (n : Int) / 8 % 8), .int .u8 (48 + (n : Int) % 8)] : Array Value).toList = Lib.byteCells (92 :: oct3 x) := by
  have hx := x.toNat_lt
  rw [hn] at hx
  have e1 : ((UInt8.ofNat (48 + n / 64)).toNat : Int) = 48 + (n : Int) / 64 := by rw [UInt8.toNat_ofNat']; omega
  have e2 : ((UInt8.ofNat (48 + n / 8 % 8)).toNat : Int) = 48 + (n : Int) / 8 % 8 := by rw [UInt8.toNat_ofNat']; omega
  have e3 : ((UInt8.ofNat (48 + n % 8)).toNat : Int) = 48 + (n : Int) % 8 := by rw [UInt8.toNat_ofNat']; omega
  simp only [Lib.byteCells, oct3, hn, List.map_cons, List.map_nil, e1, e2, e3]
  rfl
set_option maxHeartbeats 4000000 in
theorem rescape_any (s : ByteArray) (w : World) (hs : s.size ≤ 1048576) :
    Calls Try.prog 31 #[.string s] w fun e w' => e = .returned (.string ⟨(esc s.data.toList).toArray⟩) ∧ Below w.heap.size w w' := by
  go_enter Try.func31, Try.ntmps31
  go_wp2_with fail
  go_loopw [3, 4] (fun v i wr => ∃ (j : Nat) (out : List UInt8), i = .int .i64 j ∧ j ≤ s.size ∧ Hid (out = esc (s.data.toList.take j)) ∧ Hid (Own wr w.heap.size v out) ∧ Hid (Below w.heap.size w wr)) (fun _ i _ => s.size - (intOf i).toNat)
  case atStart => exact ⟨0, [], rfl, by omega, Lib.hid rfl, Lib.hid (World.ownsRow_nil _ _ _ _), Lib.hid (Below.refl _ _)⟩
  case round =>
    obtain ⟨j, out, rfl, js, OE, OW, Br⟩ := hrel
    have HO : Hid (out.length ≤ 4194304) := Lib.hid (by
      rw [OE.out]
      have := esc_len (s.data.toList.take j)
      rw [List.length_take, ← size_len] at this; omega)
    by_cases hlt : j < s.size
    · have NE := Lib.hid (esc_take s j hlt)
      obtain ⟨x, hx⟩ : ∃ x, s[j] = x := ⟨_, rfl⟩
      rw [hx, ← OE.out] at NE
      by_cases h0 : escL x = 0
      · by_cases h1 : x = 92
        · have F : Hid (esc1 x = [92, 92]) := Lib.hid (by rw [h1]; rfl)
          rw [F.out] at NE
          clear h0 F
          subst h1
          go_wp2_with (first
            | (go_at_call 53; refine (letter_is2 92 92 _ (Lib.hid (by decide))).mono ?_; rintro e w' ⟨rfl, rfl⟩)
            | (at_builtin; refine append_bytes rfl _ _ rfl _ out [92, 92] _ rfl 2 rfl (by omega) w.heap.size w _ OW.out Br.out Br.out.size (by have := HO.out; simp; omega) rfl rfl ?_; intro v2 w2 own2 bel2)
            | go_in)
          go_roundw
          case rel => exact ⟨j + 1, out ++ [92, 92], by go_num, by omega, Lib.hid NE.out.symm, own2, bel2⟩
          case measure => simp [intOf]; omega
        · have K := Lib.hid (letC_no x h0 h1)
          by_cases hp : 32 ≤ x.toNat ∧ x.toNat ≤ 126
          · have F : Hid (esc1 x = [x]) := Lib.hid (by unfold esc1; rw [if_neg (fun e => e h0), if_neg h1, if_pos hp])
            rw [F.out] at NE
            obtain ⟨p1, p2⟩ := hp
            clear h0 h1 F
            go_wp2_with (first
              | (go_at_call 53; refine (letter_is2 _ 0 _ K).mono ?_; rintro e w' ⟨rfl, rfl⟩)
              | (at_builtin; refine append_byte rfl _ _ rfl _ out x _ rfl w.heap.size w _ OW.out Br.out Br.out.size (by have := HO.out; omega) rfl rfl ?_; intro v2 w2 own2 bel2)
              | go_in)
            go_roundw
            case rel => exact ⟨j + 1, out ++ [x], by go_num, by omega, Lib.hid NE.out.symm, own2, bel2⟩
            case measure => simp [intOf]; omega
          · have F : Hid (esc1 x = 92 :: oct3 x) := Lib.hid (by unfold esc1; rw [if_neg (fun e => e h0), if_neg h1, if_neg hp])
            rw [F.out] at NE
            have hx8 := x.toNat_lt
            obtain ⟨n, hn⟩ : ∃ n, x.toNat = n := ⟨_, rfl⟩
            have OX := Lib.hid (oct_cells x n hn)
            rw [hn] at K hp hx8
            clear h0 h1 F
            by_cases p1 : 32 ≤ n
            · have p2 : ¬ n ≤ 126 := fun e => hp ⟨p1, e⟩
              clear hp
              go_wp2_with (first
                | (go_at_call 53; refine (letter_is2 _ 0 _ K).mono ?_; rintro e w' ⟨rfl, rfl⟩)
                | (at_builtin; refine append_bytes rfl _ _ rfl _ out (92 :: oct3 x) _ OX.out 4 rfl (by omega) w.heap.size w _ OW.out Br.out Br.out.size (by have := HO.out; simp [oct3]; omega) rfl rfl ?_; intro v2 w2 own2 bel2)
                | go_in)
              go_roundw
              case rel => exact ⟨j + 1, out ++ 92 :: oct3 x, by go_num, by omega, Lib.hid NE.out.symm, own2, bel2⟩
              case measure => simp [intOf]; omega
            · clear hp
              go_wp2_with (first
                | (go_at_call 53; refine (letter_is2 _ 0 _ K).mono ?_; rintro e w' ⟨rfl, rfl⟩)
                | (at_builtin; refine append_bytes rfl _ _ rfl _ out (92 :: oct3 x) _ OX.out 4 rfl (by omega) w.heap.size w _ OW.out Br.out Br.out.size (by have := HO.out; simp [oct3]; omega) rfl rfl ?_; intro v2 w2 own2 bel2)
                | go_in)
              go_roundw
              case rel => exact ⟨j + 1, out ++ 92 :: oct3 x, by go_num, by omega, Lib.hid NE.out.symm, own2, bel2⟩
              case measure => simp [intOf]; omega
      · rcases esc_cases x h0 with ⟨rfl, hF⟩ | ⟨rfl, hF⟩ | ⟨rfl, hF⟩ | ⟨rfl, hF⟩ | ⟨rfl, hF⟩ | ⟨rfl, hF⟩ | ⟨rfl, hF⟩
        · rw [hF] at NE
          clear h0 hF
          go_wp2_with (first
            | (go_at_call 53; refine (letter_is2 10 110 _ (Lib.hid (by decide))).mono ?_; rintro e w' ⟨rfl, rfl⟩)
            | (at_builtin; refine append_bytes rfl _ _ rfl _ out [92, 110] _ rfl 2 rfl (by omega) w.heap.size w _ OW.out Br.out Br.out.size (by have := HO.out; simp; omega) rfl rfl ?_; intro v2 w2 own2 bel2)
            | go_in)
          go_roundw
          case rel => exact ⟨j + 1, out ++ [92, 110], by go_num, by omega, Lib.hid NE.out.symm, own2, bel2⟩
          case measure => simp [intOf]; omega
        · rw [hF] at NE
          clear h0 hF
          go_wp2_with (first
            | (go_at_call 53; refine (letter_is2 9 116 _ (Lib.hid (by decide))).mono ?_; rintro e w' ⟨rfl, rfl⟩)
            | (at_builtin; refine append_bytes rfl _ _ rfl _ out [92, 116] _ rfl 2 rfl (by omega) w.heap.size w _ OW.out Br.out Br.out.size (by have := HO.out; simp; omega) rfl rfl ?_; intro v2 w2 own2 bel2)
            | go_in)
          go_roundw
          case rel => exact ⟨j + 1, out ++ [92, 116], by go_num, by omega, Lib.hid NE.out.symm, own2, bel2⟩
          case measure => simp [intOf]; omega
        · rw [hF] at NE
          clear h0 hF
          go_wp2_with (first
            | (go_at_call 53; refine (letter_is2 13 114 _ (Lib.hid (by decide))).mono ?_; rintro e w' ⟨rfl, rfl⟩)
            | (at_builtin; refine append_bytes rfl _ _ rfl _ out [92, 114] _ rfl 2 rfl (by omega) w.heap.size w _ OW.out Br.out Br.out.size (by have := HO.out; simp; omega) rfl rfl ?_; intro v2 w2 own2 bel2)
            | go_in)
          go_roundw
          case rel => exact ⟨j + 1, out ++ [92, 114], by go_num, by omega, Lib.hid NE.out.symm, own2, bel2⟩
          case measure => simp [intOf]; omega
        · rw [hF] at NE
          clear h0 hF
          go_wp2_with (first
            | (go_at_call 53; refine (letter_is2 7 97 _ (Lib.hid (by decide))).mono ?_; rintro e w' ⟨rfl, rfl⟩)
            | (at_builtin; refine append_bytes rfl _ _ rfl _ out [92, 97] _ rfl 2 rfl (by omega) w.heap.size w _ OW.out Br.out Br.out.size (by have := HO.out; simp; omega) rfl rfl ?_; intro v2 w2 own2 bel2)
            | go_in)
          go_roundw
          case rel => exact ⟨j + 1, out ++ [92, 97], by go_num, by omega, Lib.hid NE.out.symm, own2, bel2⟩
          case measure => simp [intOf]; omega
        · rw [hF] at NE
          clear h0 hF
          go_wp2_with (first
            | (go_at_call 53; refine (letter_is2 8 98 _ (Lib.hid (by decide))).mono ?_; rintro e w' ⟨rfl, rfl⟩)
            | (at_builtin; refine append_bytes rfl _ _ rfl _ out [92, 98] _ rfl 2 rfl (by omega) w.heap.size w _ OW.out Br.out Br.out.size (by have := HO.out; simp; omega) rfl rfl ?_; intro v2 w2 own2 bel2)
            | go_in)
          go_roundw
          case rel => exact ⟨j + 1, out ++ [92, 98], by go_num, by omega, Lib.hid NE.out.symm, own2, bel2⟩
          case measure => simp [intOf]; omega
        · rw [hF] at NE
          clear h0 hF
          go_wp2_with (first
            | (go_at_call 53; refine (letter_is2 12 102 _ (Lib.hid (by decide))).mono ?_; rintro e w' ⟨rfl, rfl⟩)
            | (at_builtin; refine append_bytes rfl _ _ rfl _ out [92, 102] _ rfl 2 rfl (by omega) w.heap.size w _ OW.out Br.out Br.out.size (by have := HO.out; simp; omega) rfl rfl ?_; intro v2 w2 own2 bel2)
            | go_in)
          go_roundw
          case rel => exact ⟨j + 1, out ++ [92, 102], by go_num, by omega, Lib.hid NE.out.symm, own2, bel2⟩
          case measure => simp [intOf]; omega
        · rw [hF] at NE
          clear h0 hF
          go_wp2_with (first
            | (go_at_call 53; refine (letter_is2 11 118 _ (Lib.hid (by decide))).mono ?_; rintro e w' ⟨rfl, rfl⟩)
            | (at_builtin; refine append_bytes rfl _ _ rfl _ out [92, 118] _ rfl 2 rfl (by omega) w.heap.size w _ OW.out Br.out Br.out.size (by have := HO.out; simp; omega) rfl rfl ?_; intro v2 w2 own2 bel2)
            | go_in)
          go_roundw
          case rel => exact ⟨j + 1, out ++ [92, 118], by go_num, by omega, Lib.hid NE.out.symm, own2, bel2⟩
          case measure => simp [intOf]; omega
    · have F : Hid (out = esc s.data.toList) := Lib.hid (by
        rw [OE.out, List.take_of_length_le (by rw [← size_len]; omega)])
      have CV := own_string OW.out
      go_wp2_with fail
      go_ret
      exact ⟨by rw [F.out]; rfl, Br.out⟩
end Go.Proofs.Ytbioflajonafdaa
