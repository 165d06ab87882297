/- walks: Words -/
import Derived.Test.YtbioflajonafdaaYa
import Derived.Test.YtbioflajonafdaaPb
namespace Go.Proofs.Ytbioflajonafdaa
open Go.RowKit
open Tx
theorem is_sp (c : UInt8) : isSp c = (((c.toNat : Int) == 32) || ((c.toNat : Int) == 9) || ((c.toNat : Int) == 10)) := by
  have e : ∀ n : Nat, n < 256 → decide (c = UInt8.ofNat n) = ((c.toNat : Int) == (n : Int)) := by
    intro n hn
    by_cases h : c = UInt8.ofNat n
    · rw [decide_eq_true h, h, UInt8.toNat_ofNat']; symm; rw [beq_iff_eq]; omega
    · rw [decide_eq_false h]; symm; rw [beq_eq_false_iff_ne]; intro x; apply h
      apply UInt8.toNat_inj.1; rw [UInt8.toNat_ofNat']; omega
  unfold isSp
  have e1 := e 32 (by omega)
  have e2 := e 9 (by omega)
  have e3 := e 10 (by omega)
  have c1 : (32 : UInt8) = UInt8.ofNat 32 := rfl
  have c2 : (9 : UInt8) = UInt8.ofNat 9 := rfl
  have c3 : (10 : UInt8) = UInt8.ofNat 10 := rfl
  rw [c1, c2, c3, e1, e2, e3]
  rfl
theorem WI.mk' {p : Nat} {s : ByteArray} {w : World} (hp : w.heap.size = p) : Below p w (((w.alloc (.cells #[.string s] 9)).alloc (.cells #[.slice none 0 0] 62)).alloc (.cells #[.int .i64 (-1)] 3)) ∧
    WI p s (-1) (.slice none 0 0) [] (((w.alloc (.cells #[.string s] 9)).alloc (.cells #[.slice none 0 0] 62)).alloc (.cells #[.int .i64 (-1)] 3)) := by
  subst hp
  have s1 : (w.alloc (.cells #[.string s] 9)).heap.size = w.heap.size + 1 := by simp
  have s2 : ((w.alloc (.cells #[.string s] 9)).alloc (.cells #[.slice none 0 0] 62)).heap.size = w.heap.size + 2 := by simp
  have n1 := heap_alloc_new w (.cells #[.string s] 9)
  have n2 := heap_alloc_new (w.alloc (.cells #[.string s] 9)) (.cells #[.slice none 0 0] 62)
  have n3 := heap_alloc_new ((w.alloc (.cells #[.string s] 9)).alloc (.cells #[.slice none 0 0] 62)) (.cells #[.int .i64 (-1)] 3)
  rw [s1] at n2
  rw [s2] at n3
  refine ⟨(((Below.refl _ w).alloc (Nat.le_refl _) _).alloc (by omega) _).alloc (by omega) _, ?_, ?_, n3, ⟨rfl, .inl ⟨rfl, rfl⟩⟩, ?_⟩
  · rw [Below.heap_alloc _ _ _ (by omega), Below.heap_alloc _ _ _ (by omega)]; exact n1
  · rw [Below.heap_alloc _ _ _ (by omega)]; exact n2
  · simp only [World.size_alloc]; omega
theorem own_mono {w : World} {B B' : Nat} {v : Value} {L : List ByteArray} (h : OwnS w B v L) (hB : B' ≤ B) : OwnS w B' v L := by
  obtain ⟨h1, h2⟩ := h
  refine ⟨h1, ?_⟩
  rcases h2 with h2 | ⟨g, cap, cur, rfl, hg, r⟩
  · exact .inl h2
  · exact .inr ⟨g, cap, cur, rfl, by omega, r⟩
theorem WI.from {p : Nat} {s : ByteArray} {f : Int} {v : Value} {L : List ByteArray} {w : World} (h : WI p s f v L w) (g : Int) : Below p w (w.setCell ⟨p + 2, 0, none⟩ (.int .i64 g)) ∧ WI p s g v L (w.setCell ⟨p + 2, 0, none⟩ (.int .i64 g)) := by
  refine ⟨(Below.refl p w).setCell (by show p ≤ p + 2; omega) _, ?_, ?_, set_blk h.bf, own_of h.own fun k hk => ?_, by simp only [World.size_setCell]; exact h.size⟩
  · rw [Below.heap_setCell _ _ _ _ (by show p ≠ p + 2; omega)]; exact h.bs
  · rw [Below.heap_setCell _ _ _ _ (by show p + 1 ≠ p + 2; omega)]; exact h.bo
  · rw [Below.heap_setCell _ _ _ _ (by show k ≠ p + 2; omega)]
theorem append_strs {ops : Array Oper} {rest : List Oper} {o : Oper} {a : Act} {Q : Exit → Act → World → Prop} (hgd : o.guard = none) (s x : Operand)
    (ho : o.op = .call { callee := .builtin .append, args := #[s, x], argTypes := #[62, 62] }) (v : Value) (L : List ByteArray) (u : ByteArray) (B : Nat) (w wr : World)
    (own : OwnS wr B v L) (bel : Below B w wr) (hB : B ≤ wr.heap.size) (len : L.length ≤ 1048576) (hs : a.eval s = v) (hx : a.eval x = .slice (some ⟨wr.heap.size, 0, none⟩) 1 1)
    (h : ∀ v' w', Hid (OwnS w' B v' (L ++ [u])) → Hid (Below B w w') → wpList Try.prog ops Q rest (a.put o.dst v') w') : wpList Try.prog ops Q (o :: rest) a (wr.alloc (.cells #[.string u] 9)) := by
  obtain ⟨i0, hi, hz0, hz1, hz2⟩ := info_parts infoS
  refine wpList_append_own _ hgd s x 62 ho B 9 i0 (.string ⟨#[]⟩) 1 16 Try.underlying62 hi hz0 hz1 hz2 rfl (by decide) v L.length (L.map Value.string) hs (own.alloc _) ⟨wr.heap.size, 0, none⟩ 1 1 [.string u] hx rfl ?_ ?_ ?_ ?_ ?_ ?_
  · intro j y hj
    match j, hj with
    | 0, hj => simp at hj; subst hj; simp [Addr.add]
  · intro y hy; simp at hy; subst hy; rfl
  · unfold maxLen; omega
  · omega
  · simp; omega
  · intro v' w' h1 h2 _
    refine h v' w' (Lib.hid ?_) (Lib.hid ((bel.alloc hB _).grown h2 (by simp; omega) (fun k hk => (own.lt k hk).1)))
    have e : L.map Value.string ++ [.string u] = (L ++ [u]).map Value.string := by simp
    rw [e] at h1
    show w'.ownsRow B 9 1 _ (L ++ [u]).length ((L ++ [u]).map Value.string)
    rw [List.length_append]; exact h1
theorem rspace_any (c : UInt8) (b : Bool) (w : World) (hb : Hid (isSp c = b)) :
    Calls Try.prog 64 #[.int .u8 (c.toNat : Int)] w fun e w' => e = .returned (.bool b) ∧ w = w' := by
  have h := is_sp c
  rw [hb.out] at h
  subst h
  cases h1 : ((c.toNat : Int) == 32)
  · cases h2 : ((c.toNat : Int) == 9)
    · cases h3 : ((c.toNat : Int) == 10)
      all_goals go_enter Try.func64, Try.ntmps64
      all_goals go_wp2_with fail
      all_goals go_ret
      all_goals exact ⟨rfl, rfl⟩
    · go_enter Try.func64, Try.ntmps64
      go_wp2_with fail
      go_ret
      exact ⟨rfl, rfl⟩
  · go_enter Try.func64, Try.ntmps64
    go_wp2_with fail
    go_ret
    exact ⟨rfl, rfl⟩
set_option maxHeartbeats 1000000 in
theorem rwords_any (s : ByteArray) (w : World) (hs : s.size ≤ 1048576) :
    Calls Try.prog 52 #[.string s] w fun e w' => ∃ v L, e = .returned v ∧ L.map (·.data.toList) = wrds s.data.toList ∧ OwnS w' w.heap.size v L ∧ Below w.heap.size w w' := by
  go_enter Try.func52, Try.ntmps52
  go_wp2_with fail
  go_loopw [3, 4, 5] (fun v g i wr => ∃ (j : Nat) (f : Int) (L : List ByteArray), i = .int .i64 j ∧ g = .int .i64 f ∧ j ≤ s.size ∧ Hid (WSt s j f L) ∧ Hid (OwnS wr w.heap.size v L) ∧ Hid (Below w.heap.size w wr)) (fun _ _ i _ => s.size - (intOf i).toNat)
  case atStart => exact ⟨0, -1, [], rfl, rfl, by omega, Lib.hid (WSt.start s), Lib.hid ⟨rfl, .inl ⟨rfl, rfl⟩⟩, Lib.hid (Below.refl _ _)⟩
  case round =>
    obtain ⟨j, f, L, rfl, rfl, js, ST, OW, Br⟩ := hrel
    have LL : Hid (L.length ≤ 1048576) := Lib.hid (by have := ST.out.len; omega)
    have FL := ST.out.lo
    by_cases hlt : j < s.size
    · cases hx : isSp s[j]
      · have SN := Lib.hid hx; clear hx
        rcases FL with rfl | ⟨k, rfl, hk⟩
        · have ST2 := Lib.hid (ST.out.no_no hlt SN.out)
          go_wp2_with (first
            | (go_at_call 64; refine (rspace_any s[j] false _ SN).mono ?_; rintro e w2 ⟨rfl, rfl⟩))
          go_roundw
          case rel => exact ⟨j + 1, (j : Int), L, by go_num, rfl, by omega, ST2, OW, Br⟩
          case measure => simp [intOf]; omega
        · have ST2 := Lib.hid (ST.out.no_yes hlt SN.out)
          go_wp2_with (first
            | (go_at_call 64; refine (rspace_any s[j] false _ SN).mono ?_; rintro e w2 ⟨rfl, rfl⟩))
          go_roundw
          case rel => exact ⟨j + 1, (k : Int), L, by go_num, rfl, by omega, ST2, OW, Br⟩
          case measure => simp [intOf]; omega
      · have SN := Lib.hid hx; clear hx
        rcases FL with rfl | ⟨k, rfl, hk⟩
        · have ST2 := Lib.hid (ST.out.sp_no hlt SN.out)
          go_wp2_with (first
            | (go_at_call 64; refine (rspace_any s[j] true _ SN).mono ?_; rintro e w2 ⟨rfl, rfl⟩))
          go_roundw
          case rel => exact ⟨j + 1, -1, L, by go_num, rfl, by omega, ST2, OW, Br⟩
          case measure => simp [intOf]; omega
        · have ST2 := Lib.hid (ST.out.sp_yes hlt SN.out)
          obtain ⟨u, hu⟩ : ∃ u, s.extract k j = u := ⟨_, rfl⟩
          rw [hu] at ST2
          go_wp2_with (first
            | (go_at_call 64; refine (rspace_any s[j] true _ SN).mono ?_; rintro e w2 ⟨rfl, rfl⟩)
            | (at_builtin; refine append_strs rfl _ _ rfl _ L u w.heap.size w _ OW.out Br.out Br.out.size LL.out rfl rfl ?_; intro v2 w2 own2 bel2)
            | go_in)
          go_roundw
          case rel => exact ⟨j + 1, -1, _, by go_num, rfl, by omega, ST2, own2, bel2⟩
          case measure => simp [intOf]; omega
    · obtain rfl : j = s.size := by omega
      rcases FL with rfl | ⟨k, rfl, hk⟩
      · have E := Lib.hid ST.out.end_no
        go_wp2_with fail
        go_ret
        exact ⟨_, L, rfl, E.out, OW.out, Br.out⟩
      · have E := Lib.hid ST.out.end_yes
        obtain ⟨u, hu⟩ : ∃ u, s.extract k s.size = u := ⟨_, rfl⟩
        rw [hu] at E
        go_wp2_with (first
          | (at_builtin; refine append_strs rfl _ _ rfl _ L u w.heap.size w _ OW.out Br.out Br.out.size LL.out rfl rfl ?_; intro v2 w2 own2 bel2)
          | go_in)
        go_ret
        exact ⟨_, _, rfl, E.out, own2.out, bel2.out⟩
end Go.Proofs.Ytbioflajonafdaa
