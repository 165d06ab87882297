/- walks: Words -/
import Derived.Test.YtpakciceohgfhaaDoorWa
import Derived.Test.YtpakciceohgfhaaDoorWplain
namespace Go.Proofs.YtpakciceohgfhaaDoor
open Go.RowKit
open Tx
theorem is_sp (c : UInt8) : isSp c = (((c.toNat : Int) == 32) || ((c.toNat : Int) == 9) || ((c.toNat : Int) == 10)) := by
  have e : ∀ n : Nat, n < 256 → decide (c = UInt8.ofNat n) = ((c.toNat : Int) == (n : Int)) := by
    intro n hn
    by_cases h : c = UInt8.ofNat n
    · rw [decide_eq_true h, h, UInt8.toNat_ofNat']; symm; rw [beq_iff_eq]; omega
    · rw [decide_eq_false h]; symm; rw [beq_eq_false_iff_ne]; intro x; apply h
      apply UInt8.toNat_inj.1; rw [UInt8.toNat_ofNat']; omega
  unfold isSp
  have e1 := e 32 (by omega)
  have e2 := e 9 (by omega)
  have e3 := e 10 (by omega)
  have c1 : (32 : UInt8) = UInt8.ofNat 32 := rfl
  have c2 : (9 : UInt8) = UInt8.ofNat 9 := rfl
  have c3 : (10 : UInt8) = UInt8.ofNat 10 := rfl
  rw [c1, c2, c3, e1, e2, e3]
  rfl
theorem space_any (c : UInt8) (b : Bool) (w : World) (hb : Hid (isSp c = b)) :
    Calls Tryd.prog 36 #[.int .i32 (c.toNat : Int)] w fun e w' => e = .returned (.bool b) ∧ w = w' := by
  have h := is_sp c
  rw [hb.out] at h
  subst h
  cases h1 : ((c.toNat : Int) == 32)
  · cases h2 : ((c.toNat : Int) == 9)
    · cases h3 : ((c.toNat : Int) == 10)
      all_goals go_enter Tryd.func36, Tryd.ntmps36
      all_goals go_wp2_with fail
      all_goals go_ret
      all_goals exact ⟨rfl, rfl⟩
    · go_enter Tryd.func36, Tryd.ntmps36
      go_wp2_with fail
      go_ret
      exact ⟨rfl, rfl⟩
  · go_enter Tryd.func36, Tryd.ntmps36
    go_wp2_with fail
    go_ret
    exact ⟨rfl, rfl⟩
theorem space_w (c : UInt8) (b : Bool) (w : World) (hb : Hid (isSp c = b)) :
    Calls Tryd.prog 36 #[.int .i32 (wrap32 (c.toNat : Int))] w fun e w' => e = .returned (.bool b) ∧ w = w' := by
  have e : wrap32 (c.toNat : Int) = (c.toNat : Int) := by have := c.toNat_lt; unfold wrap32; omega
  rw [e]; exact space_any c b w hb
theorem WI.mk' {p : Nat} {s : ByteArray} {w : World} (hp : w.heap.size = p) : Below p w (((w.alloc (.cells #[.string s] 9)).alloc (.cells #[.slice none 0 0] 28)).alloc (.cells #[.int .i64 (-1)] 3)) ∧
    WI p s (-1) (.slice none 0 0) [] (((w.alloc (.cells #[.string s] 9)).alloc (.cells #[.slice none 0 0] 28)).alloc (.cells #[.int .i64 (-1)] 3)) := by
  subst hp
  have s1 : (w.alloc (.cells #[.string s] 9)).heap.size = w.heap.size + 1 := by simp
  have s2 : ((w.alloc (.cells #[.string s] 9)).alloc (.cells #[.slice none 0 0] 28)).heap.size = w.heap.size + 2 := by simp
  have n1 := heap_alloc_new w (.cells #[.string s] 9)
  have n2 := heap_alloc_new (w.alloc (.cells #[.string s] 9)) (.cells #[.slice none 0 0] 28)
  have n3 := heap_alloc_new ((w.alloc (.cells #[.string s] 9)).alloc (.cells #[.slice none 0 0] 28)) (.cells #[.int .i64 (-1)] 3)
  rw [s1] at n2
  rw [s2] at n3
  refine ⟨(((Below.refl _ w).alloc (Nat.le_refl _) _).alloc (by omega) _).alloc (by omega) _, ?_, ?_, n3, ⟨rfl, .inl ⟨rfl, rfl⟩⟩, ?_⟩
  · rw [Below.heap_alloc _ _ _ (by omega), Below.heap_alloc _ _ _ (by omega)]; exact n1
  · rw [Below.heap_alloc _ _ _ (by omega)]; exact n2
  · simp only [World.size_alloc]; omega
theorem own_mono {w : World} {B B' : Nat} {v : Value} {L : List ByteArray} (h : OwnS w B v L) (hB : B' ≤ B) : OwnS w B' v L := by
  obtain ⟨h1, h2⟩ := h
  refine ⟨h1, ?_⟩
  rcases h2 with h2 | ⟨g, cap, cur, rfl, hg, r⟩
  · exact .inl h2
  · exact .inr ⟨g, cap, cur, rfl, by omega, r⟩
theorem WI.from {p : Nat} {s : ByteArray} {f : Int} {v : Value} {L : List ByteArray} {w : World} (h : WI p s f v L w) (g : Int) : Below p w (w.setCell ⟨p + 2, 0, none⟩ (.int .i64 g)) ∧ WI p s g v L (w.setCell ⟨p + 2, 0, none⟩ (.int .i64 g)) := by
  refine ⟨(Below.refl p w).setCell (by show p ≤ p + 2; omega) _, ?_, ?_, set_blk h.bf, own_of h.own fun k hk => ?_, by simp only [World.size_setCell]; exact h.size⟩
  · rw [Below.heap_setCell _ _ _ _ (by show p ≠ p + 2; omega)]; exact h.bs
  · rw [Below.heap_setCell _ _ _ _ (by show p + 1 ≠ p + 2; omega)]; exact h.bo
  · rw [Below.heap_setCell _ _ _ _ (by show k ≠ p + 2; omega)]
set_option maxHeartbeats 1000000 in
theorem words_any (s : ByteArray) (w : World) (hs : s.size ≤ 1048576) :
    Calls Tryd.prog 25 #[.string s] w fun e w' => ∃ v L, e = .returned v ∧ L.map (·.data.toList) = wrds s.data.toList ∧ OwnS w' w.heap.size v L ∧ Below w.heap.size w w' := by
  obtain ⟨p, hp⟩ : ∃ p, w.heap.size = p := ⟨_, rfl⟩
  have M := Lib.hid (WI.mk' (s := s) hp)
  go_enter Tryd.func25, Tryd.ntmps25
  go_wp2_with fail
  simp only [Nat.add_assoc, Nat.reduceAdd]
  go_loopw [10] (fun i wr => ∃ (j : Nat) (f : Int) (v : Value) (L : List ByteArray), i = .int .i64 j ∧ j ≤ s.size ∧ Hid (WSt s j f L) ∧ Hid (WI p s f v L wr) ∧ Hid (Below p w wr)) (fun i _ => s.size - (intOf i).toNat)
  case atStart => exact ⟨0, -1, _, [], rfl, by omega, Lib.hid (WSt.start s), Lib.hid M.out.2, Lib.hid M.out.1⟩
  case round =>
    obtain ⟨j, f, v, L, rfl, js, ST, W0, Br⟩ := hrel
    have c1 := (cell_blk W0.out.bs).1
    have c3 := (cell_blk W0.out.bf).1
    have c3' := (cell_blk W0.out.bf).2
    have LL : Hid (L.length ≤ 1048576) := Lib.hid (by have := ST.out.len; omega)
    have FL := ST.out.lo
    by_cases hlt : j < s.size
    · cases hx : isSp s[j]
      · have SN := Lib.hid hx; clear hx
        rcases FL with rfl | ⟨k, rfl, hk⟩
        · have ST2 := Lib.hid (ST.out.no_no hlt SN.out)
          have WF := Lib.hid (W0.out.from (j : Int))
          go_wp2_with (first
            | (go_at_call 36; refine (space_w s[j] false _ SN).mono ?_; rintro e w2 ⟨rfl, rfl⟩))
          go_roundw
          case rel => exact ⟨j + 1, (j : Int), v, L, by go_num, by omega, ST2, Lib.hid WF.out.2, Lib.hid (Br.out.trans WF.out.1)⟩
          case measure => simp [intOf]; omega
        · have ST2 := Lib.hid (ST.out.no_yes hlt SN.out)
          go_wp2_with (first
            | (go_at_call 36; refine (space_w s[j] false _ SN).mono ?_; rintro e w2 ⟨rfl, rfl⟩))
          go_roundw
          case rel => exact ⟨j + 1, (k : Int), v, L, by go_num, by omega, ST2, W0, Br⟩
          case measure => simp [intOf]; omega
      · have SN := Lib.hid hx; clear hx
        rcases FL with rfl | ⟨k, rfl, hk⟩
        · have ST2 := Lib.hid (ST.out.sp_no hlt SN.out)
          go_wp2_with (first
            | (go_at_call 36; refine (space_w s[j] true _ SN).mono ?_; rintro e w2 ⟨rfl, rfl⟩)
            | (go_at_call 35; refine (end_no p s j v L _ W0.out).mono ?_; rintro e w2 ⟨rfl, rfl⟩))
          go_roundw
          case rel => exact ⟨j + 1, -1, v, L, by go_num, by omega, ST2, W0, Br⟩
          case measure => simp [intOf]; omega
        · have ST2 := Lib.hid (ST.out.sp_yes hlt SN.out)
          go_wp2_with (first
            | (go_at_call 36; refine (space_w s[j] true _ SN).mono ?_; rintro e w2 ⟨rfl, rfl⟩)
            | (go_at_call 35; refine (end_yes p s k j v L _ W0.out (by omega) (by omega) LL.out).mono ?_; rintro e w2 ⟨rfl, hbl, v2, hwi⟩))
          go_roundw
          case rel => exact ⟨j + 1, -1, v2, _, by go_num, by omega, ST2, Lib.hid hwi, Lib.hid (Br.out.trans hbl)⟩
          case measure => simp [intOf]; omega
    · obtain rfl : j = s.size := by omega
      have c2 := (cell_blk W0.out.bo).1
      rcases FL with rfl | ⟨k, rfl, hk⟩
      · have E := Lib.hid ST.out.end_no
        go_wp2_with (first
          | (go_at_call 35; refine (end_no p s s.size v L _ W0.out).mono ?_; rintro e w2 ⟨rfl, rfl⟩))
        go_ret
        rw [hp]
        exact ⟨_, L, rfl, E.out, own_mono W0.out.own (by omega), Br.out⟩
      · have E := Lib.hid ST.out.end_yes
        go_wp2_with (first
          | (go_at_call 35; refine (end_yes p s k s.size v L _ W0.out (by omega) (by omega) LL.out).mono ?_; rintro e w2 ⟨rfl, hbl, v2, hwi⟩; have c4 := (cell_blk hwi.bo).1))
        go_ret
        rw [hp]
        exact ⟨_, _, rfl, E.out, own_mono hwi.own (by omega), Br.out.trans hbl⟩
theorem append_strs {ops : Array Oper} {rest : List Oper} {o : Oper} {a : Act} {Q : Exit → Act → World → Prop} (hgd : o.guard = none) (s x : Operand)
    (ho : o.op = .call { callee := .builtin .append, args := #[s, x], argTypes := #[28, 28] }) (v : Value) (L : List ByteArray) (u : ByteArray) (B : Nat) (w wr : World)
    (own : OwnS wr B v L) (bel : Below B w wr) (hB : B ≤ wr.heap.size) (len : L.length ≤ 1048576) (hs : a.eval s = v) (hx : a.eval x = .slice (some ⟨wr.heap.size, 0, none⟩) 1 1)
    (h : ∀ v' w', Hid (OwnS w' B v' (L ++ [u])) → Hid (Below B w w') → wpList Tryd.prog ops Q rest (a.put o.dst v') w') : wpList Tryd.prog ops Q (o :: rest) a (wr.alloc (.cells #[.string u] 9)) := by
  obtain ⟨i0, hi, hz0, hz1, hz2⟩ := info_parts infoS
  refine wpList_append_own _ hgd s x 28 ho B 9 i0 (.string ⟨#[]⟩) 1 16 Tryd.underlying28 hi hz0 hz1 hz2 rfl (by decide) v L.length (L.map Value.string) hs (own.alloc _) ⟨wr.heap.size, 0, none⟩ 1 1 [.string u] hx rfl ?_ ?_ ?_ ?_ ?_ ?_
  · intro j y hj
    match j, hj with
    | 0, hj => simp at hj; subst hj; simp [Addr.add]
  · intro y hy; simp at hy; subst hy; rfl
  · unfold maxLen; omega
  · omega
  · simp; omega
  · intro v' w' h1 h2 _
    refine h v' w' (Lib.hid ?_) (Lib.hid ((bel.alloc hB _).grown h2 (by simp; omega) (fun k hk => (own.lt k hk).1)))
    have e : L.map Value.string ++ [.string u] = (L ++ [u]).map Value.string := by simp
    rw [e] at h1
    show w'.ownsRow B 9 1 _ (L ++ [u]).length ((L ++ [u]).map Value.string)
    rw [List.length_append]; exact h1
theorem rspace_any (c : UInt8) (b : Bool) (w : World) (hb : Hid (isSp c = b)) :
    Calls Tryd.prog 37 #[.int .u8 (c.toNat : Int)] w fun e w' => e = .returned (.bool b) ∧ w = w' := by
  have h := is_sp c
  rw [hb.out] at h
  subst h
  cases h1 : ((c.toNat : Int) == 32)
  · cases h2 : ((c.toNat : Int) == 9)
    · cases h3 : ((c.toNat : Int) == 10)
      all_goals go_enter Tryd.func37, Tryd.ntmps37
      all_goals go_wp2_with fail
      all_goals go_ret
      all_goals exact ⟨rfl, rfl⟩
    · go_enter Tryd.func37, Tryd.ntmps37
      go_wp2_with fail
      go_ret
      exact ⟨rfl, rfl⟩
  · go_enter Tryd.func37, Tryd.ntmps37
    go_wp2_with fail
    go_ret
    exact ⟨rfl, rfl⟩
set_option maxHeartbeats 1000000 in
theorem rwords_any (s : ByteArray) (w : World) (hs : s.size ≤ 1048576) :
    Calls Tryd.prog 26 #[.string s] w fun e w' => ∃ v L, e = .returned v ∧ L.map (·.data.toList) = wrds s.data.toList ∧ OwnS w' w.heap.size v L ∧ Below w.heap.size w w' := by
  go_enter Tryd.func26, Tryd.ntmps26
  go_wp2_with fail
  go_loopw [3, 4, 5] (fun v g i wr => ∃ (j : Nat) (f : Int) (L : List ByteArray), i = .int .i64 j ∧ g = .int .i64 f ∧ j ≤ s.size ∧ Hid (WSt s j f L) ∧ Hid (OwnS wr w.heap.size v L) ∧ Hid (Below w.heap.size w wr)) (fun _ _ i _ => s.size - (intOf i).toNat)
  case atStart => exact ⟨0, -1, [], rfl, rfl, by omega, Lib.hid (WSt.start s), Lib.hid ⟨rfl, .inl ⟨rfl, rfl⟩⟩, Lib.hid (Below.refl _ _)⟩
  case round =>
    obtain ⟨j, f, L, rfl, rfl, js, ST, OW, Br⟩ := hrel
    have LL : Hid (L.length ≤ 1048576) := Lib.hid (by have := ST.out.len; omega)
    have FL := ST.out.lo
    by_cases hlt : j < s.size
    · cases hx : isSp s[j]
      · have SN := Lib.hid hx; clear hx
        rcases FL with rfl | ⟨k, rfl, hk⟩
        · have ST2 := Lib.hid (ST.out.no_no hlt SN.out)
          go_wp2_with (first
            | (go_at_call 37; refine (rspace_any s[j] false _ SN).mono ?_; rintro e w2 ⟨rfl, rfl⟩))
          go_roundw
          case rel => exact ⟨j + 1, (j : Int), L, by go_num, rfl, by omega, ST2, OW, Br⟩
          case measure => simp [intOf]; omega
        · have ST2 := Lib.hid (ST.out.no_yes hlt SN.out)
          go_wp2_with (first
            | (go_at_call 37; refine (rspace_any s[j] false _ SN).mono ?_; rintro e w2 ⟨rfl, rfl⟩))
          go_roundw
          case rel => exact ⟨j + 1, (k : Int), L, by go_num, rfl, by omega, ST2, OW, Br⟩
          case measure => simp [intOf]; omega
      · have SN := Lib.hid hx; clear hx
        rcases FL with rfl | ⟨k, rfl, hk⟩
        · have ST2 := Lib.hid (ST.out.sp_no hlt SN.out)
          go_wp2_with (first
            | (go_at_call 37; refine (rspace_any s[j] true _ SN).mono ?_; rintro e w2 ⟨rfl, rfl⟩))
          go_roundw
          case rel => exact ⟨j + 1, -1, L, by go_num, rfl, by omega, ST2, OW, Br⟩
          case measure => simp [intOf]; omega
        · have ST2 := Lib.hid (ST.out.sp_yes hlt SN.out)
          obtain ⟨u, hu⟩ : ∃ u, s.extract k j = u := ⟨_, rfl⟩
          rw [hu] at ST2
          go_wp2_with (first
            | (go_at_call 37; refine (rspace_any s[j] true _ SN).mono ?_; rintro e w2 ⟨rfl, rfl⟩)
            | (at_builtin; refine append_strs rfl _ _ rfl _ L u w.heap.size w _ OW.out Br.out Br.out.size LL.out rfl rfl ?_; intro v2 w2 own2 bel2)
            | go_in)
          go_roundw
          case rel => exact ⟨j + 1, -1, _, by go_num, rfl, by omega, ST2, own2, bel2⟩
          case measure => simp [intOf]; omega
    · obtain rfl : j = s.size := by omega
      rcases FL with rfl | ⟨k, rfl, hk⟩
      · have E := Lib.hid ST.out.end_no
        go_wp2_with fail
        go_ret
        exact ⟨_, L, rfl, E.out, OW.out, Br.out⟩
      · have E := Lib.hid ST.out.end_yes
        obtain ⟨u, hu⟩ : ∃ u, s.extract k s.size = u := ⟨_, rfl⟩
        rw [hu] at E
        go_wp2_with (first
          | (at_builtin; refine append_strs rfl _ _ rfl _ L u w.heap.size w _ OW.out Br.out Br.out.size LL.out rfl rfl ?_; intro v2 w2 own2 bel2)
          | go_in)
        go_ret
        exact ⟨_, _, rfl, E.out, own2.out, bel2.out⟩
set_option maxHeartbeats 1000000 in
theorem rlines_any (s : ByteArray) (w : World) (hs : s.size ≤ 1048576) :
    Calls Tryd.prog 19 #[.string s] w fun e w' => ∃ v L, e = .returned (.tuple #[v, .bool (linE s.data.toList)]) ∧ L.map (·.data.toList) = lin s.data.toList ∧ OwnS w' w.heap.size v L ∧ Below w.heap.size w w' := by
  go_enter Tryd.func19, Tryd.ntmps19
  go_wp2_with fail
  go_loopw [4, 5, 6] (fun v g i wr => ∃ (j k : Nat) (L : List ByteArray), i = .int .i64 j ∧ g = .int .i64 k ∧ j ≤ s.size ∧ k ≤ j ∧ Hid (LSt s j k L) ∧ Hid (OwnS wr w.heap.size v L) ∧ Hid (Below w.heap.size w wr)) (fun _ _ i _ => s.size - (intOf i).toNat)
  case atStart => exact ⟨0, 0, [], rfl, rfl, by omega, by omega, Lib.hid (LSt.start s), Lib.hid ⟨rfl, .inl ⟨rfl, rfl⟩⟩, Lib.hid (Below.refl _ _)⟩
  case round =>
    obtain ⟨j, k, L, rfl, rfl, js, kj, ST, OW, Br⟩ := hrel
    have LL : Hid (L.length ≤ 1048576) := Lib.hid (by have := ST.out.len; omega)
    by_cases hlt : j < s.size
    · by_cases hx : s[j] = 10
      · have t1 := (is_nl _).1 hx
        have t2 : ((s[j].toNat : Int) == 10) = true := by rw [t1]; rfl
        have ST2 := Lib.hid (ST.out.nl hlt hx)
        obtain ⟨u, hu⟩ : ∃ u, s.extract k j = u := ⟨_, rfl⟩
        rw [hu] at ST2
        clear hx t1
        go_wp2_with (first
          | (at_builtin; refine append_strs rfl _ _ rfl _ L u w.heap.size w _ OW.out Br.out Br.out.size LL.out rfl rfl ?_; intro v2 w2 own2 bel2)
          | go_in)
        go_roundw
        case rel => exact ⟨j + 1, j + 1, _, by go_num, by go_num, by omega, by omega, ST2, own2, bel2⟩
        case measure => simp [intOf]; omega
      · have t2 : ((s[j].toNat : Int) == 10) = false := by rw [beq_eq_false_iff_ne]; exact fun e => hx ((is_nl _).2 e)
        have ST2 := Lib.hid (ST.out.no hlt hx)
        clear hx
        go_wp2_with fail
        go_roundw
        case rel => exact ⟨j + 1, k, _, by go_num, rfl, by omega, by omega, ST2, OW, Br⟩
        case measure => simp [intOf]; omega
    · obtain rfl : j = s.size := by omega
      by_cases hk : k < s.size
      · have E := Lib.hid (ST.out.fin_open hk)
        obtain ⟨u, hu⟩ : ∃ u, s.extract k s.size = u := ⟨_, rfl⟩
        rw [hu] at E
        go_wp2_with (first
          | (at_builtin; refine append_strs rfl _ _ rfl _ L u w.heap.size w _ OW.out Br.out Br.out.size LL.out rfl rfl ?_; intro v2 w2 own2 bel2)
          | go_in)
        go_ret2
        exact ⟨_, _, by rw [E.out.2]; rfl, E.out.1, own2.out, bel2.out⟩
      · have E := Lib.hid (ST.out.fin_end hk)
        go_wp2_with fail
        go_ret2
        exact ⟨_, _, by rw [E.out.2]; rfl, E.out.1, OW.out, Br.out⟩
end Go.Proofs.YtpakciceohgfhaaDoor
