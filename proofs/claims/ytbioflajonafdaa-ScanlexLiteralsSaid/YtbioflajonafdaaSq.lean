/- walks: the reference's Tokens, SameTokens -/
import Derived.Test.YtbioflajonafdaaSp
namespace Go.Proofs.Ytbioflajonafdaa
open Go.RowKit
open Tx
theorem lastT_aft {s : ByteArray} {a : Nat} {T : List Tok} (G : GT s a T) : skp (lastT T) = aft skL T := by
  rw [aft_skp G]
  unfold skpL lastT
  cases T.getLast? with
  | none => rfl
  | some t => rfl
theorem lastT_dvs {s : ByteArray} {a : Nat} {T : List Tok} (G : GT s a T) : opd (lastT T) = dvs T := by
  rw [dvs_opd G]
  unfold lastT
  cases T.getLast? with
  | none => rfl
  | some t => rfl
/-- one round of the reference -/
theorem rsk_case {s : ByteArray} {j : Nat} {T : List Tok} (hj : j < s.size) {b : Nat} (hb : rskM s j (aft skL T) = b) :
    (j < b ∧ b ≤ s.size ∧ runM s j T = runM s b T) ∨ (b = j ∧ (pk s j = 10 → runM s j T = runM s (j + 1) (T ++ [⟨8, ⟨#[]⟩, 0, (j : Nat)⟩])) ∧ (pk s j ≠ 10 → runM s j T = nextM s j T (tokD s j (dvs T)))) := by
  have S : ∀ x, sk1 s j = some x → x = b → (j < b ∧ b ≤ s.size ∧ runM s j T = runM s b T) := by
    intro x hx e
    subst e
    have := sk1_bd hx
    exact ⟨this.1, this.2, runM_sk1 (by omega) hx⟩
  unfold rskM at hb
  by_cases h1 : pk s j = 32 ∨ pk s j = 9
  · rw [if_pos h1] at hb
    exact .inl (S _ (by unfold sk1; rw [if_neg (by omega), if_pos h1]) hb)
  rw [if_neg h1] at hb
  by_cases h10 : pk s j = 10
  · have s0 : sk1 s j = none := by unfold sk1; rw [if_neg (by omega), h10, if_neg (by decide), if_neg (by omega), if_neg (by decide)]
    rw [if_pos h10] at hb
    cases ha : aft skL T with
    | true =>
      rw [ha, if_pos rfl] at hb
      subst hb
      refine .inl ⟨by omega, by omega, ?_⟩
      rw [runM_at T (by omega) s0, if_neg (by omega), show tokM s j T = .sk (j + 1) by unfold tokM; rw [if_pos h10, ha]; rfl]; rfl
    | false =>
      rw [ha, if_neg (by decide)] at hb
      refine .inr ⟨hb.symm, fun _ => ?_, fun x => absurd h10 x⟩
      rw [runM_at T (by omega) s0, if_neg (by omega), show tokM s j T = .tk 8 ⟨#[]⟩ 0 (j + 1) by unfold tokM; rw [if_pos h10, ha]; rfl]; rfl
  rw [if_neg h10] at hb
  by_cases h92 : pk s j = 92 ∧ pk s (j + 1) = 10
  · rw [if_pos h92] at hb
    exact .inl (S _ (by unfold sk1; rw [if_neg (by omega), if_neg h1, if_pos h92]) hb)
  rw [if_neg h92] at hb
  by_cases h35 : pk s j = 35
  · rw [if_pos h35] at hb
    exact .inl (S _ (by unfold sk1; rw [if_neg (by omega), if_neg h1, if_neg h92, if_pos h35]) hb)
  rw [if_neg h35] at hb
  refine .inr ⟨hb.symm, fun x => absurd x h10, fun _ => ?_⟩
  rw [runM_at T (by omega) (by unfold sk1; rw [if_neg (by omega), if_neg h1, if_neg h92, if_neg h35]), if_neg (by omega), tokM_D T h10]
theorem rlast_is (T : List Tok) (v : Value) (B : Nat) (bt : Tok) (w : World) (h : Toks w B v T) (hl : T.length ≤ 1048576) (hb : lastT T = bt) :
    Calls Try.prog 28 #[v] w fun e w' => e = .returned (tokV bt) ∧ Below w.heap.size w w' := by
  rw [← hb]; exact rlast_any T v B w h hl
theorem rskip_is (s : ByteArray) (a : Nat) (bt : Tok) (b : Nat) (w : World) (hs : s.size ≤ 8192) (ha : a < s.size) (hb : rskM s a (skp bt) = b) :
    Calls Try.prog 27 #[.string s, .int .i64 (a : Int), tokV bt] w fun e w' => e = .returned (.int .i64 (b : Int)) ∧ Below w.heap.size w w' := by
  rw [← hb]; exact rskip_any s a bt w hs ha
theorem append_tok {ops : Array Oper} {rest : List Oper} {o : Oper} {a : Act} {Q : Exit → Act → World → Prop} (hgd : o.guard = none) (s x : Operand)
    (ho : o.op = .call { callee := .builtin .append, args := #[s, x], argTypes := #[22, 22] }) (v : Value) (T : List Tok) (u : Tok) (B : Nat) (w wr : World)
    (own : Toks wr B v T) (bel : Below B w wr) (hB : B ≤ wr.heap.size) (len : T.length ≤ 1048576) (hs : a.eval s = v) (hx : a.eval x = .slice (some ⟨wr.heap.size, 0, none⟩) 1 1)
    (h : ∀ v' w', Hid (Toks w' B v' (T ++ [u])) → Hid (Below B w w') → wpList Try.prog ops Q rest (a.put o.dst v') w') : wpList Try.prog ops Q (o :: rest) a (wr.alloc (.cells #[.int .i64 u.k, .string u.t, .int .i64 u.n, .int .i64 u.a] 32)) := by
  obtain ⟨i0, hi, hz0, hz1, hz2⟩ := info_parts infoT
  refine wpList_append_own _ hgd s x 22 ho B 32 i0 (.agg #[.int .i64 0, .string ⟨#[]⟩, .int .i64 0, .int .i64 0]) 4 40 Try.underlying22 hi hz0 hz1 hz2 rfl (by decide) v T.length (T.flatMap Tok.cells) hs (own.alloc _) ⟨wr.heap.size, 0, none⟩ 1 1 u.cells hx rfl ?_ ?_ ?_ ?_ ?_ ?_
  · intro j y hj
    rw [Go.WideShapes.add_plain, Nat.zero_add, blk_cell (heap_alloc_new wr _)]
    match j, hj with
    | 0, hj => exact hj
    | 1, hj => exact hj
    | 2, hj => exact hj
    | 3, hj => exact hj
  · intro y hy; simp [Tok.cells] at hy; rcases hy with rfl | rfl | rfl | rfl <;> rfl
  · unfold maxLen; omega
  · omega
  · simp; omega
  · intro v' w' h1 h2 _
    refine h v' w' (Lib.hid ?_) (Lib.hid ((bel.alloc hB _).grown h2 (by simp; omega) (fun k hk => (own.lt k hk).1)))
    have e : T.flatMap Tok.cells ++ u.cells = (T ++ [u]).flatMap Tok.cells := by simp
    rw [e] at h1
    show w'.ownsRow B 32 4 _ (T ++ [u]).length _
    rw [List.length_append]; exact h1
theorem good_nl (s : ByteArray) (a : Nat) : GoodT s ⟨8, ⟨#[]⟩, 0, (a : Nat)⟩ :=
  ⟨fun x => (by dsimp only at x; omega), fun x => (by dsimp only at x; omega), fun x => (by dsimp only at x; omega), fun x => (by dsimp only at x; omega), by dsimp only; omega⟩
theorem rtoken_is (s : ByteArray) (a : Nat) (bt : Tok) (o : Out) (w : World) (hs : s.size ≤ 8192) (ha : a < s.size) (ho : tokD s a (opd bt) = o) :
    Calls Try.prog 29 #[.string s, .int .i64 (a : Int), tokV bt] w fun e w' => RetO a e o ∧ Below w.heap.size w w' := by
  rw [← ho]; exact rtoken_any s a bt w hs ha
/-- where the reference's run stands -/
structure RR (s : ByteArray) (w wr : World) (j : Nat) (v : Value) (T : List Tok) : Prop where
  js : j ≤ s.size
  tl : T.length ≤ j
  gt : GT s j T
  run : tokR s = runM s j T
  own : Toks wr w.heap.size v T
  bel : Below w.heap.size w wr
set_option maxHeartbeats 8000000 in
theorem rtokens_any (s : ByteArray) (w : World) :
    Calls Try.prog 10 #[.string s] w fun e w' => ResP w' w.heap.size e (tokR s) ∧ Below w.heap.size w w' := by
  by_cases hb : 8192 < s.size
  · have R : Hid (tokR s = .err 3 8192) := Lib.hid (by unfold tokR; rw [if_pos hb])
    have i1 : (8192 : Int) < (s.size : Int) := by omega
    go_enter Try.func10, Try.ntmps10
    go_wp2_with fail
    go_ret3
    exact ⟨ResP.of R.out rfl, Below.refl _ _⟩
  have i1 : ¬ (8192 : Int) < (s.size : Int) := by omega
  have hs : s.size ≤ 8192 := by omega
  go_enter Try.func10, Try.ntmps10
  go_wp2_with fail
  go_loopw [5, 6] (fun v i wr => ∃ (j : Nat) (T : List Tok), i = .int .i64 j ∧ j ≤ s.size ∧ Hid (RR s w wr j v T)) (fun _ i _ => s.size + 1 - (intOf i).toNat)
  case atStart => exact ⟨0, [], rfl, by omega, Lib.hid ⟨by omega, Nat.le_refl _, GT.nil _ _, by unfold tokR; rw [if_neg hb], ⟨rfl, .inl ⟨rfl, rfl⟩⟩, Below.refl _ _⟩⟩
  case round =>
    obtain ⟨j, T, rfl, hj, RN⟩ := hrel
    have j1 : (0 : Int) ≤ (j : Int) := by omega
    obtain ⟨bt, hbt⟩ : ∃ bt, lastT T = bt := ⟨_, rfl⟩
    have LB := Lib.hid hbt
    have TL : Hid (T.length ≤ 1048576) := Lib.hid (by have := RN.out.tl; omega)
    have BZ := Lib.hid RN.out.bel.size
    by_cases hlt : j < s.size
    · have j2 : (j : Int) < (s.size : Int) := by omega
      obtain ⟨b, hbb⟩ : ∃ b, rskM s j (skp bt) = b := ⟨_, rfl⟩
      have HB := Lib.hid hbb
      have C := rsk_case (T := T) hlt (b := b) (by rw [← lastT_aft RN.out.gt, hbt, hbb])
      have HO : Hid (opd bt = dvs T) := Lib.hid (by rw [← hbt]; exact lastT_dvs RN.out.gt)
      clear hbb hbt
      rcases C with ⟨c1, c2, c3⟩ | ⟨rfl, c2, c3⟩
      · have R := Lib.hid c3
        have c1' : (j : Int) < (b : Int) := by omega
        clear c3
        go_wp2_with (first | (go_at_call 28; refine (rlast_is T _ w.heap.size bt _ RN.out.own TL.out LB.out).mono ?_; rintro e w1 ⟨rfl, hb1⟩) | (go_at_call 27; refine (rskip_is s j bt b _ hs hlt HB.out).mono ?_; rintro e w2 ⟨rfl, hb2⟩))
        have BB := hb1.trans (hb2.mono hb1.size)
        go_roundw
        case rel => exact ⟨b, T, rfl, c2, Lib.hid ⟨c2, by have := RN.out.tl; omega, RN.out.gt.le (by omega), by rw [RN.out.run, R.out], owns_below RN.out.own BB, RN.out.bel.trans (BB.mono BZ.out)⟩⟩
        case measure => simp [intOf]; omega
      by_cases h10 : s[b].toNat = 10
      · have t10 : ((s[b].toNat : Int) == 10) = true := by rw [beq_iff_eq]; omega
        have R := Lib.hid (c2 ((pk_at hlt).trans h10))
        clear c2 c3
        go_wp2_with (first | (go_at_call 28; refine (rlast_is T _ w.heap.size bt _ RN.out.own TL.out LB.out).mono ?_; rintro e w1 ⟨rfl, hb1⟩) | (go_at_call 27; refine (rskip_is s b bt b _ hs hlt HB.out).mono ?_; rintro e w2 ⟨rfl, hb2⟩; have BB := Lib.hid (hb1.trans (hb2.mono hb1.size)); have OW := Lib.hid (owns_below RN.out.own BB.out); have WB := Lib.hid (RN.out.bel.trans (BB.out.mono BZ.out))) | (at_builtin; refine append_tok rfl _ _ rfl _ T ⟨8, ⟨#[]⟩, 0, (b : Nat)⟩ w.heap.size w _ OW.out WB.out WB.out.size TL.out rfl rfl ?_; intro v2 w4 own2 bel2))
        go_roundw
        case rel => exact ⟨b + 1, _, by go_num, by omega, Lib.hid ⟨by omega, by have := RN.out.tl; simp; omega, RN.out.gt.snoc (good_nl s b) rfl (by omega), by rw [RN.out.run, R.out], own2.out, bel2.out⟩⟩
        case measure => simp [intOf]; omega
      have t10 : ((s[b].toNat : Int) == 10) = false := by rw [beq_eq_false_iff_ne]; omega
      have R := Lib.hid (c3 (by rw [pk_at hlt]; exact h10))
      obtain ⟨o, ho⟩ : ∃ o, tokD s b (opd bt) = o := ⟨_, rfl⟩
      have HT : Hid (tokM s b T = o) := Lib.hid (by rw [tokM_D T (by rw [pk_at hlt]; exact h10), ← HO.out, ho])
      have TB : Hid (OutB s b o) := Lib.hid (by rw [← HT.out]; exact tokM_bd hlt)
      have R : Hid (tokR s = nextM s b T o) := Lib.hid (by rw [RN.out.run, R.out, ← HO.out, ho])
      have HD := Lib.hid ho
      clear c2 c3 ho
      cases o with
      | sk x => go_wp2_with (first | (go_at_call 28; (first | (refine (rlast_is T _ w.heap.size bt _ RN.out.own TL.out LB.out).mono ?_; rintro e w1 ⟨rfl, hb1⟩) | (refine (rlast_is T _ w.heap.size bt _ OW.out TL.out LB.out).mono ?_; rintro e w3 ⟨rfl, hb3⟩))) | (go_at_call 27; refine (rskip_is s b bt b _ hs hlt HB.out).mono ?_; rintro e w2 ⟨rfl, hb2⟩; have BB := Lib.hid (hb1.trans (hb2.mono hb1.size)); have OW := Lib.hid (owns_below RN.out.own BB.out); have WB := Lib.hid (RN.out.bel.trans (BB.out.mono BZ.out))) | (go_at_call 29; refine (rtoken_is s b bt (.sk x) _ hs hlt HD.out).mono ?_; rintro e w5 ⟨R5, hb5⟩; exact R5.elim))
      | er x k =>
        obtain ⟨x1, -⟩ := TB.out
        rcases x1 with rfl | rfl
        all_goals go_wp2_with (first | (go_at_call 28; (first | (refine (rlast_is T _ w.heap.size bt _ RN.out.own TL.out LB.out).mono ?_; rintro e w1 ⟨rfl, hb1⟩) | (refine (rlast_is T _ w.heap.size bt _ OW.out TL.out LB.out).mono ?_; rintro e w3 ⟨rfl, hb3⟩))) | (go_at_call 27; refine (rskip_is s b bt b _ hs hlt HB.out).mono ?_; rintro e w2 ⟨rfl, hb2⟩; have BB := Lib.hid (hb1.trans (hb2.mono hb1.size)); have OW := Lib.hid (owns_below RN.out.own BB.out); have WB := Lib.hid (RN.out.bel.trans (BB.out.mono BZ.out))) | (go_at_call 29; refine (rtoken_is s b bt (.er _ k) _ hs hlt HD.out).mono ?_; rintro e w5 ⟨R5, hb5⟩; obtain ⟨t, z, rfl⟩ := R5; have B5 := Lib.hid (hb3.trans (hb5.mono hb3.size)); have W5 := Lib.hid (WB.out.trans (B5.out.mono WB.out.size))))
        all_goals go_ret3
        all_goals exact ⟨ResP.of R.out rfl, W5.out.alloc W5.out.size _⟩
      | tk k t n b' =>
        obtain ⟨x1, x2⟩ := TB.out
        have G := Lib.hid (tok_good hlt HT.out)
        have wrb : IntKind.i64.wrap (b' : Int) = (b' : Int) := by rw [IntKind.wrap_i64]; omega
        go_wp2_with (first | (go_at_call 28; (first | (refine (rlast_is T _ w.heap.size bt _ RN.out.own TL.out LB.out).mono ?_; rintro e w1 ⟨rfl, hb1⟩) | (refine (rlast_is T _ w.heap.size bt _ OW.out TL.out LB.out).mono ?_; rintro e w3 ⟨rfl, hb3⟩))) | (go_at_call 27; refine (rskip_is s b bt b _ hs hlt HB.out).mono ?_; rintro e w2 ⟨rfl, hb2⟩; have BB := Lib.hid (hb1.trans (hb2.mono hb1.size)); have OW := Lib.hid (owns_below RN.out.own BB.out); have WB := Lib.hid (RN.out.bel.trans (BB.out.mono BZ.out))) | (go_at_call 29; refine (rtoken_is s b bt (.tk k t n b') _ hs hlt HD.out).mono ?_; rintro e w5 ⟨R5, hb5⟩; obtain rfl := R5; have B5 := Lib.hid (hb3.trans (hb5.mono hb3.size)); have W5 := Lib.hid (WB.out.trans (B5.out.mono WB.out.size))) | (at_builtin; refine append_tok rfl _ _ rfl _ T ⟨k, t, n, (b : Nat)⟩ w.heap.size w _ (owns_below OW.out (B5.out.alloc B5.out.size _)) (W5.out.alloc W5.out.size _) (W5.out.alloc W5.out.size _).size TL.out rfl (by simp [Act.eval]) ?_; intro v2 w4 own2 bel2))
        go_roundw
        case rel => exact ⟨b', _, rfl, x2, Lib.hid ⟨x2, by have := RN.out.tl; simp; omega, RN.out.gt.snoc G.out rfl x1, R.out, own2.out, bel2.out⟩⟩
        case measure => simp [intOf]; omega
    · have j2 : ¬ (j : Int) < (s.size : Int) := by omega
      have R : Hid (tokR s = .ok (T ++ [⟨0, ⟨#[]⟩, 0, (s.size : Nat)⟩])) := Lib.hid (by
        have e : j = s.size := by omega
        rw [RN.out.run, e, runM_at _ (Nat.le_refl _) (by unfold sk1; rw [if_pos (Nat.le_refl _)]), if_pos (Nat.le_refl _)])
      go_wp2_with (first | (at_builtin; refine append_tok rfl _ _ rfl _ T ⟨0, ⟨#[]⟩, 0, (s.size : Nat)⟩ w.heap.size w _ RN.out.own RN.out.bel BZ.out TL.out rfl rfl ?_; intro v2 w2 own2 bel2))
      go_ret3
      exact ⟨ResP.of R.out ⟨v2, rfl, own2.out⟩, bel2.out⟩
end Go.Proofs.Ytbioflajonafdaa
