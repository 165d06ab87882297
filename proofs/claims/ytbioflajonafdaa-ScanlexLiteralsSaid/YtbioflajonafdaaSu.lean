/- walks: moved, the law Joins -/
import Derived.Test.YtbioflajonafdaaSr
namespace Go.Proofs.Ytbioflajonafdaa
open Go.RowKit
open Tx
theorem append_toks {ops : Array Oper} {rest : List Oper} {o : Oper} {a : Act} {Q : Exit → Act → World → Prop} (hgd : o.guard = none) (s x : Operand)
    (ho : o.op = .call { callee := .builtin .append, args := #[s, x], argTypes := #[22, 22] }) (v : Value) (T : List Tok) (ad : Addr) (T2 : List Tok) (n cap B : Nat) (w wr : World)
    (own : Toks wr B v T) (src : ∀ j u, (T2.flatMap Tok.cells)[j]? = some u → wr.cell? (ad.add j) = some u) (hn : T2.length = n) (bel : Below B w wr) (hB : B ≤ wr.heap.size) (len : T.length + T2.length ≤ 2097152) (hs : a.eval s = v) (hx : a.eval x = .slice (some ad) n cap)
    (h : ∀ v' w', Hid (Toks w' B v' (T ++ T2)) → Hid (Below B w w') → wpList Try.prog ops Q rest (a.put o.dst v') w') : wpList Try.prog ops Q (o :: rest) a wr := by
  subst hn
  obtain ⟨i0, hi, hz0, hz1, hz2⟩ := info_parts infoT
  have cl : ∀ L : List Tok, (L.flatMap Tok.cells).length = L.length * 4 := by
    intro L
    induction L with
    | nil => rfl
    | cons t r ih => rw [List.flatMap_cons, List.length_append, ih, List.length_cons]; simp [Tok.cells]; omega
  refine wpList_append_own _ hgd s x 22 ho B 32 i0 (.agg #[.int .i64 0, .string ⟨#[]⟩, .int .i64 0, .int .i64 0]) 4 40 Try.underlying22 hi hz0 hz1 hz2 rfl (by decide) v T.length (T.flatMap Tok.cells) hs own ad T2.length cap (T2.flatMap Tok.cells) hx (cl T2) src ?_ ?_ ?_ hB ?_
  · intro y hy
    obtain ⟨t, -, ht⟩ := List.mem_flatMap.1 hy
    simp [Tok.cells] at ht; rcases ht with rfl | rfl | rfl | rfl <;> rfl
  · unfold maxLen; omega
  · omega
  · intro v' w' h1 h2 _
    refine h v' w' (Lib.hid ?_) (Lib.hid (bel.grown h2 hB (fun k hk => (own.lt k hk).1)))
    rw [← List.flatMap_append] at h1
    show w'.ownsRow B 32 4 _ (T ++ T2).length _
    rw [List.length_append]; exact h1
set_option maxHeartbeats 4000000 in
theorem moved_any (T : List Tok) (v : Value) (d : Nat) (w : World) (h : TkR w v T) (hl : T.length ≤ 1048576) (hd : d ≤ 1048576) (ha : ∀ t ∈ T, 0 ≤ t.a ∧ t.a ≤ 1048576) :
    Calls Try.prog 14 #[v, .int .i64 (d : Int)] w fun e w' => ∃ v', e = .returned v' ∧ Hid (Toks w' w.heap.size v' (T.map (Tok.mv d))) ∧ Hid (Below w.heap.size w w') := by
  by_cases hT : T = []
  · subst hT
    obtain ⟨-, p, cap, rfl, -⟩ := h
    go_enter Try.func14, Try.ntmps14
    go_wp2_with fail
    go_loop [5, 6] (fun v i => v = .slice none 0 0 ∧ i = .int .i64 0) (fun _ _ => 0)
    case atStart => exact ⟨rfl, rfl⟩
    case round =>
      obtain ⟨rfl, rfl⟩ := hrel
      go_wp2_with fail
      go_ret
      exact ⟨_, rfl, Lib.hid (Toks.none _ _), Lib.hid (Below.refl _ _)⟩
  · obtain ⟨g, o, cap, rfl, hg, hc⟩ := h.at hT
    obtain ⟨n, hn⟩ : ∃ n, T.length = n := ⟨_, rfl⟩
    rw [hn] at hl
    have C1 := Lib.hid hc
    clear hc h
    rw [hn]
    have HN := Lib.hid hn
    clear hn
    go_enter Try.func14, Try.ntmps14
    go_wp2_with fail
    have A0 : Hid (Toks w w.heap.size (.slice none 0 0) ((T.take 0).map (Tok.mv d))) := Lib.hid (Toks.none _ _)
    go_loopw [5, 6] (fun v i wr => ∃ j : Nat, i = .int .i64 j ∧ j ≤ n ∧ Hid (Toks wr w.heap.size v ((T.take j).map (Tok.mv d))) ∧ Hid (Below w.heap.size w wr)) (fun _ i _ => n - (intOf i).toNat)
    case atStart => exact ⟨0, rfl, by omega, A0, Lib.hid (Below.refl _ _)⟩
    case round =>
      obtain ⟨j, rfl, hj, OW, HB⟩ := hrel
      have B := HB.out
      by_cases hlt : j < n
      · have j1 : (0 : Int) ≤ (j : Int) := by omega
        have j2 : (j : Int) < (n : Int) := by omega
        have wr1 : IntKind.i64.wrap ((j : Int) + 1) = (j : Int) + 1 := by rw [IntKind.wrap_i64]; omega
        have wr0 : IntKind.i64.wrap (j : Int) = (j : Int) := by rw [IntKind.wrap_i64]; omega
        obtain ⟨t, ht⟩ : ∃ t, T[j]? = some t := ⟨_, List.getElem?_eq_getElem (by rw [HN.out]; exact hlt)⟩
        obtain ⟨k0, k1, k2, k3⟩ := C1.out j t ht
        rw [← B.cell (p := ⟨g, _, none⟩) hg] at k0 k1 k2 k3
        have NX : Hid ((T.take (j + 1)).map (Tok.mv d) = (T.take j).map (Tok.mv d) ++ [Tok.mv d t]) := Lib.hid (by
          obtain ⟨hx, e⟩ := List.getElem?_eq_some_iff.1 ht
          rw [List.take_succ_eq_append_getElem hx, e]; simp)
        have TL : Hid (((T.take j).map (Tok.mv d)).length ≤ 1048576) := Lib.hid (by simp; omega)
        obtain ⟨a1, a2⟩ := ha t (List.mem_of_getElem? ht)
        obtain ⟨tk, tt, tn, ta⟩ := t
        have a1 : 0 ≤ ta := a1
        have a2 : ta ≤ 1048576 := a2
        have wr2 : IntKind.i64.wrap (ta + (d : Int)) = ta + (d : Int) := by rw [IntKind.wrap_i64]; omega
        clear ha
        have BL : Hid (∀ x, Below wr.heap.size wr (wr.alloc x)) := Lib.hid fun x => (Below.refl _ _).alloc (Nat.le_refl _) _
        go_wp2_with (first | (at_builtin; refine append_tok rfl _ _ rfl _ _ ⟨tk, tt, tn, ta + (d : Int)⟩ w.heap.size w _ (owns_below OW.out (BL.out _)) (B.trans ((BL.out _).mono B.size)) (Nat.le_trans B.size (BL.out _).size) TL.out rfl (by simp [Act.eval]) ?_; intro v2 w4 own2 bel2))
        go_roundw
        case rel => exact ⟨j + 1, by go_num, by omega, Lib.hid (by rw [NX.out]; exact own2.out), bel2⟩
        case measure => simp [intOf]; omega
      · obtain rfl : j = n := by omega
        have j2 : ¬ (j : Int) < (j : Int) := by omega
        have OV : Hid (Toks wr w.heap.size _ (T.map (Tok.mv d))) := Lib.hid (by have := OW.out; rw [← HN.out, List.take_length] at this; exact this)
        go_wp2_with fail
        go_ret
        exact ⟨_, rfl, OV, HB⟩
theorem tokR_small {s : ByteArray} {T : List Tok} (h : tokR s = .ok T) : s.size ≤ 8192 ∧ runM s 0 [] = .ok T ∧ 0 < T.length := by
  unfold tokR at h
  by_cases hb : 8192 < s.size
  · rw [if_pos hb] at h; cases h
  · rw [if_neg hb] at h
    obtain ⟨X, e, -⟩ := run_good s _ 0 rfl (by omega) [] T (GT.nil _ _) h
    exact ⟨by omega, h, by rw [e]; simp⟩
theorem up_len : ∀ (X : List Tok) (lo hi : Int), lo ≤ hi → (∀ t ∈ X, lo ≤ t.a ∧ t.a < hi) → X.Pairwise (fun x y => x.a < y.a) → (X.length : Int) ≤ hi - lo := by
  intro X
  induction X with
  | nil => intro lo hi h _ _; simp; omega
  | cons t r ih =>
    intro lo hi h hb hp
    rw [List.pairwise_cons] at hp
    have h1 := hb t (by simp)
    have := ih (t.a + 1) hi (by omega) (fun x hx => ⟨by have := hp.1 x hx; omega, (hb x (by simp [hx])).2⟩) hp.2
    rw [List.length_cons]; omega
theorem _root_.Tx.GT.len {s : ByteArray} {a : Nat} {X : List Tok} (h : GT s a X) : X.length ≤ a := by
  have := up_len X 0 a (by omega) h.lt h.up
  omega
theorem TkR.at0 {w : World} {g n cap : Nat} {T : List Tok} (h : TkR w (.slice (some ⟨g, 0, none⟩) n cap) T) (j : Nat) (t : Tok) (ht : T[j]? = some t) :
    w.cell? ⟨g, j * 4, none⟩ = some (.int .i64 t.k) ∧ w.cell? ⟨g, j * 4 + 1, none⟩ = some (.string t.t) ∧ w.cell? ⟨g, j * 4 + 2, none⟩ = some (.int .i64 t.n) ∧ w.cell? ⟨g, j * 4 + 3, none⟩ = some (.int .i64 t.a) := by
  obtain ⟨g', o', cap', hv, -, hc⟩ := h.at (by rintro rfl; simp at ht)
  simp only [Value.slice.injEq, Option.some.injEq, Addr.mk.injEq, and_true] at hv
  obtain ⟨⟨rfl, rfl⟩, -, -⟩ := hv
  have := hc j t ht
  simpa using this
theorem TkR.srcp {w : World} {g n cap : Nat} {T X : List Tok} (h : TkR w (.slice (some ⟨g, 0, none⟩) n cap) T) (hX : ∃ Z, T = X ++ Z) : ∀ j u, (X.flatMap Tok.cells)[j]? = some u → w.cell? ((⟨g, 0, none⟩ : Addr).add j) = some u := by
  intro j u hu
  obtain ⟨Z, e⟩ := hX
  obtain ⟨h1, p, cap', hv, h2⟩ := h
  have hT : T ≠ [] := by
    rintro rfl
    have := List.append_eq_nil_iff.1 e.symm
    rw [this.1] at hu; simp at hu
  obtain ⟨g', o', hp, -, hc⟩ := h2 hT
  subst hp
  simp only [Value.slice.injEq, Option.some.injEq, Addr.mk.injEq, and_true] at hv
  obtain ⟨⟨rfl, rfl⟩, -, -⟩ := hv
  rw [Go.WideShapes.add_plain]
  refine hc j u ?_
  rw [e, List.flatMap_append, List.getElem?_append_left]
  · exact hu
  · by_cases hl : j < (X.flatMap Tok.cells).length
    · exact hl
    · rw [List.getElem?_eq_none (by omega)] at hu; cases hu
theorem moved_is (T : List Tok) (n : Nat) (v : Value) (d : Nat) (x : Int) (w : World) (h : TkR w v T) (hn : T.length = n) (h0 : 0 < n) (hl : n ≤ 1048576) (hd : d ≤ 1048576) (hx : x = (d : Int)) (ha : ∀ t ∈ T, 0 ≤ t.a ∧ t.a ≤ 1048576) :
    Calls Try.prog 14 #[v, .int .i64 x] w fun e w' => ∃ g cap, e = .returned (.slice (some ⟨g, 0, none⟩) n cap) ∧ Hid (Toks w' w.heap.size (.slice (some ⟨g, 0, none⟩) n cap) (T.map (Tok.mv d))) ∧ Hid (Below w.heap.size w w') := by
  subst hx hn
  refine (moved_any T v d w h hl hd ha).mono ?_
  rintro e w' ⟨v', rfl, ht, hb⟩
  obtain ⟨g, cap, rfl, -⟩ := ht.out.cell (by intro x; rw [List.map_eq_nil_iff] at x; rw [x] at h0; simp at h0)
  rw [List.length_map] at ht ⊢
  exact ⟨g, cap, rfl, ht, hb⟩
theorem toks_bd {s : ByteArray} {T : List Tok} (hs : s.size ≤ 8192) (h : runM s 0 [] = .ok T) : ∀ t ∈ T, 0 ≤ t.a ∧ t.a ≤ 1048576 := by
  obtain ⟨X, e, G⟩ := run_good s _ 0 rfl (by omega) [] T (GT.nil _ _) h
  intro t ht
  rw [e] at ht
  rcases List.mem_append.1 ht with ht | ht
  · have := G.lt t ht; omega
  · rw [List.mem_singleton.1 ht]; unfold endT; dsimp only; omega
theorem stok_is (s : ByteArray) (T : List Tok) (n : Nat) (h : tokR s = .ok T) (hn : T.length = n) (w : World) : Calls Try.prog 9 #[.string s] w fun e w' => ∃ g cap, e = .returned (.tuple #[.slice (some ⟨g, 0, none⟩) n cap, .int .i64 0, .int .i64 0]) ∧ Hid (g < w'.heap.size) ∧ n ≤ cap ∧ Hid (Toks w' w.heap.size (.slice (some ⟨g, 0, none⟩) n cap) T) ∧ Hid (Below w.heap.size w w') := by
  subst hn
  refine (stok_ok s T h w).mono ?_
  rintro e w' ⟨⟨v, rfl, ht⟩, hb⟩
  have := (tokR_small h).2.2
  obtain ⟨g, cap, rfl, -, hg, hn, -, -⟩ := ht.out.cell (by intro x; rw [x] at this; simp at this)
  exact ⟨g, cap, rfl, Lib.hid hg, hn, ht, hb⟩
theorem tokR_err {s : ByteArray} {x : Int} {k : Nat} (h : tokR s = .err x k) : (x == 0) = false ∧ (x != 0) = true := by
  have : x ≠ 0 := by
    unfold tokR at h
    by_cases hb : 8192 < s.size
    · rw [if_pos hb] at h; injection h; omega
    · rw [if_neg hb] at h
      have := (run_err s _ 0 rfl (by omega) [] x k h).1
      omega
  exact ⟨by rw [beq_eq_false_iff_ne]; exact this, by rw [bne_iff_ne]; exact this⟩
set_option maxRecDepth 8000 in
set_option maxHeartbeats 8000000 in
theorem law_joins (a b : ByteArray) (w : World) : Calls Try.prog 4 #[.string a, .string b] w fun e w' => e = .returned (.bool true) ∧ Below w.heap.size w w' := by
  obtain ⟨ra, hra⟩ : ∃ r, tokR a = r := ⟨_, rfl⟩
  obtain ⟨rb, hrb⟩ : ∃ r, tokR b = r := ⟨_, rfl⟩
  have HA := Lib.hid hra
  have HB := Lib.hid hrb
  cases ra with
  | err x k =>
    obtain ⟨x1, x2⟩ := tokR_err hra
    clear hra
    cases rb with
    | err y m =>
      obtain ⟨y1, y2⟩ := tokR_err hrb
      clear hrb
      go_enter Try.func4, Try.ntmps4
      go_wp2_with (first | (go_at_call 9; (first | (with_reducible refine (stok_er a x k HA.out w).mono ?_; rintro e w1 ⟨rfl, B1⟩) | (with_reducible refine (stok_er b y m HB.out _).mono ?_; rintro e w2 ⟨rfl, B2⟩))) | (go_at_call 12; refine (awake_any _).mono ?_; rintro e w5 ⟨rfl, hb5⟩))
      go_ret
      exact ⟨rfl, below_then (below_then B1.out B2.out) hb5⟩
    | ok M =>
      obtain ⟨-, -, hm⟩ := tokR_small hrb
      clear hrb
      obtain ⟨n2, en2⟩ : ∃ n, M.length = n := ⟨_, rfl⟩
      have EN2 := Lib.hid en2
      rw [en2] at hm
      clear en2
      have m1 : (0 : Int) < (n2 : Int) := by omega
      go_enter Try.func4, Try.ntmps4
      go_wp2_with (first | (go_at_call 9; (first | (with_reducible refine (stok_er a x k HA.out w).mono ?_; rintro e w1 ⟨rfl, B1⟩) | (with_reducible refine (stok_is b M n2 HB.out EN2.out _).mono ?_; rintro e w2 ⟨g2, cap2, rfl, G2, N2, T2, B2⟩))) | (go_at_call 12; refine (awake_any _).mono ?_; rintro e w5 ⟨rfl, hb5⟩))
      go_ret
      exact ⟨rfl, below_then (below_then B1.out B2.out) hb5⟩
  | ok L =>
    obtain ⟨sa, ra, hl⟩ := tokR_small hra
    obtain ⟨n1, en1⟩ : ∃ n, L.length = n := ⟨_, rfl⟩
    have EN1 := Lib.hid en1
    rw [en1] at hl
    clear en1
    have l1 : (0 : Int) < (n1 : Int) := by omega
    cases rb with
    | err y m =>
      obtain ⟨y1, y2⟩ := tokR_err hrb
      clear hrb hra ra
      go_enter Try.func4, Try.ntmps4
      go_wp2_with (first | (go_at_call 9; (first | (with_reducible refine (stok_is a L n1 HA.out EN1.out w).mono ?_; rintro e w1 ⟨g1, cap1, rfl, G1, N1, T1, B1⟩) | (with_reducible refine (stok_er b y m HB.out _).mono ?_; rintro e w2 ⟨rfl, B2⟩))) | (go_at_call 12; refine (awake_any _).mono ?_; rintro e w5 ⟨rfl, hb5⟩))
      go_ret
      exact ⟨rfl, below_then (below_then B1.out B2.out) hb5⟩
    | ok M =>
      obtain ⟨sb, rb, hm⟩ := tokR_small hrb
      obtain ⟨n2, en2⟩ : ∃ n, M.length = n := ⟨_, rfl⟩
      have EN2 := Lib.hid en2
      rw [en2] at hm
      clear en2
      have m1 : (0 : Int) < (n2 : Int) := by omega
      have wr1 : IntKind.i64.wrap ((a.size : Int) + (b.size : Int)) = (a.size : Int) + (b.size : Int) := by rw [IntKind.wrap_i64]; omega
      have wr2 : IntKind.i64.wrap ((a.size : Int) + (b.size : Int) + 1) = (a.size : Int) + (b.size : Int) + 1 := by rw [IntKind.wrap_i64]; omega
      have wr3 : IntKind.i64.wrap ((a.size : Int) + 1) = (a.size : Int) + 1 := by rw [IntKind.wrap_i64]; omega
      have z1 : ((n1 : Int) == 0) = false := by rw [beq_eq_false_iff_ne]; omega
      have z2 : ((n2 : Int) == 0) = false := by rw [beq_eq_false_iff_ne]; omega
      by_cases hz : 8192 < a.size + b.size + 1
      · have i1 : (8192 : Int) < (a.size : Int) + (b.size : Int) + 1 := by omega
        clear hrb hra ra rb
        go_enter Try.func4, Try.ntmps4
        go_wp2_with (first | (go_at_call 9; (first | (with_reducible refine (stok_is a L n1 HA.out EN1.out w).mono ?_; rintro e w1 ⟨g1, cap1, rfl, G1, N1, T1, B1⟩) | (with_reducible refine (stok_is b M n2 HB.out EN2.out _).mono ?_; rintro e w2 ⟨g2, cap2, rfl, G2, N2, T2, B2⟩))) | (go_at_call 12; refine (awake_any _).mono ?_; rintro e w5 ⟨rfl, hb5⟩))
        go_ret
        exact ⟨rfl, below_then (below_then B1.out B2.out) hb5⟩
      have i1 : decide ((8192 : Int) < (a.size : Int) + (b.size : Int) + 1) = false := decide_eq_false (by omega)
      obtain ⟨u, hu⟩ : ∃ u, a ++ (ByteArray.mk #[10]) ++ b = u := ⟨_, rfl⟩
      obtain ⟨X, Y, eL, eM, GX, J⟩ := joins_plain a b u L M (by rw [← hu]; simp) ra rb
      have xl := GX.len
      have e1 : n1 = X.length + 1 := by rw [← EN1.out, eL]; simp
      have L1 : Hid (∀ t, X.getLast? = some t → L[n1 - 2]? = some t) := Lib.hid fun t ht => by
        rw [eL, List.getElem?_append_left (by
          rcases List.eq_nil_or_concat X with rfl | ⟨X0, y, rfl⟩
          · cases ht
          · simp at e1; simp; omega), e1, show X.length + 1 - 2 = X.length - 1 by omega, ← List.getLast?_eq_getElem?]
        exact ht
      obtain ⟨y, M', eM'⟩ : ∃ y M', M = y :: M' := by
        cases M with
        | nil => have := EN2.out; simp at this; omega
        | cons y M' => exact ⟨_, _, rfl⟩
      have M0 : Hid (M[0]? = some y) := Lib.hid (by rw [eM']; rfl)
      have n2b : n2 ≤ 8193 := by
        obtain ⟨Y', e, GY⟩ := run_good b _ 0 rfl (by omega) [] M (GT.nil _ _) rb
        have := GY.len
        rw [← EN2.out, e]; simp; omega
      have n1b : n1 ≤ 8193 := by omega
      have MB : Hid (∀ t ∈ M, 0 ≤ t.a ∧ t.a ≤ 1048576) := Lib.hid (toks_bd sb rb)
      have US : Hid (u.size ≤ 8192) := Lib.hid (by rw [← hu, ByteArray.size_append, ByteArray.size_append]; show a.size + 1 + b.size ≤ _; omega)
      have J := Lib.hid J
      have EL := Lib.hid eL
      have EM := Lib.hid eM'
      have GX := Lib.hid GX
      clear hra hrb ra rb eL eM eM' xl hz
      -- the cases
      obtain ⟨p, hp⟩ : ∃ p, X.length = p := ⟨_, rfl⟩
      rw [hp] at e1
      have PX := Lib.hid hp
      have XP : Hid (∃ Z, L = X ++ Z) := Lib.hid ⟨_, EL.out⟩
      have ML : Hid ((M.map (Tok.mv (a.size + 1))).length = n2) := Lib.hid (by rw [List.length_map, EN2.out])
      have wr4 : IntKind.i64.wrap ((n1 : Int) - 1) = (p : Int) := by rw [IntKind.wrap_i64]; omega
      have i3 : (0 : Int) ≤ (p : Int) := by omega
      have y0 : (0 : Int) < (n2 : Int) := by omega
      by_cases hX : X = []
      · have h0 : p = 0 := by rw [← hp, hX]; rfl
        have i2 : ¬ (1 : Int) < (n1 : Int) := by omega
        have HU : Hid (tokR u = .ok ((([] ++ X) ++ [⟨8, ⟨#[]⟩, 0, (a.size : Nat)⟩]) ++ M.map (Tok.mv (a.size + 1)))) := Lib.hid (by
          have us : ¬ 8192 < u.size := by have := US.out; omega
          unfold tokR; rw [if_neg us]
          rcases J.out with ⟨j1, -⟩ | j1
          · rw [hX] at j1; cases j1
          · rw [j1, hX]; rfl)
        have NP : p ≤ n1 := by omega
        clear hX h0 hp e1
        go_enter Try.func4, Try.ntmps4
        go_wp2_with (first | (go_at_call 9; (first | (with_reducible refine (stok_is a L n1 HA.out EN1.out w).mono ?_; rintro e w1 ⟨g1, cap1, rfl, G1, N1, T1, B1⟩; have NP1 : p ≤ cap1 := by omega) | (with_reducible refine (stok_is b M n2 HB.out EN2.out _).mono ?_; rintro e w2 ⟨g2, cap2, rfl, G2, N2, T2, B2⟩; have W2 := Lib.hid (below_then B1.out B2.out); have R1 := Lib.hid (T1.out.rd.below B2.out); have R2 := Lib.hid T2.out.rd) | (with_reducible refine (stok_ok u _ HU.out _).mono ?_; rintro e w7 ⟨⟨v7, rfl, T7⟩, B7⟩))) | (at_builtin; refine append_toks rfl _ _ rfl (.slice none 0 0) [] ⟨g1, 0, none⟩ X p cap1 w2.heap.size w2 _ (Toks.none _ _) (R1.out.srcp (XP.out)) PX.out (Below.refl _ _) (Nat.le_refl _) (by have := PX.out; have := EN2.out; simp; omega) rfl rfl ?_; intro v3 w3 own3 bel3; have C3 := Lib.hid (R2.out.below bel3.out)) | (at_builtin; refine append_tok rfl _ _ rfl v3 _ ⟨8, ⟨#[]⟩, 0, (a.size : Nat)⟩ w2.heap.size w2 _ own3.out bel3.out bel3.out.size (by have := PX.out; have := EN2.out; simp; omega) rfl rfl ?_; intro v4 w4 own4 bel4; have C4 := Lib.hid (R2.out.below bel4.out)) | (go_at_call 14; refine (moved_is M n2 _ (a.size + 1) _ _ C4.out EN2.out (by omega) (by omega) (by omega) (by simp) MB.out).mono ?_; rintro e w5 ⟨g5, cap5, rfl, T5, B5⟩; have O5 := Lib.hid (owns_below own4.out B5.out); have W5 := Lib.hid (bel4.out.trans (B5.out.mono bel4.out.size))) | (at_builtin; refine append_toks rfl _ _ rfl v4 _ ⟨g5, 0, none⟩ (M.map (Tok.mv (a.size + 1))) n2 cap5 w2.heap.size w2 _ O5.out (fun j x hx => World.ownsRow.cells T5.out rfl j x hx) ML.out W5.out W5.out.size (by have := PX.out; have := EN2.out; simp; omega) rfl rfl ?_; intro v6 w6 own6 bel6) | (go_at_call 11; refine (same_any _ _ _ _ T7.out.rd (own6.out.rd.below B7.out)).mono ?_; rintro e wa ⟨rfl, hba⟩) | (go_at_call 12; refine (awake_any _).mono ?_; rintro e w9 ⟨rfl, hb9⟩))
        go_ret
        exact ⟨rfl, below_then (below_then (below_then (W2.out.trans (bel6.out.mono W2.out.size)) B7.out) hba) hb9⟩
      · obtain ⟨t, ht⟩ : ∃ t, X.getLast? = some t := by
          rcases List.eq_nil_or_concat X with h | ⟨X0, t, h⟩
          · exact absurd h hX
          · exact ⟨t, by rw [h]; simp⟩
        have LT := L1.out t ht
        have SL : skpL X = skp t := by unfold skpL; rw [ht]
        have p0 : 0 < p := by rw [← hp]; exact List.length_pos_iff.2 hX
        obtain ⟨q, hq⟩ : ∃ q, q = n1 - 2 := ⟨_, rfl⟩
        rw [← hq] at LT
        have i2 : (1 : Int) < (n1 : Int) := by omega
        have wr5 : IntKind.i64.wrap ((n1 : Int) - 2) = (q : Int) := by rw [IntKind.wrap_i64]; omega
        have wr6 : IntKind.i64.wrap (q : Int) = (q : Int) := by rw [IntKind.wrap_i64]; omega
        have i4 : (0 : Int) ≤ (q : Int) := by omega
        have i5 : (q : Int) < (n1 : Int) := by omega
        have LQ := Lib.hid LT
        obtain ⟨tk, tt, tn, ta⟩ := t
        obtain ⟨yk, yt, yn, ya⟩ := y
        have NP : p ≤ n1 := by omega
        clear ht LT p0 hp e1
        cases hs : skp ⟨tk, tt, tn, ta⟩ with
        | true =>
          rw [hs] at SL
          have SK := Lib.hid hs
          by_cases y8 : yk = 8
          · subst y8
            clear hX hs SL hq
            go_enter Try.func4, Try.ntmps4
            go_wp2_with (first | (go_at_call 9; (first | (with_reducible refine (stok_is a L n1 HA.out EN1.out w).mono ?_; rintro e w1 ⟨g1, cap1, rfl, G1, N1, T1, B1⟩; have NP1 : p ≤ cap1 := by omega) | (with_reducible refine (stok_is b M n2 HB.out EN2.out _).mono ?_; rintro e w2 ⟨g2, cap2, rfl, G2, N2, T2, B2⟩; have W2 := Lib.hid (below_then B1.out B2.out); have R1 := Lib.hid (T1.out.rd.below B2.out); have R2 := Lib.hid T2.out.rd; obtain ⟨k0, k1, k2, k3⟩ := R1.out.at0 q _ LQ.out; have YC := Lib.hid (R2.out.at0 0 _ M0.out)) | (with_reducible refine (stok_ok u _ HU.out _).mono ?_; rintro e w7 ⟨⟨v7, rfl, T7⟩, B7⟩))) | (go_at_call 13; refine (rskips_is ⟨tk, tt, tn, ta⟩ true SK.out _).mono ?_; rintro e w8 ⟨rfl, hb8⟩; have W8 := Lib.hid hb8; have R1' := Lib.hid (R1.out.below hb8); have R2' := Lib.hid (R2.out.below hb8); obtain ⟨m0, -, -, -⟩ := R2'.out.at0 0 _ M0.out) | (go_at_call 12; refine (awake_any _).mono ?_; rintro e w9 ⟨rfl, hb9⟩))
            go_ret
            exact ⟨rfl, below_then (below_then W2.out W8.out) hb9⟩
          · have e8 : (yk == 8) = false := by rw [beq_eq_false_iff_ne]; exact y8
            have HU : Hid (tokR u = .ok (([] ++ X) ++ M.map (Tok.mv (a.size + 1)))) := Lib.hid (by
              have us : ¬ 8192 < u.size := by have := US.out; omega
              unfold tokR; rw [if_neg us]
              rcases J.out with ⟨-, x, hx, j1⟩ | j1
              · rw [EM.out] at hx; simp at hx; rw [← hx] at j1; exact absurd j1 y8
              · rw [j1, SL]; simp)
            clear hX hs SL hq y8
            go_enter Try.func4, Try.ntmps4
            go_wp2_with (first | (go_at_call 9; (first | (with_reducible refine (stok_is a L n1 HA.out EN1.out w).mono ?_; rintro e w1 ⟨g1, cap1, rfl, G1, N1, T1, B1⟩; have NP1 : p ≤ cap1 := by omega) | (with_reducible refine (stok_is b M n2 HB.out EN2.out _).mono ?_; rintro e w2 ⟨g2, cap2, rfl, G2, N2, T2, B2⟩; have W2 := Lib.hid (below_then B1.out B2.out); have R1 := Lib.hid (T1.out.rd.below B2.out); have R2 := Lib.hid T2.out.rd; obtain ⟨k0, k1, k2, k3⟩ := R1.out.at0 q _ LQ.out) | (with_reducible refine (stok_ok u _ HU.out _).mono ?_; rintro e w7 ⟨⟨v7, rfl, T7⟩, B7⟩))) | (go_at_call 13; refine (rskips_is ⟨tk, tt, tn, ta⟩ true SK.out _).mono ?_; rintro e w8 ⟨rfl, hb8⟩; have W8 := Lib.hid hb8; have R1' := Lib.hid (R1.out.below hb8); have R2' := Lib.hid (R2.out.below hb8); obtain ⟨m0, -, -, -⟩ := R2'.out.at0 0 _ M0.out) | (at_builtin; refine append_toks rfl _ _ rfl (.slice none 0 0) [] ⟨g1, 0, none⟩ X p cap1 w8.heap.size w8 _ (Toks.none _ _) (R1'.out.srcp (XP.out)) PX.out (Below.refl _ _) (Nat.le_refl _) (by have := PX.out; have := EN2.out; simp; omega) rfl rfl ?_; intro v3 w3 own3 bel3; have C3 := Lib.hid (R2'.out.below bel3.out)) | (go_at_call 14; refine (moved_is M n2 _ (a.size + 1) _ _ C3.out EN2.out (by omega) (by omega) (by omega) (by simp) MB.out).mono ?_; rintro e w5 ⟨g5, cap5, rfl, T5, B5⟩; have O5 := Lib.hid (owns_below own3.out B5.out); have W5 := Lib.hid (bel3.out.trans (B5.out.mono bel3.out.size))) | (at_builtin; refine append_toks rfl _ _ rfl v3 _ ⟨g5, 0, none⟩ (M.map (Tok.mv (a.size + 1))) n2 cap5 w8.heap.size w8 _ O5.out (fun j x hx => World.ownsRow.cells T5.out rfl j x hx) ML.out W5.out W5.out.size (by have := PX.out; have := EN2.out; simp; omega) rfl rfl ?_; intro v6 w6 own6 bel6) | (go_at_call 11; refine (same_any _ _ _ _ T7.out.rd (own6.out.rd.below B7.out)).mono ?_; rintro e wa ⟨rfl, hba⟩) | (go_at_call 12; refine (awake_any _).mono ?_; rintro e w9 ⟨rfl, hb9⟩))
            go_ret
            exact ⟨rfl, below_then (below_then (below_then ((below_then W2.out W8.out).trans (bel6.out.mono (below_then W2.out W8.out).size)) B7.out) hba) hb9⟩
        | false =>
          rw [hs] at SL
          have SK := Lib.hid hs
          have HU : Hid (tokR u = .ok ((([] ++ X) ++ [⟨8, ⟨#[]⟩, 0, (a.size : Nat)⟩]) ++ M.map (Tok.mv (a.size + 1)))) := Lib.hid (by
            have us : ¬ 8192 < u.size := by have := US.out; omega
            unfold tokR; rw [if_neg us]
            rcases J.out with ⟨j1, -⟩ | j1
            · rw [SL] at j1; cases j1
            · rw [j1, SL]; simp)
          clear hX hs SL hq
          go_enter Try.func4, Try.ntmps4
          go_wp2_with (first | (go_at_call 9; (first | (with_reducible refine (stok_is a L n1 HA.out EN1.out w).mono ?_; rintro e w1 ⟨g1, cap1, rfl, G1, N1, T1, B1⟩; have NP1 : p ≤ cap1 := by omega) | (with_reducible refine (stok_is b M n2 HB.out EN2.out _).mono ?_; rintro e w2 ⟨g2, cap2, rfl, G2, N2, T2, B2⟩; have W2 := Lib.hid (below_then B1.out B2.out); have R1 := Lib.hid (T1.out.rd.below B2.out); have R2 := Lib.hid T2.out.rd; obtain ⟨k0, k1, k2, k3⟩ := R1.out.at0 q _ LQ.out) | (with_reducible refine (stok_ok u _ HU.out _).mono ?_; rintro e w7 ⟨⟨v7, rfl, T7⟩, B7⟩))) | (go_at_call 13; refine (rskips_is ⟨tk, tt, tn, ta⟩ false SK.out _).mono ?_; rintro e w8 ⟨rfl, hb8⟩; have W8 := Lib.hid hb8; have R1' := Lib.hid (R1.out.below hb8); have R2' := Lib.hid (R2.out.below hb8)) | (at_builtin; refine append_toks rfl _ _ rfl (.slice none 0 0) [] ⟨g1, 0, none⟩ X p cap1 w8.heap.size w8 _ (Toks.none _ _) (R1'.out.srcp (XP.out)) PX.out (Below.refl _ _) (Nat.le_refl _) (by have := PX.out; have := EN2.out; simp; omega) rfl rfl ?_; intro v3 w3 own3 bel3; have C3 := Lib.hid (R2'.out.below bel3.out)) | (at_builtin; refine append_tok rfl _ _ rfl v3 _ ⟨8, ⟨#[]⟩, 0, (a.size : Nat)⟩ w8.heap.size w8 _ own3.out bel3.out bel3.out.size (by have := PX.out; have := EN2.out; simp; omega) rfl rfl ?_; intro v4 w4 own4 bel4; have C4 := Lib.hid (R2'.out.below bel4.out)) | (go_at_call 14; refine (moved_is M n2 _ (a.size + 1) _ _ C4.out EN2.out (by omega) (by omega) (by omega) (by simp) MB.out).mono ?_; rintro e w5 ⟨g5, cap5, rfl, T5, B5⟩; have O5 := Lib.hid (owns_below own4.out B5.out); have W5 := Lib.hid (bel4.out.trans (B5.out.mono bel4.out.size))) | (at_builtin; refine append_toks rfl _ _ rfl v4 _ ⟨g5, 0, none⟩ (M.map (Tok.mv (a.size + 1))) n2 cap5 w8.heap.size w8 _ O5.out (fun j x hx => World.ownsRow.cells T5.out rfl j x hx) ML.out W5.out W5.out.size (by have := PX.out; have := EN2.out; simp; omega) rfl rfl ?_; intro v6 w6 own6 bel6) | (go_at_call 11; refine (same_any _ _ _ _ T7.out.rd (own6.out.rd.below B7.out)).mono ?_; rintro e wa ⟨rfl, hba⟩) | (go_at_call 12; refine (awake_any _).mono ?_; rintro e w9 ⟨rfl, hb9⟩))
          go_ret
          exact ⟨rfl, below_then (below_then (below_then ((below_then W2.out W8.out).trans (bel6.out.mono (below_then W2.out W8.out).size)) B7.out) hba) hb9⟩
end Go.Proofs.Ytbioflajonafdaa
