/- walks: single, quoted, pattern, the law Literals -/
import Derived.Test.YtbioflajonafdaaSu
import Derived.Test.YtbioflajonafdaaSplain7
import Derived.Test.YtbioflajonafdaaUb
import Derived.Test.YtbioflajonafdaaWp
namespace Go.Proofs.Ytbioflajonafdaa
open Go.RowKit
open Tx
set_option maxHeartbeats 4000000 in
theorem sngl_any (s : ByteArray) (t : Tok) (w : World) (h : tokR s = .ok [t, endT s]) :
    Calls Try.prog 17 #[.string s, tokV t] w fun e w' => e = .returned (.bool true) ∧ Below w.heap.size w w' := by
  have H := Lib.hid h
  clear h
  obtain ⟨k, x, n, a⟩ := t
  have AL : Hid (Below w.heap.size w (w.alloc (.cells #[.int .i64 k, .string x, .int .i64 n, .int .i64 a] 32))) := Lib.hid ((Below.refl _ _).alloc (Nat.le_refl _) _)
  go_enter Try.func17, Try.ntmps17
  go_wp2_with (first | (go_at_call 9; refine (stok_is s _ 2 H.out rfl _).mono ?_; rintro e w1 ⟨g1, cap1, rfl, G1, N1, T1, B1⟩; have R1 := Lib.hid T1.out.rd; obtain ⟨k0, k1, k2, k3⟩ := R1.out.at0 0 _ rfl; obtain ⟨m0, m1, m2, m3⟩ := R1.out.at0 1 _ rfl))
  replace k0 : w1.cell? ⟨g1, 0, none⟩ = some (.int .i64 k) := k0
  replace k1 : w1.cell? ⟨g1, 1, none⟩ = some (.string x) := k1
  replace k2 : w1.cell? ⟨g1, 2, none⟩ = some (.int .i64 n) := k2
  replace k3 : w1.cell? ⟨g1, 3, none⟩ = some (.int .i64 a) := k3
  replace m0 : w1.cell? ⟨g1, 4, none⟩ = some (.int .i64 0) := m0
  replace m1 : w1.cell? ⟨g1, 5, none⟩ = some (.string ⟨#[]⟩) := m1
  replace m2 : w1.cell? ⟨g1, 6, none⟩ = some (.int .i64 0) := m2
  replace m3 : w1.cell? ⟨g1, 7, none⟩ = some (.int .i64 (s.size : Nat)) := m3
  have PC : ∀ j, w1.cell? ⟨w.heap.size, j, none⟩ = (#[.int .i64 k, .string x, .int .i64 n, .int .i64 a] : Array Value)[j]? := fun j => (B1.out.cell (p := ⟨w.heap.size, j, none⟩) (by simp)).trans (blk_cell (heap_alloc_new w _) j)
  have p0 : w1.cell? ⟨w.heap.size, 0, none⟩ = some (.int .i64 k) := PC 0
  have p1 : w1.cell? ⟨w.heap.size, 1, none⟩ = some (.string x) := PC 1
  have p2 : w1.cell? ⟨w.heap.size, 2, none⟩ = some (.int .i64 n) := PC 2
  have p3 : w1.cell? ⟨w.heap.size, 3, none⟩ = some (.int .i64 a) := PC 3
  have BB := Lib.hid (AL.out.trans (B1.out.mono AL.out.size))
  clear PC
  go_quiet (fail)
  go_wp2_with fail
  go_ret
  exact ⟨rfl, tx_below_drewN BB.out nq⟩
set_option maxHeartbeats 4000000 in
theorem pattern_any (s : ByteArray) (r : Bool) (w : World) (hs : s.size ≤ 2000) (hr : decide (∀ c ∈ s.data.toList, c.toNat ≠ 47 ∧ c.toNat ≠ 92 ∧ c.toNat ≠ 10) = r) :
    Calls Try.prog 19 #[.string s] w fun e w' => e = .returned (.bool r) ∧ w = w' := by
  have HR := Lib.hid hr
  clear hr
  go_enter Try.func19, Try.ntmps19
  go_wp2_with fail
  go_loop [3] (fun i => ∃ j : Nat, i = .int .i64 j ∧ j ≤ s.size ∧ Hid (∀ c ∈ s.data.toList.take j, c.toNat ≠ 47 ∧ c.toNat ≠ 92 ∧ c.toNat ≠ 10)) (fun i => s.size - (intOf i).toNat)
  case atStart => exact ⟨0, rfl, by omega, Lib.hid (by simp)⟩
  case round =>
    obtain ⟨j, rfl, hj, HJ⟩ := hrel
    by_cases hlt : j < s.size
    · have j2 : (j : Int) < (s.size : Int) := by omega
      have wr1 : IntKind.i64.wrap ((j : Int) + 1) = (j : Int) + 1 := by rw [IntKind.wrap_i64]; omega
      have ME : Hid (s[j] ∈ s.data.toList) := Lib.hid (by rw [ByteArray.getElem_eq_getElem_data]; exact Array.mem_toList_iff.2 (Array.getElem_mem _))
      have NJ := Lib.hid (take_snoc s j hlt)
      have NO : Hid (¬ (s[j].toNat ≠ 47 ∧ s[j].toNat ≠ 92 ∧ s[j].toNat ≠ 10) → r = false) := Lib.hid (by
        intro e
        rw [← HR.out, decide_eq_false_iff_not]
        intro q; exact e (q _ ME.out))
      have NY : Hid (s[j].toNat ≠ 47 ∧ s[j].toNat ≠ 92 ∧ s[j].toNat ≠ 10 → ∀ c ∈ s.data.toList.take (j + 1), c.toNat ≠ 47 ∧ c.toNat ≠ 92 ∧ c.toNat ≠ 10) := Lib.hid (by
        intro e c hc
        rw [NJ.out] at hc
        rcases List.mem_append.1 hc with hc | hc
        · exact HJ.out c hc
        · rw [List.mem_singleton.1 hc]; exact e)
      clear NJ ME
      by_cases c1 : s[j].toNat = 47
      · have R := Lib.hid (NO.out (by omega))
        have t1 : ((s[j].toNat : Int) == 47) = true := by rw [beq_iff_eq]; omega
        clear NO NY
        go_wp2_with fail
        go_ret
        exact ⟨by rw [R.out]; rfl, rfl⟩
      have t1 : ((s[j].toNat : Int) == 47) = false := by rw [beq_eq_false_iff_ne]; omega
      by_cases c2 : s[j].toNat = 92
      · have R := Lib.hid (NO.out (by omega))
        have t2 : ((s[j].toNat : Int) == 92) = true := by rw [beq_iff_eq]; omega
        clear NO NY
        go_wp2_with fail
        go_ret
        exact ⟨by rw [R.out]; rfl, rfl⟩
      have t2 : ((s[j].toNat : Int) == 92) = false := by rw [beq_eq_false_iff_ne]; omega
      by_cases c3 : s[j].toNat = 10
      · have R := Lib.hid (NO.out (by omega))
        have t3 : ((s[j].toNat : Int) == 10) = true := by rw [beq_iff_eq]; omega
        clear NO NY
        go_wp2_with fail
        go_ret
        exact ⟨by rw [R.out]; rfl, rfl⟩
      have t3 : ((s[j].toNat : Int) == 10) = false := by rw [beq_eq_false_iff_ne]; omega
      have R := Lib.hid (NY.out ⟨c1, c2, c3⟩)
      clear NO NY c1 c2 c3
      go_wp2_with fail
      go_round
      case rel => exact ⟨j + 1, by go_num, by omega, R⟩
      case measure => simp [intOf]; omega
    · have R : Hid (r = true) := Lib.hid (by
        rw [← HR.out, decide_eq_true_eq]
        have := HJ.out; rwa [List.take_of_length_le (by rw [← size_len]; omega)] at this)
      have j2 : ¬ (j : Int) < (s.size : Int) := by omega
      go_wp2_with fail
      go_ret
      exact ⟨by rw [R.out]; rfl, rfl⟩
theorem resc_is (s u : ByteArray) (w : World) (hs : s.size ≤ 1048576) (hu : (⟨(esc s.data.toList).toArray⟩ : ByteArray) = u) :
    Calls Try.prog 31 #[.string s] w fun e w' => e = .returned (.string u) ∧ Below w.heap.size w w' := by
  rw [← hu]; exact rescape_any s w hs
theorem qq_take (s : ByteArray) (j : Nat) (h : j < s.size) : qq (s.data.toList.take (j + 1)) = qq (s.data.toList.take j) ++ (if s[j] = 34 then [92, 34] else [s[j]]) := by
  rw [take_snoc s j h]; simp [qq]
theorem qq_len (l : List UInt8) : (qq l).length ≤ 2 * l.length := by
  induction l with
  | nil => simp [qq]
  | cons c r ih =>
    have h1 : (if c = 34 then [92, 34] else [c]).length ≤ 2 := by by_cases h : c = 34 <;> simp [h]
    have e : qq (c :: r) = (if c = 34 then [92, 34] else [c]) ++ qq r := rfl
    rw [e, List.length_append, List.length_cons]; omega
set_option maxHeartbeats 4000000 in
theorem quoted_any (s : ByteArray) (w : World) (hs : s.size ≤ 2000) :
    Calls Try.prog 18 #[.string s] w fun e w' => e = .returned (.string ⟨(34 :: (qq (esc s.data.toList) ++ [34])).toArray⟩) ∧ Below w.heap.size w w' := by
  obtain ⟨u, hu⟩ : ∃ u : ByteArray, (⟨(esc s.data.toList).toArray⟩ : ByteArray) = u := ⟨_, rfl⟩
  have HU := Lib.hid hu
  obtain ⟨UE, US⟩ : Hid (u.data.toList = esc s.data.toList) ∧ u.size ≤ 8000 := by
    have e : u.data.toList = esc s.data.toList := by rw [← hu]
    refine ⟨Lib.hid e, ?_⟩
    have := esc_len s.data.toList
    rw [size_len, e]; rw [← size_len] at this
    omega
  clear hu
  go_enter Try.func18, Try.ntmps18
  go_wp2_with (first | (go_at_call 31; refine (resc_is s u _ (by omega) HU.out).mono ?_; rintro e w1 ⟨rfl, hb1⟩; have B1 := Lib.hid hb1; clear hb1))
  have O0 : Hid (Own (w1.alloc (.cells #[.int .u8 34] 5)) w.heap.size (.slice (some ⟨w1.heap.size, 0, none⟩) 1 1) [34]) := Lib.hid (World.ownsRow_lit w1 _ 1 B1.out.size (by decide) rfl)
  have BA : Hid (Below w.heap.size w (w1.alloc (.cells #[.int .u8 34] 5))) := Lib.hid (B1.out.alloc B1.out.size _)
  go_loopw [4, 5] (fun v i wr => ∃ (j : Nat) (out : List UInt8), i = .int .i64 j ∧ j ≤ u.size ∧ Hid (out = 34 :: qq (u.data.toList.take j)) ∧ Hid (Own wr w.heap.size v out) ∧ Hid (Below w.heap.size w wr)) (fun _ i _ => u.size - (intOf i).toNat)
  case atStart => exact ⟨0, _, rfl, by omega, Lib.hid rfl, O0, BA⟩
  case round =>
    obtain ⟨j, out, rfl, js, OE, OW, Br⟩ := hrel
    have HO : Hid (out.length ≤ 4194304) := Lib.hid (by
      rw [OE.out]
      have := qq_len (u.data.toList.take j)
      rw [List.length_take, ← size_len] at this; rw [List.length_cons]; omega)
    by_cases hlt : j < u.size
    · have NE := Lib.hid (qq_take u j hlt)
      obtain ⟨x, hx⟩ : ∃ x, u[j] = x := ⟨_, rfl⟩
      rw [hx] at NE
      have j2 : (j : Int) < (u.size : Int) := by omega
      have wr1 : IntKind.i64.wrap ((j : Int) + 1) = (j : Int) + 1 := by rw [IntKind.wrap_i64]; omega
      by_cases h0 : x = 34
      · have NE2 : Hid ((out ++ [92]) ++ [34] = 34 :: qq (u.data.toList.take (j + 1))) := Lib.hid (by rw [NE.out, if_pos h0, OE.out]; simp)
        clear NE
        subst h0
        go_wp2_with (first
          | (at_builtin; refine append_byte rfl _ _ rfl _ out 92 _ rfl w.heap.size w _ OW.out Br.out Br.out.size (by have := HO.out; omega) rfl rfl ?_; intro v2 w2 own2 bel2)
          | (at_builtin; refine append_byte rfl _ _ rfl _ (out ++ [92]) 34 _ rfl w.heap.size w _ own2.out bel2.out bel2.out.size (by have := HO.out; simp; omega) rfl rfl ?_; intro v3 w3 own3 bel3))
        go_roundw
        case rel => exact ⟨j + 1, _, by go_num, by omega, NE2, own3, bel3⟩
        case measure => simp [intOf]; omega
      · have NE : Hid (out ++ [x] = 34 :: qq (u.data.toList.take (j + 1))) := Lib.hid (by rw [NE.out, if_neg h0, OE.out]; simp)
        have t0 : ((x.toNat : Int) == 34) = false := by
          rw [beq_eq_false_iff_ne]; intro e
          exact h0 (UInt8.toNat_inj.1 (by have : (34 : UInt8).toNat = 34 := rfl; omega))
        clear h0
        go_wp2_with (first
          | (at_builtin; refine append_byte rfl _ _ rfl _ out x _ rfl w.heap.size w _ OW.out Br.out Br.out.size (by have := HO.out; omega) rfl rfl ?_; intro v2 w2 own2 bel2))
        go_roundw
        case rel => exact ⟨j + 1, _, by go_num, by omega, NE, own2, bel2⟩
        case measure => simp [intOf]; omega
    · have F : Hid (out = 34 :: qq (esc s.data.toList)) := Lib.hid (by
        rw [OE.out, List.take_of_length_le (by rw [← size_len]; omega), UE.out])
      have j2 : ¬ (j : Int) < (u.size : Int) := by omega
      have CV : ∀ v2 w2, Own w2 w.heap.size v2 (out ++ [34]) → (convert 51 9 v2).run Try.prog w2 = .ok (.string ⟨(out ++ [34]).toArray⟩) w2 := fun v2 w2 h => own_string h
      go_wp2_with (first
          | (at_builtin; refine append_byte rfl _ _ rfl _ out 34 _ rfl w.heap.size w _ OW.out Br.out Br.out.size (by have := HO.out; omega) rfl rfl ?_; intro v2 w2 own2 bel2; have CV2 := CV v2 w2 own2.out; clear CV))
      go_ret
      exact ⟨by rw [F.out]; rfl, bel2.out⟩
theorem tokR_of {u : ByteArray} {r : Res} (h : runM u 0 [] = r) (hs : u.size ≤ 8192) : tokR u = r := by
  unfold tokR; rw [if_neg (by omega)]; exact h
theorem sngl_is (s : ByteArray) (t : Tok) (a b c : Int) (x : ByteArray) (w : World) (h : Hid (tokR s = .ok [t, endT s])) (ht : t = ⟨a, x, b, c⟩) :
    Calls Try.prog 17 #[.string s, .agg #[.int .i64 a, .string x, .int .i64 b, .int .i64 c]] w fun e w' => e = .returned (.bool true) ∧ Below w.heap.size w w' := by
  subst ht; exact sngl_any s ⟨a, x, b, c⟩ w h.out
theorem qesc_len (l : List UInt8) : (qesc l).length ≤ 4 * l.length := by
  induction l with
  | nil => simp [qesc]
  | cons c r ih =>
    have h1 : (qesc1 c).length ≤ 4 := by
      have h2 : (qesc1 c).length ≤ 2 ∨ qesc1 c = esc1 c := by
        unfold qesc1
        by_cases h : c = 34
        · rw [if_pos h]; exact .inl (Nat.le_refl 2)
        · rw [if_neg h]; exact .inr rfl
      rcases h2 with h2 | h2
      · omega
      · have h3 := esc_len [c]
        have e : esc [c] = esc1 c ++ [] := rfl
        rw [e, List.append_nil, ← h2] at h3; exact h3
    have e : qesc (c :: r) = qesc1 c ++ qesc r := rfl
    rw [e, List.length_append, List.length_cons]; omega
theorem quoted_is (s u : ByteArray) (w : World) (hs : s.size ≤ 2000) (hu : (⟨(34 :: (qq (esc s.data.toList) ++ [34])).toArray⟩ : ByteArray) = u) :
    Calls Try.prog 18 #[.string s] w fun e w' => e = .returned (.string u) ∧ Below w.heap.size w w' := by
  rw [← hu]; exact quoted_any s w hs
theorem format_str (d : Int) (u : ByteArray) (w : World) (hu : (⟨(Byt.fmtL d).toArray⟩ : ByteArray) = u) :
    Calls Try.prog 20 #[.int .i64 d] w fun e w' => e = .returned (.string u) ∧ Below w.heap.size w w' := by
  rw [← hu]; exact rformat_any d w
set_option maxRecDepth 8000 in
set_option maxHeartbeats 8000000 in
theorem law_literals (s : ByteArray) (d : Int) (w : World) : Calls Try.prog 7 #[.string s, .int .i64 d] w fun e w' => e = .returned (.bool true) ∧ Below w.heap.size w w' := by
  by_cases hz : 2000 < s.size
  · have i1 : (2000 : Int) < (s.size : Int) := by omega
    go_enter Try.func7, Try.ntmps7
    go_wp2_with (go_at_call 12; refine (awake_any _).mono ?_; rintro e w9 ⟨rfl, hb9⟩)
    go_ret
    exact ⟨rfl, hb9⟩
  have i1 : ¬ (2000 : Int) < (s.size : Int) := by omega
  obtain ⟨u, hu⟩ : ∃ u : ByteArray, (⟨(34 :: (qq (esc s.data.toList) ++ [34])).toArray⟩ : ByteArray) = u := ⟨_, rfl⟩
  have UD : u.data.toList = 34 :: (qq (esc s.data.toList) ++ [34]) := by rw [← hu]
  have U1 : Hid (tokR u = .ok [⟨2, s, 0, 0⟩, endT u]) := Lib.hid (tokR_of (lit_str s u UD) (by
    have h1 := qesc_len s.data.toList
    rw [size_len, UD, List.length_cons, List.length_append, qq_esc]; rw [← size_len] at h1; simp; omega))
  have HU := Lib.hid hu
  obtain ⟨z, hz1⟩ : ∃ z : ByteArray, (ByteArray.mk #[47]) ++ s ++ (ByteArray.mk #[47]) = z := ⟨_, rfl⟩
  have ZD : z.data.toList = 47 :: (s.data.toList ++ [47]) := by rw [← hz1, app_data, app_data]; simp
  have ZS : z.size ≤ 2002 := by rw [size_len, ZD, List.length_cons, List.length_append, ← size_len]; simp; omega
  obtain ⟨r, hr⟩ : ∃ r, decide (∀ c ∈ s.data.toList, c.toNat ≠ 47 ∧ c.toNat ≠ 92 ∧ c.toNat ≠ 10) = r := ⟨_, rfl⟩
  have HR := Lib.hid hr
  have Z1 : Hid (r = true → tokR z = .ok [⟨3, s, 0, 0⟩, endT z]) := Lib.hid fun e => tokR_of (lit_pat s z (by rw [e] at hr; exact of_decide_eq_true hr) ZD) (by omega)
  have s1 : s.size ≤ 2000 := by omega
  clear hr UD ZD ZS hu hz
  by_cases hd : d < 0
  · have d1 : decide (d < 0) = true := decide_eq_true hd
    clear hd
    cases r with
    | false =>
      go_enter Try.func7, Try.ntmps7
      go_wp2_with (first | (go_at_call 18; refine (quoted_is s u _ s1 HU.out).mono ?_; rintro e w1 ⟨rfl, b1⟩) | (go_at_call 19; refine (pattern_any s false _ s1 HR.out).mono ?_; rintro e w3 ⟨rfl, rfl⟩) | (go_at_call 17; (first | (with_reducible refine (sngl_is u _ _ _ _ _ _ U1 rfl).mono ?_; rintro e w2 ⟨rfl, b2⟩))) | (go_at_call 12; refine (awake_any _).mono ?_; rintro e w9 ⟨rfl, hb9⟩))
      go_ret
      exact ⟨rfl, below_then (below_then b1 b2) hb9⟩
    | true =>
      have Z2 : Hid (tokR z = .ok [⟨3, s, 0, 0⟩, endT z]) := Lib.hid (Z1.out rfl)
      clear Z1
      go_enter Try.func7, Try.ntmps7
      go_wp2_with (first | (go_at_call 18; refine (quoted_is s u _ s1 HU.out).mono ?_; rintro e w1 ⟨rfl, b1⟩) | (go_at_call 19; refine (pattern_any s true _ s1 HR.out).mono ?_; rintro e w3 ⟨rfl, rfl⟩) | (go_at_call 17; (first | (with_reducible refine (sngl_is u _ _ _ _ _ _ U1 rfl).mono ?_; rintro e w2 ⟨rfl, b2⟩) | (with_reducible refine (sngl_is z _ _ _ _ _ _ Z2 rfl).mono ?_; rintro e w4 ⟨rfl, b4⟩))) | (go_at_call 12; refine (awake_any _).mono ?_; rintro e w9 ⟨rfl, hb9⟩))
      go_ret
      exact ⟨rfl, below_then (below_then (below_then b1 b2) b4) hb9⟩
  have d1 : decide (d < 0) = false := decide_eq_false hd
  by_cases hm : 10000000000000 < d
  · have d2 : decide (10000000000000 < d) = true := decide_eq_true hm
    clear hd hm
    cases r with
    | false =>
      go_enter Try.func7, Try.ntmps7
      go_wp2_with (first | (go_at_call 18; refine (quoted_is s u _ s1 HU.out).mono ?_; rintro e w1 ⟨rfl, b1⟩) | (go_at_call 19; refine (pattern_any s false _ s1 HR.out).mono ?_; rintro e w3 ⟨rfl, rfl⟩) | (go_at_call 17; (first | (with_reducible refine (sngl_is u _ _ _ _ _ _ U1 rfl).mono ?_; rintro e w2 ⟨rfl, b2⟩))) | (go_at_call 12; refine (awake_any _).mono ?_; rintro e w9 ⟨rfl, hb9⟩))
      go_ret
      exact ⟨rfl, below_then (below_then b1 b2) hb9⟩
    | true =>
      have Z2 : Hid (tokR z = .ok [⟨3, s, 0, 0⟩, endT z]) := Lib.hid (Z1.out rfl)
      clear Z1
      go_enter Try.func7, Try.ntmps7
      go_wp2_with (first | (go_at_call 18; refine (quoted_is s u _ s1 HU.out).mono ?_; rintro e w1 ⟨rfl, b1⟩) | (go_at_call 19; refine (pattern_any s true _ s1 HR.out).mono ?_; rintro e w3 ⟨rfl, rfl⟩) | (go_at_call 17; (first | (with_reducible refine (sngl_is u _ _ _ _ _ _ U1 rfl).mono ?_; rintro e w2 ⟨rfl, b2⟩) | (with_reducible refine (sngl_is z _ _ _ _ _ _ Z2 rfl).mono ?_; rintro e w4 ⟨rfl, b4⟩))) | (go_at_call 12; refine (awake_any _).mono ?_; rintro e w9 ⟨rfl, hb9⟩))
      go_ret
      exact ⟨rfl, below_then (below_then (below_then b1 b2) b4) hb9⟩
  have d2 : decide (10000000000000 < d) = false := decide_eq_false hm
  obtain ⟨f, hf⟩ : ∃ f : ByteArray, (⟨(Byt.fmtL d).toArray⟩ : ByteArray) = f := ⟨_, rfl⟩
  have F1 : Hid (tokR f = .ok [⟨1, ⟨#[]⟩, d, 0⟩, endT f]) := Lib.hid (tokR_of (lit_num d f (by omega) (by omega) (by rw [← hf])) (by
    have := (fmt_shape d (by omega) (by omega)).1
    rw [size_len, ← hf]; simpa using Nat.le_trans this (by omega)))
  have HF := Lib.hid hf
  clear hd hm hf
  cases r with
  | false =>
    go_enter Try.func7, Try.ntmps7
    go_wp2_with (first | (go_at_call 18; refine (quoted_is s u _ s1 HU.out).mono ?_; rintro e w1 ⟨rfl, b1⟩) | (go_at_call 19; refine (pattern_any s false _ s1 HR.out).mono ?_; rintro e w3 ⟨rfl, rfl⟩) | (go_at_call 20; refine (format_str d f _ HF.out).mono ?_; rintro e w5 ⟨rfl, b5⟩) | (go_at_call 17; (first | (with_reducible refine (sngl_is u _ _ _ _ _ _ U1 rfl).mono ?_; rintro e w2 ⟨rfl, b2⟩) | (with_reducible refine (sngl_is f _ _ _ _ _ _ F1 rfl).mono ?_; rintro e w6 ⟨rfl, b6⟩))) | (go_at_call 12; refine (awake_any _).mono ?_; rintro e w9 ⟨rfl, hb9⟩))
    go_ret
    exact ⟨rfl, below_then (below_then (below_then (below_then b1 b2) b5) b6) hb9⟩
  | true =>
    have Z2 : Hid (tokR z = .ok [⟨3, s, 0, 0⟩, endT z]) := Lib.hid (Z1.out rfl)
    clear Z1
    go_enter Try.func7, Try.ntmps7
    go_wp2_with (first | (go_at_call 18; refine (quoted_is s u _ s1 HU.out).mono ?_; rintro e w1 ⟨rfl, b1⟩) | (go_at_call 19; refine (pattern_any s true _ s1 HR.out).mono ?_; rintro e w3 ⟨rfl, rfl⟩) | (go_at_call 20; refine (format_str d f _ HF.out).mono ?_; rintro e w5 ⟨rfl, b5⟩) | (go_at_call 17; (first | (with_reducible refine (sngl_is u _ _ _ _ _ _ U1 rfl).mono ?_; rintro e w2 ⟨rfl, b2⟩) | (with_reducible refine (sngl_is z _ _ _ _ _ _ Z2 rfl).mono ?_; rintro e w4 ⟨rfl, b4⟩) | (with_reducible refine (sngl_is f _ _ _ _ _ _ F1 rfl).mono ?_; rintro e w6 ⟨rfl, b6⟩))) | (go_at_call 12; refine (awake_any _).mono ?_; rintro e w9 ⟨rfl, hb9⟩))
    go_ret
    exact ⟨rfl, below_then (below_then (below_then (below_then (below_then b1 b2) b4) b5) b6) hb9⟩
end Go.Proofs.Ytbioflajonafdaa
