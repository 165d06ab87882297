/- walks: what is printed for a group, both -/
import Derived.Test.YtoohbgjfhchnmaaDoorQq
namespace Go.Proofs.YtoohbgjfhchnmaaDoor
open Go.RowKit Go.Maps
open Lcl
/-- a list of at most one string, as it is returned -/
def OutAt (w : World) (v : Value) (L : List ByteArray) : Prop :=
  (v = .slice none 0 0 ∧ L = []) ∨ ∃ g cap x, v = .slice (some ⟨g, 0, none⟩) 1 cap ∧ 1 ≤ cap ∧ cap ≤ maxLen ∧ L = [x] ∧ w.cell? ⟨g, 0, none⟩ = some (.string x)
theorem OutAt.below {w w' : World} {v : Value} {L : List ByteArray} (h : OutAt w v L) (hb : Below w.heap.size w w') : OutAt w' v L := by
  rcases h with h | ⟨g, cap, x, e1, e2, e3, e4, e5⟩
  · exact .inl h
  · exact .inr ⟨g, cap, x, e1, e2, e3, e4, (hb.cell (p := ⟨g, 0, none⟩) (World.block_lt_of_cell? w _ e5)).trans e5⟩
/-- it lies in a block from B on -/
def OutN (B : Nat) (v : Value) : Prop := ∀ g o sp n cp, v = .slice (some ⟨g, o, sp⟩) n cp → B ≤ g
theorem outn_nil (B : Nat) : OutN B (.slice none 0 0) := fun _ _ _ _ _ e => by cases e
theorem outn_at {B g n cp : Nat} (h : B ≤ g) : OutN B (.slice (some ⟨g, 0, none⟩) n cp) := fun _ _ _ _ _ e => by cases e; exact h
def OutR (L : List ByteArray) (w : World) (e : Ending) (w' : World) : Prop := ∃ v, e = .returned v ∧ Hid (OutAt w' v L) ∧ Hid (Below w.heap.size w w') ∧ Hid (OutN w.heap.size v)
theorem outr_is {L : List ByteArray} {w w' : World} {e : Ending} (h : OutR L w e w') : ∃ v, e = .returned v ∧ Hid (OutAt w' v L) ∧ Hid (Below w.heap.size w w') ∧ Hid (OutN w.heap.size v) := h
/-- the line of a group of n lines -/
def lineS (cnt : Bool) (line : ByteArray) (n : Nat) : ByteArray := if cnt then ⟨(Lib.itoa n ++ 32 :: line.data.toList).toArray⟩ else line
def outL (cnt rep sg : Bool) (line : ByteArray) (n : Nat) : List ByteArray := if (rep && decide (n = 1)) || (sg && decide (1 < n)) then [] else [lineS cnt line n]
theorem out_new (w : World) (x : ByteArray) : OutAt (w.alloc (.cells #[.string x] 9)) (.slice (some ⟨w.heap.size, 0, none⟩) 1 1) [x] :=
  .inr ⟨_, 1, x, rfl, Nat.le_refl _, by unfold maxLen; omega, rfl, by
    have h := heap_alloc_new w (.cells #[.string x] 9)
    generalize w.alloc (.cells #[.string x] 9) = w', w.heap.size = n at h
    simp [World.cell?, h]⟩
theorem info_str : (Tryd.prog.info? 9).map (fun i => (i.zero, i.size, i.bytes)) = some (some (.string ⟨#[]⟩), 1, 16) := by kernel_rfl
theorem line_cat (l : ByteArray) (m : List UInt8) : ((⟨m.toArray⟩ : ByteArray) ++ ⟨#[32]⟩) ++ l = ⟨(m ++ 32 :: l.data.toList).toArray⟩ := by
  apply ba_eq
  simp
abbrev spc (F B Wd : Int) (cnt fold rep sg : Bool) : Array Value := #[.int .i64 F, .int .i64 B, .int .i64 Wd, .bool cnt, .bool fold, .bool rep, .bool sg]
theorem spc_cells {w : World} {g : Nat} {F B Wd : Int} {cnt fold rep sg : Bool} {T : TypeId} (h : w.heap[g]? = some (.cells (spc F B Wd cnt fold rep sg) T (0, 0))) :
    w.cell? ⟨g, 0, none⟩ = some (.int .i64 F) ∧ w.cell? ⟨g, 1, none⟩ = some (.int .i64 B) ∧ w.cell? ⟨g, 2, none⟩ = some (.int .i64 Wd) ∧ w.cell? ⟨g, 3, none⟩ = some (.bool cnt) ∧ w.cell? ⟨g, 4, none⟩ = some (.bool fold) ∧ w.cell? ⟨g, 5, none⟩ = some (.bool rep) ∧ w.cell? ⟨g, 6, none⟩ = some (.bool sg) := by
  refine ⟨?_, ?_, ?_, ?_, ?_, ?_, ?_⟩ <;> simp [World.cell?, h]
/-- append(nil, x) -/
theorem append_str {ops : Array Oper} {rest : List Oper} {o : Oper} {a : Act} {Q : Exit → Act → World → Prop} (hgd : o.guard = none) (s x : Operand)
    (ho : o.op = .call { callee := .builtin .append, args := #[s, x], argTypes := #[29, 29] }) (l : ByteArray) (w : World) (hs : a.eval s = .slice none 0 0) (hx : a.eval x = .slice (some ⟨w.heap.size, 0, none⟩) 1 1)
    (h : ∀ g cap w', Hid (OutAt w' (.slice (some ⟨g, 0, none⟩) 1 cap) [l]) → Hid (Below w.heap.size w w') → Hid (w.heap.size ≤ g) → wpList Tryd.prog ops Q rest (a.put o.dst (.slice (some ⟨g, 0, none⟩) 1 cap)) w') : wpList Tryd.prog ops Q (o :: rest) a (w.alloc (.cells #[.string l] 9)) := by
  obtain ⟨i0, hi, hz0, hz1, hz2⟩ := info_parts info_str
  refine wpList_append_own _ hgd s x 29 ho w.heap.size 9 i0 (.string ⟨#[]⟩) 1 16 Tryd.underlying29 hi hz0 hz1 hz2 rfl (by decide) (.slice none 0 0) 0 [] hs (World.ownsRow_nil _ _ _ _) ⟨w.heap.size, 0, none⟩ 1 1 [.string l] hx rfl (cell_one_new _ _ _) ?_ ?_ ?_ ?_ ?_
  · intro y hy; simp at hy; subst hy; rfl
  · unfold maxLen; omega
  · omega
  · simp
  · intro v' w' h1 h2 _
    rcases h1.2 with ⟨_, hn⟩ | ⟨g, cap, cur, e, hb, hg, hn, hm, hs', ht⟩
    · cases hn
    · subst e
      refine h g cap w' (Lib.hid (.inr ⟨g, cap, l, rfl, hn, hm, rfl, ?_⟩)) (Lib.hid ?_) (Lib.hid hb)
      · have := World.ownsRow.cellAt h1 0 (by decide)
        exact this
      · exact ((Below.refl w.heap.size w).alloc (Nat.le_refl _) _).grown h2 (by simp) (fun k hk => by cases hk)
set_option maxRecDepth 100000 in
set_option maxHeartbeats 8000000 in
theorem print_any (F B Wd : Int) (cnt fold rep sg : Bool) (line : ByteArray) (n b : Nat) (w : World) (hb : w.heap[b]? = some (.cells (spc F B Wd cnt fold rep sg) 23 (0, 0))) (ht : Tab w) (h0 : 1 ≤ n) (h1 : n ≤ 4611686018427387904) (hs : line.size ≤ 140737488351232) :
    Calls Tryd.prog 34 #[.string line, .int .i64 (n : Int), .pointer (some ⟨b, 0, none⟩)] w (OutR (outL cnt rep sg line n) w) := by
  have T := Lib.hid ht; clear ht
  have SZ := Lib.hid hs
  obtain ⟨-, -, -, c3, -, c5, c6⟩ := spc_cells hb
  clear hb
  have B0 := Lib.hid (Below.refl w.heap.size w)
  have IR : Hid (-9223372036854775808 ≤ (n : Int) ∧ (n : Int) ≤ 9223372036854775807) := Lib.hid (by omega)
  have IL := itoa_len (n : Int) IR.out.1 IR.out.2
  obtain ⟨fl, hfl⟩ : ∃ l, Lib.itoa (n : Int) = l := ⟨_, rfl⟩
  rw [hfl] at IL
  have FL := Lib.hid hfl
  clear hfl
  by_cases n1 : n = 1
  · have E1 : ((n : Int) == 1) = true := by rw [n1]; rfl
    have L1 : decide (1 < (n : Int)) = false := by rw [decide_eq_false_iff_not]; omega
    have N1 := Lib.hid n1
    clear n1 h0 h1
    cases rep with
    | true =>
      have EO : Hid (outL cnt true sg line n = []) := Lib.hid (by unfold outL; rw [N1.out]; rfl)
      go_enter Tryd.func34, Tryd.ntmps34
      go_wp2
      go_ret
      exact ⟨_, rfl, Lib.hid (.inl ⟨rfl, EO.out⟩), B0, Lib.hid (outn_nil _)⟩
    | false =>
      cases sg with
      | true =>
        have EO : Hid (∀ c, outL c false true line n = [lineS c line n]) := Lib.hid (fun c => by unfold outL; rw [N1.out]; rfl)
        cases cnt with
        | false =>
          go_enter Tryd.func34, Tryd.ntmps34
          go_wp2
          go_ret
          exact ⟨_, rfl, Lib.hid (by rw [EO.out _]; exact out_new _ _), Lib.hid (B0.out.alloc (Nat.le_refl _) _), Lib.hid (outn_at (Nat.le_refl _))⟩
        | true =>
          go_enter Tryd.func34, Tryd.ntmps34
          go_wp2_with (go_at_call 35; refine (nfmt_is (n : Int) fl _ IR T FL).mono ?_; rintro e w' ⟨rfl, hb⟩)
          go_ret
          exact ⟨_, rfl, Lib.hid (by rw [EO.out _]; unfold lineS; rw [if_pos rfl, FL.out, ← line_cat]; exact out_new _ _), Lib.hid ((B0.out.trans (hb.mono B0.out.size)).alloc hb.size _), Lib.hid (outn_at hb.size)⟩
      | false =>
        have EO : Hid (∀ c, outL c false false line n = [lineS c line n]) := Lib.hid (fun c => by unfold outL; rw [N1.out]; rfl)
        cases cnt with
        | false =>
          go_enter Tryd.func34, Tryd.ntmps34
          go_wp2
          go_ret
          exact ⟨_, rfl, Lib.hid (by rw [EO.out _]; exact out_new _ _), Lib.hid (B0.out.alloc (Nat.le_refl _) _), Lib.hid (outn_at (Nat.le_refl _))⟩
        | true =>
          go_enter Tryd.func34, Tryd.ntmps34
          go_wp2_with (go_at_call 35; refine (nfmt_is (n : Int) fl _ IR T FL).mono ?_; rintro e w' ⟨rfl, hb⟩)
          go_ret
          exact ⟨_, rfl, Lib.hid (by rw [EO.out _]; unfold lineS; rw [if_pos rfl, FL.out, ← line_cat]; exact out_new _ _), Lib.hid ((B0.out.trans (hb.mono B0.out.size)).alloc hb.size _), Lib.hid (outn_at hb.size)⟩
  · have E1 : ((n : Int) == 1) = false := by rw [beq_eq_false_iff_ne]; omega
    have L1 : decide (1 < (n : Int)) = true := by rw [decide_eq_true_iff]; omega
    have L2 : 1 < (n : Int) := by omega
    have N1 : Hid (¬ n = 1 ∧ 1 < n) := Lib.hid ⟨n1, by omega⟩
    clear n1 h0 h1
    cases sg with
    | true =>
      cases rep with
      | true =>
        have EO : Hid (outL cnt true true line n = []) := Lib.hid (by unfold outL; simp [N1.out.2])
        go_enter Tryd.func34, Tryd.ntmps34
        go_wp2
        go_ret
        exact ⟨_, rfl, Lib.hid (.inl ⟨rfl, EO.out⟩), B0, Lib.hid (outn_nil _)⟩
      | false =>
        have EO : Hid (outL cnt false true line n = []) := Lib.hid (by unfold outL; simp [N1.out.2])
        go_enter Tryd.func34, Tryd.ntmps34
        go_wp2
        go_ret
        exact ⟨_, rfl, Lib.hid (.inl ⟨rfl, EO.out⟩), B0, Lib.hid (outn_nil _)⟩
    | false =>
      cases rep with
      | true =>
        have EO : Hid (∀ c, outL c true false line n = [lineS c line n]) := Lib.hid (fun c => by unfold outL; rw [decide_eq_false N1.out.1, Bool.and_false, Bool.false_and, Bool.or_false]; rfl)
        cases cnt with
        | false =>
          go_enter Tryd.func34, Tryd.ntmps34
          go_wp2
          go_ret
          exact ⟨_, rfl, Lib.hid (by rw [EO.out _]; exact out_new _ _), Lib.hid (B0.out.alloc (Nat.le_refl _) _), Lib.hid (outn_at (Nat.le_refl _))⟩
        | true =>
          go_enter Tryd.func34, Tryd.ntmps34
          go_wp2_with (go_at_call 35; refine (nfmt_is (n : Int) fl _ IR T FL).mono ?_; rintro e w' ⟨rfl, hb⟩)
          go_ret
          exact ⟨_, rfl, Lib.hid (by rw [EO.out _]; unfold lineS; rw [if_pos rfl, FL.out, ← line_cat]; exact out_new _ _), Lib.hid ((B0.out.trans (hb.mono B0.out.size)).alloc hb.size _), Lib.hid (outn_at hb.size)⟩
      | false =>
        have EO : Hid (∀ c, outL c false false line n = [lineS c line n]) := Lib.hid (fun c => by unfold outL; rw [decide_eq_false N1.out.1, Bool.and_false, Bool.false_and, Bool.or_false]; rfl)
        cases cnt with
        | false =>
          go_enter Tryd.func34, Tryd.ntmps34
          go_wp2
          go_ret
          exact ⟨_, rfl, Lib.hid (by rw [EO.out _]; exact out_new _ _), Lib.hid (B0.out.alloc (Nat.le_refl _) _), Lib.hid (outn_at (Nat.le_refl _))⟩
        | true =>
          go_enter Tryd.func34, Tryd.ntmps34
          go_wp2_with (go_at_call 35; refine (nfmt_is (n : Int) fl _ IR T FL).mono ?_; rintro e w' ⟨rfl, hb⟩)
          go_ret
          exact ⟨_, rfl, Lib.hid (by rw [EO.out _]; unfold lineS; rw [if_pos rfl, FL.out, ← line_cat]; exact out_new _ _), Lib.hid ((B0.out.trans (hb.mono B0.out.size)).alloc hb.size _), Lib.hid (outn_at hb.size)⟩
set_option maxRecDepth 100000 in
set_option maxHeartbeats 8000000 in
theorem output_any (F B Wd : Int) (cnt fold rep sg : Bool) (line : ByteArray) (n : Nat) (w : World) (h0 : 1 ≤ n) (h1 : n ≤ 4611686018427387904) (hs : line.size ≤ 140737488351232) :
    Calls Tryd.prog 29 #[spv F B Wd cnt fold rep sg, .string line, .int .i64 (n : Int)] w (OutR (outL cnt rep sg line n) w) := by
  have SZ := Lib.hid hs
  obtain ⟨i0, hi, hz0, hz1, hz2⟩ := info_parts info_str
  have B0 := Lib.hid ((Below.refl w.heap.size w).alloc (Nat.le_refl _) (.cells (spc F B Wd cnt fold rep sg) 23))
  have IR : Hid (-9223372036854775808 ≤ (n : Int) ∧ (n : Int) ≤ 9223372036854775807) := Lib.hid (by omega)
  have IL := itoa_len (n : Int) IR.out.1 IR.out.2
  obtain ⟨fl, hfl⟩ : ∃ l, Lib.itoa (n : Int) = l := ⟨_, rfl⟩
  rw [hfl] at IL
  have FL := Lib.hid hfl
  clear hfl
  by_cases n1 : n = 1
  · have E1 : ((n : Int) == 1) = true := by rw [n1]; rfl
    have L1 : decide (1 < (n : Int)) = false := by rw [decide_eq_false_iff_not]; omega
    have N1 := Lib.hid n1
    clear n1 h0 h1
    cases rep with
    | true =>
      have EO : Hid (outL cnt true sg line n = []) := Lib.hid (by unfold outL; rw [N1.out]; rfl)
      go_enter Tryd.func29, Tryd.ntmps29
      go_wp2
      go_ret
      exact ⟨_, rfl, Lib.hid (.inl ⟨rfl, EO.out⟩), B0, Lib.hid (outn_nil _)⟩
    | false =>
      cases sg with
      | true =>
        have EO : Hid (∀ c, outL c false true line n = [lineS c line n]) := Lib.hid (fun c => by unfold outL; rw [N1.out]; rfl)
        cases cnt with
        | false =>
          go_enter Tryd.func29, Tryd.ntmps29
          go_wp2_with (first | (at_builtin; refine append_str rfl _ _ rfl line _ rfl (by simp [Act.eval]) ?_; intro g cap w1 HC HG HN))
          go_ret
          exact ⟨_, rfl, Lib.hid (by rw [EO.out _]; exact HC.out), Lib.hid (B0.out.trans (HG.out.mono B0.out.size)), Lib.hid (outn_at (Nat.le_trans B0.out.size HN.out))⟩
        | true =>
          go_enter Tryd.func29, Tryd.ntmps29
          go_wp2_with (first | (go_at_call 36; refine (rfmt_is (n : Int) fl _ IR FL).mono ?_; rintro e w' ⟨rfl, hb⟩) | (at_builtin; refine append_str rfl _ _ rfl _ _ rfl (by simp [Act.eval]) ?_; intro g cap w1 HC HG HN))
          go_ret
          exact ⟨_, rfl, Lib.hid (by rw [EO.out _]; unfold lineS; rw [if_pos rfl, FL.out, ← line_cat]; exact HC.out), Lib.hid (B0.out.trans ((hb.trans (HG.out.mono hb.size)).mono B0.out.size)), Lib.hid (outn_at (Nat.le_trans B0.out.size (Nat.le_trans hb.size HN.out)))⟩
      | false =>
        have EO : Hid (∀ c, outL c false false line n = [lineS c line n]) := Lib.hid (fun c => by unfold outL; rw [N1.out]; rfl)
        cases cnt with
        | false =>
          go_enter Tryd.func29, Tryd.ntmps29
          go_wp2_with (first | (at_builtin; refine append_str rfl _ _ rfl line _ rfl (by simp [Act.eval]) ?_; intro g cap w1 HC HG HN))
          go_ret
          exact ⟨_, rfl, Lib.hid (by rw [EO.out _]; exact HC.out), Lib.hid (B0.out.trans (HG.out.mono B0.out.size)), Lib.hid (outn_at (Nat.le_trans B0.out.size HN.out))⟩
        | true =>
          go_enter Tryd.func29, Tryd.ntmps29
          go_wp2_with (first | (go_at_call 36; refine (rfmt_is (n : Int) fl _ IR FL).mono ?_; rintro e w' ⟨rfl, hb⟩) | (at_builtin; refine append_str rfl _ _ rfl _ _ rfl (by simp [Act.eval]) ?_; intro g cap w1 HC HG HN))
          go_ret
          exact ⟨_, rfl, Lib.hid (by rw [EO.out _]; unfold lineS; rw [if_pos rfl, FL.out, ← line_cat]; exact HC.out), Lib.hid (B0.out.trans ((hb.trans (HG.out.mono hb.size)).mono B0.out.size)), Lib.hid (outn_at (Nat.le_trans B0.out.size (Nat.le_trans hb.size HN.out)))⟩
  · have E1 : ((n : Int) == 1) = false := by rw [beq_eq_false_iff_ne]; omega
    have L1 : decide (1 < (n : Int)) = true := by rw [decide_eq_true_iff]; omega
    have L2 : 1 < (n : Int) := by omega
    have N1 : Hid (¬ n = 1 ∧ 1 < n) := Lib.hid ⟨n1, by omega⟩
    clear n1 h0 h1
    cases sg with
    | true =>
      cases rep with
      | true =>
        have EO : Hid (outL cnt true true line n = []) := Lib.hid (by unfold outL; simp [N1.out.2])
        go_enter Tryd.func29, Tryd.ntmps29
        go_wp2
        go_ret
        exact ⟨_, rfl, Lib.hid (.inl ⟨rfl, EO.out⟩), B0, Lib.hid (outn_nil _)⟩
      | false =>
        have EO : Hid (outL cnt false true line n = []) := Lib.hid (by unfold outL; simp [N1.out.2])
        go_enter Tryd.func29, Tryd.ntmps29
        go_wp2
        go_ret
        exact ⟨_, rfl, Lib.hid (.inl ⟨rfl, EO.out⟩), B0, Lib.hid (outn_nil _)⟩
    | false =>
      cases rep with
      | true =>
        have EO : Hid (∀ c, outL c true false line n = [lineS c line n]) := Lib.hid (fun c => by unfold outL; rw [decide_eq_false N1.out.1, Bool.and_false, Bool.false_and, Bool.or_false]; rfl)
        cases cnt with
        | false =>
          go_enter Tryd.func29, Tryd.ntmps29
          go_wp2_with (first | (at_builtin; refine append_str rfl _ _ rfl line _ rfl (by simp [Act.eval]) ?_; intro g cap w1 HC HG HN))
          go_ret
          exact ⟨_, rfl, Lib.hid (by rw [EO.out _]; exact HC.out), Lib.hid (B0.out.trans (HG.out.mono B0.out.size)), Lib.hid (outn_at (Nat.le_trans B0.out.size HN.out))⟩
        | true =>
          go_enter Tryd.func29, Tryd.ntmps29
          go_wp2_with (first | (go_at_call 36; refine (rfmt_is (n : Int) fl _ IR FL).mono ?_; rintro e w' ⟨rfl, hb⟩) | (at_builtin; refine append_str rfl _ _ rfl _ _ rfl (by simp [Act.eval]) ?_; intro g cap w1 HC HG HN))
          go_ret
          exact ⟨_, rfl, Lib.hid (by rw [EO.out _]; unfold lineS; rw [if_pos rfl, FL.out, ← line_cat]; exact HC.out), Lib.hid (B0.out.trans ((hb.trans (HG.out.mono hb.size)).mono B0.out.size)), Lib.hid (outn_at (Nat.le_trans B0.out.size (Nat.le_trans hb.size HN.out)))⟩
      | false =>
        have EO : Hid (∀ c, outL c false false line n = [lineS c line n]) := Lib.hid (fun c => by unfold outL; rw [decide_eq_false N1.out.1, Bool.and_false, Bool.false_and, Bool.or_false]; rfl)
        cases cnt with
        | false =>
          go_enter Tryd.func29, Tryd.ntmps29
          go_wp2_with (first | (at_builtin; refine append_str rfl _ _ rfl line _ rfl (by simp [Act.eval]) ?_; intro g cap w1 HC HG HN))
          go_ret
          exact ⟨_, rfl, Lib.hid (by rw [EO.out _]; exact HC.out), Lib.hid (B0.out.trans (HG.out.mono B0.out.size)), Lib.hid (outn_at (Nat.le_trans B0.out.size HN.out))⟩
        | true =>
          go_enter Tryd.func29, Tryd.ntmps29
          go_wp2_with (first | (go_at_call 36; refine (rfmt_is (n : Int) fl _ IR FL).mono ?_; rintro e w' ⟨rfl, hb⟩) | (at_builtin; refine append_str rfl _ _ rfl _ _ rfl (by simp [Act.eval]) ?_; intro g cap w1 HC HG HN))
          go_ret
          exact ⟨_, rfl, Lib.hid (by rw [EO.out _]; unfold lineS; rw [if_pos rfl, FL.out, ← line_cat]; exact HC.out), Lib.hid (B0.out.trans ((hb.trans (HG.out.mono hb.size)).mono B0.out.size)), Lib.hid (outn_at (Nat.le_trans B0.out.size (Nat.le_trans hb.size HN.out)))⟩
end Go.Proofs.YtoohbgjfhchnmaaDoor
