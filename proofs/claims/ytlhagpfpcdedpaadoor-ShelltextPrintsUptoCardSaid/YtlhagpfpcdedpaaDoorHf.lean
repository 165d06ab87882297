/- walks: the parser's next (written by gen_hf.py) -/
import Derived.Test.YtlhagpfpcdedpaaDoorHe
namespace Go.Proofs.YtlhagpfpcdedpaaDoor
open Go.RowKit
open Shp
def opL : List (List UInt8) := [[10], [124, 124], [124], [59], [38, 38], [60], [62, 62], [62]]
def opV : Array Value := (opL.map fun o => Value.string ⟨o.toArray⟩).toArray
theorem opT_find (s : ByteArray) (j : Nat) : opT s j = opL.find? (pfx s j) := by
  unfold opT opL
  simp only [List.find?_cons, pfx1, pfx2, List.find?_nil]
  cases at? s j with
  | none => simp
  | some c =>
    generalize at? s (j + 1) = d
    simp only [Option.some.injEq]
    by_cases h1 : c = 10
    · subst h1; simp
    by_cases h2 : c = 124
    · subst h2; by_cases e : d = some 124 <;> simp [e]
    by_cases h3 : c = 59
    · subst h3; simp
    by_cases h4 : c = 38
    · subst h4; by_cases e : d = some 38 <;> simp [e]
    by_cases h5 : c = 60
    · subst h5; simp
    by_cases h6 : c = 62
    · subst h6; by_cases e : d = some 62 <;> simp [e]
    · simp [h1, h2, h3, h4, h5, h6]
theorem op_first {s : ByteArray} {j i : Nat} {o : List UInt8} (hn : ∀ k o, k < i → opL[k]? = some o → pfx s j o = false) (ho : opL[i]? = some o) (hp : pfx s j o = true) : opT s j = some o := by
  rw [opT_find, List.find?_eq_some_iff_getElem]
  obtain ⟨hi, e⟩ := List.getElem?_eq_some_iff.1 ho
  refine ⟨hp, i, hi, e, fun k hk => ?_⟩
  rw [hn k _ hk (List.getElem?_eq_getElem (by omega))]; rfl
theorem op_none {s : ByteArray} {j : Nat} (hn : ∀ k o, k < 8 → opL[k]? = some o → pfx s j o = false) : opT s j = none := by
  rw [opT_find, List.find?_eq_none]
  intro o ho
  obtain ⟨k, hk, e⟩ := List.getElem_of_mem ho
  rw [hn k o hk (by rw [List.getElem?_eq_getElem hk, e])]; decide
theorem op_len {i : Nat} {o : List UInt8} (ho : opL[i]? = some o) : o.length ≤ 2 := by
  have := List.mem_of_getElem? ho
  simp only [opL, List.mem_cons, List.not_mem_nil, or_false] at this
  rcases this with h | h | h | h | h | h | h | h <;> subst h <;> decide
theorem pfx_len {s : ByteArray} {j : Nat} {o : List UInt8} (h : pfx s j o = true) (hj : j ≤ s.size) : j + o.length ≤ s.size := by
  unfold pfx at h
  have := (of_decide_eq_true h).length_le
  rw [List.length_drop] at this
  have e : s.data.toList.length = s.size := rfl
  omega
theorem tok_op {s : ByteArray} {j : Nat} {o : List UInt8} (hj : j < s.size) (h : opT s j = some o) : tokS s j = .run ⟨2, o, false, j⟩ (j + o.length) := by
  unfold tokS; rw [at_lt hj, h]
theorem tok_no {s : ByteArray} {j : Nat} (hj : j < s.size) (h : opT s j = none) : tokS s j = if s[j] = 38 then .bad 1 j else wordS s j := by
  unfold tokS; rw [at_lt hj, h]
/-- the operators in block g -/
def OP8 (g : Nat) (w : World) : Prop := w.heap[g]? = some (.cells opV 9 (0, 0))
theorem OP8.cell {g : Nat} {w : World} (h : OP8 g w) {i : Nat} {o : List UInt8} (ho : opL[i]? = some o) : w.cell? ⟨g, i, none⟩ = some (.string ⟨o.toArray⟩) := by
  rw [blk_cell h, opV, List.getElem?_toArray, List.getElem?_map, ho]; rfl
/-- the world with another present token -/
abbrev nowW (p : Nat) (w : World) (x : ByteArray) (wd bg : Bool) (ta : Int) : World := (((w.setCell ⟨p, 2, none⟩ (.string x)).setCell ⟨p, 3, none⟩ (.bool wd)).setCell ⟨p, 4, none⟩ (.bool bg)).setCell ⟨p, 5, none⟩ (.int .i64 ta)
theorem now_set {p : Nat} {s : ByteArray} {a : Int} {tx : ByteArray} {wd bg : Bool} {ta er po : Int} {w : World} (h : RX p s a tx wd bg ta er po w) (x : ByteArray) (wd' bg' : Bool) (ta' : Int) : RX p s a x wd' bg' ta' er po (nowW p w x wd' bg' ta') :=
  (((h.set2 x).set3 wd').set4 bg').set5 ta'
theorem now_gr (p : Nat) (w : World) (x : ByteArray) (wd bg : Bool) (ta : Int) : Gr p w (nowW p w x wd bg ta) :=
  gr_trans (gr_trans (gr_trans (gr_set _ _ _ _) (gr_set _ _ _ _)) (gr_set _ _ _ _)) (gr_set _ _ _ _)
theorem op8_new (p : Nat) (w : World) (x : ByteArray) (wd bg : Bool) (ta : Int) : OP8 w.heap.size ((nowW p w x wd bg ta).alloc (.cells opV 9 (0, 0))).drew := by
  have h := heap_alloc_new (nowW p w x wd bg ta) (.cells opV 9 (0, 0))
  have e : (nowW p w x wd bg ta).heap.size = w.heap.size := by simp [World.setCell]
  rw [e] at h
  exact h
theorem gr_same' {p : Nat} {w w0 w1 : World} (h : Gr p w w0) (e : SameW w0 w1) : Gr p w w1 := by
  obtain ⟨e1, e2, e3, e4⟩ := e
  obtain ⟨q1, q2, q3, q4, q5⟩ := h
  exact ⟨e2.trans q1, e3.trans q2, e4.trans q3, by rw [e1]; exact q4, fun i hi hp => by rw [e1]; exact q5 i hi hp⟩
set_option maxHeartbeats 1000000 in
theorem next_bad (p : Nat) (s : ByteArray) (a : Int) (tx : ByteArray) (wd bg : Bool) (ta er po : Int) (w : World) (h : RX p s a tx wd bg ta er po w) (he : er ≠ 0) :
    Calls Tryd.prog 19 #[.pointer (some ⟨p, 0, none⟩)] w fun e w' => e = .returned (.tuple #[]) ∧ w = w' := by
  obtain ⟨-, -, -, -, -, -, c6, -⟩ := h.cells
  have t : (er == 0) = false := by rw [beq_eq_false_iff_ne]; exact he
  clear h he
  go_enter Tryd.func19, Tryd.ntmps19
  go_wp2_with fail
  (try simp only [Exit.inBlock, Exit.then]); refine bodyPost_ret (results_none rfl _ _ _) rfl ?_
  exact ⟨rfl, rfl⟩
set_option maxRecDepth 100000 in
set_option maxHeartbeats 8000000 in
theorem next_run (p : Nat) (s : ByteArray) (a : Nat) (tx : ByteArray) (wd bg : Bool) (ta po : Int) (w : World) (h : RX p s a tx wd bg ta 0 po w) (hs : s.size ≤ 8192) (ha : a ≤ s.size) :
    Calls Tryd.prog 19 #[.pointer (some ⟨p, 0, none⟩)] w fun e w' => e = .returned (.tuple #[]) ∧ Hid (StM p s po w' (nx s a)) ∧ Hid (Gr p w w') := by
  obtain ⟨-, -, -, -, -, -, c6, -⟩ := h.cells
  have H := Lib.hid h
  obtain ⟨j, hj⟩ : ∃ j, skS s a = j := ⟨_, rfl⟩
  have J := skS_le s a ha
  rw [hj] at J
  have NX : Hid (nx s a = tokS s j) := Lib.hid (by unfold nx; rw [hj])
  have HJ := Lib.hid hj
  have jl := J.2
  clear h J hj
  by_cases he : s.size ≤ j
  · obtain rfl : j = s.size := by omega
    have i1 : (s.size : Int) ≤ (s.size : Int) := by omega
    go_enter Tryd.func19, Tryd.ntmps19
    go_wp2_with ((go_at_call 43; refine (skip_any p s a tx wd bg ta 0 po _ (H.out.keep (by rfl)) hs ha).mono ?_; rintro e w1 ⟨rfl, L1, G1⟩; rw [HJ.out] at L1; obtain ⟨c0, c1, c2, c3, c4, c5, c6, -⟩ := L1.out.cells; have f2 := L1.out.fr 2; have f3 := L1.out.fr 3; have f4 := L1.out.fr 4; have f5 := L1.out.fr 5))
    repeat (go_region; go_wp2_with ((go_at_call 43; refine (skip_any p s a tx wd bg ta 0 po _ (H.out.keep (by rfl)) hs ha).mono ?_; rintro e w1 ⟨rfl, L1, G1⟩; rw [HJ.out] at L1; obtain ⟨c0, c1, c2, c3, c4, c5, c6, -⟩ := L1.out.cells; have f2 := L1.out.fr 2; have f3 := L1.out.fr 3; have f4 := L1.out.fr 4; have f5 := L1.out.fr 5)))
    (try simp only [Exit.inBlock, Exit.then]); refine bodyPost_ret (results_none rfl _ _ _) rfl ?_
    exact ⟨rfl, Lib.hid (by rw [NX.out]; unfold tokS; rw [at_ge (Nat.le_refl _)]; exact (now_set L1.out ⟨#[]⟩ false false (s.size : Nat)).keep (by rfl)), Lib.hid (gr_same' (gr_trans G1.out (now_gr p w1 _ _ _ _)) ⟨rfl, rfl, rfl, rfl⟩)⟩
  · have hlt : j < s.size := by omega
    have i1 : ¬ ((s.size : Int) ≤ (j : Int)) := by omega
    go_enter Tryd.func19, Tryd.ntmps19
    go_wp2_with ((go_at_call 43; refine (skip_any p s a tx wd bg ta 0 po _ (H.out.keep (by rfl)) hs ha).mono ?_; rintro e w1 ⟨rfl, L1, G1⟩; rw [HJ.out] at L1; obtain ⟨c0, c1, c2, c3, c4, c5, c6, -⟩ := L1.out.cells; have f2 := L1.out.fr 2; have f3 := L1.out.fr 3; have f4 := L1.out.fr 4; have f5 := L1.out.fr 5))
    repeat (go_region; go_wp2_with ((go_at_call 43; refine (skip_any p s a tx wd bg ta 0 po _ (H.out.keep (by rfl)) hs ha).mono ?_; rintro e w1 ⟨rfl, L1, G1⟩; rw [HJ.out] at L1; obtain ⟨c0, c1, c2, c3, c4, c5, c6, -⟩ := L1.out.cells; have f2 := L1.out.fr 2; have f3 := L1.out.fr 3; have f4 := L1.out.fr 4; have f5 := L1.out.fr 5)))
    go_loopw [31] (fun v wr => ∃ i : Nat, v = .int .i64 (i : Int) ∧ i ≤ 8 ∧ Hid (∀ k o, k < i → opL[k]? = some o → pfx s j o = false) ∧ Hid (RX p s j ⟨#[]⟩ false false j 0 po wr) ∧ Hid (OP8 w1.heap.size wr) ∧ Hid (Gr p w wr)) (fun v _ => 8 - (intOf v).toNat)
    case atStart => exact ⟨0, rfl, by omega, Lib.hid (fun k o hk => absurd hk (Nat.not_lt_zero k)), Lib.hid (((now_set L1.out ⟨#[]⟩ false false (j : Nat)).below ((Below.refl _ _).alloc (Nat.le_refl _) (.cells opV 9 (0, 0)))).keep (by rfl)), Lib.hid (op8_new p w1 _ _ _ _), Lib.hid (gr_same' (gr_trans (gr_trans G1.out (now_gr p w1 _ _ _ _)) (gr_below ((Below.refl _ _).alloc (Nat.le_refl _) (.cells opV 9 (0, 0))))) ⟨rfl, rfl, rfl, rfl⟩)⟩
    case round =>
      obtain ⟨i, rfl, i8, NO, L, O8, G⟩ := hrel
      obtain ⟨c0, c1, c2, c3, c4, c5, c6, -⟩ := L.out.cells
      have f1 := L.out.fr 1
      have f2 := L.out.fr 2
      by_cases hi : i < 8
      · obtain ⟨o, ho⟩ : ∃ o, opL[i]? = some o := ⟨_, List.getElem?_eq_getElem (show i < opL.length from hi)⟩
        have CO := O8.out.cell ho
        obtain ⟨u, hu⟩ : ∃ u, s.extract j s.size = u := ⟨_, rfl⟩
        have DR : Hid (u.data.toList = s.data.toList.drop j) := Lib.hid (by rw [← hu]; exact ext_drop s j)
        have HO := Lib.hid ho
        have OS : Hid (o.length ≤ 2) := Lib.hid (op_len ho)
        clear ho
        have S0 : RX p s j ⟨#[]⟩ false false j 0 po wr.drew ∧ OP8 w1.heap.size wr.drew ∧ Gr p w wr.drew ∧ wr.drew.cell? ⟨p, 0, none⟩ = some (.string s) ∧ wr.drew.cell? ⟨p, 1, none⟩ = some (.int .i64 j) := ⟨L.out.keep rfl, O8.out, gr_same' G.out ⟨rfl, rfl, rfl, rfl⟩, c0, c1⟩
        cases hp : pfx s j o with
        | false =>
          have PO : Hid (Lib.hasPrefix u.data.toList (ByteArray.mk o.toArray).data.toList = false) := Lib.hid (by rw [pfx_of DR.out]; exact hp)
          go_wp2_with fail
          go_region_held3 (fun w' => RX p s j ⟨#[]⟩ false false j 0 po w' ∧ OP8 w1.heap.size w' ∧ Gr p w w' ∧ w'.cell? ⟨p, 0, none⟩ = some (.string s) ∧ w'.cell? ⟨p, 1, none⟩ = some (.int .i64 j)) (first | exact S0) (first | (go_at_call 44; refine (hp_is _ _ _ _ PO).mono ?_; rintro _ _ ⟨rfl, rfl⟩))
          rename_i hH
          rename World => wq
          obtain ⟨LH, OH, GH, -, d1⟩ := hH
          have LH := Lib.hid LH
          have OH := Lib.hid OH
          have GH := Lib.hid GH
          have f1 := LH.out.fr 1
          have f2 := LH.out.fr 2
          obtain ⟨-, -, d2, -, -, -, -, -⟩ := LH.out.cells
          clear S0
          go_wp2_with (fail)
          repeat (go_region; go_wp2_with (fail))
          go_roundw
          case rel => exact ⟨i + 1, rfl, by omega, Lib.hid (fun k o' hk ho' => by
            rcases Nat.lt_succ_iff_lt_or_eq.mp hk with h | h
            · exact NO.out k o' h ho'
            · subst h; rw [HO.out] at ho'; cases ho'; exact hp), Lib.hid (LH.out.keep (by rfl)), Lib.hid OH.out, Lib.hid (gr_same' GH.out ⟨rfl, rfl, rfl, rfl⟩)⟩
          case measure => simp only [intOf]; omega
        | true =>
          have PO : Hid (Lib.hasPrefix u.data.toList (ByteArray.mk o.toArray).data.toList = true) := Lib.hid (by rw [pfx_of DR.out]; exact hp)
          have TK : Hid (nx s a = .run ⟨2, o, false, j⟩ (j + o.length)) := Lib.hid (by rw [NX.out]; exact tok_op hlt (op_first NO.out HO.out hp))
          have OL : Hid (j + o.length ≤ s.size) := Lib.hid (pfx_len hp (Nat.le_of_lt hlt))
          have osz : (ByteArray.mk o.toArray).size = o.length := rfl
          obtain ⟨m, hm⟩ : ∃ m, o.length = m := ⟨_, rfl⟩
          rw [hm] at OS OL TK osz
          have ol := OL.out
          go_wp2_with fail
          go_region_held3 (fun w' => RX p s j ⟨#[]⟩ false false j 0 po w' ∧ OP8 w1.heap.size w' ∧ Gr p w w' ∧ w'.cell? ⟨p, 0, none⟩ = some (.string s) ∧ w'.cell? ⟨p, 1, none⟩ = some (.int .i64 j)) (first | exact S0) (first | (go_at_call 44; refine (hp_is _ _ _ _ PO).mono ?_; rintro _ _ ⟨rfl, rfl⟩))
          rename_i hH
          rename World => wq
          obtain ⟨LH, OH, GH, -, d1⟩ := hH
          have LH := Lib.hid LH
          have OH := Lib.hid OH
          have GH := Lib.hid GH
          have f1 := LH.out.fr 1
          have f2 := LH.out.fr 2
          obtain ⟨-, -, d2, -, -, -, -, -⟩ := LH.out.cells
          clear S0
          go_wp2_with (fail)
          repeat (go_region; go_wp2_with (fail))
          (try simp only [Exit.inBlock, Exit.then]); refine bodyPost_ret (results_none rfl _ _ _) rfl ?_
          exact ⟨rfl, Lib.hid (by rw [TK.out]; exact (LH.out.set2 ⟨o.toArray⟩).to1 ((j + m : Nat) : Int) _ (by omega) rfl), Lib.hid (gr_same' (gr_trans (gr_trans (gr_same' (w1 := wq) GH.out ⟨rfl, rfl, rfl, rfl⟩) (gr_set wq p 2 (.string ⟨o.toArray⟩))) (gr_set _ p 1 (.int .i64 ((j : Int) + (m : Int))))) ⟨rfl, rfl, rfl, rfl⟩)⟩
      · obtain rfl : i = 8 := by omega
        have OT := op_none NO.out
        have TN : Hid (nx s a = if s[j] = 38 then .bad 1 j else wordS s j) := Lib.hid (by rw [NX.out]; exact tok_no hlt OT)
        obtain ⟨c, hc⟩ : ∃ c, s[j] = c := ⟨_, rfl⟩
        rw [hc] at TN
        clear OT
        by_cases h38 : c = 38
        · subst h38
          go_wp2_with ((go_at_call 45; refine (fail_run p s j ⟨#[]⟩ false false j po 1 j _ (L.out.keep (by rfl))).mono ?_; rintro e w2 ⟨rfl, L2, G2⟩))
          repeat (go_region; go_wp2_with ((go_at_call 45; refine (fail_run p s j ⟨#[]⟩ false false j po 1 j _ (L.out.keep (by rfl))).mono ?_; rintro e w2 ⟨rfl, L2, G2⟩)))
          (try simp only [Exit.inBlock, Exit.then]); refine bodyPost_ret (results_none rfl _ _ _) rfl ?_
          exact ⟨rfl, Lib.hid (by rw [TN.out, if_pos trivial]; exact ⟨_, _, _, _, _, L2.out⟩), Lib.hid (gr_trans G.out (gr_same G2.out ⟨rfl, rfl, rfl, rfl⟩))⟩
        · have t1 : ((c.toNat : Int) == 38) = false := by rw [beq_eq_false_iff_ne]; exact fun e => h38 (UInt8.toNat_inj.mp (by show _ = 38; omega))
          go_wp2_with ((go_at_call 46; refine (word_any p s j ⟨#[]⟩ false false po _ (L.out.keep (by rfl)) hs hlt).mono ?_; rintro e w2 ⟨rfl, L2, G2⟩))
          repeat (go_region; go_wp2_with ((go_at_call 46; refine (word_any p s j ⟨#[]⟩ false false po _ (L.out.keep (by rfl)) hs hlt).mono ?_; rintro e w2 ⟨rfl, L2, G2⟩)))
          go_end0
          exact ⟨rfl, Lib.hid (by rw [TN.out, if_neg h38]; exact L2.out), Lib.hid (gr_trans G.out (gr_same G2.out ⟨rfl, rfl, rfl, rfl⟩))⟩
end Go.Proofs.YtlhagpfpcdedpaaDoor
