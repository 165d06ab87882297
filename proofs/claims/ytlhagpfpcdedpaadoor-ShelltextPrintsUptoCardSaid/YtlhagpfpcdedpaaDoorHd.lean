/- walks: the parser's quoted (written by gen_hd.py) -/
import Derived.Test.YtlhagpfpcdedpaaDoorHc
namespace Go.Proofs.YtlhagpfpcdedpaaDoor
open Go.RowKit
open Shp
def intOf : Value → Int | .int _ q => q | _ => 0
/-- but for draws the same -/
abbrev SameW (w0 w : World) : Prop := w.heap = w0.heap ∧ w.os = w0.os ∧ w.tape = w0.tape ∧ w.output = w0.output
theorem gb_same {p b : Nat} {w w0 w1 : World} (h : GB p b w w0) (e : SameW w0 w1) : GB p b w w1 := by
  obtain ⟨e1, e2, e3, e4⟩ := e
  exact ⟨e2.trans h.os, e3.trans h.tape, e4.trans h.output, by rw [e1]; exact h.size, fun i hi hp => by rw [e1]; exact h.block i hi hp⟩
theorem gr_same {p : Nat} {w0 w1 w : World} (h : Gr p w1 w) (e : SameW w0 w1) : Gr p w0 w := by
  obtain ⟨e1, e2, e3, e4⟩ := e
  obtain ⟨q1, q2, q3, q4, q5⟩ := h
  rw [e1] at q4 q5
  exact ⟨q1.trans e2, q2.trans e3, q3.trans e4, q4, q5⟩
theorem bel_same {b : Nat} {w0 w1 w : World} (h : Below b w1 w) (e : SameW w0 w1) : Below b w0 w := by
  obtain ⟨e1, e2, e3, e4⟩ := e
  obtain ⟨q1, q2, q3, q4, q5⟩ := h
  rw [e1] at q4 q5
  exact ⟨q1.trans e2, q2.trans e3, q3.trans e4, q4, q5⟩
theorem wb_p (p b : Nat) (s : ByteArray) (a : Int) (tx : ByteArray) (wd bg : Bool) (ta er po : Int) (out : List UInt8) (c : UInt8) (v : Int) (wb w0 w : World) (L : RX p s a tx wd bg ta er po w0) (I : IBF b out w0) (G : GB p b wb w0) (hp : p < b) (hw : SameW w0 w) (hv : v = (c.toNat : Int)) (hlen : out.length + 1 ≤ 140737488355328) :
    Calls Tryd.prog 59 #[.pointer (some ⟨b, 0, none⟩), .int .u8 v] w fun e w' => e = .returned .nilIface ∧ Hid (IBF b (out ++ [c]) w') ∧ Hid (RX p s a tx wd bg ta er po w') ∧ Hid (GB p b wb w') := by
  refine (wb_k b out c v w (ibf_keep I (fun i _ _ => by rw [hw.1])) hv hlen).mono fun e w' ⟨h1, h2, h3⟩ => ⟨h1, h2, ?_, ?_⟩
  · exact Lib.hid ((L.keep (by rw [hw.1])).gb h3 hp)
  · exact Lib.hid (G.trans (GB.of (bel_same h3 hw)))
set_option maxRecDepth 100000 in
set_option maxHeartbeats 8000000 in
theorem quoted_39 (p b : Nat) (s : ByteArray) (a : Nat) (tx : ByteArray) (wd bg : Bool) (ta po : Int) (out : List UInt8) (w : World) (h : RX p s a tx wd bg ta 0 po w) (hi : IBF b out w) (hp : p < b) (hs : s.size ≤ 8192) (ha : a < s.size) (ho : out.length ≤ 8192) :
    Calls Tryd.prog 58 #[.pointer (some ⟨p, 0, none⟩), .int .u8 39, .pointer (some ⟨b, 0, none⟩)] w fun e w' => e = .returned (.tuple #[]) ∧ Hid (PQ p b s a tx wd bg ta po out w' (quP s 39 a)) ∧ Hid (GB p b w w') := by
  obtain ⟨c0, c1, -, -, -, -, -, -⟩ := h.cells
  have H := Lib.hid h
  have HI := Lib.hid hi
  have HP := Lib.hid hp
  have HO := Lib.hid ho
  clear h hi hp ho
  go_enter Tryd.func58, Tryd.ntmps58
  go_wp2_with fail
  go_loopw [6] (fun v wr => ∃ (i : Nat) (l : List UInt8), v = .int .i64 (i : Int) ∧ a < i ∧ i ≤ s.size ∧ Hid (quS s 39 (i, l) = quS s 39 (a + 1, [])) ∧ Hid (l.length ≤ i) ∧ Hid (IBF b (out ++ l) wr) ∧ Hid (RX p s a tx wd bg ta 0 po wr) ∧ Hid (GB p b w wr)) (fun v _ => s.size - (intOf v).toNat)
  case atStart => exact ⟨a + 1, [], rfl, by omega, by omega, Lib.hid rfl, Lib.hid (by simp), Lib.hid (by rw [List.append_nil]; exact HI.out), H, Lib.hid (GB.refl p b w)⟩
  case round =>
    obtain ⟨i, l, rfl, ai, is, Q, LL, I, L, G⟩ := hrel
    obtain ⟨c0, c1, -, -, -, -, -, -⟩ := L.out.cells
    have f1 := L.out.fr 1
    by_cases hlt : i < s.size
    · obtain ⟨c, hc⟩ : ∃ c, s[i] = c := ⟨_, rfl⟩
      have AC : Hid (at? s i = some c) := Lib.hid (by rw [at_lt hlt, hc])
      have HL : Hid ((out ++ l).length ≤ 20000) := Lib.hid (by rw [List.length_append]; have := HO.out; have := LL.out; omega)
      by_cases hq : c = 39
      · subst hq
        have QN : Hid (quS s 39 (a + 1, []) = (i, l)) := Lib.hid (by rw [← Q.out]; exact quS_none (by unfold qu1; simp only; rw [AC.out]; rfl))
        go_wp2_with (fail)
        repeat (go_region; go_wp2_with (fail))
        (try simp only [Exit.inBlock, Exit.then]); refine bodyPost_ret (results_none rfl _ _ _) rfl ?_
        have e : quP s 39 a = some (l, i + 1) := by unfold quP; rw [QN.out]; simp only; rw [AC.out]; rfl
        exact ⟨rfl, Lib.hid (by rw [e]; exact ⟨L.out.to1 ((i + 1 : Nat) : Int) _ (by omega) rfl, ibf_keep (ibf_set I.out HP.out 1 (.int .i64 ((i : Int) + 1))) (by intros; rfl)⟩), Lib.hid (gb_same (G.out.trans (GB.set p b wr 1 (.int .i64 ((i : Int) + 1)))) ⟨rfl, rfl, rfl, rfl⟩)⟩
      · have t0 : ((c.toNat : Int) == 39) = false := by rw [beq_eq_false_iff_ne]; exact fun e => hq (UInt8.toNat_inj.mp (by show _ = 39; omega))
        have QQ : Hid (qu1 s 39 (i, l) = some (i + 1, l ++ [c])) := Lib.hid (by unfold qu1; simp only; rw [AC.out]; simp only; rw [if_neg hq]; rfl)
        have QS : Hid (quS s 39 (i + 1, l ++ [c]) = quS s 39 (a + 1, [])) := Lib.hid (by rw [← Q.out]; exact (quS_step (by exact QQ.out)).symm)
        go_wp2_with ((go_at_call 59; refine (wb_p p b s a tx wd bg ta 0 po (out ++ l) c (c.toNat : Int) w wr _ L.out I.out G.out HP.out (by exact ⟨rfl, rfl, rfl, rfl⟩) rfl (Nat.le_trans (Nat.succ_le_succ HL.out) (by decide))).mono ?_; rintro e w1 ⟨rfl, I1, L1, G1⟩; obtain ⟨c0, c1, -, -, -, -, -, -⟩ := L1.out.cells))
        repeat (go_region; go_wp2_with ((go_at_call 59; refine (wb_p p b s a tx wd bg ta 0 po (out ++ l) c (c.toNat : Int) w wr _ L.out I.out G.out HP.out (by exact ⟨rfl, rfl, rfl, rfl⟩) rfl (Nat.le_trans (Nat.succ_le_succ HL.out) (by decide))).mono ?_; rintro e w1 ⟨rfl, I1, L1, G1⟩; obtain ⟨c0, c1, -, -, -, -, -, -⟩ := L1.out.cells)))
        go_roundw
        case rel => exact ⟨i + 1, l ++ [c], rfl, by omega, by omega, QS, Lib.hid (by rw [List.length_append, List.length_singleton]; have := LL.out; omega), Lib.hid (by rw [← List.append_assoc]; exact I1.out), L1, G1⟩
        case measure => have e1 : ((((i + 1 : Nat)) : Int)).toNat = i + 1 := Int.toNat_natCast _; have e2 : ((i : Int)).toNat = i := Int.toNat_natCast _; show s.size - _ < s.size - _; simp only [intOf]; omega
    · have QN : Hid (quS s 39 (a + 1, []) = (i, l)) := Lib.hid (by rw [← Q.out]; exact quS_none (by unfold qu1; simp only; rw [at_ge (by omega)]))
      have e : Hid (quP s 39 a = none) := Lib.hid (by unfold quP; rw [QN.out]; simp only; rw [at_ge (by omega)]; rfl)
      have i4 : ¬ ((i : Int) < (s.size : Int)) := by omega
      go_wp2_with ((go_at_call 45; refine (fail_run p s a tx wd bg ta po 1 a _ (L.out.keep (by rfl))).mono ?_; rintro e w1 ⟨rfl, L1, G1⟩))
      repeat (go_region; go_wp2_with ((go_at_call 45; refine (fail_run p s a tx wd bg ta po 1 a _ (L.out.keep (by rfl))).mono ?_; rintro e w1 ⟨rfl, L1, G1⟩)))
      go_end0
      exact ⟨rfl, Lib.hid (by rw [e.out]; exact ⟨L1.out, _, ibf_gr I.out (gr_same G1.out ⟨rfl, rfl, rfl, rfl⟩) HP.out⟩), Lib.hid (G.out.trans (GB.ofGr (gr_same G1.out ⟨rfl, rfl, rfl, rfl⟩) (ibf_size I.out)))⟩
set_option maxRecDepth 100000 in
set_option maxHeartbeats 8000000 in
theorem quoted_34 (p b : Nat) (s : ByteArray) (a : Nat) (tx : ByteArray) (wd bg : Bool) (ta po : Int) (out : List UInt8) (w : World) (h : RX p s a tx wd bg ta 0 po w) (hi : IBF b out w) (hp : p < b) (hs : s.size ≤ 8192) (ha : a < s.size) (ho : out.length ≤ 8192) :
    Calls Tryd.prog 58 #[.pointer (some ⟨p, 0, none⟩), .int .u8 34, .pointer (some ⟨b, 0, none⟩)] w fun e w' => e = .returned (.tuple #[]) ∧ Hid (PQ p b s a tx wd bg ta po out w' (quP s 34 a)) ∧ Hid (GB p b w w') := by
  obtain ⟨c0, c1, -, -, -, -, -, -⟩ := h.cells
  have H := Lib.hid h
  have HI := Lib.hid hi
  have HP := Lib.hid hp
  have HO := Lib.hid ho
  clear h hi hp ho
  go_enter Tryd.func58, Tryd.ntmps58
  go_wp2_with fail
  go_loopw [6] (fun v wr => ∃ (i : Nat) (l : List UInt8), v = .int .i64 (i : Int) ∧ a < i ∧ i ≤ s.size ∧ Hid (quS s 34 (i, l) = quS s 34 (a + 1, [])) ∧ Hid (l.length ≤ i) ∧ Hid (IBF b (out ++ l) wr) ∧ Hid (RX p s a tx wd bg ta 0 po wr) ∧ Hid (GB p b w wr)) (fun v _ => s.size - (intOf v).toNat)
  case atStart => exact ⟨a + 1, [], rfl, by omega, by omega, Lib.hid rfl, Lib.hid (by simp), Lib.hid (by rw [List.append_nil]; exact HI.out), H, Lib.hid (GB.refl p b w)⟩
  case round =>
    obtain ⟨i, l, rfl, ai, is, Q, LL, I, L, G⟩ := hrel
    obtain ⟨c0, c1, -, -, -, -, -, -⟩ := L.out.cells
    have f1 := L.out.fr 1
    by_cases hlt : i < s.size
    · obtain ⟨c, hc⟩ : ∃ c, s[i] = c := ⟨_, rfl⟩
      have AC : Hid (at? s i = some c) := Lib.hid (by rw [at_lt hlt, hc])
      have HL : Hid ((out ++ l).length ≤ 20000) := Lib.hid (by rw [List.length_append]; have := HO.out; have := LL.out; omega)
      by_cases hq : c = 34
      · subst hq
        have QN : Hid (quS s 34 (a + 1, []) = (i, l)) := Lib.hid (by rw [← Q.out]; exact quS_none (by unfold qu1; simp only; rw [AC.out]; rfl))
        go_wp2_with (fail)
        repeat (go_region; go_wp2_with (fail))
        (try simp only [Exit.inBlock, Exit.then]); refine bodyPost_ret (results_none rfl _ _ _) rfl ?_
        have e : quP s 34 a = some (l, i + 1) := by unfold quP; rw [QN.out]; simp only; rw [AC.out]; rfl
        exact ⟨rfl, Lib.hid (by rw [e]; exact ⟨L.out.to1 ((i + 1 : Nat) : Int) _ (by omega) rfl, ibf_keep (ibf_set I.out HP.out 1 (.int .i64 ((i : Int) + 1))) (by intros; rfl)⟩), Lib.hid (gb_same (G.out.trans (GB.set p b wr 1 (.int .i64 ((i : Int) + 1)))) ⟨rfl, rfl, rfl, rfl⟩)⟩
      · have t0 : ((c.toNat : Int) == 34) = false := by rw [beq_eq_false_iff_ne]; exact fun e => hq (UInt8.toNat_inj.mp (by show _ = 34; omega))
        by_cases hb : c = 92
        · subst hb
          by_cases h2 : i + 1 < s.size
          · obtain ⟨d, hd⟩ : ∃ d, s[i + 1] = d := ⟨_, rfl⟩
            have AD : Hid (at? s (i + 1) = some d) := Lib.hid (by rw [at_lt h2, hd])
            by_cases hx : d = 34
            · subst hx
              have QQ : Hid (qu1 s 34 (i, l) = some (i + 2, l ++ [34])) := Lib.hid (by unfold qu1; simp only; rw [AC.out]; simp only; rw [AD.out]; rfl)
              have QS : Hid (quS s 34 (i + 2, l ++ [34]) = quS s 34 (a + 1, [])) := Lib.hid (by rw [← Q.out]; exact (quS_step (by exact QQ.out)).symm)
              go_wp2_with ((go_at_call 59; refine (wb_p p b s a tx wd bg ta 0 po (out ++ l) 34 _ w wr _ L.out I.out G.out HP.out (by exact ⟨rfl, rfl, rfl, rfl⟩) rfl (Nat.le_trans (Nat.succ_le_succ HL.out) (by decide))).mono ?_; rintro e w1 ⟨rfl, I1, L1, G1⟩; obtain ⟨c0, c1, -, -, -, -, -, -⟩ := L1.out.cells))
              repeat (go_region; go_wp2_with ((go_at_call 59; refine (wb_p p b s a tx wd bg ta 0 po (out ++ l) 34 _ w wr _ L.out I.out G.out HP.out (by exact ⟨rfl, rfl, rfl, rfl⟩) rfl (Nat.le_trans (Nat.succ_le_succ HL.out) (by decide))).mono ?_; rintro e w1 ⟨rfl, I1, L1, G1⟩; obtain ⟨c0, c1, -, -, -, -, -, -⟩ := L1.out.cells)))
              go_roundw
              case rel => exact ⟨i + 2, l ++ [34], rfl, by omega, by omega, QS, Lib.hid (by rw [List.length_append, List.length_singleton]; have := LL.out; omega), Lib.hid (by rw [← List.append_assoc]; exact I1.out), L1, G1⟩
              case measure => have e1 : ((((i + 2 : Nat)) : Int)).toNat = i + 2 := Int.toNat_natCast _; have e2 : ((i : Int)).toNat = i := Int.toNat_natCast _; show s.size - _ < s.size - _; simp only [intOf]; omega
            by_cases hy : d = 92
            · subst hy
              have QQ : Hid (qu1 s 34 (i, l) = some (i + 2, l ++ [92])) := Lib.hid (by unfold qu1; simp only; rw [AC.out]; simp only; rw [AD.out]; rfl)
              have QS : Hid (quS s 34 (i + 2, l ++ [92]) = quS s 34 (a + 1, [])) := Lib.hid (by rw [← Q.out]; exact (quS_step (by exact QQ.out)).symm)
              go_wp2_with ((go_at_call 59; refine (wb_p p b s a tx wd bg ta 0 po (out ++ l) 92 _ w wr _ L.out I.out G.out HP.out (by exact ⟨rfl, rfl, rfl, rfl⟩) rfl (Nat.le_trans (Nat.succ_le_succ HL.out) (by decide))).mono ?_; rintro e w1 ⟨rfl, I1, L1, G1⟩; obtain ⟨c0, c1, -, -, -, -, -, -⟩ := L1.out.cells))
              repeat (go_region; go_wp2_with ((go_at_call 59; refine (wb_p p b s a tx wd bg ta 0 po (out ++ l) 92 _ w wr _ L.out I.out G.out HP.out (by exact ⟨rfl, rfl, rfl, rfl⟩) rfl (Nat.le_trans (Nat.succ_le_succ HL.out) (by decide))).mono ?_; rintro e w1 ⟨rfl, I1, L1, G1⟩; obtain ⟨c0, c1, -, -, -, -, -, -⟩ := L1.out.cells)))
              go_roundw
              case rel => exact ⟨i + 2, l ++ [92], rfl, by omega, by omega, QS, Lib.hid (by rw [List.length_append, List.length_singleton]; have := LL.out; omega), Lib.hid (by rw [← List.append_assoc]; exact I1.out), L1, G1⟩
              case measure => have e1 : ((((i + 2 : Nat)) : Int)).toNat = i + 2 := Int.toNat_natCast _; have e2 : ((i : Int)).toNat = i := Int.toNat_natCast _; show s.size - _ < s.size - _; simp only [intOf]; omega
            · have t1 : ((d.toNat : Int) == 34) = false := by rw [beq_eq_false_iff_ne]; exact fun e => hx (UInt8.toNat_inj.mp (by show _ = 34; omega))
              have t2 : ((d.toNat : Int) == 92) = false := by rw [beq_eq_false_iff_ne]; exact fun e => hy (UInt8.toNat_inj.mp (by show _ = 92; omega))
              have QQ : Hid (qu1 s 34 (i, l) = some (i + 1, l ++ [92])) := Lib.hid (by unfold qu1; simp only; rw [AC.out]; simp only; rw [AD.out]; rw [if_neg hq, if_pos ⟨trivial, trivial⟩]; simp only; rw [if_neg (not_or.mpr ⟨hx, hy⟩)])
              have QS : Hid (quS s 34 (i + 1, l ++ [92]) = quS s 34 (a + 1, [])) := Lib.hid (by rw [← Q.out]; exact (quS_step (by exact QQ.out)).symm)
              go_wp2_with ((go_at_call 59; refine (wb_p p b s a tx wd bg ta 0 po (out ++ l) 92 _ w wr _ L.out I.out G.out HP.out (by exact ⟨rfl, rfl, rfl, rfl⟩) rfl (Nat.le_trans (Nat.succ_le_succ HL.out) (by decide))).mono ?_; rintro e w1 ⟨rfl, I1, L1, G1⟩; obtain ⟨c0, c1, -, -, -, -, -, -⟩ := L1.out.cells))
              repeat (go_region; go_wp2_with ((go_at_call 59; refine (wb_p p b s a tx wd bg ta 0 po (out ++ l) 92 _ w wr _ L.out I.out G.out HP.out (by exact ⟨rfl, rfl, rfl, rfl⟩) rfl (Nat.le_trans (Nat.succ_le_succ HL.out) (by decide))).mono ?_; rintro e w1 ⟨rfl, I1, L1, G1⟩; obtain ⟨c0, c1, -, -, -, -, -, -⟩ := L1.out.cells)))
              go_roundw
              case rel => exact ⟨i + 1, l ++ [92], rfl, by omega, by omega, QS, Lib.hid (by rw [List.length_append, List.length_singleton]; have := LL.out; omega), Lib.hid (by rw [← List.append_assoc]; exact I1.out), L1, G1⟩
              case measure => have e1 : ((((i + 1 : Nat)) : Int)).toNat = i + 1 := Int.toNat_natCast _; have e2 : ((i : Int)).toNat = i := Int.toNat_natCast _; show s.size - _ < s.size - _; simp only [intOf]; omega
          · have QQ : Hid (qu1 s 34 (i, l) = some (i + 1, l ++ [92])) := Lib.hid (by unfold qu1; simp only; rw [AC.out]; simp only; rw [at_ge (by omega)]; rfl)
            have i3 : ¬ ((i : Int) + 1 < (s.size : Int)) := by omega
            have QS : Hid (quS s 34 (i + 1, l ++ [92]) = quS s 34 (a + 1, [])) := Lib.hid (by rw [← Q.out]; exact (quS_step (by exact QQ.out)).symm)
            go_wp2_with ((go_at_call 59; refine (wb_p p b s a tx wd bg ta 0 po (out ++ l) 92 _ w wr _ L.out I.out G.out HP.out (by exact ⟨rfl, rfl, rfl, rfl⟩) rfl (Nat.le_trans (Nat.succ_le_succ HL.out) (by decide))).mono ?_; rintro e w1 ⟨rfl, I1, L1, G1⟩; obtain ⟨c0, c1, -, -, -, -, -, -⟩ := L1.out.cells))
            repeat (go_region; go_wp2_with ((go_at_call 59; refine (wb_p p b s a tx wd bg ta 0 po (out ++ l) 92 _ w wr _ L.out I.out G.out HP.out (by exact ⟨rfl, rfl, rfl, rfl⟩) rfl (Nat.le_trans (Nat.succ_le_succ HL.out) (by decide))).mono ?_; rintro e w1 ⟨rfl, I1, L1, G1⟩; obtain ⟨c0, c1, -, -, -, -, -, -⟩ := L1.out.cells)))
            go_roundw
            case rel => exact ⟨i + 1, l ++ [92], rfl, by omega, by omega, QS, Lib.hid (by rw [List.length_append, List.length_singleton]; have := LL.out; omega), Lib.hid (by rw [← List.append_assoc]; exact I1.out), L1, G1⟩
            case measure => have e1 : ((((i + 1 : Nat)) : Int)).toNat = i + 1 := Int.toNat_natCast _; have e2 : ((i : Int)).toNat = i := Int.toNat_natCast _; show s.size - _ < s.size - _; simp only [intOf]; omega
        · have t1 : ((c.toNat : Int) == 92) = false := by rw [beq_eq_false_iff_ne]; exact fun e => hb (UInt8.toNat_inj.mp (by show _ = 92; omega))
          have QQ : Hid (qu1 s 34 (i, l) = some (i + 1, l ++ [c])) := Lib.hid (by unfold qu1; simp only; rw [AC.out]; simp only; rw [if_neg hq, if_neg (fun x => hb x.2)])
          have QS : Hid (quS s 34 (i + 1, l ++ [c]) = quS s 34 (a + 1, [])) := Lib.hid (by rw [← Q.out]; exact (quS_step (by exact QQ.out)).symm)
          go_wp2_with ((go_at_call 59; refine (wb_p p b s a tx wd bg ta 0 po (out ++ l) c (c.toNat : Int) w wr _ L.out I.out G.out HP.out (by exact ⟨rfl, rfl, rfl, rfl⟩) rfl (Nat.le_trans (Nat.succ_le_succ HL.out) (by decide))).mono ?_; rintro e w1 ⟨rfl, I1, L1, G1⟩; obtain ⟨c0, c1, -, -, -, -, -, -⟩ := L1.out.cells))
          repeat (go_region; go_wp2_with ((go_at_call 59; refine (wb_p p b s a tx wd bg ta 0 po (out ++ l) c (c.toNat : Int) w wr _ L.out I.out G.out HP.out (by exact ⟨rfl, rfl, rfl, rfl⟩) rfl (Nat.le_trans (Nat.succ_le_succ HL.out) (by decide))).mono ?_; rintro e w1 ⟨rfl, I1, L1, G1⟩; obtain ⟨c0, c1, -, -, -, -, -, -⟩ := L1.out.cells)))
          go_roundw
          case rel => exact ⟨i + 1, l ++ [c], rfl, by omega, by omega, QS, Lib.hid (by rw [List.length_append, List.length_singleton]; have := LL.out; omega), Lib.hid (by rw [← List.append_assoc]; exact I1.out), L1, G1⟩
          case measure => have e1 : ((((i + 1 : Nat)) : Int)).toNat = i + 1 := Int.toNat_natCast _; have e2 : ((i : Int)).toNat = i := Int.toNat_natCast _; show s.size - _ < s.size - _; simp only [intOf]; omega
    · have QN : Hid (quS s 34 (a + 1, []) = (i, l)) := Lib.hid (by rw [← Q.out]; exact quS_none (by unfold qu1; simp only; rw [at_ge (by omega)]))
      have e : Hid (quP s 34 a = none) := Lib.hid (by unfold quP; rw [QN.out]; simp only; rw [at_ge (by omega)]; rfl)
      have i4 : ¬ ((i : Int) < (s.size : Int)) := by omega
      go_wp2_with ((go_at_call 45; refine (fail_run p s a tx wd bg ta po 1 a _ (L.out.keep (by rfl))).mono ?_; rintro e w1 ⟨rfl, L1, G1⟩))
      repeat (go_region; go_wp2_with ((go_at_call 45; refine (fail_run p s a tx wd bg ta po 1 a _ (L.out.keep (by rfl))).mono ?_; rintro e w1 ⟨rfl, L1, G1⟩)))
      go_end0
      exact ⟨rfl, Lib.hid (by rw [e.out]; exact ⟨L1.out, _, ibf_gr I.out (gr_same G1.out ⟨rfl, rfl, rfl, rfl⟩) HP.out⟩), Lib.hid (G.out.trans (GB.ofGr (gr_same G1.out ⟨rfl, rfl, rfl, rfl⟩) (ibf_size I.out)))⟩
end Go.Proofs.YtlhagpfpcdedpaaDoor
