/- walks: joined lines, both -/
import Derived.Test.YtnkpigibjicmaaaDoorVe
import Derived.Test.YtnkpigibjicmaaaDoorVplain2
import Derived.Shelf.Strings.BuilderK
import Derived.Deep.QuietTactic
import Derived.BigQuiet
import Derived.IntWalk
namespace Go.Proofs.YtnkpigibjicmaaaDoor
open Go.RowKit Go.Maps
open Pt
/-- a builder in block b -/
abbrev IBF (b : Nat) (out : List UInt8) (w : World) : Prop := Lib.IsBuilderF 100 5 b b (Lib.byteCells out) w
theorem ownF_keep {B : Nat} {e : TypeId} {k : Nat} {v : Value} {n : Nat} {xs : List Value} {w w' : World} (h : w.ownsRowF B e k v n xs) (hk : ∀ i, B ≤ i → i < w.heap.size → w'.heap[i]? = w.heap[i]?) : w'.ownsRowF B e k v n xs := by
  obtain ⟨h1, h2⟩ := h
  refine ⟨h1, ?_⟩
  rcases h2 with h2 | ⟨g, cap, cur, fz, rfl, hB, hg, r⟩
  · exact .inl h2
  · exact .inr ⟨g, cap, cur, fz, rfl, hB, by rw [hk g hB (Array.getElem?_eq_some_iff.1 hg).1]; exact hg, r⟩
theorem ibf_keep {b : Nat} {out : List UInt8} {w w' : World} (h : IBF b out w) (hk : ∀ i, b ≤ i → i < w.heap.size → w'.heap[i]? = w.heap[i]?) : IBF b out w' := by
  rcases h with ⟨hB, v, hv, ho, hn⟩ | ⟨hB, v, hv, ho, hn⟩
  · exact .inl ⟨hB, v, by rw [hk b (Nat.le_refl _) (Array.getElem?_eq_some_iff.1 hv).1]; exact hv, ownF_keep ho hk, hn⟩
  · exact .inr ⟨hB, v, by rw [hk b (Nat.le_refl _) (Array.getElem?_eq_some_iff.1 hv).1]; exact hv, ownF_keep ho hk, hn⟩
theorem ibf_size {b : Nat} {out : List UInt8} {w : World} (h : IBF b out w) : b ≤ w.heap.size := by
  rcases h with ⟨hB, v, hv, ho, hn⟩ | ⟨hB, v, hv, ho, hn⟩ <;> exact Nat.le_of_lt (Array.getElem?_eq_some_iff.1 hv).1
theorem ibf_alloc {b : Nat} {out : List UInt8} {w : World} (h : IBF b out w) (o : Obj) : IBF b out (w.alloc o) := ibf_keep h fun _ _ hl => heap_alloc_old w o hl
theorem wb_k (b : Nat) (out : List UInt8) (c : UInt8) (v : Int) (w : World) (h : IBF b out w) (hv : v = (c.toNat : Int)) (hlen : out.length + 1 ≤ 140737488355328) :
    Calls Tryd.prog 59 #[.pointer (some ⟨b, 0, none⟩), .int .u8 v] w fun e w' => e = .returned .nilIface ∧ Hid (IBF b (out ++ [c]) w') ∧ Hid (Below b w w') := by
  subst hv
  refine (Any.Builder_WriteByte_k Tryd.lays167 Tryd.Builder_Extra_167 b b (Lib.byteCells out) (c.toNat : Int) w h (by rw [Lib.byteCells_length]; exact hlen) (ibf_size h)).mono fun e w' ⟨h1, h2, h3, _⟩ => ⟨h1, Lib.hid (.inr ?_), Lib.hid h3⟩
  have e : Lib.byteCells (out ++ [c]) = Lib.byteCells out ++ [.int .u8 (c.toNat : Int)] := by simp [Lib.byteCells]
  rw [e]; exact h2
theorem str_k (b : Nat) (out : List UInt8) (w : World) (h : IBF b out w) :
    Calls Tryd.prog 60 #[.pointer (some ⟨b, 0, none⟩)] w fun e w' => e = .returned (.string ⟨out.toArray⟩) ∧ Hid (Below b w w') :=
  (Any.Builder_String_any_k Tryd.lays169 Tryd.Builder_Extra_169 b b out w h (ibf_size h)).mono fun _ _ ⟨h1, _, h3, _⟩ => ⟨h1, Lib.hid h3⟩
/-- but for block b and blocks of bytes all is as it was -/
structure KP (b : Nat) (w w' : World) : Prop where
  below : Below b w w'
  other : ∀ (g : Nat) (cs : Array Value) (T : TypeId) (z : Nat × Nat), T ≠ 5 → g ≠ b → w.heap[g]? = some (.cells cs T z) → w'.heap[g]? = some (.cells cs T z)
theorem ws_is (b : Nat) (o : List UInt8) (x : ByteArray) (w : World) (h : IBF b o w) (hl : o.length + x.size ≤ 140737488355328) :
    Calls Tryd.prog 58 #[.pointer (some ⟨b, 0, none⟩), .string x] w fun e w' => e = .returned (.tuple #[.int .i64 x.size, .nilIface]) ∧ Hid (IBF b (o ++ x.data.toList) w') ∧ Hid (KP b w w') := by
  refine (Any.Builder_WriteString_k Tryd.lays166 Tryd.Builder_Extra_166 b b (Lib.byteCells o) x w h (by rw [Lib.byteCells_length]; exact hl) (ibf_size h)).mono fun e w' ⟨h1, h2, h3, h4⟩ => ⟨h1, Lib.hid (.inr ?_), Lib.hid ⟨h3, fun g cs T z hT hg hc => ?_⟩⟩
  · have e : Lib.byteCells (o ++ x.data.toList) = Lib.byteCells o ++ Lib.strCells x := by simp [Lib.byteCells, Lib.strCells]
    rw [e]; exact h2
  · exact h4 g _ hc (fun e => hg (Option.some.inj e)) (fun c fz e => hT (by cases e; rfl))
/-- a written text: what is written, what is to come -/
def JO (l : List Ln) (j : Nat) (o : List UInt8) : Prop := o ++ joinedP (l.drop j) = joinedP l
theorem JO.start (l : List Ln) : JO l 0 [] := by simp [JO]
theorem JO.full {l : List Ln} {o : List UInt8} {j : Nat} (h : JO l j o) (hj : l.length ≤ j) : joinedP l = o := by
  unfold JO at h; rw [List.drop_eq_nil_of_le hj] at h; simpa [joinedP] using h.symm
theorem JO.step {l : List Ln} {o : List UInt8} {j : Nat} {x : Ln} (h : JO l j o) (hx : l[j]? = some x) : o.length + x.1.size ≤ (joinedP l).length ∧
    (x.2 = true ∧ j + 1 = l.length → JO l (j + 1) (o ++ x.1.data.toList)) ∧ (¬ (x.2 = true ∧ j + 1 = l.length) → JO l (j + 1) (o ++ x.1.data.toList ++ [10]) ∧ (o ++ x.1.data.toList).length + 1 ≤ (joinedP l).length) := by
  have hl := (List.getElem?_eq_some_iff.1 hx).1
  unfold JO at h ⊢
  rw [drop_get hx, joinedP_cons] at h
  have hs : x.1.data.toList.length = x.1.size := by simp
  have hn : l.drop (j + 1) = [] ↔ j + 1 = l.length := by rw [List.drop_eq_nil_iff]; omega
  refine ⟨?_, fun hc => ?_, fun hc => ?_⟩
  · rw [← h, List.length_append, List.length_append, hs]; omega
  · rw [if_pos ⟨hc.1, hn.2 hc.2⟩] at h
    rw [← h]; simp
  · rw [if_neg (fun e => hc ⟨e.1, hn.1 e.2⟩)] at h
    constructor
    · rw [← h]; simp
    · rw [← h]; simp only [List.length_append, List.length_singleton]; omega
set_option maxRecDepth 100000 in
set_option maxHeartbeats 4000000 in
theorem joined_any (l : List Ln) (v : Value) (w : World) (hv : RowsAt w v 2 (l.map rowL)) (hl : l.length ≤ 1048576) (hz : (joinedP l).length ≤ 1099511627776) :
    Calls Tryd.prog 29 #[v] w fun e w' => e = .returned (.string ⟨(joinedP l).toArray⟩) ∧ Hid (Below w.heap.size w w') := by
  obtain ⟨n, hn⟩ : ∃ n, l.length = n := ⟨_, rfl⟩
  obtain ⟨z, hzz⟩ : ∃ z, (joinedP l).length = z := ⟨_, rfl⟩
  have HN := Lib.hid (And.intro hn hzz)
  obtain ⟨a, cap, rfl, c1, c2, hc⟩ := hv.sl (n := n) (by rw [List.length_map]; exact hn)
  have HC := Lib.hid hc
  rw [hn] at hl
  rw [hzz] at hz
  unfold maxLen at c2
  have IB0 : Hid (IBF w.heap.size [] (w.alloc (.cells #[.pointer none, .slice none 0 0] 100))) := Lib.hid (Lib.IsBuilderF.of (Lib.fresh_isBuilder 100 5 w))
  have B0 : Hid (Below w.heap.size w (w.alloc (.cells #[.pointer none, .slice none 0 0] 100))) := Lib.hid ((Below.refl _ _).alloc (Nat.le_refl _) _)
  clear hv hn hzz hc
  go_enter Tryd.func29, Tryd.ntmps29
  go_wp2_with fail
  go_loopw [8] (fun i wr => ∃ (j : Nat) (o : List UInt8), i = .int .i64 j ∧ j ≤ n ∧ Hid (JO l j o) ∧ Hid (IBF w.heap.size o wr) ∧ Hid (Below w.heap.size w wr)) (fun i _ => n - (intOf i).toNat)
  case atStart => exact ⟨0, [], rfl, Nat.zero_le _, Lib.hid (JO.start l), IB0, B0⟩
  case round =>
    obtain ⟨j, o, rfl, hj, HJ, HB, BK⟩ := hrel
    by_cases hlt : j < n
    · obtain ⟨x, hx⟩ : ∃ x, l[j]? = some x := ⟨_, List.getElem?_eq_getElem (by rw [HN.out.1]; exact hlt)⟩
      rcases HC.out with h0 | ⟨g, o2, rfl, -, hcc⟩
      · omega
      have m1 : (l.map rowL)[j]? = some (rowL x) := by rw [List.getElem?_map, hx]; rfl
      have d0 := kp BK.out (hcc j _ m1 0 _ rfl)
      have d1 := kp BK.out (hcc j _ m1 1 _ rfl)
      rw [Nat.add_zero] at d0
      have ST := Lib.hid (HJ.out.step hx)
      have p0 : (0 : Int) ≤ (j : Int) := by omega
      have p1 : (j : Int) < (n : Int) := by omega
      have p2 : IntKind.i64.wrap (j : Int) = (j : Int) := IntWalk.i64_in _ (by omega)
      obtain ⟨xt, xb⟩ := x
      simp only at ST
      have WS := Lib.hid (fun W (h : IBF w.heap.size o W) => ws_is w.heap.size o xt W h (by have := ST.out.1; have := HN.out.2; omega))
      have OB : Hid (w.heap.size < wr.heap.size) := Lib.hid (by rcases HB.out with ⟨_, v, hv, _⟩ | ⟨_, v, hv, _⟩ <;> exact (Array.getElem?_eq_some_iff.1 hv).1)
      have XA : Hid ((wr.alloc (.cells #[.string xt, .bool xb] 95)).heap[wr.heap.size]? = some (.cells #[.string xt, .bool xb] 95 (0, 0))) := Lib.hid (heap_alloc_new wr _)
      have IA := Lib.hid (ibf_alloc HB.out (.cells #[.string xt, .bool xb] 95))
      have BA := Lib.hid (BK.out.alloc BK.out.size (.cells #[.string xt, .bool xb] 95))
      clear hcc m1 hx
      by_cases hb : xb = false
      · subst hb
        have NC : Hid (¬ (false = true ∧ j + 1 = l.length)) := Lib.hid (fun e => by cases e.1)
        go_wp2_with (first | (go_at_call 58; refine (WS.out _ IA.out).mono ?_; rintro _ w1 ⟨rfl, I1, K1⟩; have X1 := Lib.hid (K1.out.other _ _ _ _ (by decide) (by have := OB.out; omega) XA.out); have e0 := blk_cellx X1.out 0 _ rfl; have e1 := blk_cellx X1.out 1 _ rfl; have B1 := Lib.hid (BA.out.trans K1.out.below)) | (go_at_call 59; refine (wb_k _ _ 10 10 _ I1.out rfl (by have := (ST.out.2.2 NC.out).2; have := HN.out.2; omega)).mono ?_; rintro _ w2 ⟨rfl, I2, B2⟩))
        go_roundw
        case rel => exact ⟨j + 1, _, by go_num, by omega, Lib.hid (ST.out.2.2 NC.out).1, I2, Lib.hid (B1.out.trans B2.out)⟩
        case measure => simp [intOf]; omega
      · obtain rfl : xb = true := by cases xb <;> simp_all
        clear hb
        by_cases hl1 : j + 1 = n
        · have t1 : ¬ (j : Int) < (n : Int) - 1 := by omega
          have YC : Hid (true = true ∧ j + 1 = l.length) := Lib.hid ⟨rfl, by rw [HN.out.1]; exact hl1⟩
          go_wp2_with (first | (go_at_call 58; refine (WS.out _ IA.out).mono ?_; rintro _ w1 ⟨rfl, I1, K1⟩; have X1 := Lib.hid (K1.out.other _ _ _ _ (by decide) (by have := OB.out; omega) XA.out); have e0 := blk_cellx X1.out 0 _ rfl; have e1 := blk_cellx X1.out 1 _ rfl; have B1 := Lib.hid (BA.out.trans K1.out.below)) | (go_at_call 59; refine (wb_k _ _ 10 10 _ I1.out rfl (by have := (ST.out.2.2 NC.out).2; have := HN.out.2; omega)).mono ?_; rintro _ w2 ⟨rfl, I2, B2⟩))
          go_roundw
          case rel => exact ⟨j + 1, _, by go_num, by omega, Lib.hid (ST.out.2.1 YC.out), I1, B1⟩
          case measure => simp [intOf]; omega
        · have t1 : (j : Int) < (n : Int) - 1 := by omega
          have NC : Hid (¬ (true = true ∧ j + 1 = l.length)) := Lib.hid (fun e => hl1 (by rw [← HN.out.1]; exact e.2))
          go_wp2_with (first | (go_at_call 58; refine (WS.out _ IA.out).mono ?_; rintro _ w1 ⟨rfl, I1, K1⟩; have X1 := Lib.hid (K1.out.other _ _ _ _ (by decide) (by have := OB.out; omega) XA.out); have e0 := blk_cellx X1.out 0 _ rfl; have e1 := blk_cellx X1.out 1 _ rfl; have B1 := Lib.hid (BA.out.trans K1.out.below)) | (go_at_call 59; refine (wb_k _ _ 10 10 _ I1.out rfl (by have := (ST.out.2.2 NC.out).2; have := HN.out.2; omega)).mono ?_; rintro _ w2 ⟨rfl, I2, B2⟩))
          go_roundw
          case rel => exact ⟨j + 1, _, by go_num, by omega, Lib.hid (ST.out.2.2 NC.out).1, I2, Lib.hid (B1.out.trans B2.out)⟩
          case measure => simp [intOf]; omega
    · obtain rfl : j = n := by omega
      have E := Lib.hid (HJ.out.full (by rw [HN.out.1]; exact Nat.le_refl _))
      go_wp2_with (go_at_call 60; refine (str_k _ o _ HB.out).mono ?_; rintro _ w1 ⟨rfl, B1⟩)
      go_ret
      exact ⟨by rw [E.out]; rfl, Lib.hid (BK.out.trans B1.out)⟩
set_option maxRecDepth 100000 in
set_option maxHeartbeats 4000000 in
theorem rjoined_any (l : List Ln) (v : Value) (w : World) (hv : RowsAt w v 2 (l.map rowL)) (hl : l.length ≤ 1048576) (hz : (joinedP l).length ≤ 1099511627776) :
    Calls Tryd.prog 35 #[v] w fun e w' => e = .returned (.string ⟨(joinedP l).toArray⟩) ∧ w' = w := by
  obtain ⟨n, hn⟩ : ∃ n, l.length = n := ⟨_, rfl⟩
  obtain ⟨z, hzz⟩ : ∃ z, (joinedP l).length = z := ⟨_, rfl⟩
  have HN := Lib.hid (And.intro hn hzz)
  obtain ⟨a, cap, rfl, c1, c2, hc⟩ := hv.sl (n := n) (by rw [List.length_map]; exact hn)
  have HC := Lib.hid hc
  rw [hn] at hl
  rw [hzz] at hz
  unfold maxLen at c2
  clear hv hn hzz hc
  go_enter Tryd.func35, Tryd.ntmps35
  go_wp2_with fail
  go_loop [3, 4] (fun s i => ∃ (j : Nat) (u : ByteArray), i = .int .i64 j ∧ s = .string u ∧ j ≤ n ∧ Hid (JO l j u.data.toList)) (fun _ i => n - (intOf i).toNat)
  case atStart => exact ⟨0, ⟨#[]⟩, rfl, rfl, Nat.zero_le _, Lib.hid (JO.start l)⟩
  case round =>
    obtain ⟨j, u, rfl, rfl, hj, HJ⟩ := hrel
    by_cases hlt : j < n
    · obtain ⟨x, hx⟩ : ∃ x, l[j]? = some x := ⟨_, List.getElem?_eq_getElem (by rw [HN.out.1]; exact hlt)⟩
      rcases HC.out with h0 | ⟨g, o2, rfl, -, hcc⟩
      · omega
      have m1 : (l.map rowL)[j]? = some (rowL x) := by rw [List.getElem?_map, hx]; rfl
      have d0 := hcc j _ m1 0 _ rfl
      have d1 := hcc j _ m1 1 _ rfl
      rw [Nat.add_zero] at d0
      have ST := Lib.hid (HJ.out.step hx)
      have hus : Hid (u.data.toList.length = u.size) := Lib.hid (by simp)
      have p0 : (0 : Int) ≤ (j : Int) := by omega
      have p1 : (j : Int) < (n : Int) := by omega
      have p2 : IntKind.i64.wrap (j : Int) = (j : Int) := IntWalk.i64_in _ (by omega)
      obtain ⟨xt, xb⟩ := x
      simp only at ST
      have z1 : u.size + xt.size ≤ 1099511627776 := by have := ST.out.1; have := HN.out.2; have := hus.out; omega
      obtain ⟨u1, hu1⟩ : ∃ u1 : ByteArray, u ++ xt = u1 := ⟨_, rfl⟩
      have hd1 : Hid (u1.data.toList = u.data.toList ++ xt.data.toList ∧ u1.size ≤ 1099511627776) := Lib.hid ⟨by rw [← hu1]; simp, by rw [← hu1]; simpa using z1⟩
      have z2 := hd1.out.2
      clear hcc m1 hx
      by_cases hl1 : j + 1 = n
      · have t1 : ¬ (j : Int) < (n : Int) - 1 := by omega
        cases xb with
        | true =>
          have YC : Hid (JO l (j + 1) u1.data.toList) := Lib.hid (by rw [hd1.out.1]; exact ST.out.2.1 ⟨rfl, by rw [HN.out.1]; exact hl1⟩)
          go_wp2_with fail
          go_round
          case rel => exact ⟨j + 1, u1, by go_num, by first | rfl | rw [hu1], by omega, YC⟩
          case measure => simp [intOf]; omega
        | false =>
          have YC : Hid (JO l (j + 1) (u1 ++ ⟨#[10]⟩).data.toList) := Lib.hid (by have := (ST.out.2.2 (fun e => by cases e.1)).1; rw [← hd1.out.1] at this; simpa using this)
          go_wp2_with fail
          go_round
          case rel => exact ⟨j + 1, _, by go_num, by first | rfl | rw [hu1], by omega, YC⟩
          case measure => simp [intOf]; omega
      · have t1 : (j : Int) < (n : Int) - 1 := by omega
        have YC : Hid (JO l (j + 1) (u1 ++ ⟨#[10]⟩).data.toList) := Lib.hid (by have := (ST.out.2.2 (fun e => hl1 (by rw [← HN.out.1]; exact e.2))).1; rw [← hd1.out.1] at this; simpa using this)
        go_wp2_with fail
        go_round
        case rel => exact ⟨j + 1, _, by go_num, by first | rfl | rw [hu1], by omega, YC⟩
        case measure => simp [intOf]; omega
    · obtain rfl : j = n := by omega
      have E := Lib.hid (HJ.out.full (by rw [HN.out.1]; exact Nat.le_refl _))
      go_wp2_with fail
      go_ret
      refine ⟨?_, rfl⟩
      rw [E.out]; rfl
end Go.Proofs.YtnkpigibjicmaaaDoor
