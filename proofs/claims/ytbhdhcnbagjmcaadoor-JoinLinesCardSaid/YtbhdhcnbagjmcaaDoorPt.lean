/- walks: Join (written by gen_pt.py) -/
import Derived.Test.YtbhdhcnbagjmcaaDoorPs
namespace Go.Proofs.YtbhdhcnbagjmcaaDoor
open Go.RowKit Go.Maps Go.WideMaps
open Jn Lcl
def slen : Value → Nat
  | .slice _ n _ => n
  | _ => 0
theorem getD_drop {L : List ByteArray} {i : Nat} {x : ByteArray} {r : List ByteArray} (h : L.drop i = x :: r) : (L.map (·.data.toList)).drop i = x.data.toList :: r.map (·.data.toList) := by
  rw [← List.map_drop, h]; rfl
set_option maxRecDepth 100000 in
set_option maxHeartbeats 8000000 in
theorem join_any (p : Sp) (A C : List ByteArray) (va vc vl : Value) (f1 f2 sep m : Int) (lf rt pr : Bool) (em : ByteArray) (a : Option Addr) (q cap : Nat) (w : World) (hp : p = ⟨f1, f2, sep, lf, rt, pr, em.data.toList, p.out⟩) (hm : w.cell? ⟨0, 0, none⟩ = some (.int .i64 m)) (hl : DLoc w vl)
    (hO : RowsAt w (.slice a q cap) 2 (outR p)) (hq : p.out.length = q) (hA : Strs w va A) (hC : Strs w vc C) (lA : A.length ≤ 12) (lC : C.length ≤ 12) (sA : ∀ x ∈ A, x.size ≤ 60) (sC : ∀ x ∈ C, x.size ≤ 60) (hem : em.size ≤ 60) (hql : q ≤ 40) :
    Calls Tryd.prog 18 #[vl, .agg (scells f1 f2 sep lf rt pr em (.slice a q cap)), va, vc] w fun e w' => ∃ v, e = .returned v ∧ Hid (Strs w' v ((if chkJ p = 0 then joinL p cmpD (A.map (·.data.toList)) (C.map (·.data.toList)) else []).map bA)) ∧ Hid (Below w.heap.size w w') := by
  obtain ⟨v1, rfl, hL⟩ := hl
  have s1 : (w.alloc (.cells #[.string dNm, v1, .string dLo, .string dUp, .slice none 0 0, .slice none 0 0] 30)).heap.size = w.heap.size + 1 := World.size_alloc _ _
  have B0 : Hid (Below w.heap.size w ((w.alloc (.cells #[.string dNm, v1, .string dLo, .string dUp, .slice none 0 0, .slice none 0 0] 30)).alloc (.cells (scells f1 f2 sep lf rt pr em (.slice a q cap)) 36))) := Lib.hid (((Below.refl w.heap.size w).alloc (Nat.le_refl _) _).alloc (by rw [s1]; omega) _)
  have n1 := heap_alloc_new w (.cells #[.string dNm, v1, .string dLo, .string dUp, .slice none 0 0, .slice none 0 0] 30)
  have n2 := heap_alloc_new (w.alloc (.cells #[.string dNm, v1, .string dLo, .string dUp, .slice none 0 0, .slice none 0 0] 30)) (.cells (scells f1 f2 sep lf rt pr em (.slice a q cap)) 36)
  rw [s1] at n2
  have n1' := (Below.heap_alloc (w.alloc (.cells #[.string dNm, v1, .string dLo, .string dUp, .slice none 0 0, .slice none 0 0] 30)) (.cells (scells f1 f2 sep lf rt pr em (.slice a q cap)) 36) w.heap.size (by rw [s1]; omega)).trans n1
  have HB := Lib.hid (And.intro n1' n2)
  have Z0 : Hid (((w.alloc (.cells #[.string dNm, v1, .string dLo, .string dUp, .slice none 0 0, .slice none 0 0] 30)).alloc (.cells (scells f1 f2 sep lf rt pr em (.slice a q cap)) 36)).heap.size = w.heap.size + 2) := Lib.hid (by rw [World.size_alloc, s1])
  have x0 : ((w.alloc (.cells #[.string dNm, v1, .string dLo, .string dUp, .slice none 0 0, .slice none 0 0] 30)).alloc (.cells (scells f1 f2 sep lf rt pr em (.slice a q cap)) 36)).cell? ⟨w.heap.size + 1, 0, none⟩ = some (.int .i64 f1) := blk_cellx n2 0 _ rfl
  have x1 : ((w.alloc (.cells #[.string dNm, v1, .string dLo, .string dUp, .slice none 0 0, .slice none 0 0] 30)).alloc (.cells (scells f1 f2 sep lf rt pr em (.slice a q cap)) 36)).cell? ⟨w.heap.size + 1, 1, none⟩ = some (.int .i64 f2) := blk_cellx n2 1 _ rfl
  have x2 : ((w.alloc (.cells #[.string dNm, v1, .string dLo, .string dUp, .slice none 0 0, .slice none 0 0] 30)).alloc (.cells (scells f1 f2 sep lf rt pr em (.slice a q cap)) 36)).cell? ⟨w.heap.size + 1, 2, none⟩ = some (.int .i64 sep) := blk_cellx n2 2 _ rfl
  have x3 : ((w.alloc (.cells #[.string dNm, v1, .string dLo, .string dUp, .slice none 0 0, .slice none 0 0] 30)).alloc (.cells (scells f1 f2 sep lf rt pr em (.slice a q cap)) 36)).cell? ⟨w.heap.size + 1, 3, none⟩ = some (.bool lf) := blk_cellx n2 3 _ rfl
  have x4 : ((w.alloc (.cells #[.string dNm, v1, .string dLo, .string dUp, .slice none 0 0, .slice none 0 0] 30)).alloc (.cells (scells f1 f2 sep lf rt pr em (.slice a q cap)) 36)).cell? ⟨w.heap.size + 1, 4, none⟩ = some (.bool rt) := blk_cellx n2 4 _ rfl
  have x5 : ((w.alloc (.cells #[.string dNm, v1, .string dLo, .string dUp, .slice none 0 0, .slice none 0 0] 30)).alloc (.cells (scells f1 f2 sep lf rt pr em (.slice a q cap)) 36)).cell? ⟨w.heap.size + 1, 5, none⟩ = some (.bool pr) := blk_cellx n2 5 _ rfl
  have x6 : ((w.alloc (.cells #[.string dNm, v1, .string dLo, .string dUp, .slice none 0 0, .slice none 0 0] 30)).alloc (.cells (scells f1 f2 sep lf rt pr em (.slice a q cap)) 36)).cell? ⟨w.heap.size + 1, 6, none⟩ = some (.string em) := blk_cellx n2 6 _ rfl
  have x7 : ((w.alloc (.cells #[.string dNm, v1, .string dLo, .string dUp, .slice none 0 0, .slice none 0 0] 30)).alloc (.cells (scells f1 f2 sep lf rt pr em (.slice a q cap)) 36)).cell? ⟨w.heap.size + 1, 7, none⟩ = some (.slice a q cap) := blk_cellx n2 7 _ rfl
  obtain ⟨c, hc⟩ : ∃ c, chkJ p = c := ⟨_, rfl⟩
  have CK := Lib.hid (fun W (h : RowsAt W (.slice a q cap) 2 (outR p)) => jcheck_any p f1 f2 sep lf rt pr em a q cap W hp h hq (by omega) (Lib.hid hc))
  have HO := Lib.hid hO
  have HA := Lib.hid hA
  have HC := Lib.hid hC
  have HM := Lib.hid hm
  have HQ := Lib.hid hq
  have HP := Lib.hid hp
  have HL := Lib.hid hL
  have HS := Lib.hid (And.intro sA (And.intro sC (And.intro hem hql)))
  have LA := Lib.hid (And.intro lA lC)
  obtain ⟨aa, ca, hva, ha1, ha2, -⟩ := hA
  obtain ⟨ac, cc, hvc, hc1, hc2, -⟩ := hC
  obtain ⟨na, hna⟩ : ∃ na, A.length = na := ⟨_, rfl⟩
  obtain ⟨nc, hnc⟩ : ∃ nc, C.length = nc := ⟨_, rfl⟩
  rw [hna] at hva
  rw [hnc] at hvc
  have HNA := Lib.hid hna
  have HNC := Lib.hid hnc
  subst hva hvc
  have HCK := Lib.hid hc
  rw [hc]
  clear hp hm hL hO hq sA sC hem hql n1 n2 n1' s1 ha1 ha2 hc1 hc2 hc hna hnc lA lC
  by_cases h0 : c = 0
  rotate_left
  · have t0 : (c != 0) = true := bne_iff_ne.2 h0
    rw [if_neg h0]
    clear h0
    go_enter Tryd.func18, Tryd.ntmps18
    go_wp2_with (go_at_call 15; refine (CK.out _ (HO.out.below B0.out)).mono ?_; rintro _ w1 ⟨rfl, B1⟩)
    go_ret
    exact ⟨_, rfl, Lib.hid (Strs.empty _), Lib.hid (B0.out.trans (B1.out.mono B0.out.size))⟩
  · subst h0
    rw [if_pos rfl]
    go_enter Tryd.func18, Tryd.ntmps18
    have hmm := @run_makeMap Tryd.prog
    have hmf : ∀ (fn : Fn) (first cap : Array Value) (w : World), (Instr.makeFunc fn first cap).run Tryd.prog w = .ok (.func fn first cap) w := fun _ _ _ _ => rfl
    go_wp2_with (first | (go_at_call 15; refine (CK.out _ (HO.out.below B0.out)).mono ?_; rintro _ w1 ⟨rfl, B1⟩; have y0 := kp B1.out x0; have y1 := kp B1.out x1; have y2 := kp B1.out x2; have y3 := kp B1.out x3; have y4 := kp B1.out x4; have y5 := kp B1.out x5; have y6 := kp B1.out x6; have y7 := kp B1.out x7))
    clear hmm hmf y0 y1 y2 y3 y4 y5 y6 y7 x0 x1 x2 x3 x4 x5 x6 x7 CK
    have ZW : w.heap.size + 2 ≤ w1.heap.size := by have := B1.out.size; rw [Z0.out] at this; exact this
    obtain ⟨JS0, BJ⟩ := js_start (w := w) (f1 := f1) (f2 := f2) (sep := sep) (lf := lf) (rt := rt) (pr := pr) (em := em) (a := a) (q := q) (cap := cap) (w1 := w1) (m := m) (kp B1.out (kp B0.out HM.out)) ((B1.out.block _ (by rw [Z0.out]; omega)).trans HB.out.2) ZW
    have K0 := (BJ.block w.heap.size (by omega)).trans ((B1.out.block _ (by rw [Z0.out]; omega)).trans HB.out.1)
    have BW0 : Below w.heap.size w (((w1.alloc (.map #[] 0)).alloc (.cells #[.int .i64 f1, .int .i64 f2, .int .i64 sep, .bool lf, .bool rt, .bool pr, .string em, .slice a q cap, .map (some w1.heap.size), .slice none 0 0] 64)).alloc (.cells #[.pointer (some ⟨w1.heap.size + 1, 0, none⟩)] 61)) := B0.out.trans ((B1.out.mono B0.out.size).trans (BJ.mono (by omega)))
    have b1 : w.heap.size ≤ w1.heap.size + 1 := by omega
    have b2 : w.heap.size ≤ w1.heap.size := by omega
    have b3 : w.heap.size ≤ w1.heap.size + 3 := by omega
    have b4 : w.heap.size < w1.heap.size + 3 ∧ w.heap.size ≠ w1.heap.size + 1 ∧ w.heap.size ≠ w1.heap.size := by omega
    clear ZW Z0 HB B0 B1 BJ
    obtain ⟨W, hW⟩ : ∃ W, (((w1.alloc (.map #[] 0)).alloc (.cells #[.int .i64 f1, .int .i64 f2, .int .i64 sep, .bool lf, .bool rt, .bool pr, .string em, .slice a q cap, .map (some w1.heap.size), .slice none 0 0] 64)).alloc (.cells #[.pointer (some ⟨w1.heap.size + 1, 0, none⟩)] 61)) = W := ⟨_, rfl⟩
    rw [hW] at JS0 K0 BW0 ⊢
    clear hW
    obtain ⟨B, hB⟩ : ∃ B, w1.heap.size + 3 = B := ⟨_, rfl⟩
    obtain ⟨vb, hvb⟩ : ∃ vb, w1.heap.size + 1 + 1 = vb := ⟨_, rfl⟩
    rw [hB, hvb] at JS0
    rw [hB] at b3 b4
    rw [hvb]
    clear hB hvb
    obtain ⟨jb, hjb⟩ : ∃ jb, w1.heap.size + 1 = jb := ⟨_, rfl⟩
    rw [hjb] at JS0 b1 b4 ⊢
    clear hjb
    obtain ⟨mb, hmb⟩ : ∃ mb, w1.heap.size = mb := ⟨_, rfl⟩
    rw [hmb] at JS0 b2 b4 ⊢
    clear hmb
    obtain ⟨pb, hpb⟩ : ∃ pb, w.heap.size + 1 = pb := ⟨_, rfl⟩
    rw [hpb] at JS0 ⊢
    clear hpb
    have CHK : headB p = true := by
      have h := HCK.out
      unfold chkJ at h
      by_cases h1 : headB p = false
      · rw [if_pos h1] at h; exact absurd h (by decide)
      · simpa using h1
    have CC : Hid (JC p f1 f2 sep m lf rt pr em a q cap vb pb jb mb B w W) := by
      have e1 : p.f1 = f1 := by rw [HP.out]
      have e2 : p.f2 = f2 := by rw [HP.out]
      have e3 : p.sep = sep := by rw [HP.out]
      unfold headB fldB at CHK
      simp only [Bool.and_eq_true, decide_eq_true_eq, e1, e2, e3] at CHK
      exact Lib.hid ⟨HP.out, HO.out, HQ.out, HS.out.2.2.1, HS.out.2.2.2, ⟨CHK.1.1.1.1.1, CHK.1.1.1.1.2⟩, ⟨CHK.1.1.1.2.1, CHK.1.1.1.2.2⟩, ⟨CHK.1.1.2, CHK.1.2⟩, b1, b2, b3, BW0⟩
    have P0 : Hid (JP f1 f2 sep m lf rt pr em a q cap vb pb jb mb B W [] (.slice none 0 0) 0 W) := Lib.hid ⟨JS0, OwnS.none _ _, JG.refl _ _ _ _⟩
    have KL := Lib.hid (And.intro K0 b4)
    clear CHK JS0 K0 b1 b2 b3 b4 BW0 HCK
    go_loopw [2, 3] (fun x y wr => ∃ (i k : Nat) (D : List (List UInt8)) (vout : Value) (N : Nat), Hid (i ≤ na ∧ k ≤ nc) ∧ Hid (Strs w x (A.drop i)) ∧ Hid (Strs w y (C.drop k)) ∧ Hid (JP f1 f2 sep m lf rt pr em a q cap vb pb jb mb B W D vout N wr) ∧ Hid (joinL p cmpD (A.map (·.data.toList)) (C.map (·.data.toList)) = D ++ joinF p cmpD ((A.map (·.data.toList)).length + (C.map (·.data.toList)).length) ((A.map (·.data.toList)).drop i) ((C.map (·.data.toList)).drop k)) ∧ Hid (N ≤ 1000 * (i + k) ∧ D.length ≤ 200 * (i + k))) (fun x y _ => slen x + slen y)
    case atStart => exact ⟨0, 0, [], _, 0, Lib.hid ⟨Nat.zero_le _, Nat.zero_le _⟩, HA, HC, P0, Lib.hid rfl, Lib.hid ⟨Nat.le_refl _, Nat.le_refl _⟩⟩
    case round =>
      obtain ⟨i, k, D, vout, N, HIK, HX, HY, HJ, HE, HN⟩ := hrel
      clear P0
      have BW := Lib.hid (HJ.out.bel CC.out)
      have SA : Hid (∀ x ∈ A.drop i, x.size ≤ 60) := Lib.hid (fun x hx => HS.out.1 x (List.mem_of_mem_drop hx))
      have SC : Hid (∀ x ∈ C.drop k, x.size ≤ 60) := Lib.hid (fun x hx => HS.out.2.1 x (List.mem_of_mem_drop hx))
      have NN : Hid (N ≤ 24000 ∧ D.length ≤ 4800) := Lib.hid (by have := HIK.out; have := HN.out; have := LA.out; have := HNA.out; have := HNC.out; omega)
      have LX : Hid ((A.drop i).length ≤ 12 ∧ (A.drop i).length = na - i) := Lib.hid (by rw [List.length_drop, HNA.out]; have := LA.out.1; rw [HNA.out] at this; omega)
      have LY : Hid ((C.drop k).length ≤ 12 ∧ (C.drop k).length = nc - k) := Lib.hid (by rw [List.length_drop, HNC.out]; have := LA.out.2; rw [HNC.out] at this; omega)
      obtain ⟨AX, hAX⟩ : ∃ AX, A.drop i = AX := ⟨_, rfl⟩
      obtain ⟨CX, hCX⟩ : ∃ CX, C.drop k = CX := ⟨_, rfl⟩
      have HAX := Lib.hid hAX
      have HCX := Lib.hid hCX
      rw [hAX] at HX LX SA
      rw [hCX] at HY LY SC
      have z9 : wr.cell? ⟨vb, 0, none⟩ = some (.pointer (some ⟨jb, 0, none⟩)) := HJ.out.J.hv
      have z3 : wr.cell? ⟨pb, 3, none⟩ = some (.bool lf) := blk_cellx HJ.out.J.hp 3 _ rfl
      have z4 : wr.cell? ⟨pb, 4, none⟩ = some (.bool rt) := blk_cellx HJ.out.J.hp 4 _ rfl
      have z5 : wr.cell? ⟨pb, 5, none⟩ = some (.bool pr) := blk_cellx HJ.out.J.hp 5 _ rfl
      clear hAX hCX
      cases CX with
      | nil =>
        obtain ⟨a2, c2, rfl⟩ := Strs.nil HY.out
        cases AX with
        | nil =>
          obtain ⟨a1, c1, rfl⟩ := Strs.nil HX.out
          obtain ⟨ao, co, hvo⟩ := own_sl HJ.out.O
          obtain ⟨no, hno⟩ : ∃ no, (D.map bA).length = no := ⟨_, rfl⟩
          rw [hno] at hvo
          subst hvo
          have z8 : wr.cell? ⟨jb, 9, none⟩ = some (.slice ao no co) := blk_cellx HJ.out.J.hj 9 _ rfl
          clear hno
          go_wp2_with fail
          go_ret
          refine ⟨_, rfl, Lib.hid ?_, BW⟩
          rw [HE.out, ← List.map_drop, ← List.map_drop, HAX.out, HCX.out, List.map_nil, joinF_nil, List.append_nil]
          exact OwnS.strs HJ.out.O
        | cons x r =>
          obtain ⟨g1, o1, c1, rfl, hln1, hmn1, hgn1, hcelln1⟩ := Strs.cons HX.out (List.cons_ne_nil _ _)
          have d1 := hcelln1 0 x rfl
          rw [Nat.add_zero] at d1
          obtain ⟨n1, hnn1⟩ : ∃ n1, (x :: r).length = n1 := ⟨_, rfl⟩
          have h10 : 1 ≤ n1 := by rw [← hnn1]; exact Nat.le_add_left 1 _
          rw [hnn1] at HX hln1 LX ⊢
          have Qn1 := Lib.hid (And.intro hln1 hmn1)
          have q1n1 : 0 < n1 := h10
          have q2n1 : 1 ≤ c1 := by omega
          have PA := Lib.hid (fun W' N' (h : JP f1 f2 sep m lf rt pr em a q cap vb pb jb mb B W D vout N' W') (hN : N' ≤ 1048000) => h.puta CC.out x g1 o1 d1 (SA.out x List.mem_cons_self) hN (Nat.le_trans NN.out.2 (by omega)))
          have d1 := kp BW.out d1
          have S0 := z9
          have NB : Hid (N ≤ 1048000) := Lib.hid (Nat.le_trans NN.out.1 (by omega))
          clear hcelln1 hgn1 hnn1
          have EN : Hid (joinL p cmpD (A.map (·.data.toList)) (C.map (·.data.toList)) = (D ++ if p.left then [putL p (some x.data.toList) none] else []) ++ joinF p cmpD ((A.map (·.data.toList)).length + (C.map (·.data.toList)).length) ((A.map (·.data.toList)).drop (i + 1)) ((C.map (·.data.toList)).drop k)) := Lib.hid (join_lt HE.out (getD_drop HAX.out) (by rw [getD_drop HAX.out, ← List.map_drop, HCX.out]; exact (by decide : (-1 : Int) < 0)))
          have PLF : Hid (p.left = lf) := Lib.hid (by rw [HP.out])
          have IK : Hid (Hid (i + 1 ≤ na ∧ k ≤ nc)) := Lib.hid (Lib.hid (by have := HIK.out; have := LX.out; omega))
          have SX : Hid (Hid (Strs w (.slice (if c1 = 1 then some ⟨g1, o1, none⟩ else some ⟨g1, o1 + 1, none⟩) (n1 - 1) (c1 - 1)) (A.drop (i + 1)))) := Lib.hid (Lib.hid (by
            have h := Strs.drop HX.out 1 h10 (n' := n1 - 1) (cap' := c1 - 1) rfl rfl (a' := if c1 = 1 then some ⟨g1, o1, none⟩ else some ⟨g1, o1 + 1, none⟩) (fun h g o e => by cases e; rw [if_neg (by omega)])
            rw [← HAX.out, List.drop_drop] at h; exact h))
          cases lf with
          | false =>
            go_wp2_with fail
            go_roundw
            case rel => exact ⟨i + 1, k, D, vout, N, IK.out, SX.out, (by rw [HCX.out]; exact HY), HJ, Lib.hid (EN.out.trans (by simp [PLF.out])), Lib.hid (by have := HN.out; omega)⟩
            case measure => simp [slen]; omega
          | true =>
            go_wp2_with fail
            go_region_held3 (fun w' => w'.cell? ⟨vb, 0, none⟩ = some (.pointer (some ⟨jb, 0, none⟩))) (first | exact S0)
              (first | (go_at_call 40; (with_reducible refine (PA.out _ _ HJ.out.drew NB.out).mono ?_); rintro _ w9 ⟨rfl, v9, J9⟩; have S0 := J9.out.J.hv))
            go_wp2_with fail
            go_roundw
            case rel => exact ⟨i + 1, k, _, v9, N + 1, IK.out, SX.out, (by rw [HCX.out]; exact HY), J9, Lib.hid (EN.out.trans (by simp [PLF.out])), Lib.hid (by have := HN.out; rw [List.length_append]; simp; omega)⟩
            case measure => simp [slen]; omega
      | cons y s =>
        cases AX with
        | nil =>
          obtain ⟨a1, c1, rfl⟩ := Strs.nil HX.out
          obtain ⟨g2, o2, c2, rfl, hln2, hmn2, hgn2, hcelln2⟩ := Strs.cons HY.out (List.cons_ne_nil _ _)
          have d2 := hcelln2 0 y rfl
          rw [Nat.add_zero] at d2
          obtain ⟨n2, hnn2⟩ : ∃ n2, (y :: s).length = n2 := ⟨_, rfl⟩
          have h20 : 1 ≤ n2 := by rw [← hnn2]; exact Nat.le_add_left 1 _
          rw [hnn2] at HY hln2 LY ⊢
          have Qn2 := Lib.hid (And.intro hln2 hmn2)
          have q1n2 : 0 < n2 := h20
          have q2n2 : 1 ≤ c2 := by omega
          have PB := Lib.hid (fun W' N' (h : JP f1 f2 sep m lf rt pr em a q cap vb pb jb mb B W D vout N' W') (hN : N' ≤ 1048000) => h.putb CC.out y g2 o2 d2 (SC.out y List.mem_cons_self) hN (Nat.le_trans NN.out.2 (by omega)))
          have d2 := kp BW.out d2
          have S0 := z9
          have NB : Hid (N ≤ 1048000) := Lib.hid (Nat.le_trans NN.out.1 (by omega))
          clear hcelln2 hgn2 hnn2
          have EN : Hid (joinL p cmpD (A.map (·.data.toList)) (C.map (·.data.toList)) = (D ++ if p.right then [putL p none (some y.data.toList)] else []) ++ joinF p cmpD ((A.map (·.data.toList)).length + (C.map (·.data.toList)).length) ((A.map (·.data.toList)).drop i) ((C.map (·.data.toList)).drop (k + 1))) := Lib.hid (join_gt HE.out (getD_drop HCX.out) (by rw [getD_drop HCX.out, ← List.map_drop, HAX.out]; exact (by decide : (0 : Int) < 1)))
          have PLF : Hid (p.right = rt) := Lib.hid (by rw [HP.out])
          have IK : Hid (Hid (i ≤ na ∧ k + 1 ≤ nc)) := Lib.hid (Lib.hid (by have := HIK.out; have := LY.out; omega))
          have SY : Hid (Hid (Strs w (.slice (if c2 = 1 then some ⟨g2, o2, none⟩ else some ⟨g2, o2 + 1, none⟩) (n2 - 1) (c2 - 1)) (C.drop (k + 1)))) := Lib.hid (Lib.hid (by
            have h := Strs.drop HY.out 1 h20 (n' := n2 - 1) (cap' := c2 - 1) rfl rfl (a' := if c2 = 1 then some ⟨g2, o2, none⟩ else some ⟨g2, o2 + 1, none⟩) (fun h g o e => by cases e; rw [if_neg (by omega)])
            rw [← HCX.out, List.drop_drop] at h; exact h))
          cases rt with
          | false =>
            go_wp2_with fail
            go_roundw
            case rel => exact ⟨i, k + 1, D, vout, N, IK.out, (by rw [HAX.out]; exact HX), SY.out, HJ, Lib.hid (EN.out.trans (by simp [PLF.out])), Lib.hid (by have := HN.out; omega)⟩
            case measure => simp [slen]; omega
          | true =>
            go_wp2_with fail
            go_region_held3 (fun w' => w'.cell? ⟨vb, 0, none⟩ = some (.pointer (some ⟨jb, 0, none⟩))) (first | exact S0)
              (first | (go_at_call 40; (with_reducible refine (PB.out _ _ HJ.out.drew NB.out).mono ?_); rintro _ w9 ⟨rfl, v9, J9⟩; have S0 := J9.out.J.hv))
            go_wp2_with fail
            go_roundw
            case rel => exact ⟨i, k + 1, _, v9, N + 1, IK.out, (by rw [HAX.out]; exact HX), SY.out, J9, Lib.hid (EN.out.trans (by simp [PLF.out])), Lib.hid (by have := HN.out; rw [List.length_append]; simp; omega)⟩
            case measure => simp [slen]; omega
        | cons x r =>
          obtain ⟨g1, o1, c1, rfl, hln1, hmn1, hgn1, hcelln1⟩ := Strs.cons HX.out (List.cons_ne_nil _ _)
          have d1 := hcelln1 0 x rfl
          rw [Nat.add_zero] at d1
          obtain ⟨n1, hnn1⟩ : ∃ n1, (x :: r).length = n1 := ⟨_, rfl⟩
          have h10 : 1 ≤ n1 := by rw [← hnn1]; exact Nat.le_add_left 1 _
          rw [hnn1] at HX hln1 LX ⊢
          have Qn1 := Lib.hid (And.intro hln1 hmn1)
          have q1n1 : 0 < n1 := h10
          have q2n1 : 1 ≤ c1 := by omega
          obtain ⟨g2, o2, c2, rfl, hln2, hmn2, hgn2, hcelln2⟩ := Strs.cons HY.out (List.cons_ne_nil _ _)
          have d2 := hcelln2 0 y rfl
          rw [Nat.add_zero] at d2
          obtain ⟨n2, hnn2⟩ : ∃ n2, (y :: s).length = n2 := ⟨_, rfl⟩
          have h20 : 1 ≤ n2 := by rw [← hnn2]; exact Nat.le_add_left 1 _
          rw [hnn2] at HY hln2 LY ⊢
          have Qn2 := Lib.hid (And.intro hln2 hmn2)
          have q1n2 : 0 < n2 := h20
          have q2n2 : 1 ≤ c2 := by omega
          have PA := Lib.hid (fun W' N' (h : JP f1 f2 sep m lf rt pr em a q cap vb pb jb mb B W D vout N' W') (hN : N' ≤ 1048000) => h.puta CC.out x g1 o1 d1 (SA.out x List.mem_cons_self) hN (Nat.le_trans NN.out.2 (by omega)))
          have PB := Lib.hid (fun W' N' (h : JP f1 f2 sep m lf rt pr em a q cap vb pb jb mb B W D vout N' W') (hN : N' ≤ 1048000) => h.putb CC.out y g2 o2 d2 (SC.out y List.mem_cons_self) hN (Nat.le_trans NN.out.2 (by omega)))
          have D1 := Lib.hid d1
          have D2 := Lib.hid d2
          have CE : Hid (∀ w' D' v' N', JP f1 f2 sep m lf rt pr em a q cap vb pb jb mb B W D' v' (N') w' → (w'.cell? ⟨w.heap.size, 0, none⟩ = some (.string dNm) ∧ w'.cell? ⟨w.heap.size, 1, none⟩ = some v1 ∧ w'.cell? ⟨w.heap.size, 2, none⟩ = some (.string dLo) ∧ w'.cell? ⟨w.heap.size, 3, none⟩ = some (.string dUp) ∧ w'.cell? ⟨w.heap.size, 4, none⟩ = some (.slice none 0 0) ∧ w'.cell? ⟨w.heap.size, 5, none⟩ = some (.slice none 0 0) ∧ w'.cell? ⟨g1, o1, none⟩ = some (.string x) ∧ w'.cell? ⟨g2, o2, none⟩ = some (.string y))) := Lib.hid (fun w' D' v' N' h => by
            have e := (h.G.block w.heap.size KL.out.2.1 KL.out.2.2.1 KL.out.2.2.2).trans KL.out.1
            exact ⟨blk_cellx e 0 _ rfl, blk_cellx e 1 _ rfl, blk_cellx e 2 _ rfl, blk_cellx e 3 _ rfl, blk_cellx e 4 _ rfl, blk_cellx e 5 _ rfl, kp (h.bel CC.out) D1.out, kp (h.bel CC.out) D2.out⟩)
          have VL : Hid (∀ w' D' v' N', JP f1 f2 sep m lf rt pr em a q cap vb pb jb mb B W D' v' (N') w' → DLoc w' (lval dNm v1 dLo dUp (.slice none 0 0) (.slice none 0 0))) := Lib.hid (fun w' D' v' N' h => ⟨v1, rfl, HL.out.below (h.bel CC.out)⟩)
          have KX := Lib.hid (fun W' N' (h : JP f1 f2 sep m lf rt pr em a q cap vb pb jb mb B W D vout N' W') (hN : N' ≤ 1048000) => h.left x hN (SA.out x List.mem_cons_self))
          have KY := Lib.hid (fun W' N' (h : JP f1 f2 sep m lf rt pr em a q cap vb pb jb mb B W D vout N' W') (hN : N' ≤ 1048000) => h.right y hN (SC.out y List.mem_cons_self))
          obtain ⟨kx, hkx⟩ : ∃ kx, bA (keyL sep f1 x.data.toList) = kx := ⟨_, rfl⟩
          obtain ⟨ky, hky⟩ : ∃ ky, bA (keyL sep f2 y.data.toList) = ky := ⟨_, rfl⟩
          have ZX : Hid (kx.size ≤ 1048576) := Lib.hid (by rw [← hkx]; exact Nat.le_trans (key_sz _ _ _ (SA.out x List.mem_cons_self)) (by omega))
          have ZY : Hid (ky.size ≤ 1048576) := Lib.hid (by rw [← hky]; exact Nat.le_trans (key_sz _ _ _ (SC.out y List.mem_cons_self)) (by omega))
          obtain ⟨c, hcm⟩ : ∃ c, cmpD kx.data.toList ky.data.toList = c := ⟨_, rfl⟩
          have CMP := Lib.hid (fun vl W h => dcompare_any vl kx ky W h ZX.out ZY.out)
          rw [hcm] at CMP
          rw [hkx] at KX
          rw [hky] at KY
          have ORD : Hid (ordJ p cmpD ((A.map (·.data.toList)).drop i) ((C.map (·.data.toList)).drop k) = c) := Lib.hid (by
            rw [getD_drop HAX.out, getD_drop HCX.out, ← hcm, ← hkx, ← hky]
            show cmpD (keyL p.sep p.f1 _) (keyL p.sep p.f2 _) = _
            rw [HP.out])
          have NB0 : Hid (N ≤ 1048000) := Lib.hid (Nat.le_trans NN.out.1 (by omega))
          have NB1 : Hid (N + 1 ≤ 1048000) := Lib.hid (Nat.le_trans (Nat.add_le_add_right NN.out.1 1) (by omega))
          have NB : Hid (N + 1 + 1 ≤ 1048000) := Lib.hid (Nat.le_trans (Nat.add_le_add_right NN.out.1 2) (by omega))
          have S0 := CE.out _ _ _ _ HJ.out.drew
          have HC1 := Lib.hid hcelln1
          have HC2 := Lib.hid hcelln2
          clear hcelln1 hgn1 hcelln2 hgn2 hcm hkx hky d1 d2 z9 z3 z4 z5
          by_cases c0 : c < 0
          · have ORL : Hid (ordJ p cmpD ((A.map (·.data.toList)).drop i) ((C.map (·.data.toList)).drop k) < 0) := Lib.hid (by rw [ORD.out]; exact c0)
            go_wp2_with fail
            go_region_held3 (fun w' => w'.cell? ⟨w.heap.size, 0, none⟩ = some (.string dNm) ∧ w'.cell? ⟨w.heap.size, 1, none⟩ = some v1 ∧ w'.cell? ⟨w.heap.size, 2, none⟩ = some (.string dLo) ∧ w'.cell? ⟨w.heap.size, 3, none⟩ = some (.string dUp) ∧ w'.cell? ⟨w.heap.size, 4, none⟩ = some (.slice none 0 0) ∧ w'.cell? ⟨w.heap.size, 5, none⟩ = some (.slice none 0 0) ∧ w'.cell? ⟨g1, o1, none⟩ = some (.string x) ∧ w'.cell? ⟨g2, o2, none⟩ = some (.string y)) (first | exact S0)
              (first
                | (go_at_call 36; (first | (with_reducible refine (KX.out _ _ HJ.out.drew NB0.out).mono ?_) | (with_reducible refine (KX.out _ _ J3.out NB1.out).mono ?_)); rintro _ w3 ⟨rfl, J3⟩; have S0 := CE.out w3 _ _ _ J3.out)
                | (go_at_call 38; (first | (with_reducible refine (KY.out _ _ HJ.out.drew NB0.out).mono ?_) | (with_reducible refine (KY.out _ _ J3.out NB1.out).mono ?_)); rintro _ w4 ⟨rfl, J4⟩; have S0 := CE.out w4 _ _ _ J4.out)
                | (go_at_call 29; (with_reducible refine (CMP.out _ _ (VL.out _ _ _ _ J4.out)).mono ?_); rintro _ w5 ⟨rfl, B5⟩; have J5 := Lib.hid (J4.out.below B5.out); have S0 := CE.out w5 _ _ _ J5.out))
            have z9 : w5.cell? ⟨vb, 0, none⟩ = some (.pointer (some ⟨jb, 0, none⟩)) := J5.out.J.hv
            have z3 : w5.cell? ⟨pb, 3, none⟩ = some (.bool lf) := blk_cellx J5.out.J.hp 3 _ rfl
            have z4 : w5.cell? ⟨pb, 4, none⟩ = some (.bool rt) := blk_cellx J5.out.J.hp 4 _ rfl
            have z5 : w5.cell? ⟨pb, 5, none⟩ = some (.bool pr) := blk_cellx J5.out.J.hp 5 _ rfl
            clear S0
            have S0 := z9
            have EN : Hid (joinL p cmpD (A.map (·.data.toList)) (C.map (·.data.toList)) = (D ++ if p.left then [putL p (some x.data.toList) none] else []) ++ joinF p cmpD ((A.map (·.data.toList)).length + (C.map (·.data.toList)).length) ((A.map (·.data.toList)).drop (i + 1)) ((C.map (·.data.toList)).drop k)) := Lib.hid (join_lt HE.out (getD_drop HAX.out) (ORL.out))
            have PLF : Hid (p.left = lf) := Lib.hid (by rw [HP.out])
            have IK : Hid (Hid (i + 1 ≤ na ∧ k ≤ nc)) := Lib.hid (Lib.hid (by have := HIK.out; have := LX.out; omega))
            have SX : Hid (Hid (Strs w (.slice (if c1 = 1 then some ⟨g1, o1, none⟩ else some ⟨g1, o1 + 1, none⟩) (n1 - 1) (c1 - 1)) (A.drop (i + 1)))) := Lib.hid (Lib.hid (by
              have h := Strs.drop HX.out 1 h10 (n' := n1 - 1) (cap' := c1 - 1) rfl rfl (a' := if c1 = 1 then some ⟨g1, o1, none⟩ else some ⟨g1, o1 + 1, none⟩) (fun h g o e => by cases e; rw [if_neg (by omega)])
              rw [← HAX.out, List.drop_drop] at h; exact h))
            cases lf with
            | false =>
              go_wp2_with fail
              go_roundw
              case rel => exact ⟨i + 1, k, D, vout, N + 1 + 1, IK.out, SX.out, (by rw [HCX.out]; exact HY), J5, Lib.hid (EN.out.trans (by simp [PLF.out])), Lib.hid (by have := HN.out; omega)⟩
              case measure => simp [slen]; omega
            | true =>
              go_wp2_with fail
              go_region_held3 (fun w' => w'.cell? ⟨vb, 0, none⟩ = some (.pointer (some ⟨jb, 0, none⟩))) (first | exact S0)
                (first | (go_at_call 40; (with_reducible refine (PA.out _ _ J5.out.drew NB.out).mono ?_); rintro _ w9 ⟨rfl, v9, J9⟩; have S0 := J9.out.J.hv))
              go_wp2_with fail
              go_roundw
              case rel => exact ⟨i + 1, k, _, v9, N + 1 + 1 + 1, IK.out, SX.out, (by rw [HCX.out]; exact HY), J9, Lib.hid (EN.out.trans (by simp [PLF.out])), Lib.hid (by have := HN.out; rw [List.length_append]; simp; omega)⟩
              case measure => simp [slen]; omega
          by_cases c1 : 0 < c
          · have ORG : Hid (0 < ordJ p cmpD ((A.map (·.data.toList)).drop i) ((C.map (·.data.toList)).drop k)) := Lib.hid (by rw [ORD.out]; exact c1)
            go_wp2_with fail
            go_region_held3 (fun w' => w'.cell? ⟨w.heap.size, 0, none⟩ = some (.string dNm) ∧ w'.cell? ⟨w.heap.size, 1, none⟩ = some v1 ∧ w'.cell? ⟨w.heap.size, 2, none⟩ = some (.string dLo) ∧ w'.cell? ⟨w.heap.size, 3, none⟩ = some (.string dUp) ∧ w'.cell? ⟨w.heap.size, 4, none⟩ = some (.slice none 0 0) ∧ w'.cell? ⟨w.heap.size, 5, none⟩ = some (.slice none 0 0) ∧ w'.cell? ⟨g1, o1, none⟩ = some (.string x) ∧ w'.cell? ⟨g2, o2, none⟩ = some (.string y)) (first | exact S0)
              (first
                | (go_at_call 36; (first | (with_reducible refine (KX.out _ _ HJ.out.drew NB0.out).mono ?_) | (with_reducible refine (KX.out _ _ J3.out NB1.out).mono ?_)); rintro _ w3 ⟨rfl, J3⟩; have S0 := CE.out w3 _ _ _ J3.out)
                | (go_at_call 38; (first | (with_reducible refine (KY.out _ _ HJ.out.drew NB0.out).mono ?_) | (with_reducible refine (KY.out _ _ J3.out NB1.out).mono ?_)); rintro _ w4 ⟨rfl, J4⟩; have S0 := CE.out w4 _ _ _ J4.out)
                | (go_at_call 29; (with_reducible refine (CMP.out _ _ (VL.out _ _ _ _ J4.out)).mono ?_); rintro _ w5 ⟨rfl, B5⟩; have J5 := Lib.hid (J4.out.below B5.out); have S0 := CE.out w5 _ _ _ J5.out))
            have z9 : w5.cell? ⟨vb, 0, none⟩ = some (.pointer (some ⟨jb, 0, none⟩)) := J5.out.J.hv
            have z3 : w5.cell? ⟨pb, 3, none⟩ = some (.bool lf) := blk_cellx J5.out.J.hp 3 _ rfl
            have z4 : w5.cell? ⟨pb, 4, none⟩ = some (.bool rt) := blk_cellx J5.out.J.hp 4 _ rfl
            have z5 : w5.cell? ⟨pb, 5, none⟩ = some (.bool pr) := blk_cellx J5.out.J.hp 5 _ rfl
            clear S0
            have S0 := z9
            have EN : Hid (joinL p cmpD (A.map (·.data.toList)) (C.map (·.data.toList)) = (D ++ if p.right then [putL p none (some y.data.toList)] else []) ++ joinF p cmpD ((A.map (·.data.toList)).length + (C.map (·.data.toList)).length) ((A.map (·.data.toList)).drop i) ((C.map (·.data.toList)).drop (k + 1))) := Lib.hid (join_gt HE.out (getD_drop HCX.out) (ORG.out))
            have PLF : Hid (p.right = rt) := Lib.hid (by rw [HP.out])
            have IK : Hid (Hid (i ≤ na ∧ k + 1 ≤ nc)) := Lib.hid (Lib.hid (by have := HIK.out; have := LY.out; omega))
            have SY : Hid (Hid (Strs w (.slice (if c2 = 1 then some ⟨g2, o2, none⟩ else some ⟨g2, o2 + 1, none⟩) (n2 - 1) (c2 - 1)) (C.drop (k + 1)))) := Lib.hid (Lib.hid (by
              have h := Strs.drop HY.out 1 h20 (n' := n2 - 1) (cap' := c2 - 1) rfl rfl (a' := if c2 = 1 then some ⟨g2, o2, none⟩ else some ⟨g2, o2 + 1, none⟩) (fun h g o e => by cases e; rw [if_neg (by omega)])
              rw [← HCX.out, List.drop_drop] at h; exact h))
            cases rt with
            | false =>
              go_wp2_with fail
              go_roundw
              case rel => exact ⟨i, k + 1, D, vout, N + 1 + 1, IK.out, (by rw [HAX.out]; exact HX), SY.out, J5, Lib.hid (EN.out.trans (by simp [PLF.out])), Lib.hid (by have := HN.out; omega)⟩
              case measure => simp [slen]; omega
            | true =>
              go_wp2_with fail
              go_region_held3 (fun w' => w'.cell? ⟨vb, 0, none⟩ = some (.pointer (some ⟨jb, 0, none⟩))) (first | exact S0)
                (first | (go_at_call 40; (with_reducible refine (PB.out _ _ J5.out.drew NB.out).mono ?_); rintro _ w9 ⟨rfl, v9, J9⟩; have S0 := J9.out.J.hv))
              go_wp2_with fail
              go_roundw
              case rel => exact ⟨i, k + 1, _, v9, N + 1 + 1 + 1, IK.out, (by rw [HAX.out]; exact HX), SY.out, J9, Lib.hid (EN.out.trans (by simp [PLF.out])), Lib.hid (by have := HN.out; rw [List.length_append]; simp; omega)⟩
              case measure => simp [slen]; omega
          obtain rfl : c = 0 := by omega
          clear c0 c1
          have GA := Lib.hid (fun W' N' (h : JP f1 f2 sep m lf rt pr em a q cap vb pb jb mb B W D vout N' W') (hN : N' ≤ 1047000) => h.grpA CC.out (x :: r) _ HX.out (List.cons_ne_nil _ _) (by rw [hnn1]; exact LX.out.1) SA.out hN)
          have GB := Lib.hid (fun W' N' (h : JP f1 f2 sep m lf rt pr em a q cap vb pb jb mb B W D vout N' W') (hN : N' ≤ 1047000) => h.grpB CC.out (y :: s) _ HY.out (List.cons_ne_nil _ _) (by rw [hnn2]; exact LY.out.1) SC.out hN)
          obtain ⟨XL, hXL⟩ : ∃ XL, ((x :: r).map (·.data.toList)) = XL := ⟨_, rfl⟩
          obtain ⟨YL, hYL⟩ : ∃ YL, ((y :: s).map (·.data.toList)) = YL := ⟨_, rfl⟩
          obtain ⟨m1, hm1⟩ : ∃ m1, grpN (keyL sep f1) XL = m1 := ⟨_, rfl⟩
          obtain ⟨m2, hm2⟩ : ∃ m2, grpN (keyL sep f2) YL = m2 := ⟨_, rfl⟩
          have p1 : 1 ≤ m1 := by rw [← hm1]; exact grpN_pos (by rw [← hXL]; exact List.cons_ne_nil _ _)
          have p2 : 1 ≤ m2 := by rw [← hm2]; exact grpN_pos (by rw [← hYL]; exact List.cons_ne_nil _ _)
          have p3 : m1 ≤ n1 := by rw [← hm1, ← hnn1]; refine Nat.le_trans (grpN_le _ _) ?_; rw [← hXL, List.length_map]; exact Nat.le_refl _
          have p4 : m2 ≤ n2 := by rw [← hm2, ← hnn2]; refine Nat.le_trans (grpN_le _ _) ?_; rw [← hYL, List.length_map]; exact Nat.le_refl _
          have EN : Hid (joinL p cmpD (A.map (·.data.toList)) (C.map (·.data.toList)) = (D ++ if pr then pairsL p (XL.take m1) (YL.take m2) else []) ++ joinF p cmpD ((A.map (·.data.toList)).length + (C.map (·.data.toList)).length) ((A.map (·.data.toList)).drop (i + m1)) ((C.map (·.data.toList)).drop (k + m2))) := Lib.hid (by
            have e := join_eq (m := m1) (n := m2) HE.out (getD_drop HAX.out) ORD.out (by rw [getD_drop HAX.out, HP.out, ← hm1, ← hXL]; rfl) (by rw [getD_drop HCX.out, HP.out, ← hm2, ← hYL]; rfl)
            rw [getD_drop HAX.out, getD_drop HCX.out, show p.paired = pr by rw [HP.out], show x.data.toList :: r.map (·.data.toList) = XL from hXL, show y.data.toList :: s.map (·.data.toList) = YL from hYL] at e
            exact e)
          rw [hXL, hm1] at GA
          rw [hYL, hm2] at GB
          have NG1 : Hid (N + 1 + 1 ≤ 1047000) := Lib.hid (Nat.le_trans (Nat.add_le_add_right NN.out.1 2) (by omega))
          have NG2 : Hid (N + 1 + 1 + 24 ≤ 1047000) := Lib.hid (Nat.le_trans (Nat.add_le_add_right NN.out.1 26) (by omega))
          have IK : Hid (Hid (i + m1 ≤ na ∧ k + m2 ≤ nc)) := Lib.hid (Lib.hid (by have := HIK.out; have := LX.out; have := LY.out; omega))
          have l1 : m1 ≤ 12 := Nat.le_trans p3 LX.out.1
          have l2 : m2 ≤ 12 := Nat.le_trans p4 LY.out.1
          obtain ⟨ad1, had1⟩ : ∃ ad1, (if c1 = m1 then some (⟨g1, o1, none⟩ : Addr) else some ⟨g1, o1 + m1, none⟩) = ad1 := ⟨_, rfl⟩
          obtain ⟨ad2, had2⟩ : ∃ ad2, (if c2 = m2 then some (⟨g2, o2, none⟩ : Addr) else some ⟨g2, o2 + m2, none⟩) = ad2 := ⟨_, rfl⟩
          have SX : Hid (Hid (Strs w (.slice ad1 (n1 - m1) (c1 - m1)) (A.drop (i + m1)))) := Lib.hid (Lib.hid (by
            have h := Strs.drop HX.out m1 p3 (n' := n1 - m1) (cap' := c1 - m1) rfl rfl (a' := ad1) (fun h g o e => by cases e; rw [← had1, if_neg (by omega)])
            rw [← HAX.out, List.drop_drop] at h; exact h))
          have SY : Hid (Hid (Strs w (.slice ad2 (n2 - m2) (c2 - m2)) (C.drop (k + m2)))) := Lib.hid (Lib.hid (by
            have h := Strs.drop HY.out m2 p4 (n' := n2 - m2) (cap' := c2 - m2) rfl rfl (a' := ad2) (fun h g o e => by cases e; rw [← had2, if_neg (by omega)])
            rw [← HCX.out, List.drop_drop] at h; exact h))
          have HXL := Lib.hid hXL
          have HYL := Lib.hid hYL
          have LLX : Hid (XL.length = n1) := Lib.hid (by rw [← hXL, List.length_map, hnn1])
          have LLY : Hid (YL.length = n2) := Lib.hid (by rw [← hYL, List.length_map, hnn2])
          clear hXL hYL hm1 hm2 hnn1 hnn2
          go_wp2_with fail
          go_region_held3 (fun w' => w'.cell? ⟨w.heap.size, 0, none⟩ = some (.string dNm) ∧ w'.cell? ⟨w.heap.size, 1, none⟩ = some v1 ∧ w'.cell? ⟨w.heap.size, 2, none⟩ = some (.string dLo) ∧ w'.cell? ⟨w.heap.size, 3, none⟩ = some (.string dUp) ∧ w'.cell? ⟨w.heap.size, 4, none⟩ = some (.slice none 0 0) ∧ w'.cell? ⟨w.heap.size, 5, none⟩ = some (.slice none 0 0) ∧ w'.cell? ⟨g1, o1, none⟩ = some (.string x) ∧ w'.cell? ⟨g2, o2, none⟩ = some (.string y)) (first | exact S0)
            (first
              | (go_at_call 36; (first | (with_reducible refine (KX.out _ _ HJ.out.drew NB0.out).mono ?_) | (with_reducible refine (KX.out _ _ J3.out NB1.out).mono ?_)); rintro _ w3 ⟨rfl, J3⟩; have S0 := CE.out w3 _ _ _ J3.out)
              | (go_at_call 38; (first | (with_reducible refine (KY.out _ _ HJ.out.drew NB0.out).mono ?_) | (with_reducible refine (KY.out _ _ J3.out NB1.out).mono ?_)); rintro _ w4 ⟨rfl, J4⟩; have S0 := CE.out w4 _ _ _ J4.out)
              | (go_at_call 29; (with_reducible refine (CMP.out _ _ (VL.out _ _ _ _ J4.out)).mono ?_); rintro _ w5 ⟨rfl, B5⟩; have J5 := Lib.hid (J4.out.below B5.out); have S0 := CE.out w5 _ _ _ J5.out))
          have z9 : w5.cell? ⟨vb, 0, none⟩ = some (.pointer (some ⟨jb, 0, none⟩)) := J5.out.J.hv
          have z3 : w5.cell? ⟨pb, 3, none⟩ = some (.bool lf) := blk_cellx J5.out.J.hp 3 _ rfl
          have z4 : w5.cell? ⟨pb, 4, none⟩ = some (.bool rt) := blk_cellx J5.out.J.hp 4 _ rfl
          have z5 : w5.cell? ⟨pb, 5, none⟩ = some (.bool pr) := blk_cellx J5.out.J.hp 5 _ rfl
          clear S0
          clear z9 z3 z4 z5
          go_wp2_with (go_at_call 39; (first
            | ((with_reducible refine (GA.out _ _ J5.out NG1.out).mono ?_); rintro _ w6 ⟨rfl, J6⟩)
            | ((with_reducible refine (GB.out _ _ J6.out NG2.out).mono ?_); rintro _ w7 ⟨rfl, J7⟩)))
          go_loopw [16] (fun ii wr2 => ∃ (s2 : Nat) (D2 : List (List UInt8)) (v2 : Value) (N2 : Nat), ii = .int .i64 s2 ∧ s2 ≤ m1 ∧ Hid (JP f1 f2 sep m lf rt pr em a q cap vb pb jb mb B W D2 v2 (N2) wr2) ∧ Hid (D2 = D ++ (if pr then pairsL p (XL.take s2) (YL.take m2) else [])) ∧ Hid (N2 ≤ N + 50 + 24 * s2 ∧ D2.length ≤ D.length + 12 * s2)) (fun ii _ => m1 - (intOf ii).toNat)
          case atStart => exact ⟨0, D, vout, N + 50, rfl, Nat.zero_le _, J7, Lib.hid (by simp [pairsL]), Lib.hid ⟨by omega, by omega⟩⟩
          case round =>
            obtain ⟨s2, D2, v2, N2, rfl, hs2, JJ, ED, EL⟩ := hrel
            have z5 : wr.cell? ⟨pb, 5, none⟩ = some (.bool pr) := blk_cellx JJ.out.J.hp 5 _ rfl
            cases pr with
            | false =>
              go_wp2_with fail
              go_region
              go_wp2_with fail
              go_roundw
              case rel => exact ⟨i + m1, k + m2, D2, v2, N2, IK.out, SX.out, SY.out, Lib.hid JJ.out.drew, Lib.hid (by rw [EN.out, ED.out]; simp), Lib.hid (by have := HN.out; have := EL.out; omega)⟩
              case measure => simp [slen]; omega
            | true =>
              by_cases hlt : s2 < m1
              · obtain ⟨u, hu⟩ : ∃ u, (x :: r)[s2]? = some u := ⟨_, List.getElem?_eq_getElem (by have := LLX.out; rw [← HXL.out, List.length_map] at this; omega)⟩
                have e1 := Lib.hid (HC1.out s2 u hu)
                have su := Lib.hid (SA.out u (List.mem_of_getElem? hu))
                have EU : Hid (XL.take (s2 + 1) = XL.take s2 ++ [u.data.toList]) := Lib.hid (by rw [List.take_add_one, ← HXL.out, List.getElem?_map, hu]; rfl)
                have b0 : (0 : Int) ≤ (s2 : Int) := by omega
                have b1 : (s2 : Int) < (n1 : Int) := by omega
                have b2 : (s2 : Int) < (m1 : Int) := by omega
                clear hu
                go_wp2_with fail
                go_loopw [71] (fun kk wr3 => ∃ (t2 : Nat) (D3 : List (List UInt8)) (v3 : Value) (N3 : Nat), kk = .int .i64 t2 ∧ t2 ≤ m2 ∧ Hid (JP f1 f2 sep m lf rt true em a q cap vb pb jb mb B W D3 v3 (N3) wr3) ∧ Hid (D3 = D2 ++ ((YL.take t2).map fun y => putL p (some u.data.toList) (some y))) ∧ Hid (N3 ≤ N2 + 2 * t2 ∧ D3.length = D2.length + t2)) (fun kk _ => m2 - (intOf kk).toNat)
                case atStart => exact ⟨0, D2, v2, N2, rfl, Nat.zero_le _, JJ, Lib.hid (by simp), Lib.hid ⟨Nat.le_refl _, rfl⟩⟩
                case round =>
                  obtain ⟨t2, D3, v3, N3, rfl, ht2, J3, ED3, EL3⟩ := hrel
                  by_cases hlt2 : t2 < m2
                  · obtain ⟨v, hv⟩ : ∃ v, (y :: s)[t2]? = some v := ⟨_, List.getElem?_eq_getElem (by have := LLY.out; rw [← HYL.out, List.length_map] at this; omega)⟩
                    have e2 := Lib.hid (HC2.out t2 v hv)
                    have sv := Lib.hid (SC.out v (List.mem_of_getElem? hv))
                    have EV : Hid (YL.take (t2 + 1) = YL.take t2 ++ [v.data.toList]) := Lib.hid (by rw [List.take_add_one, ← HYL.out, List.getElem?_map, hv]; rfl)
                    have z9 : wr.cell? ⟨vb, 0, none⟩ = some (.pointer (some ⟨jb, 0, none⟩)) := J3.out.J.hv
                    have b3 : (0 : Int) ≤ (t2 : Int) := by omega
                    have b4 : (t2 : Int) < (n2 : Int) := by omega
                    have S0 := z9
                    have NB3 : Hid (N3 ≤ 1048000 ∧ D3.length ≤ 100000) := Lib.hid (by have := EL3.out; have := EL.out; have := NN.out; omega)
                    have PAB := Lib.hid (fun W' (h : JP f1 f2 sep m lf rt true em a q cap vb pb jb mb B W D3 v3 (N3) W') => h.putab CC.out u g1 (o1 + s2) v g2 (o2 + t2) e1.out su.out e2.out sv.out NB3.out.1 NB3.out.2)
                    clear hv
                    go_wp2_with fail
                    go_region_held3 (fun w' => w'.cell? ⟨vb, 0, none⟩ = some (.pointer (some ⟨jb, 0, none⟩))) (first | exact S0)
                      (first | (go_at_call 40; (with_reducible refine (PAB.out _ J3.out.drew).mono ?_); rintro _ w9 ⟨rfl, v9, J9⟩; have S0 := J9.out.J.hv))
                    go_wp2_with fail
                    go_roundw
                    case rel => exact ⟨t2 + 1, _, v9, N3 + 2, by go_num, by omega, J9, Lib.hid (by rw [ED3.out, EV.out]; simp), Lib.hid (by have := EL3.out; rw [List.length_append]; simp; omega)⟩
                    case measure => simp [intOf]; omega
                  · obtain rfl : t2 = m2 := by omega
                    go_wp2_with fail
                    go_roundw
                    case rel => exact ⟨s2 + 1, D3, v3, N3, by go_num, by omega, J3, Lib.hid (by rw [ED3.out, ED.out, EU.out]; simp [pairsL]), Lib.hid (by have := EL3.out; have := EL.out; omega)⟩
                    case measure => simp [intOf]; omega
              · obtain rfl : s2 = m1 := by omega
                go_wp2_with fail
                go_region
                go_wp2_with fail
                go_roundw
                case rel => exact ⟨i + s2, k + m2, D2, v2, N2, IK.out, SX.out, SY.out, Lib.hid JJ.out.drew, Lib.hid (by rw [EN.out, ED.out]), Lib.hid (by have := HN.out; have := EL.out; omega)⟩
                case measure => simp [slen]; omega
end Go.Proofs.YtbhdhcnbagjmcaaDoor
