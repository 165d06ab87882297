/- walks: the reference's Join (written by gen_pe2.py) -/
import Derived.Test.YtbhdhcnbagjmcaaDoorPD
import Derived.Test.YtbhdhcnbagjmcaaDoorPDa
import Derived.Test.YtbhdhcnbagjmcaaDoorPr
import Derived.BigGuard
import Derived.BigCall
namespace Go.Proofs.YtbhdhcnbagjmcaaDoor
open Go.RowKit Go.Maps
open Jn Lcl
theorem pairs_snoc (p : Sp) (l b : List (List UInt8)) (x : List UInt8) : pairsL p (l ++ [x]) b = pairsL p l b ++ b.map fun y => putL p (some x) (some y) := by simp [pairsL]
theorem take_snoc {l : List (List UInt8)} {x : List UInt8} {i X : Nat} (h : l[X]? = some x) (hi : i ≤ X) : (l.drop i).take (X + 1 - i) = (l.drop i).take (X - i) ++ [x] := by
  rw [show X + 1 - i = (X - i) + 1 by omega, List.take_add_one, List.getElem?_drop, show i + (X - i) = X by omega, h]; rfl
theorem drop_some {l : List ByteArray} {x : ByteArray} {i : Nat} (h : l[i]? = some x) : (l.map (·.data.toList)).drop i = x.data.toList :: (l.map (·.data.toList)).drop (i + 1) := drop_get (by rw [List.getElem?_map, h]; rfl)
theorem grp_le {key : List UInt8 → List UInt8} {l : List (List UInt8)} : grpN key l ≤ l.length := by
  cases l with
  | nil => exact Nat.le_refl _
  | cons x r =>
    show 1 + (r.takeWhile _).length ≤ r.length + 1
    have := (List.takeWhile_sublist (l := r) fun y => decide (key y = key x)).length_le
    omega
set_option maxRecDepth 100000 in
set_option maxHeartbeats 16000000 in
theorem rjoin_any (p : Sp) (A C : List ByteArray) (va vc vl : Value) (f1 f2 sep m : Int) (lf rt pr : Bool) (em : ByteArray) (a : Option Addr) (q cap : Nat) (w : World) (hp : p = ⟨f1, f2, sep, lf, rt, pr, em.data.toList, p.out⟩) (_hm : w.cell? ⟨0, 0, none⟩ = some (.int .i64 m)) (hl : DLoc w vl)
    (hO : RowsAt w (.slice a q cap) 2 (outR p)) (hq : p.out.length = q) (hA : Strs w va A) (hC : Strs w vc C) (lA : A.length ≤ 12) (lC : C.length ≤ 12) (sA : ∀ x ∈ A, x.size ≤ 60) (sC : ∀ x ∈ C, x.size ≤ 60) (hem : em.size ≤ 60) (hql : q ≤ 40) :
    Calls Tryd.prog 19 #[vl, .agg (scells f1 f2 sep lf rt pr em (.slice a q cap)), va, vc] w fun e w' => ∃ v, e = .returned v ∧ Hid (Strs w' v ((if chkJ p = 0 then joinL p cmpD (A.map (·.data.toList)) (C.map (·.data.toList)) else []).map bA)) ∧ Hid (Below w.heap.size w w') := by
  obtain ⟨v1, rfl, hL⟩ := hl
  have s1 : (w.alloc (.cells #[.string dNm, v1, .string dLo, .string dUp, .slice none 0 0, .slice none 0 0] 30)).heap.size = w.heap.size + 1 := World.size_alloc _ _
  have B0 : Hid (Below w.heap.size w ((w.alloc (.cells #[.string dNm, v1, .string dLo, .string dUp, .slice none 0 0, .slice none 0 0] 30)).alloc (.cells (scells f1 f2 sep lf rt pr em (.slice a q cap)) 36))) := Lib.hid (((Below.refl w.heap.size w).alloc (Nat.le_refl _) _).alloc (by rw [s1]; omega) _)
  have n1 := heap_alloc_new w (.cells #[.string dNm, v1, .string dLo, .string dUp, .slice none 0 0, .slice none 0 0] 30)
  have n2 := heap_alloc_new (w.alloc (.cells #[.string dNm, v1, .string dLo, .string dUp, .slice none 0 0, .slice none 0 0] 30)) (.cells (scells f1 f2 sep lf rt pr em (.slice a q cap)) 36)
  rw [s1] at n2
  have n1' := (Below.heap_alloc (w.alloc (.cells #[.string dNm, v1, .string dLo, .string dUp, .slice none 0 0, .slice none 0 0] 30)) (.cells (scells f1 f2 sep lf rt pr em (.slice a q cap)) 36) w.heap.size (by rw [s1]; omega)).trans n1
  have HB := Lib.hid (And.intro n1' n2)
  have Z0 : Hid (((w.alloc (.cells #[.string dNm, v1, .string dLo, .string dUp, .slice none 0 0, .slice none 0 0] 30)).alloc (.cells (scells f1 f2 sep lf rt pr em (.slice a q cap)) 36)).heap.size = w.heap.size + 2) := Lib.hid (by rw [World.size_alloc, s1])
  have x0 : ((w.alloc (.cells #[.string dNm, v1, .string dLo, .string dUp, .slice none 0 0, .slice none 0 0] 30)).alloc (.cells (scells f1 f2 sep lf rt pr em (.slice a q cap)) 36)).cell? ⟨w.heap.size + 1, 0, none⟩ = some (.int .i64 f1) := blk_cellx n2 0 _ rfl
  have x1 : ((w.alloc (.cells #[.string dNm, v1, .string dLo, .string dUp, .slice none 0 0, .slice none 0 0] 30)).alloc (.cells (scells f1 f2 sep lf rt pr em (.slice a q cap)) 36)).cell? ⟨w.heap.size + 1, 1, none⟩ = some (.int .i64 f2) := blk_cellx n2 1 _ rfl
  have x2 : ((w.alloc (.cells #[.string dNm, v1, .string dLo, .string dUp, .slice none 0 0, .slice none 0 0] 30)).alloc (.cells (scells f1 f2 sep lf rt pr em (.slice a q cap)) 36)).cell? ⟨w.heap.size + 1, 2, none⟩ = some (.int .i64 sep) := blk_cellx n2 2 _ rfl
  have x3 : ((w.alloc (.cells #[.string dNm, v1, .string dLo, .string dUp, .slice none 0 0, .slice none 0 0] 30)).alloc (.cells (scells f1 f2 sep lf rt pr em (.slice a q cap)) 36)).cell? ⟨w.heap.size + 1, 3, none⟩ = some (.bool lf) := blk_cellx n2 3 _ rfl
  have x4 : ((w.alloc (.cells #[.string dNm, v1, .string dLo, .string dUp, .slice none 0 0, .slice none 0 0] 30)).alloc (.cells (scells f1 f2 sep lf rt pr em (.slice a q cap)) 36)).cell? ⟨w.heap.size + 1, 4, none⟩ = some (.bool rt) := blk_cellx n2 4 _ rfl
  have x5 : ((w.alloc (.cells #[.string dNm, v1, .string dLo, .string dUp, .slice none 0 0, .slice none 0 0] 30)).alloc (.cells (scells f1 f2 sep lf rt pr em (.slice a q cap)) 36)).cell? ⟨w.heap.size + 1, 5, none⟩ = some (.bool pr) := blk_cellx n2 5 _ rfl
  have x6 : ((w.alloc (.cells #[.string dNm, v1, .string dLo, .string dUp, .slice none 0 0, .slice none 0 0] 30)).alloc (.cells (scells f1 f2 sep lf rt pr em (.slice a q cap)) 36)).cell? ⟨w.heap.size + 1, 6, none⟩ = some (.string em) := blk_cellx n2 6 _ rfl
  have x7 : ((w.alloc (.cells #[.string dNm, v1, .string dLo, .string dUp, .slice none 0 0, .slice none 0 0] 30)).alloc (.cells (scells f1 f2 sep lf rt pr em (.slice a q cap)) 36)).cell? ⟨w.heap.size + 1, 7, none⟩ = some (.slice a q cap) := blk_cellx n2 7 _ rfl
  obtain ⟨c, hc⟩ : ∃ c, chkJ p = c := ⟨_, rfl⟩
  have CK := Lib.hid (fun W (h : RowsAt W (.slice a q cap) 2 (outR p)) => rjcheck_any p f1 f2 sep lf rt pr em a q cap W hp h hq (by omega) (Lib.hid hc))
  have HO := Lib.hid (hO.below B0.out)
  have HA := Lib.hid (Strs.below hA B0.out)
  have HC := Lib.hid (Strs.below hC B0.out)
  have HQ := Lib.hid hq
  have HP := Lib.hid hp
  have HL := Lib.hid (hL.below B0.out)
  have HS := Lib.hid (And.intro sA (And.intro sC (And.intro hem hql)))
  obtain ⟨aa, ca, hva, ha1, ha2, hac⟩ := HA.out
  obtain ⟨ac, cc, hvc, hc1, hc2, hcc⟩ := HC.out
  obtain ⟨na, hna⟩ : ∃ na, A.length = na := ⟨_, rfl⟩
  obtain ⟨nc, hnc⟩ : ∃ nc, C.length = nc := ⟨_, rfl⟩
  rw [hna] at hva
  rw [hnc] at hvc
  have HNA := Lib.hid hna
  have HNC := Lib.hid hnc
  have HAC := Lib.hid hac
  have HCC := Lib.hid hcc
  have nca : na ≤ ca := by rw [← hna]; exact ha1
  have ncc : nc ≤ cc := by rw [← hnc]; exact hc1
  have na12 : na ≤ 12 := by rw [← hna]; exact lA
  have nc12 : nc ≤ 12 := by rw [← hnc]; exact lC
  unfold maxLen at ha2 hc2
  subst hva hvc
  have HCK := Lib.hid hc
  rw [hc]
  clear hp hL hO hq hA hC sA sC hem n1 n2 n1' s1 ha1 hc1 hc hna hnc lA lC hac hcc
  by_cases h0 : c = 0
  rotate_left
  · have t0 : (c != 0) = true := bne_iff_ne.2 h0
    rw [if_neg h0]
    clear h0
    go_enter Tryd.func19, Tryd.ntmps19
    go_wp2_with (go_at_call 16; refine (CK.out _ HO.out).mono ?_; rintro _ w1 ⟨rfl, B1⟩)
    go_ret
    exact ⟨_, rfl, Lib.hid (Strs.empty _), Lib.hid (B0.out.trans (B1.out.mono B0.out.size))⟩
  · subst h0
    rw [if_pos rfl]
    have CHK : headB p = true := by
      have h := HCK.out
      unfold chkJ at h
      by_cases h1 : headB p = false
      · rw [if_pos h1] at h; exact absurd h (by decide)
      · simpa using h1
    have HF : Hid ((1 ≤ f1 ∧ f1 ≤ 1024) ∧ (1 ≤ f2 ∧ f2 ≤ 1024) ∧ (-1 ≤ sep ∧ sep ≤ 255)) := by
      have e1 : p.f1 = f1 := by rw [HP.out]
      have e2 : p.f2 = f2 := by rw [HP.out]
      have e3 : p.sep = sep := by rw [HP.out]
      unfold headB fldB at CHK
      simp only [Bool.and_eq_true, decide_eq_true_eq, e1, e2, e3] at CHK
      exact Lib.hid ⟨⟨CHK.1.1.1.1.1, CHK.1.1.1.1.2⟩, ⟨CHK.1.1.1.2.1, CHK.1.1.1.2.2⟩, CHK.1.1.2, CHK.1.2⟩
    clear CHK HCK
    have EF : Hid (p.f1 = f1 ∧ p.f2 = f2 ∧ p.sep = sep ∧ p.left = lf ∧ p.right = rt ∧ p.paired = pr) := Lib.hid ⟨by rw [HP.out], by rw [HP.out], by rw [HP.out], by rw [HP.out], by rw [HP.out], by rw [HP.out]⟩
    go_enter Tryd.func19, Tryd.ntmps19
    go_wp2_with (go_at_call 16; refine (CK.out _ HO.out).mono ?_; rintro _ w1 ⟨rfl, B1⟩)
    clear CK x0 x1 x2 x3 x4 x5 x6 x7
    have KL : Hid (w1.heap[w.heap.size]? = some (.cells #[.string dNm, v1, .string dLo, .string dUp, .slice none 0 0, .slice none 0 0] 30 (0, 0))) := Lib.hid ((B1.out.block _ (by rw [Z0.out]; omega)).trans HB.out.1)
    have KP : Hid (w1.heap[w.heap.size + 1]? = some (.cells (scells f1 f2 sep lf rt pr em (.slice a q cap)) 36 (0, 0))) := Lib.hid ((B1.out.block _ (by rw [Z0.out]; omega)).trans HB.out.2)
    have BW1 := Lib.hid (B0.out.trans (B1.out.mono B0.out.size))
    go_loopw [9, 10, 11] (fun v ii kk wr => ∃ (i k : Nat) (D : List (List UInt8)), ii = .int .i64 i ∧ kk = .int .i64 k ∧ i ≤ na ∧ k ≤ nc ∧ Hid (OwnS wr w1.heap.size v (D.map bA)) ∧ Hid (Below w1.heap.size w1 wr) ∧ Hid (joinL p cmpD (A.map (·.data.toList)) (C.map (·.data.toList)) = D ++ joinF p cmpD ((A.map (·.data.toList)).length + (C.map (·.data.toList)).length) ((A.map (·.data.toList)).drop i) ((C.map (·.data.toList)).drop k) ∧ D.length ≤ 12 * (i + k))) (fun _ ii kk _ => (na - (intOf ii).toNat) + (nc - (intOf kk).toNat))
    case atStart => exact ⟨0, 0, [], rfl, rfl, Nat.zero_le _, Nat.zero_le _, Lib.hid (OwnS.none _ _), Lib.hid (Below.refl _ _), Lib.hid ⟨rfl, Nat.zero_le _⟩⟩
    case round =>
      obtain ⟨i, k, D, rfl, rfl, hi, hk, OW, BK, HE⟩ := hrel
      have BR := Lib.hid (B1.out.trans (BK.out.mono B1.out.size))
      have kl := (BK.out.block _ (Array.getElem?_eq_some_iff.1 KL.out).1).trans KL.out
      have kq := (BK.out.block _ (Array.getElem?_eq_some_iff.1 KP.out).1).trans KP.out
      have HKL := Lib.hid kl
      have HKP := Lib.hid kq
      have y0 : wr.cell? ⟨w.heap.size + 1, 0, none⟩ = some (.int .i64 f1) := blk_cellx kq 0 _ rfl
      have y1 : wr.cell? ⟨w.heap.size + 1, 1, none⟩ = some (.int .i64 f2) := blk_cellx kq 1 _ rfl
      have y2 : wr.cell? ⟨w.heap.size + 1, 2, none⟩ = some (.int .i64 sep) := blk_cellx kq 2 _ rfl
      have y3 : wr.cell? ⟨w.heap.size + 1, 3, none⟩ = some (.bool lf) := blk_cellx kq 3 _ rfl
      have y4 : wr.cell? ⟨w.heap.size + 1, 4, none⟩ = some (.bool rt) := blk_cellx kq 4 _ rfl
      have y5 : wr.cell? ⟨w.heap.size + 1, 5, none⟩ = some (.bool pr) := blk_cellx kq 5 _ rfl
      have y6 : wr.cell? ⟨w.heap.size + 1, 6, none⟩ = some (.string em) := blk_cellx kq 6 _ rfl
      have y7 : wr.cell? ⟨w.heap.size + 1, 7, none⟩ = some (.slice a q cap) := blk_cellx kq 7 _ rfl
      clear kl kq
      by_cases hlA : i < na
      · by_cases hlC : k < nc
        · have l1 : i < A.length := by rw [HNA.out]; assumption
          rcases HAC.out with h0 | ⟨g1, o1, rfl, hg, hgc⟩
          · rw [h0] at l1; exact absurd l1 (Nat.not_lt_zero _)
          obtain ⟨x, hx⟩ : ∃ x, A[i]? = some x := ⟨_, List.getElem?_eq_getElem l1⟩
          have C1 := Lib.hid (hgc i x hx)
          have HG1 := Lib.hid hgc
          have SX := Lib.hid (HS.out.1 x (List.mem_of_getElem? hx))
          have DX := Lib.hid (drop_some hx)
          clear l1 hg hgc hx
          have l2 : k < C.length := by rw [HNC.out]; assumption
          rcases HCC.out with h0 | ⟨g2, o2, rfl, hg, hgc⟩
          · rw [h0] at l2; exact absurd l2 (Nat.not_lt_zero _)
          obtain ⟨y, hy⟩ : ∃ y, C[k]? = some y := ⟨_, List.getElem?_eq_getElem l2⟩
          have C2 := Lib.hid (hgc k y hy)
          have HG2 := Lib.hid hgc
          have SY := Lib.hid (HS.out.2.1 y (List.mem_of_getElem? hy))
          have DY := Lib.hid (drop_some hy)
          clear l2 hg hgc hy
          have KX := Lib.hid (fun W => key_any x f1 sep W (Nat.le_trans SX.out (by omega)))
          have KY := Lib.hid (fun W => key_any y f2 sep W (Nat.le_trans SY.out (by omega)))
          obtain ⟨kx, hkx⟩ : ∃ kx, bA (keyL sep f1 x.data.toList) = kx := ⟨_, rfl⟩
          obtain ⟨ky, hky⟩ : ∃ ky, bA (keyL sep f2 y.data.toList) = ky := ⟨_, rfl⟩
          have ZX : Hid (kx.size ≤ 1048576) := Lib.hid (by rw [← hkx]; exact key_sz _ _ _ (Nat.le_trans SX.out (by omega)))
          have ZY : Hid (ky.size ≤ 1048576) := Lib.hid (by rw [← hky]; exact key_sz _ _ _ (Nat.le_trans SY.out (by omega)))
          rw [hkx] at KX
          rw [hky] at KY
          obtain ⟨c, hcm⟩ : ∃ c, cmpD kx.data.toList ky.data.toList = c := ⟨_, rfl⟩
          have CMP := Lib.hid (fun vl W h => drcompare_any vl kx ky W h ZX.out ZY.out)
          rw [hcm] at CMP
          have OC : Hid (ordJ p cmpD ((A.map (·.data.toList)).drop i) ((C.map (·.data.toList)).drop k) = c) := Lib.hid (by
            rw [DX.out, DY.out]
            show cmpD (keyL p.sep p.f1 _) (keyL p.sep p.f2 _) = c
            rw [EF.out.1, EF.out.2.1, EF.out.2.2.1, ← hcm, ← hkx, ← hky])
          have kl := (BK.out.block _ (Array.getElem?_eq_some_iff.1 KL.out).1).trans KL.out
          have HKL := Lib.hid kl
          have HKP := Lib.hid ((BK.out.block _ (Array.getElem?_eq_some_iff.1 KP.out).1).trans KP.out)
          clear kl
          have DD := Lib.hid (And.intro (kp BR.out C1.out) (kp BR.out C2.out))
          have CE : Hid (∀ w', Below wr.heap.size wr w' → Below wr.heap.size wr w' ∧ w'.cell? ⟨w.heap.size, 0, none⟩ = some (.string dNm) ∧ w'.cell? ⟨w.heap.size, 1, none⟩ = some (v1) ∧ w'.cell? ⟨w.heap.size, 2, none⟩ = some (.string dLo) ∧ w'.cell? ⟨w.heap.size, 3, none⟩ = some (.string dUp) ∧ w'.cell? ⟨w.heap.size, 4, none⟩ = some (.slice none 0 0) ∧ w'.cell? ⟨w.heap.size, 5, none⟩ = some (.slice none 0 0) ∧ w'.cell? ⟨w.heap.size + 1, 0, none⟩ = some (.int .i64 f1) ∧ w'.cell? ⟨w.heap.size + 1, 1, none⟩ = some (.int .i64 f2) ∧ w'.cell? ⟨w.heap.size + 1, 2, none⟩ = some (.int .i64 sep) ∧ w'.cell? ⟨g1, o1 + i, none⟩ = some (.string x) ∧ w'.cell? ⟨g2, o2 + k, none⟩ = some (.string y)) := Lib.hid (fun w' h => by
            have e1 := (h.block _ (Array.getElem?_eq_some_iff.1 HKL.out).1).trans HKL.out
            have e2 := (h.block _ (Array.getElem?_eq_some_iff.1 HKP.out).1).trans HKP.out
            exact ⟨h, blk_cellx e1 0 _ rfl, blk_cellx e1 1 _ rfl, blk_cellx e1 2 _ rfl, blk_cellx e1 3 _ rfl, blk_cellx e1 4 _ rfl, blk_cellx e1 5 _ rfl, blk_cellx e2 0 _ rfl, blk_cellx e2 1 _ rfl, blk_cellx e2 2 _ rfl, kp h DD.out.1, kp h DD.out.2⟩)
          have S0 := CE.out _ (Below.refl wr.heap.size wr).drew
          have VLR := Lib.hid (show DLoc wr (lval dNm v1 dLo dUp (.slice none 0 0) (.slice none 0 0)) from ⟨v1, rfl, HL.out.below BR.out⟩)
          have g0 : ((i : Int) == (na : Int)) = false := beq_eq_false_iff_ne.2 (by omega)
          have p0 : (0 : Int) ≤ (i : Int) := by omega
          have p1 : (i : Int) < (na : Int) := by omega
          have p2 : (0 : Int) ≤ (k : Int) := by omega
          have p3 : (k : Int) < (nc : Int) := by omega
          have p4 : IntKind.i64.wrap (i : Int) = (i : Int) := IntWalk.i64_in _ (by omega)
          have p5 : IntKind.i64.wrap (k : Int) = (k : Int) := IntWalk.i64_in _ (by omega)
          clear hkx hky hcm y0 y1 y2 y3 y4 y5 y6 y7
          go_wp2_with fail
          go_region_held3 (fun w' => Below wr.heap.size wr w' ∧ w'.cell? ⟨w.heap.size, 0, none⟩ = some (.string dNm) ∧ w'.cell? ⟨w.heap.size, 1, none⟩ = some (v1) ∧ w'.cell? ⟨w.heap.size, 2, none⟩ = some (.string dLo) ∧ w'.cell? ⟨w.heap.size, 3, none⟩ = some (.string dUp) ∧ w'.cell? ⟨w.heap.size, 4, none⟩ = some (.slice none 0 0) ∧ w'.cell? ⟨w.heap.size, 5, none⟩ = some (.slice none 0 0) ∧ w'.cell? ⟨w.heap.size + 1, 0, none⟩ = some (.int .i64 f1) ∧ w'.cell? ⟨w.heap.size + 1, 1, none⟩ = some (.int .i64 f2) ∧ w'.cell? ⟨w.heap.size + 1, 2, none⟩ = some (.int .i64 sep) ∧ w'.cell? ⟨g1, o1 + i, none⟩ = some (.string x) ∧ w'.cell? ⟨g2, o2 + k, none⟩ = some (.string y)) (first | exact S0)
            (first | (go_at_call 31; (first | (with_reducible refine (KX.out _).mono ?_) | (with_reducible refine (KY.out _).mono ?_)); rintro _ wr ⟨rfl, B3⟩; have S0 := CE.out _ (S0.1.trans (B3.out.mono S0.1.size))) | (go_at_call 30; (with_reducible refine (CMP.out _ _ (VLR.out.below S0.1)).mono ?_); rintro _ wr ⟨rfl, B3⟩; have S0 := CE.out _ (S0.1.trans (B3.out.mono S0.1.size))))
          have BK2 := Lib.hid (BK.out.trans ((S0.1).mono BK.out.size))
          have OW2 := Lib.hid (own_below OW.out (S0.1))
          clear S0 BK OW BR
          have BK := BK2
          have OW := OW2
          clear BK2 OW2
          have BR := Lib.hid (B1.out.trans (BK.out.mono B1.out.size))
          have kq := (BK.out.block _ (Array.getElem?_eq_some_iff.1 KP.out).1).trans KP.out
          have y0 : wr.cell? ⟨w.heap.size + 1, 0, none⟩ = some (.int .i64 f1) := blk_cellx kq 0 _ rfl
          have y1 : wr.cell? ⟨w.heap.size + 1, 1, none⟩ = some (.int .i64 f2) := blk_cellx kq 1 _ rfl
          have y2 : wr.cell? ⟨w.heap.size + 1, 2, none⟩ = some (.int .i64 sep) := blk_cellx kq 2 _ rfl
          have y3 : wr.cell? ⟨w.heap.size + 1, 3, none⟩ = some (.bool lf) := blk_cellx kq 3 _ rfl
          have y4 : wr.cell? ⟨w.heap.size + 1, 4, none⟩ = some (.bool rt) := blk_cellx kq 4 _ rfl
          have y5 : wr.cell? ⟨w.heap.size + 1, 5, none⟩ = some (.bool pr) := blk_cellx kq 5 _ rfl
          have y6 : wr.cell? ⟨w.heap.size + 1, 6, none⟩ = some (.string em) := blk_cellx kq 6 _ rfl
          have y7 : wr.cell? ⟨w.heap.size + 1, 7, none⟩ = some (.slice a q cap) := blk_cellx kq 7 _ rfl
          clear kq
          clear CE VLR HKL HKP KX KY CMP ZX ZY DD g0 p0 p1 p2 p3 p4 p5
          by_cases hc1 : c < 0
          · have ORD : Hid (ordJ p cmpD ((A.map (·.data.toList)).drop i) ((C.map (·.data.toList)).drop k) < 0) := Lib.hid (by rw [OC.out]; exact hc1)
            have EL : Hid (joinL p cmpD (A.map (·.data.toList)) (C.map (·.data.toList)) = (D ++ if p.left then [putL p (some x.data.toList) none] else []) ++ joinF p cmpD ((A.map (·.data.toList)).length + (C.map (·.data.toList)).length) ((A.map (·.data.toList)).drop (i + 1)) ((C.map (·.data.toList)).drop k)) := Lib.hid (join_lt HE.out.1 DX.out ORD.out)
            cases lf with
            | true =>
              have qa1 : IntKind.i64.wrap ((i : Int) + 1) = (i : Int) + 1 := IntWalk.i64_in _ (by omega)
              have qa2 : ¬ ca = i := by omega
              have qa3 : (i : Int) + 1 ≤ (ca : Int) := by omega
              have qa4 : 0 ≤ (i : Int) + 1 := by omega
              obtain ⟨u, hu⟩ : ∃ u, bA (putL p (some x.data.toList) none) = u := ⟨_, rfl⟩
              have HU := Lib.hid hu
              have RW := Lib.hid (fun W' (hb : Below wr.heap.size wr W') => printeda_any p x g1 (o1 + i) (ca - i) f1 f2 sep true rt pr em a q cap W' HP.out (HO.out.below (BR.out.trans (hb.mono BR.out.size))) HQ.out (kp hb (kp BR.out C1.out)) SX.out HS.out.2.2.1 hql HF.out.1 HF.out.2.1 HF.out.2.2)
              rw [hu] at RW
              obtain ⟨PL, hPL⟩ : ∃ PL, D.map bA = PL := ⟨_, rfl⟩
              have HPL := Lib.hid hPL
              have PLN : Hid (PL.length ≤ 1048576) := Lib.hid (by rw [← hPL, List.length_map]; have := HE.out.2; omega)
              have O0 : Hid (OwnS wr w1.heap.size u9 PL) := Lib.hid (by rw [← hPL]; exact OW.out)
              clear hu hPL
              go_wp2_with fail
              go_region_law (first | (go_simp; (go_at_call 41; refine (RW.out _ (Below.refl wr.heap.size wr).drew).mono ?_; rintro _ w8 ⟨rfl, B8⟩; have Q8 := Lib.hid ((Below.refl wr.heap.size wr).drew.trans (B8.out.mono (Below.refl wr.heap.size wr).drew.size)); have O8 := Lib.hid (own_below O0.out Q8.out); have BK8 := Lib.hid (BK.out.trans (Q8.out.mono BK.out.size)))) | (refine step_outS rfl (.tmp 63) (.tmp 71) rfl u9 PL u w1.heap.size w8 O8.out BK8.out.size PLN.out (by simp [Act.eval]) (by simp [Act.eval]) ?_; intro g9 c9 w9 own9 gr9 hX9 lt9; have O9 := Lib.hid own9; have BK9 := Lib.hid (BK8.out.grown gr9 BK8.out.size (fun k hk => (O8.out.lt k hk).1)); clear own9 gr9 hX9 lt9))
              all_goals go_wp2_with fail
              all_goals
                go_roundw
                case rel => exact ⟨i + 1, k, D ++ [putL p (some x.data.toList) none], by go_num, rfl, by omega, hk, Lib.hid (by rw [List.map_append]; show OwnS _ _ _ (_ ++ [bA (putL p (some x.data.toList) none)]); rw [HPL.out, HU.out]; exact O9.out), BK9, Lib.hid ⟨by rw [EL.out, EF.out.2.2.2.1]; rfl, by have := HE.out.2; rw [List.length_append, List.length_singleton]; omega⟩⟩
                case measure => simp [intOf]; omega
            | false =>
              go_wp2_with fail
              go_roundw
              case rel => exact ⟨i + 1, k, D, by go_num, rfl, by omega, hk, OW, BK, Lib.hid ⟨by rw [EL.out, EF.out.2.2.2.1]; simp, by have := HE.out.2; omega⟩⟩
              case measure => simp [intOf]; omega
          by_cases hc2 : 0 < c
          · have ORD : Hid (0 < ordJ p cmpD ((A.map (·.data.toList)).drop i) ((C.map (·.data.toList)).drop k)) := Lib.hid (by rw [OC.out]; exact hc2)
            have EL : Hid (joinL p cmpD (A.map (·.data.toList)) (C.map (·.data.toList)) = (D ++ if p.right then [putL p none (some y.data.toList)] else []) ++ joinF p cmpD ((A.map (·.data.toList)).length + (C.map (·.data.toList)).length) ((A.map (·.data.toList)).drop i) ((C.map (·.data.toList)).drop (k + 1))) := Lib.hid (join_gt HE.out.1 DY.out ORD.out)
            cases rt with
            | true =>
              have qb1 : IntKind.i64.wrap ((k : Int) + 1) = (k : Int) + 1 := IntWalk.i64_in _ (by omega)
              have qb2 : ¬ cc = k := by omega
              have qb3 : (k : Int) + 1 ≤ (cc : Int) := by omega
              have qb4 : 0 ≤ (k : Int) + 1 := by omega
              obtain ⟨u, hu⟩ : ∃ u, bA (putL p none (some y.data.toList)) = u := ⟨_, rfl⟩
              have HU := Lib.hid hu
              have RW := Lib.hid (fun W' (hb : Below wr.heap.size wr W') => printedb_any p y g2 (o2 + k) (cc - k) f1 f2 sep lf true pr em a q cap W' HP.out (HO.out.below (BR.out.trans (hb.mono BR.out.size))) HQ.out (kp hb (kp BR.out C2.out)) SY.out HS.out.2.2.1 hql HF.out.1 HF.out.2.1 HF.out.2.2)
              rw [hu] at RW
              obtain ⟨PL, hPL⟩ : ∃ PL, D.map bA = PL := ⟨_, rfl⟩
              have HPL := Lib.hid hPL
              have PLN : Hid (PL.length ≤ 1048576) := Lib.hid (by rw [← hPL, List.length_map]; have := HE.out.2; omega)
              have O0 : Hid (OwnS wr w1.heap.size u9 PL) := Lib.hid (by rw [← hPL]; exact OW.out)
              clear hu hPL
              go_wp2_with fail
              go_region_law (first | (go_simp; (go_at_call 41; refine (RW.out _ (Below.refl wr.heap.size wr).drew).mono ?_; rintro _ w8 ⟨rfl, B8⟩; have Q8 := Lib.hid ((Below.refl wr.heap.size wr).drew.trans (B8.out.mono (Below.refl wr.heap.size wr).drew.size)); have O8 := Lib.hid (own_below O0.out Q8.out); have BK8 := Lib.hid (BK.out.trans (Q8.out.mono BK.out.size)))) | (refine step_outS rfl (.tmp 79) (.tmp 87) rfl u9 PL u w1.heap.size w8 O8.out BK8.out.size PLN.out (by simp [Act.eval]) (by simp [Act.eval]) ?_; intro g9 c9 w9 own9 gr9 hX9 lt9; have O9 := Lib.hid own9; have BK9 := Lib.hid (BK8.out.grown gr9 BK8.out.size (fun k hk => (O8.out.lt k hk).1)); clear own9 gr9 hX9 lt9))
              all_goals go_wp2_with fail
              all_goals
                go_roundw
                case rel => exact ⟨i, k + 1, D ++ [putL p none (some y.data.toList)], rfl, by go_num, hi, by omega, Lib.hid (by rw [List.map_append]; show OwnS _ _ _ (_ ++ [bA (putL p none (some y.data.toList))]); rw [HPL.out, HU.out]; exact O9.out), BK9, Lib.hid ⟨by rw [EL.out, EF.out.2.2.2.2.1]; rfl, by have := HE.out.2; rw [List.length_append, List.length_singleton]; omega⟩⟩
                case measure => simp [intOf]; omega
            | false =>
              go_wp2_with fail
              go_roundw
              case rel => exact ⟨i, k + 1, D, rfl, by go_num, hi, by omega, OW, BK, Lib.hid ⟨by rw [EL.out, EF.out.2.2.2.2.1]; simp, by have := HE.out.2; omega⟩⟩
              case measure => simp [intOf]; omega
          obtain rfl : c = 0 := by omega
          obtain ⟨m1, hm1⟩ : ∃ m1, grpN (keyL sep f1) ((A.map (·.data.toList)).drop i) = m1 := ⟨_, rfl⟩
          obtain ⟨m2, hm2⟩ : ∃ m2, grpN (keyL sep f2) ((C.map (·.data.toList)).drop k) = m2 := ⟨_, rfl⟩
          have EE := Lib.hid (join_eq (m := m1) (n := m2) HE.out.1 DX.out OC.out (by rw [EF.out.2.2.1, EF.out.1]; exact hm1) (by rw [EF.out.2.2.1, EF.out.2.1]; exact hm2))
          have m1a : m1 ≤ na - i := by have := grp_le (key := keyL sep f1) (l := (A.map (·.data.toList)).drop i); rw [hm1, List.length_drop, List.length_map, HNA.out] at this; exact this
          have m2a : m2 ≤ nc - k := by have := grp_le (key := keyL sep f2) (l := (C.map (·.data.toList)).drop k); rw [hm2, List.length_drop, List.length_map, HNC.out] at this; exact this
          have m1b : 1 ≤ m1 := by rw [← hm1]; exact grpN_pos (by rw [DX.out]; exact List.cons_ne_nil _ _)
          have m2b : 1 ≤ m2 := by rw [← hm2]; exact grpN_pos (by rw [DY.out]; exact List.cons_ne_nil _ _)
          have G1 := Lib.hid (fun W (h : Below wr.heap.size wr W) => rgroup_any A _ (lval dNm v1 dLo dUp (.slice none 0 0) (.slice none 0 0)) i f1 sep W (Strs.below HA.out (BR.out.trans (h.mono BR.out.size))) ⟨v1, rfl, HL.out.below (BR.out.trans (h.mono BR.out.size))⟩ (fun x hx => Nat.le_trans (HS.out.1 x hx) (by omega)) (by rw [HNA.out]; exact hlA) (by rw [HNA.out]; exact na12))
          have G2 := Lib.hid (fun W (h : Below wr.heap.size wr W) => rgroup_any C _ (lval dNm v1 dLo dUp (.slice none 0 0) (.slice none 0 0)) k f2 sep W (Strs.below HC.out (BR.out.trans (h.mono BR.out.size))) ⟨v1, rfl, HL.out.below (BR.out.trans (h.mono BR.out.size))⟩ (fun x hx => Nat.le_trans (HS.out.2.1 x hx) (by omega)) (by rw [HNC.out]; exact hlC) (by rw [HNC.out]; exact nc12))
          rw [hm1] at G1
          rw [hm2] at G2
          have kl := (BK.out.block _ (Array.getElem?_eq_some_iff.1 KL.out).1).trans KL.out
          have HKL := Lib.hid kl
          have HKP := Lib.hid ((BK.out.block _ (Array.getElem?_eq_some_iff.1 KP.out).1).trans KP.out)
          clear kl
          have CE : Hid (∀ w', Below wr.heap.size wr w' → Below wr.heap.size wr w' ∧ w'.cell? ⟨w.heap.size, 0, none⟩ = some (.string dNm) ∧ w'.cell? ⟨w.heap.size, 1, none⟩ = some (v1) ∧ w'.cell? ⟨w.heap.size, 2, none⟩ = some (.string dLo) ∧ w'.cell? ⟨w.heap.size, 3, none⟩ = some (.string dUp) ∧ w'.cell? ⟨w.heap.size, 4, none⟩ = some (.slice none 0 0) ∧ w'.cell? ⟨w.heap.size, 5, none⟩ = some (.slice none 0 0) ∧ w'.cell? ⟨w.heap.size + 1, 0, none⟩ = some (.int .i64 f1) ∧ w'.cell? ⟨w.heap.size + 1, 1, none⟩ = some (.int .i64 f2) ∧ w'.cell? ⟨w.heap.size + 1, 2, none⟩ = some (.int .i64 sep)) := Lib.hid (fun w' h => by
            have e1 := (h.block _ (Array.getElem?_eq_some_iff.1 HKL.out).1).trans HKL.out
            have e2 := (h.block _ (Array.getElem?_eq_some_iff.1 HKP.out).1).trans HKP.out
            exact ⟨h, blk_cellx e1 0 _ rfl, blk_cellx e1 1 _ rfl, blk_cellx e1 2 _ rfl, blk_cellx e1 3 _ rfl, blk_cellx e1 4 _ rfl, blk_cellx e1 5 _ rfl, blk_cellx e2 0 _ rfl, blk_cellx e2 1 _ rfl, blk_cellx e2 2 _ rfl⟩)
          have S0 := CE.out _ (Below.refl wr.heap.size wr).drew
          have VLR := Lib.hid (show DLoc wr (lval dNm v1 dLo dUp (.slice none 0 0) (.slice none 0 0)) from ⟨v1, rfl, HL.out.below BR.out⟩)
          clear hm1 hm2 y0 y1 y2 y3 y4 y5 y6 y7 VLR
          go_wp2_with fail
          go_region_held3 (fun w' => Below wr.heap.size wr w' ∧ w'.cell? ⟨w.heap.size, 0, none⟩ = some (.string dNm) ∧ w'.cell? ⟨w.heap.size, 1, none⟩ = some (v1) ∧ w'.cell? ⟨w.heap.size, 2, none⟩ = some (.string dLo) ∧ w'.cell? ⟨w.heap.size, 3, none⟩ = some (.string dUp) ∧ w'.cell? ⟨w.heap.size, 4, none⟩ = some (.slice none 0 0) ∧ w'.cell? ⟨w.heap.size, 5, none⟩ = some (.slice none 0 0) ∧ w'.cell? ⟨w.heap.size + 1, 0, none⟩ = some (.int .i64 f1) ∧ w'.cell? ⟨w.heap.size + 1, 1, none⟩ = some (.int .i64 f2) ∧ w'.cell? ⟨w.heap.size + 1, 2, none⟩ = some (.int .i64 sep)) (first | exact S0)
            (first | (go_at_call 42; (first | (with_reducible refine (G1.out _ S0.1).mono ?_) | (with_reducible refine (G2.out _ S0.1).mono ?_)); rintro _ wr ⟨rfl, B3⟩; have S0 := CE.out _ (S0.1.trans (B3.out.mono S0.1.size))))
          have BK2 := Lib.hid (BK.out.trans ((S0.1).mono BK.out.size))
          have OW2 := Lib.hid (own_below OW.out (S0.1))
          clear S0 BK OW BR
          have BK := BK2
          have OW := OW2
          clear BK2 OW2
          have BR := Lib.hid (B1.out.trans (BK.out.mono B1.out.size))
          have kq := (BK.out.block _ (Array.getElem?_eq_some_iff.1 KP.out).1).trans KP.out
          have y0 : wr.cell? ⟨w.heap.size + 1, 0, none⟩ = some (.int .i64 f1) := blk_cellx kq 0 _ rfl
          have y1 : wr.cell? ⟨w.heap.size + 1, 1, none⟩ = some (.int .i64 f2) := blk_cellx kq 1 _ rfl
          have y2 : wr.cell? ⟨w.heap.size + 1, 2, none⟩ = some (.int .i64 sep) := blk_cellx kq 2 _ rfl
          have y3 : wr.cell? ⟨w.heap.size + 1, 3, none⟩ = some (.bool lf) := blk_cellx kq 3 _ rfl
          have y4 : wr.cell? ⟨w.heap.size + 1, 4, none⟩ = some (.bool rt) := blk_cellx kq 4 _ rfl
          have y5 : wr.cell? ⟨w.heap.size + 1, 5, none⟩ = some (.bool pr) := blk_cellx kq 5 _ rfl
          have y6 : wr.cell? ⟨w.heap.size + 1, 6, none⟩ = some (.string em) := blk_cellx kq 6 _ rfl
          have y7 : wr.cell? ⟨w.heap.size + 1, 7, none⟩ = some (.slice a q cap) := blk_cellx kq 7 _ rfl
          clear kq
          clear CE HKL HKP G1 G2 y0 y1 y2 y3 y4 y5 y6 y7
          go_wp2_with fail
          go_loopw [9, 15] (fun v xx wr => ∃ (X : Nat) (D2 : List (List UInt8)), xx = .int .i64 X ∧ i ≤ X ∧ X ≤ i + m1 ∧ Hid (D2 = D ++ (if pr then pairsL p (((A.map (·.data.toList)).drop i).take (X - i)) (((C.map (·.data.toList)).drop k).take m2) else []) ∧ D2.length ≤ D.length + 12 * (X - i)) ∧ Hid (OwnS wr w1.heap.size v (D2.map bA)) ∧ Hid (Below w1.heap.size w1 wr)) (fun _ xx _ => i + m1 - (intOf xx).toNat)
          case atStart => exact ⟨i, D, rfl, Nat.le_refl _, by omega, Lib.hid ⟨by simp [pairsL], by omega⟩, OW, BK⟩
          case round =>
            clear OW BK BR
            obtain ⟨X, D2, rfl, hX1, hX2, HD2, OW, BK⟩ := hrel
            cases pr with
            | false =>
              have BR := Lib.hid (B1.out.trans (BK.out.mono B1.out.size))
              have kq := (BK.out.block _ (Array.getElem?_eq_some_iff.1 KP.out).1).trans KP.out
              have y5 : wr.cell? ⟨w.heap.size + 1, 5, none⟩ = some (.bool false) := blk_cellx kq 5 _ rfl
              clear kq
              have EQ : joinL p cmpD (A.map (·.data.toList)) (C.map (·.data.toList)) = D2 ++ joinF p cmpD ((A.map (·.data.toList)).length + (C.map (·.data.toList)).length) ((A.map (·.data.toList)).drop (i + m1)) ((C.map (·.data.toList)).drop (k + m2)) := by rw [EE.out, HD2.out.1, EF.out.2.2.2.2.2]; simp
              have EQ := Lib.hid EQ
              by_cases hX : X < i + m1
              · have hXa : (X : Int) < (i : Int) + (m1 : Int) := by omega
                go_wp2_with fail
                go_roundw
                case rel => exact ⟨i + m1, k + m2, D2, by go_num, by go_num, by omega, by omega, OW, BK, Lib.hid ⟨EQ.out, by have := HE.out.2; have := HD2.out.2; omega⟩⟩
                case measure => simp [intOf]; omega
              · obtain rfl : X = i + m1 := by omega
                go_wp2_with fail
                go_roundw
                case rel => exact ⟨i + m1, k + m2, D2, by go_num, by go_num, by omega, by omega, OW, BK, Lib.hid ⟨EQ.out, by have := HE.out.2; have := HD2.out.2; omega⟩⟩
                case measure => simp [intOf]; omega
            | true =>
              have BR := Lib.hid (B1.out.trans (BK.out.mono B1.out.size))
              have kq := (BK.out.block _ (Array.getElem?_eq_some_iff.1 KP.out).1).trans KP.out
              have y5 : wr.cell? ⟨w.heap.size + 1, 5, none⟩ = some (.bool true) := blk_cellx kq 5 _ rfl
              clear kq
              by_cases hX : X < i + m1
              · have hXa : (X : Int) < (i : Int) + (m1 : Int) := by omega
                obtain ⟨xb, hxb⟩ : ∃ xb, A[X]? = some xb := ⟨_, List.getElem?_eq_getElem (by rw [HNA.out]; omega)⟩
                have C3 := Lib.hid (HG1.out X xb hxb)
                have Sxb := Lib.hid (HS.out.1 xb (List.mem_of_getElem? hxb))
                have Txb : Hid (((A.map (·.data.toList)).drop i).take (X + 1 - i) = ((A.map (·.data.toList)).drop i).take (X - i) ++ [xb.data.toList]) := Lib.hid (take_snoc (by rw [List.getElem?_map, hxb]; rfl) (by omega))
                clear hxb
                go_wp2_with fail
                clear y5
                go_loopw [9, 16] (fun v yy wr => ∃ (Y : Nat) (D3 : List (List UInt8)), yy = .int .i64 Y ∧ k ≤ Y ∧ Y ≤ k + m2 ∧ Hid (D3 = D2 ++ ((((C.map (·.data.toList)).drop k).take (Y - k)).map fun y => putL p (some xb.data.toList) (some y)) ∧ D3.length ≤ D2.length + (Y - k)) ∧ Hid (OwnS wr w1.heap.size v (D3.map bA)) ∧ Hid (Below w1.heap.size w1 wr)) (fun _ yy _ => k + m2 - (intOf yy).toNat)
                case atStart => exact ⟨k, D2, rfl, Nat.le_refl _, by omega, Lib.hid ⟨by simp, by omega⟩, OW, BK⟩
                case round =>
                  clear OW BK BR
                  obtain ⟨Y, D3, rfl, hY1, hY2, HD3, OW, BK⟩ := hrel
                  by_cases hY : Y < k + m2
                  · have hYa : (Y : Int) < (k : Int) + (m2 : Int) := by omega
                    obtain ⟨yb, hyb⟩ : ∃ yb, C[Y]? = some yb := ⟨_, List.getElem?_eq_getElem (by rw [HNC.out]; omega)⟩
                    have C4 := Lib.hid (HG2.out Y yb hyb)
                    have Syb := Lib.hid (HS.out.2.1 yb (List.mem_of_getElem? hyb))
                    have Tyb : Hid (((C.map (·.data.toList)).drop k).take (Y + 1 - k) = ((C.map (·.data.toList)).drop k).take (Y - k) ++ [yb.data.toList]) := Lib.hid (take_snoc (by rw [List.getElem?_map, hyb]; rfl) (by omega))
                    clear hyb
                    have BR := Lib.hid (B1.out.trans (BK.out.mono B1.out.size))
                    have kq := (BK.out.block _ (Array.getElem?_eq_some_iff.1 KP.out).1).trans KP.out
                    have y0 : wr.cell? ⟨w.heap.size + 1, 0, none⟩ = some (.int .i64 f1) := blk_cellx kq 0 _ rfl
                    have y1 : wr.cell? ⟨w.heap.size + 1, 1, none⟩ = some (.int .i64 f2) := blk_cellx kq 1 _ rfl
                    have y2 : wr.cell? ⟨w.heap.size + 1, 2, none⟩ = some (.int .i64 sep) := blk_cellx kq 2 _ rfl
                    have y3 : wr.cell? ⟨w.heap.size + 1, 3, none⟩ = some (.bool lf) := blk_cellx kq 3 _ rfl
                    have y4 : wr.cell? ⟨w.heap.size + 1, 4, none⟩ = some (.bool rt) := blk_cellx kq 4 _ rfl
                    have y5 : wr.cell? ⟨w.heap.size + 1, 5, none⟩ = some (.bool true) := blk_cellx kq 5 _ rfl
                    have y6 : wr.cell? ⟨w.heap.size + 1, 6, none⟩ = some (.string em) := blk_cellx kq 6 _ rfl
                    have y7 : wr.cell? ⟨w.heap.size + 1, 7, none⟩ = some (.slice a q cap) := blk_cellx kq 7 _ rfl
                    clear kq
                    have qa1 : IntKind.i64.wrap ((X : Int) + 1) = (X : Int) + 1 := IntWalk.i64_in _ (by omega)
                    have qa2 : ¬ ca = X := by omega
                    have qa3 : (X : Int) + 1 ≤ (ca : Int) := by omega
                    have qa4 : 0 ≤ (X : Int) + 1 := by omega
                    have qb1 : IntKind.i64.wrap ((Y : Int) + 1) = (Y : Int) + 1 := IntWalk.i64_in _ (by omega)
                    have qb2 : ¬ cc = Y := by omega
                    have qb3 : (Y : Int) + 1 ≤ (cc : Int) := by omega
                    have qb4 : 0 ≤ (Y : Int) + 1 := by omega
                    obtain ⟨u, hu⟩ : ∃ u, bA (putL p (some xb.data.toList) (some yb.data.toList)) = u := ⟨_, rfl⟩
                    have HU := Lib.hid hu
                    have RW := Lib.hid (fun W' (hb : Below wr.heap.size wr W') => printedab_any p xb g1 (o1 + X) (ca - X) yb g2 (o2 + Y) (cc - Y) f1 f2 sep lf rt true em a q cap W' HP.out (HO.out.below (BR.out.trans (hb.mono BR.out.size))) HQ.out (kp hb (kp BR.out C3.out)) Sxb.out (kp hb (kp BR.out C4.out)) Syb.out HS.out.2.2.1 hql HF.out.1 HF.out.2.1 HF.out.2.2)
                    rw [hu] at RW
                    obtain ⟨PL, hPL⟩ : ∃ PL, D3.map bA = PL := ⟨_, rfl⟩
                    have HPL := Lib.hid hPL
                    have PLN : Hid (PL.length ≤ 1048576) := Lib.hid (by rw [← hPL, List.length_map]; have := HE.out.2; have := HD2.out.2; have := HD3.out.2; omega)
                    have O0 : Hid (OwnS wr w1.heap.size u9 PL) := Lib.hid (by rw [← hPL]; exact OW.out)
                    clear hu hPL
                    go_wp2_with fail
                    go_region_law (first | (go_simp; (go_at_call 41; refine (RW.out _ (Below.refl wr.heap.size wr).drew).mono ?_; rintro _ w8 ⟨rfl, B8⟩; have Q8 := Lib.hid ((Below.refl wr.heap.size wr).drew.trans (B8.out.mono (Below.refl wr.heap.size wr).drew.size)); have O8 := Lib.hid (own_below O0.out Q8.out); have BK8 := Lib.hid (BK.out.trans (Q8.out.mono BK.out.size)))) | (refine step_outS rfl (.tmp 127) (.tmp 140) rfl u9 PL u w1.heap.size w8 O8.out BK8.out.size PLN.out (by simp [Act.eval]) (by simp [Act.eval]) ?_; intro g9 c9 w9 own9 gr9 hX9 lt9; have O9 := Lib.hid own9; have BK9 := Lib.hid (BK8.out.grown gr9 BK8.out.size (fun k hk => (O8.out.lt k hk).1)); clear own9 gr9 hX9 lt9))
                    all_goals go_wp2_with fail
                    all_goals
                      go_roundw
                      case rel => exact ⟨Y + 1, D3 ++ [putL p (some xb.data.toList) (some yb.data.toList)], by go_num, by omega, by omega, Lib.hid ⟨by rw [HD3.out.1, Tyb.out, List.map_append, List.append_assoc]; rfl, by have := HD3.out.2; rw [List.length_append, List.length_singleton]; omega⟩, Lib.hid (by rw [List.map_append]; show OwnS _ _ _ (_ ++ [bA (putL p (some xb.data.toList) (some yb.data.toList))]); rw [HPL.out, HU.out]; exact O9.out), BK9⟩
                      case measure => simp [intOf]; omega
                  · obtain rfl : Y = k + m2 := by omega
                    have HD4 : Hid (D3 = D ++ (if true then pairsL p (((A.map (·.data.toList)).drop i).take (X + 1 - i)) (((C.map (·.data.toList)).drop k).take m2) else []) ∧ D3.length ≤ D.length + 12 * (X + 1 - i)) := Lib.hid ⟨by
                      rw [HD3.out.1, HD2.out.1, Txb.out, pairs_snoc, show k + m2 - k = m2 by omega]
                      simp, by have := HD3.out.2; have := HD2.out.2; omega⟩
                    go_wp2_with fail
                    go_roundw
                    case rel => exact ⟨X + 1, D3, by go_num, by omega, by omega, HD4, OW, BK⟩
                    case measure => simp [intOf]; omega
              · obtain rfl : X = i + m1 := by omega
                have EQ := Lib.hid (show joinL p cmpD (A.map (·.data.toList)) (C.map (·.data.toList)) = D2 ++ joinF p cmpD ((A.map (·.data.toList)).length + (C.map (·.data.toList)).length) ((A.map (·.data.toList)).drop (i + m1)) ((C.map (·.data.toList)).drop (k + m2)) by rw [EE.out, HD2.out.1, EF.out.2.2.2.2.2, show i + m1 - i = m1 by omega])
                go_wp2_with fail
                go_roundw
                case rel => exact ⟨i + m1, k + m2, D2, by go_num, by go_num, by omega, by omega, OW, BK, Lib.hid ⟨EQ.out, by have := HE.out.2; have := HD2.out.2; omega⟩⟩
                case measure => simp [intOf]; omega
        · obtain rfl : k = nc := by omega
          have l1 : i < A.length := by rw [HNA.out]; assumption
          rcases HAC.out with h0 | ⟨g1, o1, rfl, hg, hgc⟩
          · rw [h0] at l1; exact absurd l1 (Nat.not_lt_zero _)
          obtain ⟨x, hx⟩ : ∃ x, A[i]? = some x := ⟨_, List.getElem?_eq_getElem l1⟩
          have C1 := Lib.hid (hgc i x hx)
          have HG1 := Lib.hid hgc
          have SX := Lib.hid (HS.out.1 x (List.mem_of_getElem? hx))
          have DX := Lib.hid (drop_some hx)
          clear l1 hg hgc hx
          have ORD : Hid (ordJ p cmpD ((A.map (·.data.toList)).drop i) ((C.map (·.data.toList)).drop k) < 0) := Lib.hid (by rw [DX.out, show (C.map (·.data.toList)).drop k = [] from List.drop_eq_nil_of_le (by rw [List.length_map, HNC.out]; exact Nat.le_refl _)]; show (-1 : Int) < 0; omega)
          have g0 : ((i : Int) == (na : Int)) = false := beq_eq_false_iff_ne.2 (by omega)
          have EL : Hid (joinL p cmpD (A.map (·.data.toList)) (C.map (·.data.toList)) = (D ++ if p.left then [putL p (some x.data.toList) none] else []) ++ joinF p cmpD ((A.map (·.data.toList)).length + (C.map (·.data.toList)).length) ((A.map (·.data.toList)).drop (i + 1)) ((C.map (·.data.toList)).drop k)) := Lib.hid (join_lt HE.out.1 DX.out ORD.out)
          cases lf with
          | true =>
            have qa1 : IntKind.i64.wrap ((i : Int) + 1) = (i : Int) + 1 := IntWalk.i64_in _ (by omega)
            have qa2 : ¬ ca = i := by omega
            have qa3 : (i : Int) + 1 ≤ (ca : Int) := by omega
            have qa4 : 0 ≤ (i : Int) + 1 := by omega
            obtain ⟨u, hu⟩ : ∃ u, bA (putL p (some x.data.toList) none) = u := ⟨_, rfl⟩
            have HU := Lib.hid hu
            have RW := Lib.hid (fun W' (hb : Below wr.heap.size wr W') => printeda_any p x g1 (o1 + i) (ca - i) f1 f2 sep true rt pr em a q cap W' HP.out (HO.out.below (BR.out.trans (hb.mono BR.out.size))) HQ.out (kp hb (kp BR.out C1.out)) SX.out HS.out.2.2.1 hql HF.out.1 HF.out.2.1 HF.out.2.2)
            rw [hu] at RW
            obtain ⟨PL, hPL⟩ : ∃ PL, D.map bA = PL := ⟨_, rfl⟩
            have HPL := Lib.hid hPL
            have PLN : Hid (PL.length ≤ 1048576) := Lib.hid (by rw [← hPL, List.length_map]; have := HE.out.2; omega)
            have O0 : Hid (OwnS wr w1.heap.size u9 PL) := Lib.hid (by rw [← hPL]; exact OW.out)
            clear hu hPL
            go_wp2_with fail
            go_region_law (first | (go_simp; (go_at_call 41; refine (RW.out _ (Below.refl wr.heap.size wr).drew).mono ?_; rintro _ w8 ⟨rfl, B8⟩; have Q8 := Lib.hid ((Below.refl wr.heap.size wr).drew.trans (B8.out.mono (Below.refl wr.heap.size wr).drew.size)); have O8 := Lib.hid (own_below O0.out Q8.out); have BK8 := Lib.hid (BK.out.trans (Q8.out.mono BK.out.size)))) | (refine step_outS rfl (.tmp 63) (.tmp 71) rfl u9 PL u w1.heap.size w8 O8.out BK8.out.size PLN.out (by simp [Act.eval]) (by simp [Act.eval]) ?_; intro g9 c9 w9 own9 gr9 hX9 lt9; have O9 := Lib.hid own9; have BK9 := Lib.hid (BK8.out.grown gr9 BK8.out.size (fun k hk => (O8.out.lt k hk).1)); clear own9 gr9 hX9 lt9))
            all_goals go_wp2_with fail
            all_goals
              go_roundw
              case rel => exact ⟨i + 1, k, D ++ [putL p (some x.data.toList) none], by go_num, rfl, by omega, hk, Lib.hid (by rw [List.map_append]; show OwnS _ _ _ (_ ++ [bA (putL p (some x.data.toList) none)]); rw [HPL.out, HU.out]; exact O9.out), BK9, Lib.hid ⟨by rw [EL.out, EF.out.2.2.2.1]; rfl, by have := HE.out.2; rw [List.length_append, List.length_singleton]; omega⟩⟩
              case measure => simp [intOf]; omega
          | false =>
            go_wp2_with fail
            go_roundw
            case rel => exact ⟨i + 1, k, D, by go_num, rfl, by omega, hk, OW, BK, Lib.hid ⟨by rw [EL.out, EF.out.2.2.2.1]; simp, by have := HE.out.2; omega⟩⟩
            case measure => simp [intOf]; omega
      · obtain rfl : i = na := by omega
        by_cases hlC : k < nc
        · have l2 : k < C.length := by rw [HNC.out]; assumption
          rcases HCC.out with h0 | ⟨g2, o2, rfl, hg, hgc⟩
          · rw [h0] at l2; exact absurd l2 (Nat.not_lt_zero _)
          obtain ⟨y, hy⟩ : ∃ y, C[k]? = some y := ⟨_, List.getElem?_eq_getElem l2⟩
          have C2 := Lib.hid (hgc k y hy)
          have HG2 := Lib.hid hgc
          have SY := Lib.hid (HS.out.2.1 y (List.mem_of_getElem? hy))
          have DY := Lib.hid (drop_some hy)
          clear l2 hg hgc hy
          have ORD : Hid (0 < ordJ p cmpD ((A.map (·.data.toList)).drop i) ((C.map (·.data.toList)).drop k)) := Lib.hid (by rw [show (A.map (·.data.toList)).drop i = [] from List.drop_eq_nil_of_le (by rw [List.length_map, HNA.out]; exact Nat.le_refl _)]; show (0 : Int) < 1; omega)
          have EL : Hid (joinL p cmpD (A.map (·.data.toList)) (C.map (·.data.toList)) = (D ++ if p.right then [putL p none (some y.data.toList)] else []) ++ joinF p cmpD ((A.map (·.data.toList)).length + (C.map (·.data.toList)).length) ((A.map (·.data.toList)).drop i) ((C.map (·.data.toList)).drop (k + 1))) := Lib.hid (join_gt HE.out.1 DY.out ORD.out)
          cases rt with
          | true =>
            have qb1 : IntKind.i64.wrap ((k : Int) + 1) = (k : Int) + 1 := IntWalk.i64_in _ (by omega)
            have qb2 : ¬ cc = k := by omega
            have qb3 : (k : Int) + 1 ≤ (cc : Int) := by omega
            have qb4 : 0 ≤ (k : Int) + 1 := by omega
            obtain ⟨u, hu⟩ : ∃ u, bA (putL p none (some y.data.toList)) = u := ⟨_, rfl⟩
            have HU := Lib.hid hu
            have RW := Lib.hid (fun W' (hb : Below wr.heap.size wr W') => printedb_any p y g2 (o2 + k) (cc - k) f1 f2 sep lf true pr em a q cap W' HP.out (HO.out.below (BR.out.trans (hb.mono BR.out.size))) HQ.out (kp hb (kp BR.out C2.out)) SY.out HS.out.2.2.1 hql HF.out.1 HF.out.2.1 HF.out.2.2)
            rw [hu] at RW
            obtain ⟨PL, hPL⟩ : ∃ PL, D.map bA = PL := ⟨_, rfl⟩
            have HPL := Lib.hid hPL
            have PLN : Hid (PL.length ≤ 1048576) := Lib.hid (by rw [← hPL, List.length_map]; have := HE.out.2; omega)
            have O0 : Hid (OwnS wr w1.heap.size u9 PL) := Lib.hid (by rw [← hPL]; exact OW.out)
            clear hu hPL
            go_wp2_with fail
            go_region_law (first | (go_simp; (go_at_call 41; refine (RW.out _ (Below.refl wr.heap.size wr).drew).mono ?_; rintro _ w8 ⟨rfl, B8⟩; have Q8 := Lib.hid ((Below.refl wr.heap.size wr).drew.trans (B8.out.mono (Below.refl wr.heap.size wr).drew.size)); have O8 := Lib.hid (own_below O0.out Q8.out); have BK8 := Lib.hid (BK.out.trans (Q8.out.mono BK.out.size)))) | (refine step_outS rfl (.tmp 79) (.tmp 87) rfl u9 PL u w1.heap.size w8 O8.out BK8.out.size PLN.out (by simp [Act.eval]) (by simp [Act.eval]) ?_; intro g9 c9 w9 own9 gr9 hX9 lt9; have O9 := Lib.hid own9; have BK9 := Lib.hid (BK8.out.grown gr9 BK8.out.size (fun k hk => (O8.out.lt k hk).1)); clear own9 gr9 hX9 lt9))
            all_goals go_wp2_with fail
            all_goals
              go_roundw
              case rel => exact ⟨i, k + 1, D ++ [putL p none (some y.data.toList)], rfl, by go_num, hi, by omega, Lib.hid (by rw [List.map_append]; show OwnS _ _ _ (_ ++ [bA (putL p none (some y.data.toList))]); rw [HPL.out, HU.out]; exact O9.out), BK9, Lib.hid ⟨by rw [EL.out, EF.out.2.2.2.2.1]; rfl, by have := HE.out.2; rw [List.length_append, List.length_singleton]; omega⟩⟩
              case measure => simp [intOf]; omega
          | false =>
            go_wp2_with fail
            go_roundw
            case rel => exact ⟨i, k + 1, D, rfl, by go_num, hi, by omega, OW, BK, Lib.hid ⟨by rw [EL.out, EF.out.2.2.2.2.1]; simp, by have := HE.out.2; omega⟩⟩
            case measure => simp [intOf]; omega
        · obtain rfl : k = nc := by omega
          have ED : D = joinL p cmpD (A.map (·.data.toList)) (C.map (·.data.toList)) := by rw [HE.out.1, show (A.map (·.data.toList)).drop i = [] from List.drop_eq_nil_of_le (by rw [List.length_map, HNA.out]; exact Nat.le_refl _), show (C.map (·.data.toList)).drop k = [] from List.drop_eq_nil_of_le (by rw [List.length_map, HNC.out]; exact Nat.le_refl _), joinF_nil, List.append_nil]
          have ST : Hid (Strs wr u9 ((joinL p cmpD (A.map (·.data.toList)) (C.map (·.data.toList))).map bA)) := Lib.hid (by rw [← ED]; exact OW.out.strs)
          clear ED OW HE
          go_wp2_with fail
          go_ret
          exact ⟨_, rfl, ST, Lib.hid (BW1.out.trans (BK.out.mono BW1.out.size))⟩
/- the law JoinLines (written by gen_pff.py) -/
set_option maxRecDepth 100000 in
set_option maxHeartbeats 16000000 in
theorem law_jlines (p : Sp) (A C : List ByteArray) (va vc : Value) (f1 f2 sep m : Int) (lf rt pr : Bool) (em : ByteArray) (a : Option Addr) (q cap : Nat) (w : World) (hp : p = ⟨f1, f2, sep, lf, rt, pr, em.data.toList, p.out⟩) (hm : w.cell? ⟨0, 0, none⟩ = some (.int .i64 m))
    (hO : RowsAt w (.slice a q cap) 2 (outR p)) (hq : p.out.length = q) (hz : em.size ≤ 9223372036854775806) (hA : Strs w va A) (hC : Strs w vc C) (sA : ∀ x ∈ A, x.size ≤ 9223372036854775807) (sC : ∀ x ∈ C, x.size ≤ 9223372036854775807) :
    Calls Tryd.prog 4 #[.agg #[.int .i64 f1, .int .i64 f2, .int .i64 sep, .bool lf, .bool rt, .bool pr, .string em, .slice a q cap], va, vc] w fun e w' => e = .returned (.bool true) ∧ Below w.heap.size w w' := by
  have B0 : Hid (Below w.heap.size w (w.alloc (.cells #[.int .i64 f1, .int .i64 f2, .int .i64 sep, .bool lf, .bool rt, .bool pr, .string em, .slice a q cap] 36))) := Lib.hid ((Below.refl _ _).alloc (Nat.le_refl _) _)
  have N0 := heap_alloc_new w (.cells #[.int .i64 f1, .int .i64 f2, .int .i64 sep, .bool lf, .bool rt, .bool pr, .string em, .slice a q cap] 36)
  have Y0 : Hid ((w.alloc (.cells #[.int .i64 f1, .int .i64 f2, .int .i64 sep, .bool lf, .bool rt, .bool pr, .string em, .slice a q cap] 36)).cell? ⟨w.heap.size, 0, none⟩ = some (.int .i64 f1)) := Lib.hid (blk_cellx N0 0 _ rfl)
  have Y1 : Hid ((w.alloc (.cells #[.int .i64 f1, .int .i64 f2, .int .i64 sep, .bool lf, .bool rt, .bool pr, .string em, .slice a q cap] 36)).cell? ⟨w.heap.size, 1, none⟩ = some (.int .i64 f2)) := Lib.hid (blk_cellx N0 1 _ rfl)
  have Y2 : Hid ((w.alloc (.cells #[.int .i64 f1, .int .i64 f2, .int .i64 sep, .bool lf, .bool rt, .bool pr, .string em, .slice a q cap] 36)).cell? ⟨w.heap.size, 2, none⟩ = some (.int .i64 sep)) := Lib.hid (blk_cellx N0 2 _ rfl)
  have Y3 : Hid ((w.alloc (.cells #[.int .i64 f1, .int .i64 f2, .int .i64 sep, .bool lf, .bool rt, .bool pr, .string em, .slice a q cap] 36)).cell? ⟨w.heap.size, 3, none⟩ = some (.bool lf)) := Lib.hid (blk_cellx N0 3 _ rfl)
  have Y4 : Hid ((w.alloc (.cells #[.int .i64 f1, .int .i64 f2, .int .i64 sep, .bool lf, .bool rt, .bool pr, .string em, .slice a q cap] 36)).cell? ⟨w.heap.size, 4, none⟩ = some (.bool rt)) := Lib.hid (blk_cellx N0 4 _ rfl)
  have Y5 : Hid ((w.alloc (.cells #[.int .i64 f1, .int .i64 f2, .int .i64 sep, .bool lf, .bool rt, .bool pr, .string em, .slice a q cap] 36)).cell? ⟨w.heap.size, 5, none⟩ = some (.bool pr)) := Lib.hid (blk_cellx N0 5 _ rfl)
  have Y6 : Hid ((w.alloc (.cells #[.int .i64 f1, .int .i64 f2, .int .i64 sep, .bool lf, .bool rt, .bool pr, .string em, .slice a q cap] 36)).cell? ⟨w.heap.size, 6, none⟩ = some (.string em)) := Lib.hid (blk_cellx N0 6 _ rfl)
  have Y7 : Hid ((w.alloc (.cells #[.int .i64 f1, .int .i64 f2, .int .i64 sep, .bool lf, .bool rt, .bool pr, .string em, .slice a q cap] 36)).cell? ⟨w.heap.size, 7, none⟩ = some (.slice a q cap)) := Lib.hid (blk_cellx N0 7 _ rfl)
  have HO := Lib.hid hO
  have HA := Lib.hid hA
  have HC := Lib.hid hC
  have HM := Lib.hid hm
  have SA := Lib.hid sA
  have SC := Lib.hid sC
  have HQ := Lib.hid hq
  have HP := Lib.hid hp
  have ql : q ≤ 1073741824 * 1073741824 * 8 := by
    obtain ⟨_, _, e, h1, h2⟩ := RowsAt.slice hO
    unfold maxLen at h2
    simp only [Value.slice.injEq] at e
    omega
  obtain ⟨c, hc⟩ : ∃ c, chkJ p = c := ⟨_, rfl⟩
  have CKR := Lib.hid (fun W (h : Below (w.alloc (.cells #[.int .i64 f1, .int .i64 f2, .int .i64 sep, .bool lf, .bool rt, .bool pr, .string em, .slice a q cap] 36)).heap.size (w.alloc (.cells #[.int .i64 f1, .int .i64 f2, .int .i64 sep, .bool lf, .bool rt, .bool pr, .string em, .slice a q cap] 36)) W) => rjcheck_any p f1 f2 sep lf rt pr em a q cap W hp (hO.below (B0.out.trans (h.mono B0.out.size))) hq hz (Lib.hid hc))
  have CKJ := Lib.hid (fun W (h : Below (w.alloc (.cells #[.int .i64 f1, .int .i64 f2, .int .i64 sep, .bool lf, .bool rt, .bool pr, .string em, .slice a q cap] 36)).heap.size (w.alloc (.cells #[.int .i64 f1, .int .i64 f2, .int .i64 sep, .bool lf, .bool rt, .bool pr, .string em, .slice a q cap] 36)) W) => jcheck_any p f1 f2 sep lf rt pr em a q cap W hp (hO.below (B0.out.trans (h.mono B0.out.size))) hq hz (Lib.hid hc))
  obtain ⟨fa, hfa⟩ : ∃ fa, fewB A = fa := ⟨_, rfl⟩
  obtain ⟨fc, hfc⟩ : ∃ fc, fewB C = fc := ⟨_, rfl⟩
  have FA := Lib.hid hfa
  have FC := Lib.hid hfc
  have CE : Hid (∀ w', Below (w.alloc (.cells #[.int .i64 f1, .int .i64 f2, .int .i64 sep, .bool lf, .bool rt, .bool pr, .string em, .slice a q cap] 36)).heap.size (w.alloc (.cells #[.int .i64 f1, .int .i64 f2, .int .i64 sep, .bool lf, .bool rt, .bool pr, .string em, .slice a q cap] 36)) w' → Below (w.alloc (.cells #[.int .i64 f1, .int .i64 f2, .int .i64 sep, .bool lf, .bool rt, .bool pr, .string em, .slice a q cap] 36)).heap.size (w.alloc (.cells #[.int .i64 f1, .int .i64 f2, .int .i64 sep, .bool lf, .bool rt, .bool pr, .string em, .slice a q cap] 36)) w' ∧ w'.cell? ⟨w.heap.size, 0, none⟩ = some (.int .i64 f1) ∧ w'.cell? ⟨w.heap.size, 1, none⟩ = some (.int .i64 f2) ∧ w'.cell? ⟨w.heap.size, 2, none⟩ = some (.int .i64 sep) ∧ w'.cell? ⟨w.heap.size, 3, none⟩ = some (.bool lf) ∧ w'.cell? ⟨w.heap.size, 4, none⟩ = some (.bool rt) ∧ w'.cell? ⟨w.heap.size, 5, none⟩ = some (.bool pr) ∧ w'.cell? ⟨w.heap.size, 6, none⟩ = some (.string em) ∧ w'.cell? ⟨w.heap.size, 7, none⟩ = some (.slice a q cap)) := Lib.hid (fun w' h => ⟨h, kp h Y0.out, kp h Y1.out, kp h Y2.out, kp h Y3.out, kp h Y4.out, kp h Y5.out, kp h Y6.out, kp h Y7.out⟩)
  have S0 := CE.out _ (Below.refl (w.alloc (.cells #[.int .i64 f1, .int .i64 f2, .int .i64 sep, .bool lf, .bool rt, .bool pr, .string em, .slice a q cap] 36)).heap.size (w.alloc (.cells #[.int .i64 f1, .int .i64 f2, .int .i64 sep, .bool lf, .bool rt, .bool pr, .string em, .slice a q cap] 36))).drew
  clear N0 hO hA hC hm sA sC hq hp hc hfa hfc
  cases fa with
  | false =>
    go_enter Tryd.func4, Tryd.ntmps4
    go_wp2_with fail
    go_region_held3 (fun w' => Below (w.alloc (.cells #[.int .i64 f1, .int .i64 f2, .int .i64 sep, .bool lf, .bool rt, .bool pr, .string em, .slice a q cap] 36)).heap.size (w.alloc (.cells #[.int .i64 f1, .int .i64 f2, .int .i64 sep, .bool lf, .bool rt, .bool pr, .string em, .slice a q cap] 36)) w' ∧ w'.cell? ⟨w.heap.size, 0, none⟩ = some (.int .i64 f1) ∧ w'.cell? ⟨w.heap.size, 1, none⟩ = some (.int .i64 f2) ∧ w'.cell? ⟨w.heap.size, 2, none⟩ = some (.int .i64 sep) ∧ w'.cell? ⟨w.heap.size, 3, none⟩ = some (.bool lf) ∧ w'.cell? ⟨w.heap.size, 4, none⟩ = some (.bool rt) ∧ w'.cell? ⟨w.heap.size, 5, none⟩ = some (.bool pr) ∧ w'.cell? ⟨w.heap.size, 6, none⟩ = some (.string em) ∧ w'.cell? ⟨w.heap.size, 7, none⟩ = some (.slice a q cap)) (first | exact S0)
      (first | (go_at_call 15; refine (CKJ.out _ S0.1).mono ?_; rintro _ w2 ⟨rfl, B2⟩; have S0 := CE.out _ (S0.1.trans (B2.out.mono S0.1.size))) | (go_at_call 16; refine (CKR.out _ S0.1).mono ?_; rintro _ w2 ⟨rfl, B2⟩; have S0 := CE.out _ (S0.1.trans (B2.out.mono S0.1.size))))
    obtain ⟨S1, y0, y1, y2, y3, y4, y5, y6, y7⟩ := S0
    have BB := Lib.hid S1
    clear S1
    go_wp2_with (first | (go_at_call 17; (first | ((with_reducible refine (few_any A _ _ _ (Strs.below HA.out (B0.out.trans (BB.out.mono B0.out.size))) FA SA.out).mono ?_); rintro _ wf ⟨rfl, hwf⟩; replace hwf := hwf.symm; subst hwf) | ((with_reducible refine (few_any C _ _ _ (Strs.below HC.out (B0.out.trans (BB.out.mono B0.out.size))) FC SC.out).mono ?_); rintro _ wf ⟨rfl, hwf⟩; replace hwf := hwf.symm; subst hwf))) | (go_at_call 14; (with_reducible refine (awake_any m _ (kp (B0.out.trans (BB.out.mono B0.out.size)) HM.out)).mono ?_); rintro _ wz ⟨rfl, BZ⟩))
    go_ret
    exact ⟨rfl, (B0.out.trans (BB.out.mono B0.out.size)).trans (BZ.out.mono (B0.out.trans (BB.out.mono B0.out.size)).size)⟩
  | true =>
  cases fc with
  | false =>
    go_enter Tryd.func4, Tryd.ntmps4
    go_wp2_with fail
    go_region_held3 (fun w' => Below (w.alloc (.cells #[.int .i64 f1, .int .i64 f2, .int .i64 sep, .bool lf, .bool rt, .bool pr, .string em, .slice a q cap] 36)).heap.size (w.alloc (.cells #[.int .i64 f1, .int .i64 f2, .int .i64 sep, .bool lf, .bool rt, .bool pr, .string em, .slice a q cap] 36)) w' ∧ w'.cell? ⟨w.heap.size, 0, none⟩ = some (.int .i64 f1) ∧ w'.cell? ⟨w.heap.size, 1, none⟩ = some (.int .i64 f2) ∧ w'.cell? ⟨w.heap.size, 2, none⟩ = some (.int .i64 sep) ∧ w'.cell? ⟨w.heap.size, 3, none⟩ = some (.bool lf) ∧ w'.cell? ⟨w.heap.size, 4, none⟩ = some (.bool rt) ∧ w'.cell? ⟨w.heap.size, 5, none⟩ = some (.bool pr) ∧ w'.cell? ⟨w.heap.size, 6, none⟩ = some (.string em) ∧ w'.cell? ⟨w.heap.size, 7, none⟩ = some (.slice a q cap)) (first | exact S0)
      (first | (go_at_call 15; refine (CKJ.out _ S0.1).mono ?_; rintro _ w2 ⟨rfl, B2⟩; have S0 := CE.out _ (S0.1.trans (B2.out.mono S0.1.size))) | (go_at_call 16; refine (CKR.out _ S0.1).mono ?_; rintro _ w2 ⟨rfl, B2⟩; have S0 := CE.out _ (S0.1.trans (B2.out.mono S0.1.size))))
    obtain ⟨S1, y0, y1, y2, y3, y4, y5, y6, y7⟩ := S0
    have BB := Lib.hid S1
    clear S1
    go_wp2_with (first | (go_at_call 17; (first | ((with_reducible refine (few_any A _ _ _ (Strs.below HA.out (B0.out.trans (BB.out.mono B0.out.size))) FA SA.out).mono ?_); rintro _ wf ⟨rfl, hwf⟩; replace hwf := hwf.symm; subst hwf) | ((with_reducible refine (few_any C _ _ _ (Strs.below HC.out (B0.out.trans (BB.out.mono B0.out.size))) FC SC.out).mono ?_); rintro _ wf ⟨rfl, hwf⟩; replace hwf := hwf.symm; subst hwf))) | (go_at_call 14; (with_reducible refine (awake_any m _ (kp (B0.out.trans (BB.out.mono B0.out.size)) HM.out)).mono ?_); rintro _ wz ⟨rfl, BZ⟩))
    go_ret
    exact ⟨rfl, (B0.out.trans (BB.out.mono B0.out.size)).trans (BZ.out.mono (B0.out.trans (BB.out.mono B0.out.size)).size)⟩
  | true =>
  by_cases q1 : 40 < q
  · have t1 : decide (40 < q) = true := decide_eq_true q1
    go_enter Tryd.func4, Tryd.ntmps4
    go_wp2_with fail
    go_region_held3 (fun w' => Below (w.alloc (.cells #[.int .i64 f1, .int .i64 f2, .int .i64 sep, .bool lf, .bool rt, .bool pr, .string em, .slice a q cap] 36)).heap.size (w.alloc (.cells #[.int .i64 f1, .int .i64 f2, .int .i64 sep, .bool lf, .bool rt, .bool pr, .string em, .slice a q cap] 36)) w' ∧ w'.cell? ⟨w.heap.size, 0, none⟩ = some (.int .i64 f1) ∧ w'.cell? ⟨w.heap.size, 1, none⟩ = some (.int .i64 f2) ∧ w'.cell? ⟨w.heap.size, 2, none⟩ = some (.int .i64 sep) ∧ w'.cell? ⟨w.heap.size, 3, none⟩ = some (.bool lf) ∧ w'.cell? ⟨w.heap.size, 4, none⟩ = some (.bool rt) ∧ w'.cell? ⟨w.heap.size, 5, none⟩ = some (.bool pr) ∧ w'.cell? ⟨w.heap.size, 6, none⟩ = some (.string em) ∧ w'.cell? ⟨w.heap.size, 7, none⟩ = some (.slice a q cap)) (first | exact S0)
      (first | (go_at_call 15; refine (CKJ.out _ S0.1).mono ?_; rintro _ w2 ⟨rfl, B2⟩; have S0 := CE.out _ (S0.1.trans (B2.out.mono S0.1.size))) | (go_at_call 16; refine (CKR.out _ S0.1).mono ?_; rintro _ w2 ⟨rfl, B2⟩; have S0 := CE.out _ (S0.1.trans (B2.out.mono S0.1.size))))
    obtain ⟨S1, y0, y1, y2, y3, y4, y5, y6, y7⟩ := S0
    have BB := Lib.hid S1
    clear S1
    go_wp2_with (first | (go_at_call 17; (first | ((with_reducible refine (few_any A _ _ _ (Strs.below HA.out (B0.out.trans (BB.out.mono B0.out.size))) FA SA.out).mono ?_); rintro _ wf ⟨rfl, hwf⟩; replace hwf := hwf.symm; subst hwf) | ((with_reducible refine (few_any C _ _ _ (Strs.below HC.out (B0.out.trans (BB.out.mono B0.out.size))) FC SC.out).mono ?_); rintro _ wf ⟨rfl, hwf⟩; replace hwf := hwf.symm; subst hwf))) | (go_at_call 14; (with_reducible refine (awake_any m _ (kp (B0.out.trans (BB.out.mono B0.out.size)) HM.out)).mono ?_); rintro _ wz ⟨rfl, BZ⟩))
    go_ret
    exact ⟨rfl, (B0.out.trans (BB.out.mono B0.out.size)).trans (BZ.out.mono (B0.out.trans (BB.out.mono B0.out.size)).size)⟩
  by_cases z1 : 40 < em.size
  · have t2 : decide (40 < em.size) = true := decide_eq_true z1
    go_enter Tryd.func4, Tryd.ntmps4
    go_wp2_with fail
    go_region_held3 (fun w' => Below (w.alloc (.cells #[.int .i64 f1, .int .i64 f2, .int .i64 sep, .bool lf, .bool rt, .bool pr, .string em, .slice a q cap] 36)).heap.size (w.alloc (.cells #[.int .i64 f1, .int .i64 f2, .int .i64 sep, .bool lf, .bool rt, .bool pr, .string em, .slice a q cap] 36)) w' ∧ w'.cell? ⟨w.heap.size, 0, none⟩ = some (.int .i64 f1) ∧ w'.cell? ⟨w.heap.size, 1, none⟩ = some (.int .i64 f2) ∧ w'.cell? ⟨w.heap.size, 2, none⟩ = some (.int .i64 sep) ∧ w'.cell? ⟨w.heap.size, 3, none⟩ = some (.bool lf) ∧ w'.cell? ⟨w.heap.size, 4, none⟩ = some (.bool rt) ∧ w'.cell? ⟨w.heap.size, 5, none⟩ = some (.bool pr) ∧ w'.cell? ⟨w.heap.size, 6, none⟩ = some (.string em) ∧ w'.cell? ⟨w.heap.size, 7, none⟩ = some (.slice a q cap)) (first | exact S0)
      (first | (go_at_call 15; refine (CKJ.out _ S0.1).mono ?_; rintro _ w2 ⟨rfl, B2⟩; have S0 := CE.out _ (S0.1.trans (B2.out.mono S0.1.size))) | (go_at_call 16; refine (CKR.out _ S0.1).mono ?_; rintro _ w2 ⟨rfl, B2⟩; have S0 := CE.out _ (S0.1.trans (B2.out.mono S0.1.size))))
    obtain ⟨S1, y0, y1, y2, y3, y4, y5, y6, y7⟩ := S0
    have BB := Lib.hid S1
    clear S1
    go_wp2_with (first | (go_at_call 17; (first | ((with_reducible refine (few_any A _ _ _ (Strs.below HA.out (B0.out.trans (BB.out.mono B0.out.size))) FA SA.out).mono ?_); rintro _ wf ⟨rfl, hwf⟩; replace hwf := hwf.symm; subst hwf) | ((with_reducible refine (few_any C _ _ _ (Strs.below HC.out (B0.out.trans (BB.out.mono B0.out.size))) FC SC.out).mono ?_); rintro _ wf ⟨rfl, hwf⟩; replace hwf := hwf.symm; subst hwf))) | (go_at_call 14; (with_reducible refine (awake_any m _ (kp (B0.out.trans (BB.out.mono B0.out.size)) HM.out)).mono ?_); rintro _ wz ⟨rfl, BZ⟩))
    go_ret
    exact ⟨rfl, (B0.out.trans (BB.out.mono B0.out.size)).trans (BZ.out.mono (B0.out.trans (BB.out.mono B0.out.size)).size)⟩
  have FA2 := Lib.hid (few_iff.1 FA.out)
  have FC2 := Lib.hid (few_iff.1 FC.out)
  have JA := fun W vl (hb : Below w.heap.size w W) (hl : DLoc W vl) => join_any p A C va vc vl f1 f2 sep m lf rt pr em a q cap W HP.out (kp hb HM.out) hl (HO.out.below hb) HQ.out (Strs.below HA.out hb) (Strs.below HC.out hb) FA2.out.1 FC2.out.1 FA2.out.2 FC2.out.2 (by omega) (by omega)
  have JB := fun W vl (hb : Below w.heap.size w W) (hl : DLoc W vl) => rjoin_any p A C va vc vl f1 f2 sep m lf rt pr em a q cap W HP.out (kp hb HM.out) hl (HO.out.below hb) HQ.out (Strs.below HA.out hb) (Strs.below HC.out hb) FA2.out.1 FC2.out.1 FA2.out.2 FC2.out.2 (by omega) (by omega)
  obtain ⟨R, hR⟩ : ∃ R, (if chkJ p = 0 then joinL p cmpD (A.map (·.data.toList)) (C.map (·.data.toList)) else []).map bA = R := ⟨_, rfl⟩
  rw [hR] at JA JB
  have JA := Lib.hid JA
  have JB := Lib.hid JB
  clear hR FA2 FC2
  go_enter Tryd.func4, Tryd.ntmps4
  go_wp2_with fail
  go_region_held3 (fun w' => Below (w.alloc (.cells #[.int .i64 f1, .int .i64 f2, .int .i64 sep, .bool lf, .bool rt, .bool pr, .string em, .slice a q cap] 36)).heap.size (w.alloc (.cells #[.int .i64 f1, .int .i64 f2, .int .i64 sep, .bool lf, .bool rt, .bool pr, .string em, .slice a q cap] 36)) w' ∧ w'.cell? ⟨w.heap.size, 0, none⟩ = some (.int .i64 f1) ∧ w'.cell? ⟨w.heap.size, 1, none⟩ = some (.int .i64 f2) ∧ w'.cell? ⟨w.heap.size, 2, none⟩ = some (.int .i64 sep) ∧ w'.cell? ⟨w.heap.size, 3, none⟩ = some (.bool lf) ∧ w'.cell? ⟨w.heap.size, 4, none⟩ = some (.bool rt) ∧ w'.cell? ⟨w.heap.size, 5, none⟩ = some (.bool pr) ∧ w'.cell? ⟨w.heap.size, 6, none⟩ = some (.string em) ∧ w'.cell? ⟨w.heap.size, 7, none⟩ = some (.slice a q cap)) (first | exact S0)
    (first | (go_at_call 15; refine (CKJ.out _ S0.1).mono ?_; rintro _ w2 ⟨rfl, B2⟩; have S0 := CE.out _ (S0.1.trans (B2.out.mono S0.1.size))) | (go_at_call 16; refine (CKR.out _ S0.1).mono ?_; rintro _ w2 ⟨rfl, B2⟩; have S0 := CE.out _ (S0.1.trans (B2.out.mono S0.1.size))))
  obtain ⟨S1, y0, y1, y2, y3, y4, y5, y6, y7⟩ := S0
  have BB := Lib.hid S1
  clear S1
  go_wp2_with (go_at_call 17; (first | ((with_reducible refine (few_any A _ _ _ (Strs.below HA.out (B0.out.trans (BB.out.mono B0.out.size))) FA SA.out).mono ?_); rintro _ wf ⟨rfl, hwf⟩; replace hwf := hwf.symm; subst hwf) | ((with_reducible refine (few_any C _ _ _ (Strs.below HC.out (B0.out.trans (BB.out.mono B0.out.size))) FC SC.out).mono ?_); rintro _ wf ⟨rfl, hwf⟩; replace hwf := hwf.symm; subst hwf)))
  clear y0 y1 y2 y3 y4 y5 y6 y7
  have S0 := CE.out _ BB.out.drew
  go_region_held3 (fun w' => Below (w.alloc (.cells #[.int .i64 f1, .int .i64 f2, .int .i64 sep, .bool lf, .bool rt, .bool pr, .string em, .slice a q cap] 36)).heap.size (w.alloc (.cells #[.int .i64 f1, .int .i64 f2, .int .i64 sep, .bool lf, .bool rt, .bool pr, .string em, .slice a q cap] 36)) w' ∧ w'.cell? ⟨w.heap.size, 0, none⟩ = some (.int .i64 f1) ∧ w'.cell? ⟨w.heap.size, 1, none⟩ = some (.int .i64 f2) ∧ w'.cell? ⟨w.heap.size, 2, none⟩ = some (.int .i64 sep) ∧ w'.cell? ⟨w.heap.size, 3, none⟩ = some (.bool lf) ∧ w'.cell? ⟨w.heap.size, 4, none⟩ = some (.bool rt) ∧ w'.cell? ⟨w.heap.size, 5, none⟩ = some (.bool pr) ∧ w'.cell? ⟨w.heap.size, 6, none⟩ = some (.string em) ∧ w'.cell? ⟨w.heap.size, 7, none⟩ = some (.slice a q cap)) (first | exact S0)
    (first
      | (go_at_call 12; refine (ddefault_any _).mono ?_; rintro _ w3 ⟨vl, rfl, DL, B3⟩; (try replace R10 := Lib.hid (Strs.below R10.out B3.out)); have S0 := CE.out _ (S0.1.trans (B3.out.mono S0.1.size)))
      | (go_at_call 18; (with_reducible refine (JA.out _ _ (B0.out.trans (S0.1.mono B0.out.size)) DL.out).mono ?_); rintro _ w10 ⟨v10, rfl, R10, B10⟩; have S0 := CE.out _ (S0.1.trans (B10.out.mono S0.1.size)))
      | (go_at_call 19; (with_reducible refine (JB.out _ _ (B0.out.trans (S0.1.mono B0.out.size)) DL.out).mono ?_); rintro _ w11 ⟨v11, rfl, R11, B11⟩; have K10 := Lib.hid (Strs.below R10.out B11.out); have S0 := CE.out _ (S0.1.trans (B11.out.mono S0.1.size)))
      | (go_at_call 8; (with_reducible refine (same_eq _ _ R _ K10.out R11.out).mono ?_); rintro _ w12 ⟨rfl, B12⟩; have S0 := CE.out _ (S0.1.trans (B12.out.mono S0.1.size)))
      | (go_at_call 14; (with_reducible refine (awake_any m _ (kp (B0.out.trans (S0.1.mono B0.out.size)) HM.out)).mono ?_); rintro _ wz ⟨rfl, BZ⟩; have S0 := CE.out _ (S0.1.trans (BZ.out.mono S0.1.size))))
  go_wp2_with fail
  go_ret
  exact ⟨rfl, B0.out.trans (S0.1.mono B0.out.size)⟩
end Go.Proofs.YtbhdhcnbagjmcaaDoor
