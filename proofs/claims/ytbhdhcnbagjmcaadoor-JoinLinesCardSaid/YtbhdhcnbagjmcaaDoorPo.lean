/- walks: put: a pair, and a line that is alone (written by gen_pn.py) -/
import Derived.Test.YtbhdhcnbagjmcaaDoorPm
namespace Go.Proofs.YtbhdhcnbagjmcaaDoor
open Go.RowKit Go.Maps Go.WideMaps
open Jn Lcl
set_option maxRecDepth 100000 in
set_option maxHeartbeats 8000000 in
theorem puta_any (p : Sp) (s1 : ByteArray) (g1 o1 : Nat) (R : List ByteArray) (f1 f2 sep m : Int) (lf rt pr : Bool) (em : ByteArray) (a : Option Addr) (q cap : Nat) (vout : Value) (vb pb jb mb B n : Nat) (w : World) (hp : p = ⟨f1, f2, sep, lf, rt, pr, em.data.toList, p.out⟩)
    (H : JS f1 f2 sep m lf rt pr em (.slice a q cap) vout vb pb jb mb B vout.ownBlock (n) w) (hO : RowsAt w (.slice a q cap) 2 (outR p)) (hq : p.out.length = q) (hOb : outR p ≠ [] → ∀ g, (Value.slice a q cap).ownBlock = some g → g < B ∧ g ≠ mb ∧ g ≠ jb) (hR : OwnS w B vout R) (h1 : w.cell? ⟨g1, o1, none⟩ = some (.string s1)) (n1 : some mb ≠ some g1) (z1 : s1.size ≤ 60)
    (hn : n ≤ 1048000) (hem : em.size ≤ 60) (hql : q ≤ 40) (hRl : R.length ≤ 100000) (hf1 : 1 ≤ f1 ∧ f1 ≤ 1024) (hf2 : 1 ≤ f2 ∧ f2 ≤ 1024) (hsep : -1 ≤ sep ∧ sep ≤ 255) :
    Calls Tryd.prog 40 #[.pointer (some ⟨jb, 0, none⟩), .pointer (some ⟨g1, o1, none⟩), .pointer none] w fun e w' => e = .returned (.tuple #[]) ∧ ∃ v', Hid (JS f1 f2 sep m lf rt pr em (.slice a q cap) v' vb pb jb mb B v'.ownBlock (n + 1) w') ∧ Hid (OwnS w' B v' (R ++ [bA (putL p (some s1.data.toList) none)])) ∧ Hid (JG jb mb B w w') := by
  obtain ⟨rn, hrn⟩ : ∃ rn, R.length = rn := ⟨_, rfl⟩
  obtain ⟨av, cv, hvout⟩ := own_sl hR
  rw [hrn] at hvout
  subst hvout
  have e1 : p.f1 = f1 := by rw [hp]
  have e2 : p.f2 = f2 := by rw [hp]
  have e3 : p.sep = sep := by rw [hp]
  have e4 : p.empty = em.data.toList := by rw [hp]
  have HP : Hid (putL p (some s1.data.toList) none = Lib.join (rowG p (fieldsL sep s1.data.toList) ([]) (getL (fieldsL sep s1.data.toList) f1)) (sepL sep)) := Lib.hid (by
    rw [putL_G]
    have x1 : xO p (some s1.data.toList) = fieldsL sep s1.data.toList := by rw [← e3]; rfl
    have x2 : xO p none = [] := by rfl
    have x3 : keyO p (some s1.data.toList) none = getL (fieldsL sep s1.data.toList) f1 := by rw [← e3, ← e1]; rfl
    rw [x1, x2, x3, e3])
  have HE := Lib.hid e4
  have HF := Lib.hid (And.intro e1 e2)
  have HJ := Lib.hid H
  have HO := Lib.hid hO
  have HOb := Lib.hid hOb
  have HQ := Lib.hid hq
  have HR := Lib.hid hR
  have HN := Lib.hid hn
  have HEM := Lib.hid hem
  have HQL := Lib.hid hql
  have HRL := Lib.hid hRl
  have HF1 := Lib.hid hf1
  have HF2 := Lib.hid hf2
  have N1 := Lib.hid n1
  have H1 := Lib.hid h1
  have S1 := Lib.hid (fun W N (h : JS f1 f2 sep m lf rt pr em (.slice a q cap) (.slice av rn cv) vb pb jb mb B (Value.slice av rn cv).ownBlock (N) W) (hN : N ≤ 1048576) => h.split s1 hN (Nat.le_trans z1 (by omega)))
  have LX : Hid (∀ x ∈ fieldsL sep s1.data.toList, x.length ≤ 60) := Lib.hid (fun x hx => Nat.le_trans (fieldsL_sz hx) (by simpa using z1))
  have CX : Hid ((fieldsL sep s1.data.toList).length ≤ 61) := Lib.hid (fieldsL_61 _ z1)
  obtain ⟨XL, hXL⟩ : ∃ XL, fieldsL sep s1.data.toList = XL := ⟨_, rfl⟩
  rw [hXL] at HP S1 LX CX
  clear h1 n1 z1 hXL
  have ca := H1.out
  clear hrn hp H hO hq hOb hR hn hem hRl hf1 hf2 e1 e2 e3 e4
  go_enter Tryd.func40, Tryd.ntmps40
  go_wp2_with (first
    | (go_at_call 37; (with_reducible refine (S1.out _ _ HJ.out (Nat.le_trans HN.out (by omega))).mono ?_); rintro _ w2 ⟨vx, rfl, X2, J2, G2⟩; have k0 : w2.cell? ⟨jb, 0, none⟩ = some (.int .i64 f1) := blk_cellx J2.out.hj 0 _ rfl; have k7 : w2.cell? ⟨jb, 7, none⟩ = some (.slice a q cap) := blk_cellx J2.out.hj 7 _ rfl)
    | (go_at_call 28; (with_reducible refine (get_any XL _ f1 _ X2.out.1).mono ?_); rintro _ w3 ⟨rfl, h3⟩; replace h3 := h3.symm; subst h3))
  have GG : Hid (w.grownBy w2 (some mb)) := G2
  have XX : Hid (LSt w2 vx XL) := Lib.hid X2.out.1
  have YY : Hid (LSt w2 (.slice none 0 0) []) := Lib.hid (Strs.empty _)
  have LY : Hid (∀ x ∈ ([] : List (List UInt8)), x.length ≤ 60) := Lib.hid (fun x hx => by cases hx)
  have CY : Hid (([] : List (List UInt8)).length ≤ 61) := Lib.hid (Nat.zero_le _)
  clear ca X2 G2 S1 H1 N1
  have RR : Hid (OwnS w2 B (.slice av rn cv) R) := Lib.hid (HR.out.kept GG.out (.inr (fun e => by have := (HR.out.lt mb e).1; have := HJ.out.bm; omega)))
  have OO : Hid (RowsAt w2 (.slice a q cap) 2 (outR p)) := Lib.hid (HO.out.kept (fun hne g hg => GG.out.block g (Nat.lt_of_lt_of_le (HOb.out hne g hg).1 HJ.out.bw) (fun e => (HOb.out hne g hg).2.1 (Option.some.inj e))) GG.out.size)
  have LKY : Hid ((getL XL f1).length ≤ 60) := Lib.hid (getL_sz LX.out _)
  obtain ⟨key, hkey⟩ : ∃ k, getL XL f1 = k := ⟨_, rfl⟩
  rw [hkey] at HP LKY ⊢
  clear hkey HR HO
  go_loopw [9, 48] (fun v i wr => ∃ (j : Nat) (R2 : List (List UInt8)), j ≤ q ∧ i = .int .i64 j ∧ Hid (R2 = (p.out.take j).map (outF p XL ([] : List (List UInt8)) key)) ∧ Hid (OwnS wr w2.heap.size v (R2.map bA)) ∧ Hid (Below w2.heap.size w2 wr)) (fun _ i _ => q - (intOf i).toNat)
  case atStart => exact ⟨0, [], Nat.zero_le _, rfl, Lib.hid rfl, Lib.hid (OwnS.none _ _), Lib.hid (Below.refl _ _)⟩
  case round =>
    obtain ⟨j, R2, hj, rfl, HR2, OW, BK⟩ := hrel
    by_cases hlt : j < q
    · obtain ⟨x, hx⟩ : ∃ x, p.out[j]? = some x := ⟨_, List.getElem?_eq_getElem (by rw [HQ.out]; exact hlt)⟩
      obtain ⟨g, o, rfl, hcc⟩ := OO.out.at (j := j) (x := [.int .i64 x.1, .int .i64 x.2]) (by rw [List.getElem?_map, hx]; rfl)
      have c0 := kp BK.out (hcc 0 _ rfl)
      have c1 := kp BK.out (hcc 1 _ rfl)
      rw [Nat.add_zero] at c0
      obtain ⟨xf, xd⟩ := x
      simp only at c0 c1
      have c6 : wr.cell? ⟨jb, 6, none⟩ = some (.string em) := kp BK.out (blk_cellx J2.out.hj 6 _ rfl)
      have BX := Lib.hid (BK.out.alloc BK.out.size (.cells #[.int .i64 xf, .int .i64 xd] 48))
      have OX := Lib.hid (own_below OW.out ((Below.refl _ _).alloc (Nat.le_refl _) (.cells #[.int .i64 xf, .int .i64 xd] 48)))
      have BXX := Lib.hid ((Below.refl wr.heap.size wr).alloc (Nat.le_refl _) (.cells #[.int .i64 xf, .int .i64 xd] 48))
      have c6x := kp BXX.out c6
      have LL : Hid ((R2.map bA).length ≤ 1048577) := Lib.hid (by rw [List.length_map, HR2.out, List.length_map, List.length_take]; have := HQL.out; omega)
      have p0 : (0 : Int) ≤ (j : Int) := by omega
      have p1 : (j : Int) < (q : Int) := by omega
      have TK : ∀ u : List UInt8, outF p XL ([] : List (List UInt8)) key (xf, xd) = u → R2 ++ [u] = (p.out.take (j + 1)).map (outF p XL ([] : List (List UInt8)) key) := fun u e => by
        rw [List.take_add_one, hx, List.map_append, HR2.out, ← e]; rfl
      have TK := Lib.hid TK
      clear hx hcc HR2 OW
      by_cases x1 : xf = 1
      · subst x1
        obtain ⟨z, hz⟩ : ∃ z, getL XL xd = z := ⟨_, rfl⟩
        have GX := Lib.hid (fun W h => get_any XL vx xd W h)
        rw [hz] at GX
        by_cases h0 : z = []
        · subst h0
          have HW : Hid (outF p XL ([] : List (List UInt8)) key (1, xd) = p.empty) := Lib.hid (by unfold outF; simp [hz])
          clear hz
          go_wp2_with (first | (go_at_call 28; (with_reducible refine (GX.out _ (XX.out.below BX.out)).mono ?_); rintro _ w3 ⟨rfl, h3⟩; replace h3 := h3.symm; subst h3) | (first | (at_builtin; refine append_strs rfl _ _ rfl _ (R2.map bA) (em) w2.heap.size w2 _ OX.out BX.out BX.out.size LL.out (by simp [Act.eval]) (by simp [Act.eval]) ?_; intro v2 w4 own2 bel2) | go_in))
          go_roundw
          case rel => exact ⟨j + 1, R2 ++ [p.empty], by omega, by go_num, Lib.hid (TK.out _ HW.out), Lib.hid (by rw [List.map_append]; show OwnS _ _ _ (_ ++ [bA p.empty]); rw [HE.out, bA_data]; exact own2.out), bel2⟩
          case measure => simp [intOf] <;> omega
        · have HW : Hid (outF p XL ([] : List (List UInt8)) key (1, xd) = z) := Lib.hid (by unfold outF; simp [hz, h0])
          have ht : ((bA z).toList == []) = false := by rw [size_ne]; exact decide_eq_false (fun e => h0 (List.length_eq_zero_iff.1 e))
          clear hz
          obtain ⟨u, hu⟩ : ∃ u, bA z = u := ⟨_, rfl⟩
          have HU := Lib.hid hu
          rw [hu] at ht GX
          clear hu h0
          go_wp2_with (first | (go_at_call 28; (with_reducible refine (GX.out _ (XX.out.below BX.out)).mono ?_); rintro _ w3 ⟨rfl, h3⟩; replace h3 := h3.symm; subst h3) | (first | (at_builtin; refine append_strs rfl _ _ rfl _ (R2.map bA) (u) w2.heap.size w2 _ OX.out BX.out BX.out.size LL.out (by simp [Act.eval]) (by simp [Act.eval]) ?_; intro v2 w4 own2 bel2) | go_in))
          go_roundw
          case rel => exact ⟨j + 1, R2 ++ [z], by omega, by go_num, Lib.hid (TK.out _ HW.out), Lib.hid (by rw [List.map_append]; show OwnS _ _ _ (_ ++ [bA z]); rw [HU.out]; exact own2.out), bel2⟩
          case measure => simp [intOf] <;> omega
      · by_cases x2 : xf = 2
        · subst x2
          obtain ⟨z, hz⟩ : ∃ z, getL ([] : List (List UInt8)) xd = z := ⟨_, rfl⟩
          have GX := Lib.hid (fun W h => get_any ([] : List (List UInt8)) (.slice none 0 0) xd W h)
          rw [hz] at GX
          by_cases h0 : z = []
          · subst h0
            have HW : Hid (outF p XL ([] : List (List UInt8)) key (2, xd) = p.empty) := Lib.hid (by unfold outF; simp [hz])
            clear hz
            go_wp2_with (first | (go_at_call 28; (with_reducible refine (GX.out _ (YY.out.below BX.out)).mono ?_); rintro _ w3 ⟨rfl, h3⟩; replace h3 := h3.symm; subst h3) | (first | (at_builtin; refine append_strs rfl _ _ rfl _ (R2.map bA) (em) w2.heap.size w2 _ OX.out BX.out BX.out.size LL.out (by simp [Act.eval]) (by simp [Act.eval]) ?_; intro v2 w4 own2 bel2) | go_in))
            go_roundw
            case rel => exact ⟨j + 1, R2 ++ [p.empty], by omega, by go_num, Lib.hid (TK.out _ HW.out), Lib.hid (by rw [List.map_append]; show OwnS _ _ _ (_ ++ [bA p.empty]); rw [HE.out, bA_data]; exact own2.out), bel2⟩
            case measure => simp [intOf] <;> omega
          · have HW : Hid (outF p XL ([] : List (List UInt8)) key (2, xd) = z) := Lib.hid (by unfold outF; simp [hz, h0])
            have ht : ((bA z).toList == []) = false := by rw [size_ne]; exact decide_eq_false (fun e => h0 (List.length_eq_zero_iff.1 e))
            clear hz
            obtain ⟨u, hu⟩ : ∃ u, bA z = u := ⟨_, rfl⟩
            have HU := Lib.hid hu
            rw [hu] at ht GX
            clear hu h0
            go_wp2_with (first | (go_at_call 28; (with_reducible refine (GX.out _ (YY.out.below BX.out)).mono ?_); rintro _ w3 ⟨rfl, h3⟩; replace h3 := h3.symm; subst h3) | (first | (at_builtin; refine append_strs rfl _ _ rfl _ (R2.map bA) (u) w2.heap.size w2 _ OX.out BX.out BX.out.size LL.out (by simp [Act.eval]) (by simp [Act.eval]) ?_; intro v2 w4 own2 bel2) | go_in))
            go_roundw
            case rel => exact ⟨j + 1, R2 ++ [z], by omega, by go_num, Lib.hid (TK.out _ HW.out), Lib.hid (by rw [List.map_append]; show OwnS _ _ _ (_ ++ [bA z]); rw [HU.out]; exact own2.out), bel2⟩
            case measure => simp [intOf] <;> omega
        · have t1 : (xf == 1) = false := beq_eq_false_iff_ne.2 x1
          have t2 : (xf == 2) = false := beq_eq_false_iff_ne.2 x2
          by_cases h0 : key = []
          · subst h0
            have HW : Hid (outF p XL ([] : List (List UInt8)) [] (xf, xd) = p.empty) := Lib.hid (by unfold outF; simp [x1, x2])
            
            go_wp2_with (first | fail | (first | (at_builtin; refine append_strs rfl _ _ rfl _ (R2.map bA) (em) w2.heap.size w2 _ OX.out BX.out BX.out.size LL.out (by simp [Act.eval]) (by simp [Act.eval]) ?_; intro v2 w4 own2 bel2) | go_in))
            go_roundw
            case rel => exact ⟨j + 1, R2 ++ [p.empty], by omega, by go_num, Lib.hid (TK.out _ HW.out), Lib.hid (by rw [List.map_append]; show OwnS _ _ _ (_ ++ [bA p.empty]); rw [HE.out, bA_data]; exact own2.out), bel2⟩
            case measure => simp [intOf] <;> omega
          · have HW : Hid (outF p XL ([] : List (List UInt8)) key (xf, xd) = key) := Lib.hid (by unfold outF; simp [ h0, x1, x2])
            have ht : ((bA key).toList == []) = false := by rw [size_ne]; exact decide_eq_false (fun e => h0 (List.length_eq_zero_iff.1 e))
            
            obtain ⟨u, hu⟩ : ∃ u, bA key = u := ⟨_, rfl⟩
            have HU := Lib.hid hu
            rw [hu] at ht ⊢
            clear hu h0
            go_wp2_with (first | fail | (first | (at_builtin; refine append_strs rfl _ _ rfl _ (R2.map bA) (u) w2.heap.size w2 _ OX.out BX.out BX.out.size LL.out (by simp [Act.eval]) (by simp [Act.eval]) ?_; intro v2 w4 own2 bel2) | go_in))
            go_roundw
            case rel => exact ⟨j + 1, R2 ++ [key], by omega, by go_num, Lib.hid (TK.out _ HW.out), Lib.hid (by rw [List.map_append]; show OwnS _ _ _ (_ ++ [bA key]); rw [HU.out]; exact own2.out), bel2⟩
            case measure => simp [intOf] <;> omega
    · obtain rfl : j = q := by omega
      have ER : Hid (R2 = p.out.map (outF p XL ([] : List (List UInt8)) key)) := Lib.hid (by rw [HR2.out, List.take_of_length_le (by rw [HQ.out]; exact Nat.le_refl _)])
      have d7 : wr.cell? ⟨jb, 7, none⟩ = some (.slice a j cap) := kp BK.out k7
      have RSZ : Hid (∀ x ∈ rowG p XL ([] : List (List UInt8)) key, x.length ≤ 60) := Lib.hid (rowG_sz LX.out LY.out LKY.out (by rw [HE.out]; simpa using HEM.out))
      have RLN : Hid ((rowG p XL ([] : List (List UInt8)) key).length ≤ 123) := Lib.hid (rowG_len CX.out CY.out (by rw [HQ.out]; exact HQL.out))
      by_cases ho : p.out = []
      · obtain rfl : j = 0 := by rw [← HQ.out, ho]; rfl
        obtain ⟨R3, hR3⟩ : ∃ R3, key :: (othL f1 0 XL ++ othL f2 0 ([] : List (List UInt8))) = R3 := ⟨_, rfl⟩
        have HR3 := Lib.hid hR3
        have EG : Hid (rowG p XL ([] : List (List UInt8)) key = R3) := Lib.hid (by unfold rowG; rw [if_pos ho, HF.out.1, HF.out.2]; exact hR3)
        have BX0 := Lib.hid ((Below.refl wr.heap.size wr).alloc (Nat.le_refl _) (.cells #[.string (bA key)] 9))
        have BX1 := Lib.hid (BK.out.trans (BX0.out.mono BK.out.size))
        have d0 : (wr.alloc (.cells #[.string (bA key)] 9)).cell? ⟨jb, 0, none⟩ = some (.int .i64 f1) := kp BX1.out (blk_cellx J2.out.hj 0 _ rfl)
        have OX1 := Lib.hid (fun W (h : LSt W vx XL) => others_any XL vx f1 W h HF1.out (Nat.le_trans CX.out (by omega)))
        have OY1 := Lib.hid (fun W (h : LSt W (.slice none 0 0) ([] : List (List UInt8))) => others_any ([] : List (List UInt8)) (.slice none 0 0) f2 W h HF2.out (Nat.le_trans CY.out (by omega)))
        have LX2 : Hid ((othL f1 0 XL).length ≤ 61) := Lib.hid (Nat.le_trans (othL_len _ _ _) CX.out)
        have LY2 : Hid ((othL f2 0 ([] : List (List UInt8))).length ≤ 61) := Lib.hid (Nat.le_trans (othL_len _ _ _) CY.out)
        clear hR3 ER HR2 OW ho
        go_upto_region 24 with (first
          | (go_at_call 55; (first
              | ((with_reducible refine (OX1.out _ (XX.out.below BX1.out)).mono ?_); rintro _ w4 ⟨v4, rfl, OW4, B4⟩; have BL4 := Lib.hid (BX0.out.trans (B4.out.mono BX0.out.size)))
              | ((with_reducible refine (OY1.out _ (YY.out.below BW5.out)).mono ?_); rintro _ w6 ⟨v6, rfl, OW6, B6⟩; have BL6 := Lib.hid (bel5.out.trans (B6.out.mono bel5.out.size)))))
          | (at_builtin; (first
              | (refine append_listS rfl _ _ rfl _ _ [bA key] ((othL f1 0 XL).map bA) wr.heap.size _ wr w4 (own_below (own_lit wr (bA key)) B4.out) OW4.out BL4.out BL4.out.size (by rw [List.length_map]; have := LX2.out; simp; omega) (by simp [Act.eval]) (by simp [Act.eval]) ?_; intro v5 w5 own5 bel5; have BW5 := Lib.hid (BK.out.trans (bel5.out.mono BK.out.size)); have d1 : w5.cell? ⟨jb, 1, none⟩ = some (.int .i64 f2) := kp BW5.out (blk_cellx J2.out.hj 1 _ rfl))
              | (refine append_listS rfl _ _ rfl _ _ ([bA key] ++ (othL f1 0 XL).map bA) ((othL f2 0 ([] : List (List UInt8))).map bA) wr.heap.size _ wr w6 (own_below own5.out B6.out) OW6.out BL6.out BL6.out.size (by rw [List.length_append, List.length_map, List.length_map]; have := LX2.out; have := LY2.out; simp; omega) (by simp [Act.eval]) (by simp [Act.eval]) ?_; intro vl wl ownl bell))))
        have OL : OwnS wl wr.heap.size vl (R3.map bA) := by
          have e : [bA key] ++ (othL f1 0 XL).map bA ++ (othL f2 0 ([] : List (List UInt8))).map bA = R3.map bA := by rw [← HR3.out]; simp
          rw [← e]; exact ownl.out
        have BWL := Lib.hid (BK.out.trans (bell.out.mono BK.out.size))
        obtain ⟨gl, nl, cl, rfl, hnl, hcl⟩ := own_cons OL (fun e => by rw [List.map_eq_nil_iff, ← HR3.out] at e; exact absurd e (List.cons_ne_nil _ _))
        clear own5 ownl OW4 OW6
        have RW := Lib.hid (own_below RR.out BWL.out)
        have JW := Lib.hid (J2.out.below BWL.out)
        have d9 : wl.cell? ⟨jb, 9, none⟩ = some (.slice av rn cv) := blk_cellx JW.out.hj 9 _ rfl
        have d2 : wl.cell? ⟨jb, 2, none⟩ = some (.int .i64 sep) := blk_cellx JW.out.hj 2 _ rfl
        have GW := Lib.hid ((JG.map (jb := jb) (B := B) GG.out HJ.out.bw).trans (JG.below BWL.out (Nat.le_trans HJ.out.bw GG.out.size)))
        have ZL : (Lib.join R3 (sepL sep)).length ≤ 140737488355328 := by
          have h1 := join_len R3 (sepL sep) 60 (by rw [← EG.out]; exact RSZ.out)
          have h2 := RLN.out
          rw [EG.out] at h2
          rw [sepL_len] at h1
          exact Nat.le_trans h1 (Nat.le_trans (Nat.mul_le_mul_right _ h2) (by omega))
        have JN := fun W' => join_of R3 (sepL sep) gl nl cl wr.heap.size wl W' OL hnl hcl ZL (by have := RLN.out; rw [EG.out] at this; omega)
        obtain ⟨u, hu⟩ : ∃ u, bA (Lib.join R3 (sepL sep)) = u := ⟨_, rfl⟩
        have HPU : Hid (bA (putL p (some s1.data.toList) none) = u) := Lib.hid (by rw [HP.out, EG.out]; exact hu)
        rw [hu] at JN
        clear ZL hu
        by_cases h0 : 0 ≤ sep
        · have t0 : decide (0 ≤ sep) = true := decide_eq_true h0
          have CV := tx_conv_one sep wl
          have e : strOfNums [sep] = bA (sepL sep) := by
            unfold sepL
            rw [if_pos h0]
            obtain ⟨k, rfl⟩ : ∃ k : Nat, sep = k := ⟨sep.toNat, by omega⟩
            simp [strOfNums]
          rw [e] at CV
          obtain ⟨sb, hsb⟩ : ∃ sb, bA (sepL sep) = sb := ⟨_, rfl⟩
          rw [hsb] at CV JN
          have JN := Lib.hid JN
          have WRP : IntKind.u8.wrap sep = sep := by unfold IntKind.wrap; simp [IntKind.bits, IntKind.signed]; omega
          clear e hsb h0 hsep
          have d9x : (wl.alloc (.cells #[.int .u8 sep] 5)).cell? ⟨jb, 9, none⟩ = some (.slice av rn cv) := kp ((Below.refl wl.heap.size wl).alloc (Nat.le_refl _) (.cells #[.int .u8 sep] 5)) d9
          go_wp2_with fail
          go_region_law (first | (go_simp; (go_at_call 56; refine (JN.out _ (Below.drew ((Below.refl wl.heap.size wl).alloc (Nat.le_refl _) (.cells #[.int .u8 sep] 5)))).mono ?_; rintro _ w7 ⟨rfl, B7⟩; have BW7 := Lib.hid ((Below.drew ((Below.refl wl.heap.size wl).alloc (Nat.le_refl _) (.cells #[.int .u8 sep] 5))).trans (B7.out.mono (((Below.refl wl.heap.size wl).alloc (Nat.le_refl _) (.cells #[.int .u8 sep] 5))).size)); have J7 := Lib.hid (JW.out.below BW7.out); have R7 := Lib.hid (own_below RW.out BW7.out); have GW7 := Lib.hid (GW.out.trans (JG.below BW7.out JW.out.bw)); have d9b : w7.cell? ⟨jb, 9, none⟩ = some (.slice av rn cv) := blk_cellx J7.out.hj 9 _ rfl; have d9a : (w7.alloc (.cells #[.string u] 9)).cell? ⟨jb, 9, none⟩ = some (.slice av rn cv) := kp ((Below.refl _ _).alloc (Nat.le_refl _) _) d9b)) | (refine step_outS rfl (.tmp 123) (.tmp 127) rfl (.slice av rn cv) R u B w7 R7.out J7.out.bw (Nat.le_trans HRL.out (by omega)) (by simp [Act.eval]) (by simp [Act.eval]) ?_; intro g9 c9 w8 own8 gr8 hX8 lt8; have e0 := (gr8.block jb (Nat.lt_of_lt_of_le J7.out.bj J7.out.bw) (fun e => by have := (J7.out.hX jb e.symm).1; have := J7.out.bj; omega)).trans J7.out.hj; have d9c := blk_cellx e0 9 _ rfl; have fd9 : w8.frozen? ⟨jb, 9, none⟩ = false := (by simp [World.frozen?, e0]); have O8 := Lib.hid own8; have G8 := Lib.hid gr8; have X8 := Lib.hid hX8; have L8 := Lib.hid lt8; clear own8 gr8 hX8 lt8))
          all_goals go_wp2_with fail
          all_goals go_end0
          all_goals exact ⟨rfl, _, Lib.hid (JS.setout (v' := .slice (some ⟨g9, 0, none⟩) (R.length + 1) c9) J7.out G8.out X8.out L8.out).1, Lib.hid (by rw [HPU.out]; exact own_set O8.out J7.out.bj), Lib.hid (GW7.out.trans (JS.setout (v' := .slice (some ⟨g9, 0, none⟩) (R.length + 1) c9) J7.out G8.out X8.out L8.out).2)⟩
        · have t0 : decide (0 ≤ sep) = false := decide_eq_false h0
          have e : sepL sep = [32] := if_neg h0
          rw [e] at JN
          have JN := Lib.hid JN
          clear e h0 hsep
          have d9x : wl.cell? ⟨jb, 9, none⟩ = some (.slice av rn cv) := kp (Below.refl wl.heap.size wl) d9
          go_wp2_with fail
          go_region_law (first | (go_simp; (go_at_call 56; refine (JN.out _ (Below.drew (Below.refl wl.heap.size wl))).mono ?_; rintro _ w7 ⟨rfl, B7⟩; have BW7 := Lib.hid ((Below.drew (Below.refl wl.heap.size wl)).trans (B7.out.mono ((Below.refl wl.heap.size wl)).size)); have J7 := Lib.hid (JW.out.below BW7.out); have R7 := Lib.hid (own_below RW.out BW7.out); have GW7 := Lib.hid (GW.out.trans (JG.below BW7.out JW.out.bw)); have d9b : w7.cell? ⟨jb, 9, none⟩ = some (.slice av rn cv) := blk_cellx J7.out.hj 9 _ rfl; have d9a : (w7.alloc (.cells #[.string u] 9)).cell? ⟨jb, 9, none⟩ = some (.slice av rn cv) := kp ((Below.refl _ _).alloc (Nat.le_refl _) _) d9b)) | (refine step_outS rfl (.tmp 123) (.tmp 127) rfl (.slice av rn cv) R u B w7 R7.out J7.out.bw (Nat.le_trans HRL.out (by omega)) (by simp [Act.eval]) (by simp [Act.eval]) ?_; intro g9 c9 w8 own8 gr8 hX8 lt8; have e0 := (gr8.block jb (Nat.lt_of_lt_of_le J7.out.bj J7.out.bw) (fun e => by have := (J7.out.hX jb e.symm).1; have := J7.out.bj; omega)).trans J7.out.hj; have d9c := blk_cellx e0 9 _ rfl; have fd9 : w8.frozen? ⟨jb, 9, none⟩ = false := (by simp [World.frozen?, e0]); have O8 := Lib.hid own8; have G8 := Lib.hid gr8; have X8 := Lib.hid hX8; have L8 := Lib.hid lt8; clear own8 gr8 hX8 lt8))
          all_goals go_wp2_with fail
          all_goals go_end0
          all_goals exact ⟨rfl, _, Lib.hid (JS.setout (v' := .slice (some ⟨g9, 0, none⟩) (R.length + 1) c9) J7.out G8.out X8.out L8.out).1, Lib.hid (by rw [HPU.out]; exact own_set O8.out J7.out.bj), Lib.hid (GW7.out.trans (JS.setout (v' := .slice (some ⟨g9, 0, none⟩) (R.length + 1) c9) J7.out G8.out X8.out L8.out).2)⟩
      · have hj0 : ((j : Int) == 0) = false := beq_eq_false_iff_ne.2 (fun e => ho (List.eq_nil_of_length_eq_zero (by rw [HQ.out]; omega)))
        have EG : Hid (rowG p XL ([] : List (List UInt8)) key = R2) := Lib.hid (by unfold rowG; rw [if_neg ho, ER.out])
        obtain ⟨gl, nl, cl, rfl, hnl, hcl⟩ := own_cons OW.out (fun e => by rw [List.map_eq_nil_iff, ER.out, List.map_eq_nil_iff] at e; exact ho e)
        clear ER HR2
        have RW := Lib.hid (own_below RR.out BK.out)
        have JW := Lib.hid (J2.out.below BK.out)
        have d9 : wr.cell? ⟨jb, 9, none⟩ = some (.slice av rn cv) := blk_cellx JW.out.hj 9 _ rfl
        have d2 : wr.cell? ⟨jb, 2, none⟩ = some (.int .i64 sep) := blk_cellx JW.out.hj 2 _ rfl
        have GW := Lib.hid ((JG.map (jb := jb) (B := B) GG.out HJ.out.bw).trans (JG.below BK.out (Nat.le_trans HJ.out.bw GG.out.size)))
        have ZL : (Lib.join R2 (sepL sep)).length ≤ 140737488355328 := by
          have h1 := join_len R2 (sepL sep) 60 (by rw [← EG.out]; exact RSZ.out)
          have h2 := RLN.out
          rw [EG.out] at h2
          rw [sepL_len] at h1
          exact Nat.le_trans h1 (Nat.le_trans (Nat.mul_le_mul_right _ h2) (by omega))
        have JN := fun W' => join_of R2 (sepL sep) gl nl cl w2.heap.size wr W' OW.out hnl hcl ZL (by have := RLN.out; rw [EG.out] at this; omega)
        obtain ⟨u, hu⟩ : ∃ u, bA (Lib.join R2 (sepL sep)) = u := ⟨_, rfl⟩
        have HPU : Hid (bA (putL p (some s1.data.toList) none) = u) := Lib.hid (by rw [HP.out, EG.out]; exact hu)
        rw [hu] at JN
        clear ZL hu
        by_cases h0 : 0 ≤ sep
        · have t0 : decide (0 ≤ sep) = true := decide_eq_true h0
          have CV := tx_conv_one sep wr
          have e : strOfNums [sep] = bA (sepL sep) := by
            unfold sepL
            rw [if_pos h0]
            obtain ⟨k, rfl⟩ : ∃ k : Nat, sep = k := ⟨sep.toNat, by omega⟩
            simp [strOfNums]
          rw [e] at CV
          obtain ⟨sb, hsb⟩ : ∃ sb, bA (sepL sep) = sb := ⟨_, rfl⟩
          rw [hsb] at CV JN
          have JN := Lib.hid JN
          have WRP : IntKind.u8.wrap sep = sep := by unfold IntKind.wrap; simp [IntKind.bits, IntKind.signed]; omega
          clear e hsb h0 hsep
          have d9x : (wr.alloc (.cells #[.int .u8 sep] 5)).cell? ⟨jb, 9, none⟩ = some (.slice av rn cv) := kp ((Below.refl wr.heap.size wr).alloc (Nat.le_refl _) (.cells #[.int .u8 sep] 5)) d9
          go_wp2_with fail
          go_region_law (first | (go_simp; (go_at_call 56; refine (JN.out _ (Below.drew ((Below.refl wr.heap.size wr).alloc (Nat.le_refl _) (.cells #[.int .u8 sep] 5)))).mono ?_; rintro _ w7 ⟨rfl, B7⟩; have BW7 := Lib.hid ((Below.drew ((Below.refl wr.heap.size wr).alloc (Nat.le_refl _) (.cells #[.int .u8 sep] 5))).trans (B7.out.mono (((Below.refl wr.heap.size wr).alloc (Nat.le_refl _) (.cells #[.int .u8 sep] 5))).size)); have J7 := Lib.hid (JW.out.below BW7.out); have R7 := Lib.hid (own_below RW.out BW7.out); have GW7 := Lib.hid (GW.out.trans (JG.below BW7.out JW.out.bw)); have d9b : w7.cell? ⟨jb, 9, none⟩ = some (.slice av rn cv) := blk_cellx J7.out.hj 9 _ rfl; have d9a : (w7.alloc (.cells #[.string u] 9)).cell? ⟨jb, 9, none⟩ = some (.slice av rn cv) := kp ((Below.refl _ _).alloc (Nat.le_refl _) _) d9b)) | (refine step_outS rfl (.tmp 123) (.tmp 127) rfl (.slice av rn cv) R u B w7 R7.out J7.out.bw (Nat.le_trans HRL.out (by omega)) (by simp [Act.eval]) (by simp [Act.eval]) ?_; intro g9 c9 w8 own8 gr8 hX8 lt8; have e0 := (gr8.block jb (Nat.lt_of_lt_of_le J7.out.bj J7.out.bw) (fun e => by have := (J7.out.hX jb e.symm).1; have := J7.out.bj; omega)).trans J7.out.hj; have d9c := blk_cellx e0 9 _ rfl; have fd9 : w8.frozen? ⟨jb, 9, none⟩ = false := (by simp [World.frozen?, e0]); have O8 := Lib.hid own8; have G8 := Lib.hid gr8; have X8 := Lib.hid hX8; have L8 := Lib.hid lt8; clear own8 gr8 hX8 lt8))
          all_goals go_wp2_with fail
          all_goals go_end0
          all_goals exact ⟨rfl, _, Lib.hid (JS.setout (v' := .slice (some ⟨g9, 0, none⟩) (R.length + 1) c9) J7.out G8.out X8.out L8.out).1, Lib.hid (by rw [HPU.out]; exact own_set O8.out J7.out.bj), Lib.hid (GW7.out.trans (JS.setout (v' := .slice (some ⟨g9, 0, none⟩) (R.length + 1) c9) J7.out G8.out X8.out L8.out).2)⟩
        · have t0 : decide (0 ≤ sep) = false := decide_eq_false h0
          have e : sepL sep = [32] := if_neg h0
          rw [e] at JN
          have JN := Lib.hid JN
          clear e h0 hsep
          have d9x : wr.cell? ⟨jb, 9, none⟩ = some (.slice av rn cv) := kp (Below.refl wr.heap.size wr) d9
          go_wp2_with fail
          go_region_law (first | (go_simp; (go_at_call 56; refine (JN.out _ (Below.drew (Below.refl wr.heap.size wr))).mono ?_; rintro _ w7 ⟨rfl, B7⟩; have BW7 := Lib.hid ((Below.drew (Below.refl wr.heap.size wr)).trans (B7.out.mono ((Below.refl wr.heap.size wr)).size)); have J7 := Lib.hid (JW.out.below BW7.out); have R7 := Lib.hid (own_below RW.out BW7.out); have GW7 := Lib.hid (GW.out.trans (JG.below BW7.out JW.out.bw)); have d9b : w7.cell? ⟨jb, 9, none⟩ = some (.slice av rn cv) := blk_cellx J7.out.hj 9 _ rfl; have d9a : (w7.alloc (.cells #[.string u] 9)).cell? ⟨jb, 9, none⟩ = some (.slice av rn cv) := kp ((Below.refl _ _).alloc (Nat.le_refl _) _) d9b)) | (refine step_outS rfl (.tmp 123) (.tmp 127) rfl (.slice av rn cv) R u B w7 R7.out J7.out.bw (Nat.le_trans HRL.out (by omega)) (by simp [Act.eval]) (by simp [Act.eval]) ?_; intro g9 c9 w8 own8 gr8 hX8 lt8; have e0 := (gr8.block jb (Nat.lt_of_lt_of_le J7.out.bj J7.out.bw) (fun e => by have := (J7.out.hX jb e.symm).1; have := J7.out.bj; omega)).trans J7.out.hj; have d9c := blk_cellx e0 9 _ rfl; have fd9 : w8.frozen? ⟨jb, 9, none⟩ = false := (by simp [World.frozen?, e0]); have O8 := Lib.hid own8; have G8 := Lib.hid gr8; have X8 := Lib.hid hX8; have L8 := Lib.hid lt8; clear own8 gr8 hX8 lt8))
          all_goals go_wp2_with fail
          all_goals go_end0
          all_goals exact ⟨rfl, _, Lib.hid (JS.setout (v' := .slice (some ⟨g9, 0, none⟩) (R.length + 1) c9) J7.out G8.out X8.out L8.out).1, Lib.hid (by rw [HPU.out]; exact own_set O8.out J7.out.bj), Lib.hid (GW7.out.trans (JS.setout (v' := .slice (some ⟨g9, 0, none⟩) (R.length + 1) c9) J7.out G8.out X8.out L8.out).2)⟩
end Go.Proofs.YtbhdhcnbagjmcaaDoor
