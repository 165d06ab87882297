/- walks: what the reference prints of two lines (written by gen_pdd.py) -/
import Derived.Test.YtbhdhcnbagjmcaaDoorPC
namespace Go.Proofs.YtbhdhcnbagjmcaaDoor
open Go.RowKit Go.Maps
open Jn Lcl
set_option maxRecDepth 100000 in
set_option maxHeartbeats 8000000 in
theorem printedab_any (p : Sp) (s1 : ByteArray) (g1 o1 c1 : Nat) (s2 : ByteArray) (g2 o2 c2 : Nat) (f1 f2 sep : Int) (lf rt pr : Bool) (em : ByteArray) (a : Option Addr) (q cap : Nat) (w : World) (hp : p = ⟨f1, f2, sep, lf, rt, pr, em.data.toList, p.out⟩)
    (hO : RowsAt w (.slice a q cap) 2 (outR p)) (hq : p.out.length = q) (h1 : w.cell? ⟨g1, o1, none⟩ = some (.string s1)) (z1 : s1.size ≤ 60) (h2 : w.cell? ⟨g2, o2, none⟩ = some (.string s2)) (z2 : s2.size ≤ 60) (hem : em.size ≤ 60) (hql : q ≤ 40) (hf1 : 1 ≤ f1 ∧ f1 ≤ 1024) (hf2 : 1 ≤ f2 ∧ f2 ≤ 1024) (hsep : -1 ≤ sep ∧ sep ≤ 255) :
    Calls Tryd.prog 41 #[.agg (scells f1 f2 sep lf rt pr em (.slice a q cap)), .slice (some ⟨g1, o1, none⟩) 1 c1, .slice (some ⟨g2, o2, none⟩) 1 c2] w fun e w' => e = .returned (.string (bA (putL p (some s1.data.toList) (some s2.data.toList)))) ∧ Hid (Below w.heap.size w w') := by
  have e1 : p.f1 = f1 := by rw [hp]
  have e2 : p.f2 = f2 := by rw [hp]
  have e3 : p.sep = sep := by rw [hp]
  have e4 : p.empty = em.data.toList := by rw [hp]
  have HP : Hid (putL p (some s1.data.toList) (some s2.data.toList) = Lib.join (rowG p (fieldsL sep s1.data.toList) (fieldsL sep s2.data.toList) (keyL sep f1 s1.data.toList)) (sepL sep)) := Lib.hid (by
    rw [putL_G]
    have x1 : xO p (some s1.data.toList) = fieldsL sep s1.data.toList := by rw [← e3]; rfl
    have x2 : xO p (some s2.data.toList) = fieldsL sep s2.data.toList := by rw [← e3]; rfl
    have x3 : keyO p (some s1.data.toList) (some s2.data.toList) = keyL sep f1 s1.data.toList := by rw [← e3, ← e1]; rfl
    rw [x1, x2, x3, e3])
  have HE := Lib.hid e4
  have HF := Lib.hid (And.intro e1 e2)
  have B0 : Hid (Below w.heap.size w (w.alloc (.cells (scells f1 f2 sep lf rt pr em (.slice a q cap)) 36))) := Lib.hid ((Below.refl w.heap.size w).alloc (Nat.le_refl _) _)
  have HO := Lib.hid (hO.below B0.out)
  have HQ := Lib.hid hq
  have HEM := Lib.hid hem
  have HF1 := Lib.hid hf1
  have HF2 := Lib.hid hf2
  have N0 := heap_alloc_new w (.cells (scells f1 f2 sep lf rt pr em (.slice a q cap)) 36)
  have Y0 : Hid ((w.alloc (.cells (scells f1 f2 sep lf rt pr em (.slice a q cap)) 36)).cell? ⟨w.heap.size, 0, none⟩ = some (.int .i64 f1)) := Lib.hid (blk_cellx N0 0 _ rfl)
  have Y1 : Hid ((w.alloc (.cells (scells f1 f2 sep lf rt pr em (.slice a q cap)) 36)).cell? ⟨w.heap.size, 1, none⟩ = some (.int .i64 f2)) := Lib.hid (blk_cellx N0 1 _ rfl)
  have Y2 : Hid ((w.alloc (.cells (scells f1 f2 sep lf rt pr em (.slice a q cap)) 36)).cell? ⟨w.heap.size, 2, none⟩ = some (.int .i64 sep)) := Lib.hid (blk_cellx N0 2 _ rfl)
  have Y3 : Hid ((w.alloc (.cells (scells f1 f2 sep lf rt pr em (.slice a q cap)) 36)).cell? ⟨w.heap.size, 3, none⟩ = some (.bool lf)) := Lib.hid (blk_cellx N0 3 _ rfl)
  have Y4 : Hid ((w.alloc (.cells (scells f1 f2 sep lf rt pr em (.slice a q cap)) 36)).cell? ⟨w.heap.size, 4, none⟩ = some (.bool rt)) := Lib.hid (blk_cellx N0 4 _ rfl)
  have Y5 : Hid ((w.alloc (.cells (scells f1 f2 sep lf rt pr em (.slice a q cap)) 36)).cell? ⟨w.heap.size, 5, none⟩ = some (.bool pr)) := Lib.hid (blk_cellx N0 5 _ rfl)
  have Y6 : Hid ((w.alloc (.cells (scells f1 f2 sep lf rt pr em (.slice a q cap)) 36)).cell? ⟨w.heap.size, 6, none⟩ = some (.string em)) := Lib.hid (blk_cellx N0 6 _ rfl)
  have Y7 : Hid ((w.alloc (.cells (scells f1 f2 sep lf rt pr em (.slice a q cap)) 36)).cell? ⟨w.heap.size, 7, none⟩ = some (.slice a q cap)) := Lib.hid (blk_cellx N0 7 _ rfl)
  have H1 := Lib.hid (kp B0.out h1)
  have Z1 := Lib.hid z1
  have FF1 := Lib.hid (fun W => rfields_any s1 sep W (Nat.le_trans Z1.out (by omega)))
  have LX : Hid (∀ x ∈ fieldsL sep s1.data.toList, x.length ≤ 60) := Lib.hid (fun x hx => Nat.le_trans (fieldsL_sz hx) (by simpa using Z1.out))
  have CX : Hid ((fieldsL sep s1.data.toList).length ≤ 61) := Lib.hid (fieldsL_61 _ Z1.out)
  have H2 := Lib.hid (kp B0.out h2)
  have Z2 := Lib.hid z2
  have FF2 := Lib.hid (fun W => rfields_any s2 sep W (Nat.le_trans Z2.out (by omega)))
  have LY : Hid (∀ x ∈ fieldsL sep s2.data.toList, x.length ≤ 60) := Lib.hid (fun x hx => Nat.le_trans (fieldsL_sz hx) (by simpa using Z2.out))
  have CY : Hid ((fieldsL sep s2.data.toList).length ≤ 61) := Lib.hid (fieldsL_61 _ Z2.out)
  have KK := Lib.hid (fun W => key_any s1 f1 sep W (Nat.le_trans Z1.out (by omega)))
  have KZ : Hid ((keyL sep f1 s1.data.toList).length ≤ 60) := Lib.hid (by have := key_sz sep f1 s1 Z1.out; simpa [bA, ByteArray.size] using this)
  obtain ⟨XL, hXL⟩ : ∃ XL, fieldsL sep s1.data.toList = XL := ⟨_, rfl⟩
  rw [hXL] at HP FF1 LX CX
  clear hXL h1 z1
  obtain ⟨YL, hYL⟩ : ∃ YL, fieldsL sep s2.data.toList = YL := ⟨_, rfl⟩
  rw [hYL] at HP FF2 LY CY
  clear hYL h2 z2
  obtain ⟨key, hkey⟩ : ∃ k, keyL sep f1 s1.data.toList = k := ⟨_, rfl⟩
  rw [hkey] at HP KK KZ
  have RSZ : Hid (∀ x ∈ rowG p XL YL key, x.length ≤ 60) := Lib.hid (rowG_sz LX.out LY.out KZ.out (by rw [HE.out]; simpa using HEM.out))
  have RLN : Hid ((rowG p XL YL key).length ≤ 123) := Lib.hid (rowG_len CX.out CY.out (by rw [HQ.out]; exact hql))
  have SL := Lib.hid (sepL_len sep)
  rw [HP.out]
  clear hkey N0 hp hO hq hem hf1 hf2 e1 e2 e3 e4 HP
  have CE : Hid (∀ W, Below (w.alloc (.cells (scells f1 f2 sep lf rt pr em (.slice a q cap)) 36)).heap.size (w.alloc (.cells (scells f1 f2 sep lf rt pr em (.slice a q cap)) 36)) W → W.cell? ⟨w.heap.size, 0, none⟩ = some (.int .i64 f1) ∧ W.cell? ⟨w.heap.size, 1, none⟩ = some (.int .i64 f2) ∧ W.cell? ⟨w.heap.size, 2, none⟩ = some (.int .i64 sep) ∧ W.cell? ⟨g1, o1, none⟩ = some (.string s1) ∧ W.cell? ⟨g2, o2, none⟩ = some (.string s2)) := Lib.hid (fun W h => ⟨kp h Y0.out, kp h Y1.out, kp h Y2.out, kp h H1.out, kp h H2.out⟩)
  by_cases h0 : 0 ≤ sep
  · have t0 : decide (0 ≤ sep) = true := decide_eq_true h0
    have CV := tx_conv_one sep (w.alloc (.cells (scells f1 f2 sep lf rt pr em (.slice a q cap)) 36))
    rw [show (w.alloc (.cells (scells f1 f2 sep lf rt pr em (.slice a q cap)) 36)).heap.size = w.heap.size + 1 from World.size_alloc _ _] at CV
    have e : strOfNums [sep] = bA (sepL sep) := by
      unfold sepL
      rw [if_pos h0]
      obtain ⟨k, rfl⟩ : ∃ k : Nat, sep = k := ⟨sep.toNat, by omega⟩
      simp [strOfNums]
    rw [e] at CV
    obtain ⟨sp, hsp⟩ : ∃ sp, sepL sep = sp := ⟨_, rfl⟩
    rw [hsp] at CV SL ⊢
    obtain ⟨sb, hsb⟩ : ∃ sb, bA sp = sb := ⟨_, rfl⟩
    have HSB : Hid (sb.data.toList = sp) := Lib.hid (by rw [← hsb])
    rw [hsb] at CV
    have WRP : IntKind.u8.wrap sep = sep := by unfold IntKind.wrap; simp [IntKind.bits, IntKind.signed]; omega
    clear e hsb hsp h0 hsep
    have BB0 := Lib.hid ((Below.refl (w.alloc (.cells (scells f1 f2 sep lf rt pr em (.slice a q cap)) 36)).heap.size (w.alloc (.cells (scells f1 f2 sep lf rt pr em (.slice a q cap)) 36))).alloc (Nat.le_refl _) (.cells #[.int .u8 sep] 5))
    have y2 := Y2.out
    have S0 := And.intro (Below.refl ((w.alloc (.cells (scells f1 f2 sep lf rt pr em (.slice a q cap)) 36)).alloc (.cells #[.int .u8 sep] 5)).heap.size ((w.alloc (.cells (scells f1 f2 sep lf rt pr em (.slice a q cap)) 36)).alloc (.cells #[.int .u8 sep] 5))).drew (CE.out _ BB0.out.drew)
    go_enter Tryd.func41, Tryd.ntmps41
    go_wp2_with fail
    trace_state
    clear y2
    go_region_held3 (fun w' => Below ((w.alloc (.cells (scells f1 f2 sep lf rt pr em (.slice a q cap)) 36)).alloc (.cells #[.int .u8 sep] 5)).heap.size ((w.alloc (.cells (scells f1 f2 sep lf rt pr em (.slice a q cap)) 36)).alloc (.cells #[.int .u8 sep] 5)) w' ∧ w'.cell? ⟨w.heap.size, 0, none⟩ = some (.int .i64 f1) ∧ w'.cell? ⟨w.heap.size, 1, none⟩ = some (.int .i64 f2) ∧ w'.cell? ⟨w.heap.size, 2, none⟩ = some (.int .i64 sep) ∧ w'.cell? ⟨g1, o1, none⟩ = some (.string s1) ∧ w'.cell? ⟨g2, o2, none⟩ = some (.string s2)) (first | exact S0)
      (first | (go_at_call 31; (with_reducible refine (KK.out _).mono ?_); rintro _ w1 ⟨rfl, B1⟩; have S0 := And.intro (S0.1.trans (B1.out.mono S0.1.size)) (CE.out _ (BB0.out.trans ((S0.1.trans (B1.out.mono S0.1.size)).mono BB0.out.size)))))
    go_wp2_with fail
    have BQ1 := Lib.hid (S0.1)
    have S0 := And.intro BQ1.out.drew (CE.out _ (BB0.out.trans (BQ1.out.drew.mono BB0.out.size)))
    go_region_held3 (fun w' => Below ((w.alloc (.cells (scells f1 f2 sep lf rt pr em (.slice a q cap)) 36)).alloc (.cells #[.int .u8 sep] 5)).heap.size ((w.alloc (.cells (scells f1 f2 sep lf rt pr em (.slice a q cap)) 36)).alloc (.cells #[.int .u8 sep] 5)) w' ∧ w'.cell? ⟨w.heap.size, 0, none⟩ = some (.int .i64 f1) ∧ w'.cell? ⟨w.heap.size, 1, none⟩ = some (.int .i64 f2) ∧ w'.cell? ⟨w.heap.size, 2, none⟩ = some (.int .i64 sep) ∧ w'.cell? ⟨g1, o1, none⟩ = some (.string s1) ∧ w'.cell? ⟨g2, o2, none⟩ = some (.string s2)) (first | exact S0)
      (first | (go_at_call 10; (with_reducible refine (FF1.out _).mono ?_); rintro _ w2 ⟨vX, rfl, FX, B2⟩; have S0 := And.intro (S0.1.trans (B2.out.mono S0.1.size)) (CE.out _ (BB0.out.trans ((S0.1.trans (B2.out.mono S0.1.size)).mono BB0.out.size)))))
    go_wp2_with fail
    have BQ2 := Lib.hid (S0.1)
    have S0 := And.intro BQ2.out.drew (CE.out _ (BB0.out.trans (BQ2.out.drew.mono BB0.out.size)))
    go_region_held3 (fun w' => Below ((w.alloc (.cells (scells f1 f2 sep lf rt pr em (.slice a q cap)) 36)).alloc (.cells #[.int .u8 sep] 5)).heap.size ((w.alloc (.cells (scells f1 f2 sep lf rt pr em (.slice a q cap)) 36)).alloc (.cells #[.int .u8 sep] 5)) w' ∧ w'.cell? ⟨w.heap.size, 0, none⟩ = some (.int .i64 f1) ∧ w'.cell? ⟨w.heap.size, 1, none⟩ = some (.int .i64 f2) ∧ w'.cell? ⟨w.heap.size, 2, none⟩ = some (.int .i64 sep) ∧ w'.cell? ⟨g1, o1, none⟩ = some (.string s1) ∧ w'.cell? ⟨g2, o2, none⟩ = some (.string s2)) (first | exact S0)
      (first | (go_at_call 10; (with_reducible refine (FF2.out _).mono ?_); rintro _ w3 ⟨vY, rfl, FY, B3⟩; have S0 := And.intro (S0.1.trans (B3.out.mono S0.1.size)) (CE.out _ (BB0.out.trans ((S0.1.trans (B3.out.mono S0.1.size)).mono BB0.out.size)))))
    have BC := Lib.hid (BB0.out.trans (S0.1.mono BB0.out.size))
    clear S0
    have y7 : w3.cell? ⟨w.heap.size, 7, none⟩ = some (.slice a q cap) := kp BC.out Y7.out
    have XX : Hid (LSt w3 vX XL) := Lib.hid (FX.out.l.below ((Below.refl w2.heap.size w2).drew.trans (B3.out.mono (Below.refl w2.heap.size w2).drew.size)))
    have YY : Hid (LSt w3 vY YL) := Lib.hid FY.out.l
    by_cases ho : p.out = []
    · obtain rfl : q = 0 := by rw [← HQ.out, ho]; rfl
      have EG : Hid (rowG p XL YL key = key :: (othL f1 0 XL ++ othL f2 0 YL)) := Lib.hid (by unfold rowG; rw [if_pos ho, HF.out.1, HF.out.2])
      have LX2 : Hid ((othL f1 0 XL).length ≤ 61) := Lib.hid (Nat.le_trans (othL_len _ _ _) CX.out)
      have LY2 : Hid ((othL f2 0 YL).length ≤ 61) := Lib.hid (Nat.le_trans (othL_len _ _ _) CY.out)
      have OX1 := Lib.hid (fun W (h : LSt W vX XL) => rothers_any XL vX f1 W h HF1.out (Nat.le_trans CX.out (by omega)))
      have OY1 := Lib.hid (fun W (h : LSt W vY YL) => rothers_any YL vY f2 W h HF2.out (Nat.le_trans CY.out (by omega)))
      clear ho
      go_upto_region 18 with (first
        | (go_at_call 57; (first
            | ((with_reducible refine (OX1.out _ (XX.out.below bel5.out)).mono ?_); rintro _ w6 ⟨v6, rfl, OW6, B6⟩; have BL6 := Lib.hid (bel5.out.trans (B6.out.mono bel5.out.size)))
            | ((with_reducible refine (OY1.out _ (YY.out.below bel7.out)).mono ?_); rintro _ w8 ⟨v8, rfl, OW8, B8⟩; have BL8 := Lib.hid (bel7.out.trans (B8.out.mono bel7.out.size)))))
        | (at_builtin; (first
            | (refine append_strs rfl _ _ rfl (.slice none 0 0) [] (bA key) w3.heap.size w3 _ (OwnS.none _ _) (Below.refl _ _) (Nat.le_refl _) (by simp) (by simp [Act.eval]) (by simp [Act.eval]) ?_; intro v5 w5 own5 bel5; have y0 : w5.cell? ⟨w.heap.size, 0, none⟩ = some (.int .i64 f1) := kp (BC.out.trans (bel5.out.mono BC.out.size)) Y0.out)
            | (refine append_listS rfl _ _ rfl _ _ ([] ++ [bA key]) ((othL f1 0 XL).map bA) w3.heap.size _ w3 w6 (own_below own5.out B6.out) OW6.out BL6.out BL6.out.size (by rw [List.length_map]; have := LX2.out; simp; omega) (by simp [Act.eval]) (by simp [Act.eval]) ?_; intro v7 w7 own7 bel7; have y1 : w7.cell? ⟨w.heap.size, 1, none⟩ = some (.int .i64 f2) := kp (BC.out.trans (bel7.out.mono BC.out.size)) Y1.out)
            | (refine append_listS rfl _ _ rfl _ _ ([] ++ [bA key] ++ (othL f1 0 XL).map bA) ((othL f2 0 YL).map bA) w3.heap.size _ w3 w8 (own_below own7.out B8.out) OW8.out BL8.out BL8.out.size (by rw [List.length_append, List.length_map, List.length_map]; have := LX2.out; have := LY2.out; simp; omega) (by simp [Act.eval]) (by simp [Act.eval]) ?_; intro vl wl ownl bell; have y7l : wl.cell? ⟨w.heap.size, 7, none⟩ = some (.slice a 0 cap) := kp (BC.out.trans (bell.out.mono BC.out.size)) Y7.out)
            | go_in)))
      have OL : OwnS wl w3.heap.size vl ((rowG p XL YL key).map bA) := by
        have e : [] ++ [bA key] ++ (othL f1 0 XL).map bA ++ (othL f2 0 YL).map bA = (rowG p XL YL key).map bA := by rw [EG.out]; simp
        rw [← e]; exact ownl.out
      obtain ⟨gl, nl, cl, rfl, hnl, hcl⟩ := own_cons OL (fun e => rowG_ne p XL YL key (List.map_eq_nil_iff.1 e))
      have BL : Hid (Below w.heap.size w wl) := Lib.hid (B0.out.trans ((BC.out.trans (bell.out.mono BC.out.size)).mono B0.out.size))
      have RN : Hid ((rowG p XL YL key).length = nl) := Lib.hid (by rw [← hnl, List.length_map])
      have nl3 : nl ≤ 123 := by rw [← RN.out]; exact RLN.out
      have CL : Hid (∀ (j : Nat) y, (rowG p XL YL key)[j]? = some y → wl.cell? ⟨gl, j, none⟩ = some (.string (bA y))) := Lib.hid (by
        obtain ⟨a1, c1, e1, -, -, h1⟩ := (OL).strs
        rw [List.length_map] at e1
        rcases h1 with h1 | ⟨g2, o2, rfl, -, h1⟩
        · exact absurd (List.map_eq_nil_iff.1 h1) (rowG_ne p XL YL key)
        · cases e1
          intro j y hy
          have := h1 j (bA y) (by rw [List.getElem?_map, hy]; rfl)
          rw [Nat.zero_add] at this
          exact this)
      obtain ⟨RW, hRW⟩ : ∃ RW, rowG p XL YL key = RW := ⟨_, rfl⟩
      have RZ : Hid (∀ x ∈ RW, x.length ≤ 60) := Lib.hid (by rw [← hRW]; exact RSZ.out)
      have GW := Lib.hid hRW
      rw [hRW] at RN CL
      clear hRW hnl hcl
      clear own5 own7 ownl OL
      go_wp2_with fail
      go_loop [11, 12] (fun v i => v = .slice (some ⟨gl, 0, none⟩) nl cl ∧ i = .int .i64 0) (fun _ _ => 0)
      case atStart => exact ⟨rfl, rfl⟩
      case round =>
        obtain ⟨rfl, rfl⟩ := hrel
        go_wp2_with fail
        go_loopw [14, 15] (fun x i wr => ∃ (t : Nat) (u : ByteArray), i = .int .i64 t ∧ t ≤ nl ∧ x = .string u ∧ Hid (u.data.toList = Lib.join (RW.take t) sp ∧ u.size ≤ 61 * t) ∧ wr = wl) (fun _ i _ => nl - (intOf i).toNat)
        case atStart => exact ⟨0, ⟨#[]⟩, rfl, Nat.zero_le _, rfl, Lib.hid ⟨by simp [Lib.join], Nat.zero_le _⟩, rfl⟩
        case round =>
          obtain ⟨t, u, rfl, ht, rfl, HU, rfl⟩ := hrel
          by_cases hlt : t < nl
          · obtain ⟨y, hy⟩ : ∃ y, RW[t]? = some y := ⟨_, List.getElem?_eq_getElem (by rw [RN.out]; exact hlt)⟩
            have c0 := CL.out t y hy
            have yz := RZ.out y (List.mem_of_getElem? hy)
            have JT := Lib.hid (join_take RW sp y t hy)
            obtain ⟨yb, hyb⟩ : ∃ yb, bA y = yb := ⟨_, rfl⟩
            have HYB : Hid (yb.data.toList = y) := Lib.hid (by rw [← hyb])
            have ybz : yb.size ≤ 60 := by rw [← hyb]; simpa [bA, ByteArray.size] using yz
            rw [hyb] at c0
            have p0 : (0 : Int) ≤ (t : Int) := by omega
            have p1 : (t : Int) < (nl : Int) := by omega
            have p2 : IntKind.i64.wrap (t : Int) = (t : Int) := IntWalk.i64_in _ (by omega)
            have uz : u.size ≤ 20000 := by have := HU.out.2; omega
            have sbz : (sb : ByteArray).size = 1 := by first | rfl | (have := HSB.out; have h2 := SL.out; rw [← this] at h2; simpa using h2)
            clear hyb hy yz
            by_cases ht0 : t = 0
            · subst ht0
              have HV : Hid ((u ++ yb).data.toList = Lib.join (RW.take (0 + 1)) sp ∧ (u ++ yb).size ≤ 61 * (0 + 1)) := Lib.hid ⟨by
                rw [JT.out, if_pos rfl]
                have : u.data.toList = [] := by rw [HU.out.1]; simp [Lib.join]
                simp [this, HYB.out], by have := HU.out.2; rw [ByteArray.size_append]; omega⟩
              try simp only [Nat.add_zero] at c0
              go_wp2_with fail
              go_roundw
              case rel => exact ⟨0 + 1, _, by go_num, by omega, rfl, HV, trivial⟩
              case measure => simp [intOf] <;> omega
            · have HV : Hid ((u ++ sb ++ yb).data.toList = Lib.join (RW.take (t + 1)) sp ∧ (u ++ sb ++ yb).size ≤ 61 * (t + 1)) := Lib.hid ⟨by
                rw [JT.out, if_neg ht0, cat3, HU.out.1, HSB.out, HYB.out], by have := HU.out.2; rw [ByteArray.size_append, ByteArray.size_append, sbz]; omega⟩
              have p5 : 0 < t := by omega
              clear ht0
              go_wp2_with fail
              go_roundw
              case rel => exact ⟨t + 1, _, by go_num, by omega, rfl, HV, trivial⟩
              case measure => simp [intOf] <;> omega
          · obtain rfl : t = nl := by omega
            have EU : Hid (u = bA (Lib.join RW sp)) := Lib.hid (by rw [← bA_data u, HU.out.1, List.take_of_length_le (by rw [RN.out]; exact Nat.le_refl _)])
            go_wp2_with fail
            go_ret
            exact ⟨by rw [GW.out, ← EU.out]; rfl, Lib.hid BL.out⟩
    · have hj0 : ((q : Int) == 0) = false := beq_eq_false_iff_ne.2 (fun e => ho (List.eq_nil_of_length_eq_zero (by rw [HQ.out]; omega)))
      have EG : Hid (rowG p XL YL key = p.out.map (outF p XL YL key)) := Lib.hid (by unfold rowG; rw [if_neg ho])
      clear ho
      go_wp2_with fail
      clear y7
      go_loopw [11, 12] (fun v i wr => ∃ (j : Nat) (R2 : List (List UInt8)), j ≤ q ∧ i = .int .i64 j ∧ Hid (R2 = (p.out.take j).map (outF p XL YL key)) ∧ Hid (OwnS wr w3.heap.size v (R2.map bA)) ∧ Hid (Below w3.heap.size w3 wr)) (fun _ i _ => q - (intOf i).toNat)
      case atStart => exact ⟨0, [], Nat.zero_le _, rfl, Lib.hid rfl, Lib.hid (OwnS.none _ _), Lib.hid (Below.refl _ _)⟩
      case round =>
        obtain ⟨j, R2, hj, rfl, HR2, OW, BK⟩ := hrel
        have y7 : wr.cell? ⟨w.heap.size, 7, none⟩ = some (.slice a q cap) := kp (BC.out.trans (BK.out.mono BC.out.size)) Y7.out
        by_cases hlt : j < q
        · obtain ⟨x, hx⟩ : ∃ x, p.out[j]? = some x := ⟨_, List.getElem?_eq_getElem (by rw [HQ.out]; exact hlt)⟩
          obtain ⟨g, o, rfl, hcc⟩ := HO.out.at (j := j) (x := [.int .i64 x.1, .int .i64 x.2]) (by rw [List.getElem?_map, hx]; rfl)
          have BW := Lib.hid (BC.out.trans (BK.out.mono BC.out.size))
          have c0 := kp BW.out (hcc 0 _ rfl)
          have c1 := kp BW.out (hcc 1 _ rfl)
          rw [Nat.add_zero] at c0
          have y6 : wr.cell? ⟨w.heap.size, 6, none⟩ = some (.string em) := kp BW.out Y6.out
          obtain ⟨xf, xd⟩ := x
          simp only at c0 c1
          have LL : Hid ((R2.map bA).length ≤ 1048577) := Lib.hid (by rw [List.length_map, HR2.out, List.length_map, List.length_take]; omega)
          have p0 : (0 : Int) ≤ (j : Int) := by omega
          have p1 : (j : Int) < (q : Int) := by omega
          have p2 : IntKind.i64.wrap (j : Int) = (j : Int) := IntWalk.i64_in _ (by omega)
          have TK : ∀ u : List UInt8, outF p XL YL key (xf, xd) = u → R2 ++ [u] = (p.out.take (j + 1)).map (outF p XL YL key) := fun u e => by
            rw [List.take_add_one, hx, List.map_append, HR2.out, ← e]; rfl
          have TK := Lib.hid TK
          clear hx hcc HR2
          by_cases x1 : xf = 1
          · subst x1
            obtain ⟨bb, hbb⟩ : ∃ b, decide (1 ≤ xd ∧ xd ≤ ((XL).length : Int)) = b := ⟨_, rfl⟩
            have GX := Lib.hid (fun W (h : LSt W vX XL) => field_any XL vX xd W bb h (Lib.hid hbb))
            obtain ⟨z, hz⟩ : ∃ z, getL XL xd = z := ⟨_, rfl⟩
            rw [hz] at GX
            clear hbb
            by_cases h0 : z = []
            · subst h0
              have HW : Hid (outF p XL YL key (1, xd) = p.empty) := Lib.hid (by unfold outF; simp [hz])
              clear hz
              go_wp2_with (first | (go_at_call 53; (with_reducible refine (GX.out wr (XX.out.below BK.out)).mono ?_); rintro _ w3 ⟨rfl, h3⟩; replace h3 := h3.symm; subst h3) | (at_builtin; (first | (refine append_strs rfl _ _ rfl _ (R2.map bA) (em) w3.heap.size w3 _ OW.out BK.out BK.out.size LL.out (by simp [Act.eval]) (by simp [Act.eval]) ?_; intro v2 w4 own2 bel2) | go_in)))
              go_roundw
              case rel => exact ⟨j + 1, R2 ++ [p.empty], by omega, by go_num, Lib.hid (TK.out _ HW.out), Lib.hid (by rw [List.map_append]; show OwnS _ _ _ (_ ++ [bA p.empty]); rw [HE.out, bA_data]; exact own2.out), bel2⟩
              case measure => simp [intOf] <;> omega
            · have HW : Hid (outF p XL YL key (1, xd) = z) := Lib.hid (by unfold outF; simp [hz, h0])
              have ht : ((bA z).toList == []) = false := by rw [size_ne]; exact decide_eq_false (fun e => h0 (List.length_eq_zero_iff.1 e))
              clear hz
              obtain ⟨u, hu⟩ : ∃ u, bA z = u := ⟨_, rfl⟩
              have HU := Lib.hid hu
              rw [hu] at ht GX
              clear hu h0
              go_wp2_with (first | (go_at_call 53; (with_reducible refine (GX.out wr (XX.out.below BK.out)).mono ?_); rintro _ w3 ⟨rfl, h3⟩; replace h3 := h3.symm; subst h3) | (at_builtin; (first | (refine append_strs rfl _ _ rfl _ (R2.map bA) (u) w3.heap.size w3 _ OW.out BK.out BK.out.size LL.out (by simp [Act.eval]) (by simp [Act.eval]) ?_; intro v2 w4 own2 bel2) | go_in)))
              go_roundw
              case rel => exact ⟨j + 1, R2 ++ [z], by omega, by go_num, Lib.hid (TK.out _ HW.out), Lib.hid (by rw [List.map_append]; show OwnS _ _ _ (_ ++ [bA z]); rw [HU.out]; exact own2.out), bel2⟩
              case measure => simp [intOf] <;> omega
          · by_cases x2 : xf = 2
            · subst x2
              obtain ⟨bb, hbb⟩ : ∃ b, decide (1 ≤ xd ∧ xd ≤ ((YL).length : Int)) = b := ⟨_, rfl⟩
              have GX := Lib.hid (fun W (h : LSt W vY YL) => field_any YL vY xd W bb h (Lib.hid hbb))
              obtain ⟨z, hz⟩ : ∃ z, getL YL xd = z := ⟨_, rfl⟩
              rw [hz] at GX
              clear hbb
              by_cases h0 : z = []
              · subst h0
                have HW : Hid (outF p XL YL key (2, xd) = p.empty) := Lib.hid (by unfold outF; simp [hz])
                clear hz
                go_wp2_with (first | (go_at_call 53; (with_reducible refine (GX.out wr (YY.out.below BK.out)).mono ?_); rintro _ w3 ⟨rfl, h3⟩; replace h3 := h3.symm; subst h3) | (at_builtin; (first | (refine append_strs rfl _ _ rfl _ (R2.map bA) (em) w3.heap.size w3 _ OW.out BK.out BK.out.size LL.out (by simp [Act.eval]) (by simp [Act.eval]) ?_; intro v2 w4 own2 bel2) | go_in)))
                go_roundw
                case rel => exact ⟨j + 1, R2 ++ [p.empty], by omega, by go_num, Lib.hid (TK.out _ HW.out), Lib.hid (by rw [List.map_append]; show OwnS _ _ _ (_ ++ [bA p.empty]); rw [HE.out, bA_data]; exact own2.out), bel2⟩
                case measure => simp [intOf] <;> omega
              · have HW : Hid (outF p XL YL key (2, xd) = z) := Lib.hid (by unfold outF; simp [hz, h0])
                have ht : ((bA z).toList == []) = false := by rw [size_ne]; exact decide_eq_false (fun e => h0 (List.length_eq_zero_iff.1 e))
                clear hz
                obtain ⟨u, hu⟩ : ∃ u, bA z = u := ⟨_, rfl⟩
                have HU := Lib.hid hu
                rw [hu] at ht GX
                clear hu h0
                go_wp2_with (first | (go_at_call 53; (with_reducible refine (GX.out wr (YY.out.below BK.out)).mono ?_); rintro _ w3 ⟨rfl, h3⟩; replace h3 := h3.symm; subst h3) | (at_builtin; (first | (refine append_strs rfl _ _ rfl _ (R2.map bA) (u) w3.heap.size w3 _ OW.out BK.out BK.out.size LL.out (by simp [Act.eval]) (by simp [Act.eval]) ?_; intro v2 w4 own2 bel2) | go_in)))
                go_roundw
                case rel => exact ⟨j + 1, R2 ++ [z], by omega, by go_num, Lib.hid (TK.out _ HW.out), Lib.hid (by rw [List.map_append]; show OwnS _ _ _ (_ ++ [bA z]); rw [HU.out]; exact own2.out), bel2⟩
                case measure => simp [intOf] <;> omega
            · have t1 : (xf == 1) = false := beq_eq_false_iff_ne.2 x1
              have t2 : (xf == 2) = false := beq_eq_false_iff_ne.2 x2
              by_cases h0 : key = []
              · subst h0
                have HW : Hid (outF p XL YL [] (xf, xd) = p.empty) := Lib.hid (by unfold outF; simp [x1, x2])
                skip
                go_wp2_with (first | fail | (at_builtin; (first | (refine append_strs rfl _ _ rfl _ (R2.map bA) (em) w3.heap.size w3 _ OW.out BK.out BK.out.size LL.out (by simp [Act.eval]) (by simp [Act.eval]) ?_; intro v2 w4 own2 bel2) | go_in)))
                go_roundw
                case rel => exact ⟨j + 1, R2 ++ [p.empty], by omega, by go_num, Lib.hid (TK.out _ HW.out), Lib.hid (by rw [List.map_append]; show OwnS _ _ _ (_ ++ [bA p.empty]); rw [HE.out, bA_data]; exact own2.out), bel2⟩
                case measure => simp [intOf] <;> omega
              · have HW : Hid (outF p XL YL key (xf, xd) = key) := Lib.hid (by unfold outF; simp [h0, x1, x2])
                have ht : ((bA key).toList == []) = false := by rw [size_ne]; exact decide_eq_false (fun e => h0 (List.length_eq_zero_iff.1 e))
                skip
                obtain ⟨u, hu⟩ : ∃ u, bA key = u := ⟨_, rfl⟩
                have HU := Lib.hid hu
                rw [hu] at ht ⊢
                clear hu h0
                go_wp2_with (first | fail | (at_builtin; (first | (refine append_strs rfl _ _ rfl _ (R2.map bA) (u) w3.heap.size w3 _ OW.out BK.out BK.out.size LL.out (by simp [Act.eval]) (by simp [Act.eval]) ?_; intro v2 w4 own2 bel2) | go_in)))
                go_roundw
                case rel => exact ⟨j + 1, R2 ++ [key], by omega, by go_num, Lib.hid (TK.out _ HW.out), Lib.hid (by rw [List.map_append]; show OwnS _ _ _ (_ ++ [bA key]); rw [HU.out]; exact own2.out), bel2⟩
                case measure => simp [intOf] <;> omega
        · obtain rfl : j = q := by omega
          have ER : R2 = rowG p XL YL key := by rw [EG.out, HR2.out, List.take_of_length_le (by rw [HQ.out]; exact Nat.le_refl _)]
          have OL : OwnS wr w3.heap.size u11 ((rowG p XL YL key).map bA) := by rw [← ER]; exact OW.out
          have BKW := Lib.hid (BC.out.trans (BK.out.mono BC.out.size))
          clear ER OW HR2
          obtain ⟨gl, nl, cl, rfl, hnl, hcl⟩ := own_cons OL (fun e => rowG_ne p XL YL key (List.map_eq_nil_iff.1 e))
          have BL : Hid (Below w.heap.size w wr) := Lib.hid (B0.out.trans ((BKW.out).mono B0.out.size))
          have RN : Hid ((rowG p XL YL key).length = nl) := Lib.hid (by rw [← hnl, List.length_map])
          have nl3 : nl ≤ 123 := by rw [← RN.out]; exact RLN.out
          have CL : Hid (∀ (j : Nat) y, (rowG p XL YL key)[j]? = some y → wr.cell? ⟨gl, j, none⟩ = some (.string (bA y))) := Lib.hid (by
            obtain ⟨a1, c1, e1, -, -, h1⟩ := (OL).strs
            rw [List.length_map] at e1
            rcases h1 with h1 | ⟨g2, o2, rfl, -, h1⟩
            · exact absurd (List.map_eq_nil_iff.1 h1) (rowG_ne p XL YL key)
            · cases e1
              intro j y hy
              have := h1 j (bA y) (by rw [List.getElem?_map, hy]; rfl)
              rw [Nat.zero_add] at this
              exact this)
          obtain ⟨RW, hRW⟩ : ∃ RW, rowG p XL YL key = RW := ⟨_, rfl⟩
          have RZ : Hid (∀ x ∈ RW, x.length ≤ 60) := Lib.hid (by rw [← hRW]; exact RSZ.out)
          have GW := Lib.hid hRW
          rw [hRW] at RN CL
          clear hRW hnl hcl
          clear OL
          go_wp2_with fail
          go_loopw [14, 15] (fun x i wx => ∃ (t : Nat) (u : ByteArray), i = .int .i64 t ∧ t ≤ nl ∧ x = .string u ∧ Hid (u.data.toList = Lib.join (RW.take t) sp ∧ u.size ≤ 61 * t) ∧ wx = wr) (fun _ i _ => nl - (intOf i).toNat)
          case atStart => exact ⟨0, ⟨#[]⟩, rfl, Nat.zero_le _, rfl, Lib.hid ⟨by simp [Lib.join], Nat.zero_le _⟩, rfl⟩
          case round =>
            obtain ⟨t, u, rfl, ht, rfl, HU, rfl⟩ := hrel
            by_cases hlt : t < nl
            · obtain ⟨y, hy⟩ : ∃ y, RW[t]? = some y := ⟨_, List.getElem?_eq_getElem (by rw [RN.out]; exact hlt)⟩
              have c0 := CL.out t y hy
              have yz := RZ.out y (List.mem_of_getElem? hy)
              have JT := Lib.hid (join_take RW sp y t hy)
              obtain ⟨yb, hyb⟩ : ∃ yb, bA y = yb := ⟨_, rfl⟩
              have HYB : Hid (yb.data.toList = y) := Lib.hid (by rw [← hyb])
              have ybz : yb.size ≤ 60 := by rw [← hyb]; simpa [bA, ByteArray.size] using yz
              rw [hyb] at c0
              have p0 : (0 : Int) ≤ (t : Int) := by omega
              have p1 : (t : Int) < (nl : Int) := by omega
              have p2 : IntKind.i64.wrap (t : Int) = (t : Int) := IntWalk.i64_in _ (by omega)
              have uz : u.size ≤ 20000 := by have := HU.out.2; omega
              have sbz : (sb : ByteArray).size = 1 := by first | rfl | (have := HSB.out; have h2 := SL.out; rw [← this] at h2; simpa using h2)
              clear hyb hy yz
              by_cases ht0 : t = 0
              · subst ht0
                have HV : Hid ((u ++ yb).data.toList = Lib.join (RW.take (0 + 1)) sp ∧ (u ++ yb).size ≤ 61 * (0 + 1)) := Lib.hid ⟨by
                  rw [JT.out, if_pos rfl]
                  have : u.data.toList = [] := by rw [HU.out.1]; simp [Lib.join]
                  simp [this, HYB.out], by have := HU.out.2; rw [ByteArray.size_append]; omega⟩
                try simp only [Nat.add_zero] at c0
                go_wp2_with fail
                go_roundw
                case rel => exact ⟨0 + 1, _, by go_num, by omega, rfl, HV, trivial⟩
                case measure => simp [intOf] <;> omega
              · have HV : Hid ((u ++ sb ++ yb).data.toList = Lib.join (RW.take (t + 1)) sp ∧ (u ++ sb ++ yb).size ≤ 61 * (t + 1)) := Lib.hid ⟨by
                  rw [JT.out, if_neg ht0, cat3, HU.out.1, HSB.out, HYB.out], by have := HU.out.2; rw [ByteArray.size_append, ByteArray.size_append, sbz]; omega⟩
                have p5 : 0 < t := by omega
                clear ht0
                go_wp2_with fail
                go_roundw
                case rel => exact ⟨t + 1, _, by go_num, by omega, rfl, HV, trivial⟩
                case measure => simp [intOf] <;> omega
            · obtain rfl : t = nl := by omega
              have EU : Hid (u = bA (Lib.join RW sp)) := Lib.hid (by rw [← bA_data u, HU.out.1, List.take_of_length_le (by rw [RN.out]; exact Nat.le_refl _)])
              go_wp2_with fail
              go_ret
              exact ⟨by rw [GW.out, ← EU.out]; rfl, Lib.hid BL.out⟩
  · have t0 : decide (0 ≤ sep) = false := decide_eq_false h0
    have e : sepL sep = [32] := if_neg h0
    obtain ⟨sp, hsp⟩ : ∃ sp, sepL sep = sp := ⟨_, rfl⟩
    rw [hsp] at SL e ⊢
    have HSB : Hid ((⟨#[32]⟩ : ByteArray).data.toList = sp) := Lib.hid (by rw [e])
    clear e hsp h0 hsep
    have BB0 := Lib.hid (Below.refl (w.alloc (.cells (scells f1 f2 sep lf rt pr em (.slice a q cap)) 36)).heap.size (w.alloc (.cells (scells f1 f2 sep lf rt pr em (.slice a q cap)) 36)))
    have y2 := Y2.out
    have S0 := And.intro (Below.refl (w.alloc (.cells (scells f1 f2 sep lf rt pr em (.slice a q cap)) 36)).heap.size (w.alloc (.cells (scells f1 f2 sep lf rt pr em (.slice a q cap)) 36))).drew (CE.out _ BB0.out.drew)
    go_enter Tryd.func41, Tryd.ntmps41
    go_wp2_with fail
    trace_state
    clear y2
    go_region_held3 (fun w' => Below (w.alloc (.cells (scells f1 f2 sep lf rt pr em (.slice a q cap)) 36)).heap.size (w.alloc (.cells (scells f1 f2 sep lf rt pr em (.slice a q cap)) 36)) w' ∧ w'.cell? ⟨w.heap.size, 0, none⟩ = some (.int .i64 f1) ∧ w'.cell? ⟨w.heap.size, 1, none⟩ = some (.int .i64 f2) ∧ w'.cell? ⟨w.heap.size, 2, none⟩ = some (.int .i64 sep) ∧ w'.cell? ⟨g1, o1, none⟩ = some (.string s1) ∧ w'.cell? ⟨g2, o2, none⟩ = some (.string s2)) (first | exact S0)
      (first | (go_at_call 31; (with_reducible refine (KK.out _).mono ?_); rintro _ w1 ⟨rfl, B1⟩; have S0 := And.intro (S0.1.trans (B1.out.mono S0.1.size)) (CE.out _ (BB0.out.trans ((S0.1.trans (B1.out.mono S0.1.size)).mono BB0.out.size)))))
    go_wp2_with fail
    have BQ1 := Lib.hid (S0.1)
    have S0 := And.intro BQ1.out.drew (CE.out _ (BB0.out.trans (BQ1.out.drew.mono BB0.out.size)))
    go_region_held3 (fun w' => Below (w.alloc (.cells (scells f1 f2 sep lf rt pr em (.slice a q cap)) 36)).heap.size (w.alloc (.cells (scells f1 f2 sep lf rt pr em (.slice a q cap)) 36)) w' ∧ w'.cell? ⟨w.heap.size, 0, none⟩ = some (.int .i64 f1) ∧ w'.cell? ⟨w.heap.size, 1, none⟩ = some (.int .i64 f2) ∧ w'.cell? ⟨w.heap.size, 2, none⟩ = some (.int .i64 sep) ∧ w'.cell? ⟨g1, o1, none⟩ = some (.string s1) ∧ w'.cell? ⟨g2, o2, none⟩ = some (.string s2)) (first | exact S0)
      (first | (go_at_call 10; (with_reducible refine (FF1.out _).mono ?_); rintro _ w2 ⟨vX, rfl, FX, B2⟩; have S0 := And.intro (S0.1.trans (B2.out.mono S0.1.size)) (CE.out _ (BB0.out.trans ((S0.1.trans (B2.out.mono S0.1.size)).mono BB0.out.size)))))
    go_wp2_with fail
    have BQ2 := Lib.hid (S0.1)
    have S0 := And.intro BQ2.out.drew (CE.out _ (BB0.out.trans (BQ2.out.drew.mono BB0.out.size)))
    go_region_held3 (fun w' => Below (w.alloc (.cells (scells f1 f2 sep lf rt pr em (.slice a q cap)) 36)).heap.size (w.alloc (.cells (scells f1 f2 sep lf rt pr em (.slice a q cap)) 36)) w' ∧ w'.cell? ⟨w.heap.size, 0, none⟩ = some (.int .i64 f1) ∧ w'.cell? ⟨w.heap.size, 1, none⟩ = some (.int .i64 f2) ∧ w'.cell? ⟨w.heap.size, 2, none⟩ = some (.int .i64 sep) ∧ w'.cell? ⟨g1, o1, none⟩ = some (.string s1) ∧ w'.cell? ⟨g2, o2, none⟩ = some (.string s2)) (first | exact S0)
      (first | (go_at_call 10; (with_reducible refine (FF2.out _).mono ?_); rintro _ w3 ⟨vY, rfl, FY, B3⟩; have S0 := And.intro (S0.1.trans (B3.out.mono S0.1.size)) (CE.out _ (BB0.out.trans ((S0.1.trans (B3.out.mono S0.1.size)).mono BB0.out.size)))))
    have BC := Lib.hid (BB0.out.trans (S0.1.mono BB0.out.size))
    clear S0
    have y7 : w3.cell? ⟨w.heap.size, 7, none⟩ = some (.slice a q cap) := kp BC.out Y7.out
    have XX : Hid (LSt w3 vX XL) := Lib.hid (FX.out.l.below ((Below.refl w2.heap.size w2).drew.trans (B3.out.mono (Below.refl w2.heap.size w2).drew.size)))
    have YY : Hid (LSt w3 vY YL) := Lib.hid FY.out.l
    by_cases ho : p.out = []
    · obtain rfl : q = 0 := by rw [← HQ.out, ho]; rfl
      have EG : Hid (rowG p XL YL key = key :: (othL f1 0 XL ++ othL f2 0 YL)) := Lib.hid (by unfold rowG; rw [if_pos ho, HF.out.1, HF.out.2])
      have LX2 : Hid ((othL f1 0 XL).length ≤ 61) := Lib.hid (Nat.le_trans (othL_len _ _ _) CX.out)
      have LY2 : Hid ((othL f2 0 YL).length ≤ 61) := Lib.hid (Nat.le_trans (othL_len _ _ _) CY.out)
      have OX1 := Lib.hid (fun W (h : LSt W vX XL) => rothers_any XL vX f1 W h HF1.out (Nat.le_trans CX.out (by omega)))
      have OY1 := Lib.hid (fun W (h : LSt W vY YL) => rothers_any YL vY f2 W h HF2.out (Nat.le_trans CY.out (by omega)))
      clear ho
      go_upto_region 18 with (first
        | (go_at_call 57; (first
            | ((with_reducible refine (OX1.out _ (XX.out.below bel5.out)).mono ?_); rintro _ w6 ⟨v6, rfl, OW6, B6⟩; have BL6 := Lib.hid (bel5.out.trans (B6.out.mono bel5.out.size)))
            | ((with_reducible refine (OY1.out _ (YY.out.below bel7.out)).mono ?_); rintro _ w8 ⟨v8, rfl, OW8, B8⟩; have BL8 := Lib.hid (bel7.out.trans (B8.out.mono bel7.out.size)))))
        | (at_builtin; (first
            | (refine append_strs rfl _ _ rfl (.slice none 0 0) [] (bA key) w3.heap.size w3 _ (OwnS.none _ _) (Below.refl _ _) (Nat.le_refl _) (by simp) (by simp [Act.eval]) (by simp [Act.eval]) ?_; intro v5 w5 own5 bel5; have y0 : w5.cell? ⟨w.heap.size, 0, none⟩ = some (.int .i64 f1) := kp (BC.out.trans (bel5.out.mono BC.out.size)) Y0.out)
            | (refine append_listS rfl _ _ rfl _ _ ([] ++ [bA key]) ((othL f1 0 XL).map bA) w3.heap.size _ w3 w6 (own_below own5.out B6.out) OW6.out BL6.out BL6.out.size (by rw [List.length_map]; have := LX2.out; simp; omega) (by simp [Act.eval]) (by simp [Act.eval]) ?_; intro v7 w7 own7 bel7; have y1 : w7.cell? ⟨w.heap.size, 1, none⟩ = some (.int .i64 f2) := kp (BC.out.trans (bel7.out.mono BC.out.size)) Y1.out)
            | (refine append_listS rfl _ _ rfl _ _ ([] ++ [bA key] ++ (othL f1 0 XL).map bA) ((othL f2 0 YL).map bA) w3.heap.size _ w3 w8 (own_below own7.out B8.out) OW8.out BL8.out BL8.out.size (by rw [List.length_append, List.length_map, List.length_map]; have := LX2.out; have := LY2.out; simp; omega) (by simp [Act.eval]) (by simp [Act.eval]) ?_; intro vl wl ownl bell; have y7l : wl.cell? ⟨w.heap.size, 7, none⟩ = some (.slice a 0 cap) := kp (BC.out.trans (bell.out.mono BC.out.size)) Y7.out)
            | go_in)))
      have OL : OwnS wl w3.heap.size vl ((rowG p XL YL key).map bA) := by
        have e : [] ++ [bA key] ++ (othL f1 0 XL).map bA ++ (othL f2 0 YL).map bA = (rowG p XL YL key).map bA := by rw [EG.out]; simp
        rw [← e]; exact ownl.out
      obtain ⟨gl, nl, cl, rfl, hnl, hcl⟩ := own_cons OL (fun e => rowG_ne p XL YL key (List.map_eq_nil_iff.1 e))
      have BL : Hid (Below w.heap.size w wl) := Lib.hid (B0.out.trans ((BC.out.trans (bell.out.mono BC.out.size)).mono B0.out.size))
      have RN : Hid ((rowG p XL YL key).length = nl) := Lib.hid (by rw [← hnl, List.length_map])
      have nl3 : nl ≤ 123 := by rw [← RN.out]; exact RLN.out
      have CL : Hid (∀ (j : Nat) y, (rowG p XL YL key)[j]? = some y → wl.cell? ⟨gl, j, none⟩ = some (.string (bA y))) := Lib.hid (by
        obtain ⟨a1, c1, e1, -, -, h1⟩ := (OL).strs
        rw [List.length_map] at e1
        rcases h1 with h1 | ⟨g2, o2, rfl, -, h1⟩
        · exact absurd (List.map_eq_nil_iff.1 h1) (rowG_ne p XL YL key)
        · cases e1
          intro j y hy
          have := h1 j (bA y) (by rw [List.getElem?_map, hy]; rfl)
          rw [Nat.zero_add] at this
          exact this)
      obtain ⟨RW, hRW⟩ : ∃ RW, rowG p XL YL key = RW := ⟨_, rfl⟩
      have RZ : Hid (∀ x ∈ RW, x.length ≤ 60) := Lib.hid (by rw [← hRW]; exact RSZ.out)
      have GW := Lib.hid hRW
      rw [hRW] at RN CL
      clear hRW hnl hcl
      clear own5 own7 ownl OL
      go_wp2_with fail
      go_loop [11, 12] (fun v i => v = .slice (some ⟨gl, 0, none⟩) nl cl ∧ i = .int .i64 0) (fun _ _ => 0)
      case atStart => exact ⟨rfl, rfl⟩
      case round =>
        obtain ⟨rfl, rfl⟩ := hrel
        go_wp2_with fail
        go_loopw [14, 15] (fun x i wr => ∃ (t : Nat) (u : ByteArray), i = .int .i64 t ∧ t ≤ nl ∧ x = .string u ∧ Hid (u.data.toList = Lib.join (RW.take t) sp ∧ u.size ≤ 61 * t) ∧ wr = wl) (fun _ i _ => nl - (intOf i).toNat)
        case atStart => exact ⟨0, ⟨#[]⟩, rfl, Nat.zero_le _, rfl, Lib.hid ⟨by simp [Lib.join], Nat.zero_le _⟩, rfl⟩
        case round =>
          obtain ⟨t, u, rfl, ht, rfl, HU, rfl⟩ := hrel
          by_cases hlt : t < nl
          · obtain ⟨y, hy⟩ : ∃ y, RW[t]? = some y := ⟨_, List.getElem?_eq_getElem (by rw [RN.out]; exact hlt)⟩
            have c0 := CL.out t y hy
            have yz := RZ.out y (List.mem_of_getElem? hy)
            have JT := Lib.hid (join_take RW sp y t hy)
            obtain ⟨yb, hyb⟩ : ∃ yb, bA y = yb := ⟨_, rfl⟩
            have HYB : Hid (yb.data.toList = y) := Lib.hid (by rw [← hyb])
            have ybz : yb.size ≤ 60 := by rw [← hyb]; simpa [bA, ByteArray.size] using yz
            rw [hyb] at c0
            have p0 : (0 : Int) ≤ (t : Int) := by omega
            have p1 : (t : Int) < (nl : Int) := by omega
            have p2 : IntKind.i64.wrap (t : Int) = (t : Int) := IntWalk.i64_in _ (by omega)
            have uz : u.size ≤ 20000 := by have := HU.out.2; omega
            have sbz : (⟨#[32]⟩ : ByteArray).size = 1 := by first | rfl | (have := HSB.out; have h2 := SL.out; rw [← this] at h2; simpa using h2)
            clear hyb hy yz
            by_cases ht0 : t = 0
            · subst ht0
              have HV : Hid ((u ++ yb).data.toList = Lib.join (RW.take (0 + 1)) sp ∧ (u ++ yb).size ≤ 61 * (0 + 1)) := Lib.hid ⟨by
                rw [JT.out, if_pos rfl]
                have : u.data.toList = [] := by rw [HU.out.1]; simp [Lib.join]
                simp [this, HYB.out], by have := HU.out.2; rw [ByteArray.size_append]; omega⟩
              try simp only [Nat.add_zero] at c0
              go_wp2_with fail
              go_roundw
              case rel => exact ⟨0 + 1, _, by go_num, by omega, rfl, HV, trivial⟩
              case measure => simp [intOf] <;> omega
            · have HV : Hid ((u ++ ⟨#[32]⟩ ++ yb).data.toList = Lib.join (RW.take (t + 1)) sp ∧ (u ++ ⟨#[32]⟩ ++ yb).size ≤ 61 * (t + 1)) := Lib.hid ⟨by
                rw [JT.out, if_neg ht0, cat3, HU.out.1, HSB.out, HYB.out], by have := HU.out.2; rw [ByteArray.size_append, ByteArray.size_append, sbz]; omega⟩
              have p5 : 0 < t := by omega
              clear ht0
              go_wp2_with fail
              go_roundw
              case rel => exact ⟨t + 1, _, by go_num, by omega, rfl, HV, trivial⟩
              case measure => simp [intOf] <;> omega
          · obtain rfl : t = nl := by omega
            have EU : Hid (u = bA (Lib.join RW sp)) := Lib.hid (by rw [← bA_data u, HU.out.1, List.take_of_length_le (by rw [RN.out]; exact Nat.le_refl _)])
            go_wp2_with fail
            go_ret
            exact ⟨by rw [GW.out, ← EU.out]; rfl, Lib.hid BL.out⟩
    · have hj0 : ((q : Int) == 0) = false := beq_eq_false_iff_ne.2 (fun e => ho (List.eq_nil_of_length_eq_zero (by rw [HQ.out]; omega)))
      have EG : Hid (rowG p XL YL key = p.out.map (outF p XL YL key)) := Lib.hid (by unfold rowG; rw [if_neg ho])
      clear ho
      go_wp2_with fail
      clear y7
      go_loopw [11, 12] (fun v i wr => ∃ (j : Nat) (R2 : List (List UInt8)), j ≤ q ∧ i = .int .i64 j ∧ Hid (R2 = (p.out.take j).map (outF p XL YL key)) ∧ Hid (OwnS wr w3.heap.size v (R2.map bA)) ∧ Hid (Below w3.heap.size w3 wr)) (fun _ i _ => q - (intOf i).toNat)
      case atStart => exact ⟨0, [], Nat.zero_le _, rfl, Lib.hid rfl, Lib.hid (OwnS.none _ _), Lib.hid (Below.refl _ _)⟩
      case round =>
        obtain ⟨j, R2, hj, rfl, HR2, OW, BK⟩ := hrel
        have y7 : wr.cell? ⟨w.heap.size, 7, none⟩ = some (.slice a q cap) := kp (BC.out.trans (BK.out.mono BC.out.size)) Y7.out
        by_cases hlt : j < q
        · obtain ⟨x, hx⟩ : ∃ x, p.out[j]? = some x := ⟨_, List.getElem?_eq_getElem (by rw [HQ.out]; exact hlt)⟩
          obtain ⟨g, o, rfl, hcc⟩ := HO.out.at (j := j) (x := [.int .i64 x.1, .int .i64 x.2]) (by rw [List.getElem?_map, hx]; rfl)
          have BW := Lib.hid (BC.out.trans (BK.out.mono BC.out.size))
          have c0 := kp BW.out (hcc 0 _ rfl)
          have c1 := kp BW.out (hcc 1 _ rfl)
          rw [Nat.add_zero] at c0
          have y6 : wr.cell? ⟨w.heap.size, 6, none⟩ = some (.string em) := kp BW.out Y6.out
          obtain ⟨xf, xd⟩ := x
          simp only at c0 c1
          have LL : Hid ((R2.map bA).length ≤ 1048577) := Lib.hid (by rw [List.length_map, HR2.out, List.length_map, List.length_take]; omega)
          have p0 : (0 : Int) ≤ (j : Int) := by omega
          have p1 : (j : Int) < (q : Int) := by omega
          have p2 : IntKind.i64.wrap (j : Int) = (j : Int) := IntWalk.i64_in _ (by omega)
          have TK : ∀ u : List UInt8, outF p XL YL key (xf, xd) = u → R2 ++ [u] = (p.out.take (j + 1)).map (outF p XL YL key) := fun u e => by
            rw [List.take_add_one, hx, List.map_append, HR2.out, ← e]; rfl
          have TK := Lib.hid TK
          clear hx hcc HR2
          by_cases x1 : xf = 1
          · subst x1
            obtain ⟨bb, hbb⟩ : ∃ b, decide (1 ≤ xd ∧ xd ≤ ((XL).length : Int)) = b := ⟨_, rfl⟩
            have GX := Lib.hid (fun W (h : LSt W vX XL) => field_any XL vX xd W bb h (Lib.hid hbb))
            obtain ⟨z, hz⟩ : ∃ z, getL XL xd = z := ⟨_, rfl⟩
            rw [hz] at GX
            clear hbb
            by_cases h0 : z = []
            · subst h0
              have HW : Hid (outF p XL YL key (1, xd) = p.empty) := Lib.hid (by unfold outF; simp [hz])
              clear hz
              go_wp2_with (first | (go_at_call 53; (with_reducible refine (GX.out wr (XX.out.below BK.out)).mono ?_); rintro _ w3 ⟨rfl, h3⟩; replace h3 := h3.symm; subst h3) | (at_builtin; (first | (refine append_strs rfl _ _ rfl _ (R2.map bA) (em) w3.heap.size w3 _ OW.out BK.out BK.out.size LL.out (by simp [Act.eval]) (by simp [Act.eval]) ?_; intro v2 w4 own2 bel2) | go_in)))
              go_roundw
              case rel => exact ⟨j + 1, R2 ++ [p.empty], by omega, by go_num, Lib.hid (TK.out _ HW.out), Lib.hid (by rw [List.map_append]; show OwnS _ _ _ (_ ++ [bA p.empty]); rw [HE.out, bA_data]; exact own2.out), bel2⟩
              case measure => simp [intOf] <;> omega
            · have HW : Hid (outF p XL YL key (1, xd) = z) := Lib.hid (by unfold outF; simp [hz, h0])
              have ht : ((bA z).toList == []) = false := by rw [size_ne]; exact decide_eq_false (fun e => h0 (List.length_eq_zero_iff.1 e))
              clear hz
              obtain ⟨u, hu⟩ : ∃ u, bA z = u := ⟨_, rfl⟩
              have HU := Lib.hid hu
              rw [hu] at ht GX
              clear hu h0
              go_wp2_with (first | (go_at_call 53; (with_reducible refine (GX.out wr (XX.out.below BK.out)).mono ?_); rintro _ w3 ⟨rfl, h3⟩; replace h3 := h3.symm; subst h3) | (at_builtin; (first | (refine append_strs rfl _ _ rfl _ (R2.map bA) (u) w3.heap.size w3 _ OW.out BK.out BK.out.size LL.out (by simp [Act.eval]) (by simp [Act.eval]) ?_; intro v2 w4 own2 bel2) | go_in)))
              go_roundw
              case rel => exact ⟨j + 1, R2 ++ [z], by omega, by go_num, Lib.hid (TK.out _ HW.out), Lib.hid (by rw [List.map_append]; show OwnS _ _ _ (_ ++ [bA z]); rw [HU.out]; exact own2.out), bel2⟩
              case measure => simp [intOf] <;> omega
          · by_cases x2 : xf = 2
            · subst x2
              obtain ⟨bb, hbb⟩ : ∃ b, decide (1 ≤ xd ∧ xd ≤ ((YL).length : Int)) = b := ⟨_, rfl⟩
              have GX := Lib.hid (fun W (h : LSt W vY YL) => field_any YL vY xd W bb h (Lib.hid hbb))
              obtain ⟨z, hz⟩ : ∃ z, getL YL xd = z := ⟨_, rfl⟩
              rw [hz] at GX
              clear hbb
              by_cases h0 : z = []
              · subst h0
                have HW : Hid (outF p XL YL key (2, xd) = p.empty) := Lib.hid (by unfold outF; simp [hz])
                clear hz
                go_wp2_with (first | (go_at_call 53; (with_reducible refine (GX.out wr (YY.out.below BK.out)).mono ?_); rintro _ w3 ⟨rfl, h3⟩; replace h3 := h3.symm; subst h3) | (at_builtin; (first | (refine append_strs rfl _ _ rfl _ (R2.map bA) (em) w3.heap.size w3 _ OW.out BK.out BK.out.size LL.out (by simp [Act.eval]) (by simp [Act.eval]) ?_; intro v2 w4 own2 bel2) | go_in)))
                go_roundw
                case rel => exact ⟨j + 1, R2 ++ [p.empty], by omega, by go_num, Lib.hid (TK.out _ HW.out), Lib.hid (by rw [List.map_append]; show OwnS _ _ _ (_ ++ [bA p.empty]); rw [HE.out, bA_data]; exact own2.out), bel2⟩
                case measure => simp [intOf] <;> omega
              · have HW : Hid (outF p XL YL key (2, xd) = z) := Lib.hid (by unfold outF; simp [hz, h0])
                have ht : ((bA z).toList == []) = false := by rw [size_ne]; exact decide_eq_false (fun e => h0 (List.length_eq_zero_iff.1 e))
                clear hz
                obtain ⟨u, hu⟩ : ∃ u, bA z = u := ⟨_, rfl⟩
                have HU := Lib.hid hu
                rw [hu] at ht GX
                clear hu h0
                go_wp2_with (first | (go_at_call 53; (with_reducible refine (GX.out wr (YY.out.below BK.out)).mono ?_); rintro _ w3 ⟨rfl, h3⟩; replace h3 := h3.symm; subst h3) | (at_builtin; (first | (refine append_strs rfl _ _ rfl _ (R2.map bA) (u) w3.heap.size w3 _ OW.out BK.out BK.out.size LL.out (by simp [Act.eval]) (by simp [Act.eval]) ?_; intro v2 w4 own2 bel2) | go_in)))
                go_roundw
                case rel => exact ⟨j + 1, R2 ++ [z], by omega, by go_num, Lib.hid (TK.out _ HW.out), Lib.hid (by rw [List.map_append]; show OwnS _ _ _ (_ ++ [bA z]); rw [HU.out]; exact own2.out), bel2⟩
                case measure => simp [intOf] <;> omega
            · have t1 : (xf == 1) = false := beq_eq_false_iff_ne.2 x1
              have t2 : (xf == 2) = false := beq_eq_false_iff_ne.2 x2
              by_cases h0 : key = []
              · subst h0
                have HW : Hid (outF p XL YL [] (xf, xd) = p.empty) := Lib.hid (by unfold outF; simp [x1, x2])
                skip
                go_wp2_with (first | fail | (at_builtin; (first | (refine append_strs rfl _ _ rfl _ (R2.map bA) (em) w3.heap.size w3 _ OW.out BK.out BK.out.size LL.out (by simp [Act.eval]) (by simp [Act.eval]) ?_; intro v2 w4 own2 bel2) | go_in)))
                go_roundw
                case rel => exact ⟨j + 1, R2 ++ [p.empty], by omega, by go_num, Lib.hid (TK.out _ HW.out), Lib.hid (by rw [List.map_append]; show OwnS _ _ _ (_ ++ [bA p.empty]); rw [HE.out, bA_data]; exact own2.out), bel2⟩
                case measure => simp [intOf] <;> omega
              · have HW : Hid (outF p XL YL key (xf, xd) = key) := Lib.hid (by unfold outF; simp [h0, x1, x2])
                have ht : ((bA key).toList == []) = false := by rw [size_ne]; exact decide_eq_false (fun e => h0 (List.length_eq_zero_iff.1 e))
                skip
                obtain ⟨u, hu⟩ : ∃ u, bA key = u := ⟨_, rfl⟩
                have HU := Lib.hid hu
                rw [hu] at ht ⊢
                clear hu h0
                go_wp2_with (first | fail | (at_builtin; (first | (refine append_strs rfl _ _ rfl _ (R2.map bA) (u) w3.heap.size w3 _ OW.out BK.out BK.out.size LL.out (by simp [Act.eval]) (by simp [Act.eval]) ?_; intro v2 w4 own2 bel2) | go_in)))
                go_roundw
                case rel => exact ⟨j + 1, R2 ++ [key], by omega, by go_num, Lib.hid (TK.out _ HW.out), Lib.hid (by rw [List.map_append]; show OwnS _ _ _ (_ ++ [bA key]); rw [HU.out]; exact own2.out), bel2⟩
                case measure => simp [intOf] <;> omega
        · obtain rfl : j = q := by omega
          have ER : R2 = rowG p XL YL key := by rw [EG.out, HR2.out, List.take_of_length_le (by rw [HQ.out]; exact Nat.le_refl _)]
          have OL : OwnS wr w3.heap.size u11 ((rowG p XL YL key).map bA) := by rw [← ER]; exact OW.out
          have BKW := Lib.hid (BC.out.trans (BK.out.mono BC.out.size))
          clear ER OW HR2
          obtain ⟨gl, nl, cl, rfl, hnl, hcl⟩ := own_cons OL (fun e => rowG_ne p XL YL key (List.map_eq_nil_iff.1 e))
          have BL : Hid (Below w.heap.size w wr) := Lib.hid (B0.out.trans ((BKW.out).mono B0.out.size))
          have RN : Hid ((rowG p XL YL key).length = nl) := Lib.hid (by rw [← hnl, List.length_map])
          have nl3 : nl ≤ 123 := by rw [← RN.out]; exact RLN.out
          have CL : Hid (∀ (j : Nat) y, (rowG p XL YL key)[j]? = some y → wr.cell? ⟨gl, j, none⟩ = some (.string (bA y))) := Lib.hid (by
            obtain ⟨a1, c1, e1, -, -, h1⟩ := (OL).strs
            rw [List.length_map] at e1
            rcases h1 with h1 | ⟨g2, o2, rfl, -, h1⟩
            · exact absurd (List.map_eq_nil_iff.1 h1) (rowG_ne p XL YL key)
            · cases e1
              intro j y hy
              have := h1 j (bA y) (by rw [List.getElem?_map, hy]; rfl)
              rw [Nat.zero_add] at this
              exact this)
          obtain ⟨RW, hRW⟩ : ∃ RW, rowG p XL YL key = RW := ⟨_, rfl⟩
          have RZ : Hid (∀ x ∈ RW, x.length ≤ 60) := Lib.hid (by rw [← hRW]; exact RSZ.out)
          have GW := Lib.hid hRW
          rw [hRW] at RN CL
          clear hRW hnl hcl
          clear OL
          go_wp2_with fail
          go_loopw [14, 15] (fun x i wx => ∃ (t : Nat) (u : ByteArray), i = .int .i64 t ∧ t ≤ nl ∧ x = .string u ∧ Hid (u.data.toList = Lib.join (RW.take t) sp ∧ u.size ≤ 61 * t) ∧ wx = wr) (fun _ i _ => nl - (intOf i).toNat)
          case atStart => exact ⟨0, ⟨#[]⟩, rfl, Nat.zero_le _, rfl, Lib.hid ⟨by simp [Lib.join], Nat.zero_le _⟩, rfl⟩
          case round =>
            obtain ⟨t, u, rfl, ht, rfl, HU, rfl⟩ := hrel
            by_cases hlt : t < nl
            · obtain ⟨y, hy⟩ : ∃ y, RW[t]? = some y := ⟨_, List.getElem?_eq_getElem (by rw [RN.out]; exact hlt)⟩
              have c0 := CL.out t y hy
              have yz := RZ.out y (List.mem_of_getElem? hy)
              have JT := Lib.hid (join_take RW sp y t hy)
              obtain ⟨yb, hyb⟩ : ∃ yb, bA y = yb := ⟨_, rfl⟩
              have HYB : Hid (yb.data.toList = y) := Lib.hid (by rw [← hyb])
              have ybz : yb.size ≤ 60 := by rw [← hyb]; simpa [bA, ByteArray.size] using yz
              rw [hyb] at c0
              have p0 : (0 : Int) ≤ (t : Int) := by omega
              have p1 : (t : Int) < (nl : Int) := by omega
              have p2 : IntKind.i64.wrap (t : Int) = (t : Int) := IntWalk.i64_in _ (by omega)
              have uz : u.size ≤ 20000 := by have := HU.out.2; omega
              have sbz : (⟨#[32]⟩ : ByteArray).size = 1 := by first | rfl | (have := HSB.out; have h2 := SL.out; rw [← this] at h2; simpa using h2)
              clear hyb hy yz
              by_cases ht0 : t = 0
              · subst ht0
                have HV : Hid ((u ++ yb).data.toList = Lib.join (RW.take (0 + 1)) sp ∧ (u ++ yb).size ≤ 61 * (0 + 1)) := Lib.hid ⟨by
                  rw [JT.out, if_pos rfl]
                  have : u.data.toList = [] := by rw [HU.out.1]; simp [Lib.join]
                  simp [this, HYB.out], by have := HU.out.2; rw [ByteArray.size_append]; omega⟩
                try simp only [Nat.add_zero] at c0
                go_wp2_with fail
                go_roundw
                case rel => exact ⟨0 + 1, _, by go_num, by omega, rfl, HV, trivial⟩
                case measure => simp [intOf] <;> omega
              · have HV : Hid ((u ++ ⟨#[32]⟩ ++ yb).data.toList = Lib.join (RW.take (t + 1)) sp ∧ (u ++ ⟨#[32]⟩ ++ yb).size ≤ 61 * (t + 1)) := Lib.hid ⟨by
                  rw [JT.out, if_neg ht0, cat3, HU.out.1, HSB.out, HYB.out], by have := HU.out.2; rw [ByteArray.size_append, ByteArray.size_append, sbz]; omega⟩
                have p5 : 0 < t := by omega
                clear ht0
                go_wp2_with fail
                go_roundw
                case rel => exact ⟨t + 1, _, by go_num, by omega, rfl, HV, trivial⟩
                case measure => simp [intOf] <;> omega
            · obtain rfl : t = nl := by omega
              have EU : Hid (u = bA (Lib.join RW sp)) := Lib.hid (by rw [← bA_data u, HU.out.1, List.take_of_length_le (by rw [RN.out]; exact Nat.le_refl _)])
              go_wp2_with fail
              go_ret
              exact ⟨by rw [GW.out, ← EU.out]; rfl, Lib.hid BL.out⟩
end Go.Proofs.YtbhdhcnbagjmcaaDoor
