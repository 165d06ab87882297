/- walks: what the statement writes of two lines (written by gen_PA.py) -/
import Derived.Test.YtbhdhcnbagjmcaaDoorPv
import Derived.Test.YtbhdhcnbagjmcaaDoorPq
import Derived.BigGuard
import Derived.BigCall
namespace Go.Proofs.YtbhdhcnbagjmcaaDoor
open Go.RowKit Go.Maps
open Jn Lcl
/-- fields behind separators -/
def glS (sp : List UInt8) (L : List (List UInt8)) : List UInt8 := L.flatMap fun y => sp ++ y
theorem glS_snoc (sp : List UInt8) (L : List (List UInt8)) (x : List UInt8) : glS sp (L ++ [x]) = glS sp L ++ (sp ++ x) := by simp [glS]
theorem cat3 (z s y : ByteArray) : (z ++ s ++ y).data.toList = z.data.toList ++ (s.data.toList ++ y.data.toList) := by simp
theorem glS_app (sp : List UInt8) (L M : List (List UInt8)) : glS sp (L ++ M) = glS sp L ++ glS sp M := by simp [glS]
/-- three lists of the call's own, whose blocks are apart -/
def apart (u v : Value) : Prop := u.ownBlock = none ∨ v.ownBlock = none ∨ u.ownBlock ≠ v.ownBlock
theorem apart.symm {u v : Value} (h : apart u v) : apart v u := by
  rcases h with h | h | h
  · exact .inr (.inl h)
  · exact .inl h
  · exact .inr (.inr (Ne.symm h))
theorem apart.kept {w w' : World} {B : Nat} {u v : Value} {L : List ByteArray} (h : apart u v) (o : OwnS w B u L) (g : w.grownBy w' v.ownBlock) : OwnS w' B u L := by
  refine World.ownsRow.kept o g ?_
  rcases h with h | h | h
  · exact .inl h
  · rw [h]
    cases hu : u.ownBlock with
    | none => exact .inl rfl
    | some b => exact .inr (by simp)
  · exact .inr h
theorem apart.new {w : World} {B g n c : Nat} {u v : Value} {L : List ByteArray} (h : apart u v) (o : OwnS w B u L) (hg : v.ownBlock = some g ∨ w.heap.size ≤ g) : apart u (.slice (some ⟨g, 0, none⟩) n c) := by
  cases hu : u.ownBlock with
  | none => exact .inl hu
  | some b =>
    refine .inr (.inr ?_)
    rw [hu]
    show some b ≠ some g
    intro e
    have e2 : b = g := Option.some.inj e
    rcases hg with hg | hg
    · rw [← e2] at hg
      rcases h with h | h | h
      · rw [hu] at h; cases h
      · rw [hg] at h; cases h
      · rw [hu, hg] at h; exact h rfl
    · have := (o.lt b hu).2; omega
structure P3 (w0 : World) (v1 v2 v3 : Value) (L1 L2 L3 : List (List UInt8)) (w : World) : Prop where
  o1 : OwnS w w0.heap.size v1 (L1.map bA)
  o2 : OwnS w w0.heap.size v2 (L2.map bA)
  o3 : OwnS w w0.heap.size v3 (L3.map bA)
  a12 : apart v1 v2
  a13 : apart v1 v3
  a23 : apart v2 v3
  bel : Below w0.heap.size w0 w
theorem P3.start (w : World) : P3 w (.slice none 0 0) (.slice none 0 0) (.slice none 0 0) [] [] [] w := ⟨OwnS.none _ _, OwnS.none _ _, OwnS.none _ _, .inl rfl, .inl rfl, .inl rfl, Below.refl _ _⟩
theorem P3.below {w0 w w' : World} {v1 v2 v3 : Value} {L1 L2 L3 : List (List UInt8)} (h : P3 w0 v1 v2 v3 L1 L2 L3 w) (hb : Below w.heap.size w w') : P3 w0 v1 v2 v3 L1 L2 L3 w' :=
  ⟨own_below h.o1 hb, own_below h.o2 hb, own_below h.o3 hb, h.a12, h.a13, h.a23, h.bel.trans (hb.mono h.bel.size)⟩
theorem P3.rot {w0 w : World} {v1 v2 v3 : Value} {L1 L2 L3 : List (List UInt8)} (h : P3 w0 v1 v2 v3 L1 L2 L3 w) : P3 w0 v2 v3 v1 L2 L3 L1 w := ⟨h.o2, h.o3, h.o1, h.a23, h.a12.symm, h.a13.symm, h.bel⟩
/-- one string more in the first list -/
theorem P3.add {w0 w w' : World} {v1 v2 v3 : Value} {L1 L2 L3 : List (List UInt8)} {g n c : Nat} {x : List UInt8} (h : P3 w0 v1 v2 v3 L1 L2 L3 w) (o : OwnS w' w0.heap.size (.slice (some ⟨g, 0, none⟩) n c) (L1.map bA ++ [bA x])) (gr : w.grownBy w' v1.ownBlock) (hg : v1.ownBlock = some g ∨ w.heap.size ≤ g) :
    P3 w0 (.slice (some ⟨g, 0, none⟩) n c) v2 v3 (L1 ++ [x]) L2 L3 w' :=
  ⟨by rw [List.map_append]; exact o, h.a12.symm.kept h.o2 gr, h.a13.symm.kept h.o3 gr, (h.a12.symm.new h.o2 hg).symm, (h.a13.symm.new h.o3 hg).symm, h.a23, h.bel.grown gr h.bel.size (fun k hk => (h.o1.lt k hk).1)⟩
set_option maxRecDepth 100000 in
set_option maxHeartbeats 8000000 in
theorem rowab_any (s1 : ByteArray) (g1 o1 c1 : Nat) (s2 : ByteArray) (g2 o2 c2 : Nat) (n m sep mx : Int) (w : World) (hm : w.cell? ⟨0, 0, none⟩ = some (.int .i64 mx)) (h1 : w.cell? ⟨g1, o1, none⟩ = some (.string s1)) (z1 : s1.size ≤ 60) (h2 : w.cell? ⟨g2, o2, none⟩ = some (.string s2)) (z2 : s2.size ≤ 60) (hn : 1 ≤ n ∧ n ≤ 1024) (hm2 : 1 ≤ m ∧ m ≤ 1024) (hsep : -1 ≤ sep ∧ sep ≤ 255) :
    Calls Tryd.prog 21 #[.slice (some ⟨g1, o1, none⟩) 1 c1, .slice (some ⟨g2, o2, none⟩) 1 c2, .int .i64 n, .int .i64 m, .int .i64 sep] w fun e w' => e = .returned (.string (bA (rowS sep n m (some s1.data.toList) (some s2.data.toList)))) ∧ Hid (Below w.heap.size w w') := by
  have HM := Lib.hid hm
  have H1 := Lib.hid h1
  have Z1 := Lib.hid z1
  have FF1 := Lib.hid (fun W (hb : Below w.heap.size w W) => fields_any s1 sep mx W (kp hb HM.out) (Nat.le_trans Z1.out (by omega)))
  have LS1 : Hid (∀ x ∈ fieldsL sep s1.data.toList, x.length ≤ 60) := Lib.hid (fun x hx => Nat.le_trans (fieldsL_sz hx) (by simpa using Z1.out))
  have LC1 : Hid ((fieldsL sep s1.data.toList).length ≤ 61) := Lib.hid (fieldsL_61 _ Z1.out)
  have H2 := Lib.hid h2
  have Z2 := Lib.hid z2
  have FF2 := Lib.hid (fun W (hb : Below w.heap.size w W) => fields_any s2 sep mx W (kp hb HM.out) (Nat.le_trans Z2.out (by omega)))
  have LS2 : Hid (∀ x ∈ fieldsL sep s2.data.toList, x.length ≤ 60) := Lib.hid (fun x hx => Nat.le_trans (fieldsL_sz hx) (by simpa using Z2.out))
  have LC2 : Hid ((fieldsL sep s2.data.toList).length ≤ 61) := Lib.hid (fieldsL_61 _ Z2.out)
  have KK := Lib.hid (fun W (hb : Below w.heap.size w W) => lkey_any s1 n sep mx W (kp hb HM.out) (Nat.le_trans Z1.out (by omega)))
  have KZ : Hid ((bA (keyL sep n s1.data.toList)).size ≤ 60) := Lib.hid (key_sz _ _ _ Z1.out)
  have RS0 : True := trivial
  have RS : Hid (rowS sep n m (some s1.data.toList) (some s2.data.toList) = keyL sep n s1.data.toList ++ glS (sepL sep) (othL n 0 (fieldsL sep s1.data.toList) ++ othL m 0 (fieldsL sep s2.data.toList))) := Lib.hid (by unfold rowS glS; rfl)
  obtain ⟨L1, hL1⟩ : ∃ L, fieldsL sep s1.data.toList = L := ⟨_, rfl⟩
  rw [hL1] at FF1 LS1 LC1 RS
  clear hL1 h1 z1
  obtain ⟨L2, hL2⟩ : ∃ L, fieldsL sep s2.data.toList = L := ⟨_, rfl⟩
  rw [hL2] at FF2 LS2 LC2 RS
  clear hL2 h2 z2
  obtain ⟨kb, hkb⟩ : ∃ kb, bA (keyL sep n s1.data.toList) = kb := ⟨_, rfl⟩
  have HKB : Hid (keyL sep n s1.data.toList = kb.data.toList) := Lib.hid (by rw [← hkb])
  rw [hkb] at KK KZ
  rw [HKB.out] at RS
  rw [RS.out]
  clear hm hkb RS RS0
  by_cases h0 : 0 ≤ sep
  · have t0 : decide (0 ≤ sep) = true := decide_eq_true h0
    have CV := tx_conv_one sep w
    have e : strOfNums [sep] = bA (sepL sep) := by
      unfold sepL
      rw [if_pos h0]
      obtain ⟨k, rfl⟩ : ∃ k : Nat, sep = k := ⟨sep.toNat, by omega⟩
      simp [strOfNums]
    rw [e] at CV
    obtain ⟨sb, hsb⟩ : ∃ sb, bA (sepL sep) = sb := ⟨_, rfl⟩
    have HSB : Hid (sb.data.toList = sepL sep) := Lib.hid (by rw [← hsb])
    have sbz : sb.size = 1 := by rw [← hsb]; exact sepL_len sep
    have SBZ := Lib.hid sbz
    rw [hsb] at CV
    have WRP : IntKind.u8.wrap sep = sep := by unfold IntKind.wrap; simp [IntKind.bits, IntKind.signed]; omega
    have BB0 := Lib.hid ((Below.refl w.heap.size w).alloc (Nat.le_refl _) (.cells #[.int .u8 sep] 5))
    clear e hsb h0 hsep
    have ca := kp BB0.out H1.out
    go_enter Tryd.func21, Tryd.ntmps21
    go_wp2_with (go_at_call 20; (with_reducible refine (KK.out _ BB0.out).mono ?_); rintro _ w1 ⟨rfl, B1⟩; have BB1 := Lib.hid (BB0.out.trans (B1.out.mono BB0.out.size)))
    clear ca
    go_loopw [12, 13] (fun x i wr => ∃ (t : Nat) (u : ByteArray), i = .int .i64 t ∧ t ≤ 2 ∧ x = .string u ∧ Hid (u.data.toList = kb.data.toList ++ glS (sepL sep) ((fun t : Nat => if t = 0 then ([] : List (List UInt8)) else if t = 1 then othL n 0 L1 else othL n 0 L1 ++ othL m 0 L2) t) ∧ u.size ≤ 60 + 4000 * t) ∧ Hid (Below w.heap.size w wr)) (fun _ i _ => 2 - (intOf i).toNat)
    case atStart => exact ⟨0, kb, rfl, Nat.zero_le _, rfl, Lib.hid ⟨by simp [glS], KZ.out⟩, BB1⟩
    case round =>
      obtain ⟨t, u, rfl, ht, rfl, HU, BK⟩ := hrel
      have hcase : t = 0 ∨ t = 1 ∨ t = 2 := by omega
      rcases hcase with rfl | rfl | rfl
      · have c0 := kp BK.out H1.out
        have HU0 : Hid (u.data.toList = kb.data.toList ++ glS (sepL sep) ([] : List (List UInt8)) ∧ u.size ≤ 60) := Lib.hid (by have := HU.out; simpa using this)
        clear HU
        go_wp2_with (go_at_call 9; (with_reducible refine (FF1.out _ BK.out).mono ?_); rintro _ w5 ⟨v, rfl, F5, B5⟩; obtain ⟨a5, cap5, e5, -, -, hc5⟩ := F5.out.1; rw [List.length_map] at e5; obtain ⟨q, hq⟩ : ∃ q, L1.length = q := ⟨_, rfl⟩; rw [hq] at e5; subst e5; have HQ := Lib.hid hq; have HC5 := Lib.hid hc5; have BK5 := Lib.hid (BK.out.trans (B5.out.mono BK.out.size)); have hq61 : q ≤ 61 := (by rw [← hq]; exact LC1.out); clear hq hc5 c0)
        go_loopw [12, 17] (fun x j wr => ∃ (jj : Nat) (R : List (List UInt8)) (z : ByteArray), j = .int .i64 jj ∧ jj ≤ q ∧ x = .string z ∧ Hid (othL n 0 L1 = R ++ othL n jj (L1.drop jj)) ∧ Hid (z.data.toList = u.data.toList ++ glS (sepL sep) R ∧ z.size ≤ 60 + 61 * jj) ∧ Hid (Below w5.heap.size w5 wr)) (fun _ j _ => q - (intOf j).toNat)
        case atStart => exact ⟨0, [], u, rfl, Nat.zero_le _, rfl, Lib.hid rfl, Lib.hid ⟨by simp [glS], HU0.out.2⟩, Lib.hid (Below.refl _ _)⟩
        case round =>
          obtain ⟨jj, R, z, rfl, hj, rfl, HO, HZ, BR⟩ := hrel
          by_cases hlt : jj < q
          · have l1 : jj < L1.length := by rw [HQ.out]; exact hlt
            rcases HC5.out with h0 | ⟨g, o, rfl, hg, hc⟩
            · rw [List.map_eq_nil_iff] at h0; rw [h0] at l1; simp at l1
            obtain ⟨y, hy⟩ : ∃ y, L1[jj]? = some y := ⟨_, List.getElem?_eq_getElem l1⟩
            have DR := Lib.hid (drop_get hy)
            have p0 : (0 : Int) ≤ (jj : Int) := by omega
            have p1 : (jj : Int) < (q : Int) := by omega
            have p2 : IntKind.i64.wrap (jj : Int) = (jj : Int) := IntWalk.i64_in _ (by omega)
            have p3 : IntKind.i64.wrap (n - 1) = n - 1 := IntWalk.i64_in _ (by omega)
            have c5 := kp BR.out (hc jj (bA y) (by rw [List.getElem?_map, hy]; rfl))
            have yz := LS1.out y (List.mem_of_getElem? hy)
            clear hc hg l1 hy
            by_cases hk : (jj : Int) + 1 = n
            · have t1 : ((jj : Int) != n - 1) = false := by rw [bne_eq_false_iff_eq]; omega
              have HO2 : Hid (othL n 0 L1 = R ++ othL n (jj + 1) (L1.drop (jj + 1))) := Lib.hid (by rw [HO.out, DR.out, othL_hit hk])
              clear hk HO DR
              go_wp2_with fail
              go_roundw
              case rel => exact ⟨jj + 1, R, z, by go_num, by omega, rfl, HO2, Lib.hid ⟨HZ.out.1, by have := HZ.out.2; omega⟩, BR⟩
              case measure => simp [intOf]; omega
            · have t1 : ((jj : Int) != n - 1) = true := by rw [bne_iff_ne]; omega
              have HO2 : Hid (othL n 0 L1 = (R ++ [y]) ++ othL n (jj + 1) (L1.drop (jj + 1))) := Lib.hid (by rw [HO.out, DR.out, othL_no hk, List.append_assoc]; rfl)
              obtain ⟨yb, hyb⟩ : ∃ yb, bA y = yb := ⟨_, rfl⟩
              have HYB : Hid (yb.data.toList = y) := Lib.hid (by rw [← hyb])
              have ybz : yb.size ≤ 60 := by rw [← hyb]; exact yz
              have zz : z.size ≤ 20000 := by have := HZ.out.2; omega
              have HZ2 : Hid ((z ++ sb ++ yb).data.toList = u.data.toList ++ glS (sepL sep) (R ++ [y]) ∧ (z ++ sb ++ yb).size ≤ 60 + 61 * (jj + 1)) := Lib.hid ⟨by rw [cat3, HZ.out.1, HSB.out, HYB.out, glS_snoc, List.append_assoc], by have := HZ.out.2; rw [ByteArray.size_append, ByteArray.size_append, SBZ.out]; omega⟩
              rw [hyb] at c5
              clear hk HO DR hyb yz
              go_wp2_with fail
              go_roundw
              case rel => exact ⟨jj + 1, R ++ [y], _, by go_num, by omega, rfl, HO2, HZ2, BR⟩
              case measure => simp [intOf]; omega
          · obtain rfl : jj = q := by omega
            have ER : Hid (othL n 0 L1 = R) := Lib.hid (by rw [HO.out, List.drop_eq_nil_of_le (by rw [HQ.out]; exact Nat.le_refl _)]; simp [othL])
            go_wp2_with fail
            go_roundw
            case rel => exact ⟨1, z, by go_num, by omega, rfl, Lib.hid ⟨by rw [HZ.out.1, HU0.out.1, ← ER.out]; simp [glS], by have := HZ.out.2; omega⟩, Lib.hid (BK5.out.trans (BR.out.mono BK5.out.size))⟩
            case measure => simp [intOf]
      · have c0 := kp BK.out H2.out
        have HU0 : Hid (u.data.toList = kb.data.toList ++ glS (sepL sep) (othL n 0 L1) ∧ u.size ≤ 4060) := Lib.hid (by have := HU.out; simpa using this)
        clear HU
        go_wp2_with (go_at_call 9; (with_reducible refine (FF2.out _ BK.out).mono ?_); rintro _ w5 ⟨v, rfl, F5, B5⟩; obtain ⟨a5, cap5, e5, -, -, hc5⟩ := F5.out.1; rw [List.length_map] at e5; obtain ⟨q, hq⟩ : ∃ q, L2.length = q := ⟨_, rfl⟩; rw [hq] at e5; subst e5; have HQ := Lib.hid hq; have HC5 := Lib.hid hc5; have BK5 := Lib.hid (BK.out.trans (B5.out.mono BK.out.size)); have hq61 : q ≤ 61 := (by rw [← hq]; exact LC2.out); clear hq hc5 c0)
        go_loopw [12, 17] (fun x j wr => ∃ (jj : Nat) (R : List (List UInt8)) (z : ByteArray), j = .int .i64 jj ∧ jj ≤ q ∧ x = .string z ∧ Hid (othL m 0 L2 = R ++ othL m jj (L2.drop jj)) ∧ Hid (z.data.toList = u.data.toList ++ glS (sepL sep) R ∧ z.size ≤ 4060 + 61 * jj) ∧ Hid (Below w5.heap.size w5 wr)) (fun _ j _ => q - (intOf j).toNat)
        case atStart => exact ⟨0, [], u, rfl, Nat.zero_le _, rfl, Lib.hid rfl, Lib.hid ⟨by simp [glS], HU0.out.2⟩, Lib.hid (Below.refl _ _)⟩
        case round =>
          obtain ⟨jj, R, z, rfl, hj, rfl, HO, HZ, BR⟩ := hrel
          by_cases hlt : jj < q
          · have l1 : jj < L2.length := by rw [HQ.out]; exact hlt
            rcases HC5.out with h0 | ⟨g, o, rfl, hg, hc⟩
            · rw [List.map_eq_nil_iff] at h0; rw [h0] at l1; simp at l1
            obtain ⟨y, hy⟩ : ∃ y, L2[jj]? = some y := ⟨_, List.getElem?_eq_getElem l1⟩
            have DR := Lib.hid (drop_get hy)
            have p0 : (0 : Int) ≤ (jj : Int) := by omega
            have p1 : (jj : Int) < (q : Int) := by omega
            have p2 : IntKind.i64.wrap (jj : Int) = (jj : Int) := IntWalk.i64_in _ (by omega)
            have p3 : IntKind.i64.wrap (m - 1) = m - 1 := IntWalk.i64_in _ (by omega)
            have c5 := kp BR.out (hc jj (bA y) (by rw [List.getElem?_map, hy]; rfl))
            have yz := LS2.out y (List.mem_of_getElem? hy)
            clear hc hg l1 hy
            by_cases hk : (jj : Int) + 1 = m
            · have t1 : ((jj : Int) != m - 1) = false := by rw [bne_eq_false_iff_eq]; omega
              have HO2 : Hid (othL m 0 L2 = R ++ othL m (jj + 1) (L2.drop (jj + 1))) := Lib.hid (by rw [HO.out, DR.out, othL_hit hk])
              clear hk HO DR
              go_wp2_with fail
              go_roundw
              case rel => exact ⟨jj + 1, R, z, by go_num, by omega, rfl, HO2, Lib.hid ⟨HZ.out.1, by have := HZ.out.2; omega⟩, BR⟩
              case measure => simp [intOf]; omega
            · have t1 : ((jj : Int) != m - 1) = true := by rw [bne_iff_ne]; omega
              have HO2 : Hid (othL m 0 L2 = (R ++ [y]) ++ othL m (jj + 1) (L2.drop (jj + 1))) := Lib.hid (by rw [HO.out, DR.out, othL_no hk, List.append_assoc]; rfl)
              obtain ⟨yb, hyb⟩ : ∃ yb, bA y = yb := ⟨_, rfl⟩
              have HYB : Hid (yb.data.toList = y) := Lib.hid (by rw [← hyb])
              have ybz : yb.size ≤ 60 := by rw [← hyb]; exact yz
              have zz : z.size ≤ 20000 := by have := HZ.out.2; omega
              have HZ2 : Hid ((z ++ sb ++ yb).data.toList = u.data.toList ++ glS (sepL sep) (R ++ [y]) ∧ (z ++ sb ++ yb).size ≤ 4060 + 61 * (jj + 1)) := Lib.hid ⟨by rw [cat3, HZ.out.1, HSB.out, HYB.out, glS_snoc, List.append_assoc], by have := HZ.out.2; rw [ByteArray.size_append, ByteArray.size_append, SBZ.out]; omega⟩
              rw [hyb] at c5
              clear hk HO DR hyb yz
              go_wp2_with fail
              go_roundw
              case rel => exact ⟨jj + 1, R ++ [y], _, by go_num, by omega, rfl, HO2, HZ2, BR⟩
              case measure => simp [intOf]; omega
          · obtain rfl : jj = q := by omega
            have ER : Hid (othL m 0 L2 = R) := Lib.hid (by rw [HO.out, List.drop_eq_nil_of_le (by rw [HQ.out]; exact Nat.le_refl _)]; simp [othL])
            go_wp2_with fail
            go_roundw
            case rel => exact ⟨2, z, by go_num, by omega, rfl, Lib.hid ⟨by rw [HZ.out.1, HU0.out.1, ← ER.out]; simp [glS], by have := HZ.out.2; omega⟩, Lib.hid (BK5.out.trans (BR.out.mono BK5.out.size))⟩
            case measure => simp [intOf]
      · have EU : Hid (bA (kb.data.toList ++ glS (sepL sep) (othL n 0 L1 ++ othL m 0 L2)) = u) := Lib.hid (by
          have h := HU.out.1
          simp at h
          have e : bA u.data.toList = u := bA_data u
          rw [← e, h])
        clear HU
        go_wp2_with fail
        go_ret
        exact ⟨by rw [EU.out]; rfl, BK⟩
  · have t0 : decide (0 ≤ sep) = false := decide_eq_false h0
    have HSB : Hid ((⟨#[32]⟩ : ByteArray).data.toList = sepL sep) := Lib.hid (by unfold sepL; rw [if_neg h0])
    have SBZ : Hid ((⟨#[32]⟩ : ByteArray).size = 1) := Lib.hid rfl
    have BB0 := Lib.hid (Below.refl w.heap.size w)
    clear h0 hsep
    have ca := kp BB0.out H1.out
    go_enter Tryd.func21, Tryd.ntmps21
    go_wp2_with (go_at_call 20; (with_reducible refine (KK.out _ BB0.out).mono ?_); rintro _ w1 ⟨rfl, B1⟩; have BB1 := Lib.hid (BB0.out.trans (B1.out.mono BB0.out.size)))
    clear ca
    go_loopw [12, 13] (fun x i wr => ∃ (t : Nat) (u : ByteArray), i = .int .i64 t ∧ t ≤ 2 ∧ x = .string u ∧ Hid (u.data.toList = kb.data.toList ++ glS (sepL sep) ((fun t : Nat => if t = 0 then ([] : List (List UInt8)) else if t = 1 then othL n 0 L1 else othL n 0 L1 ++ othL m 0 L2) t) ∧ u.size ≤ 60 + 4000 * t) ∧ Hid (Below w.heap.size w wr)) (fun _ i _ => 2 - (intOf i).toNat)
    case atStart => exact ⟨0, kb, rfl, Nat.zero_le _, rfl, Lib.hid ⟨by simp [glS], KZ.out⟩, BB1⟩
    case round =>
      obtain ⟨t, u, rfl, ht, rfl, HU, BK⟩ := hrel
      have hcase : t = 0 ∨ t = 1 ∨ t = 2 := by omega
      rcases hcase with rfl | rfl | rfl
      · have c0 := kp BK.out H1.out
        have HU0 : Hid (u.data.toList = kb.data.toList ++ glS (sepL sep) ([] : List (List UInt8)) ∧ u.size ≤ 60) := Lib.hid (by have := HU.out; simpa using this)
        clear HU
        go_wp2_with (go_at_call 9; (with_reducible refine (FF1.out _ BK.out).mono ?_); rintro _ w5 ⟨v, rfl, F5, B5⟩; obtain ⟨a5, cap5, e5, -, -, hc5⟩ := F5.out.1; rw [List.length_map] at e5; obtain ⟨q, hq⟩ : ∃ q, L1.length = q := ⟨_, rfl⟩; rw [hq] at e5; subst e5; have HQ := Lib.hid hq; have HC5 := Lib.hid hc5; have BK5 := Lib.hid (BK.out.trans (B5.out.mono BK.out.size)); have hq61 : q ≤ 61 := (by rw [← hq]; exact LC1.out); clear hq hc5 c0)
        go_loopw [12, 17] (fun x j wr => ∃ (jj : Nat) (R : List (List UInt8)) (z : ByteArray), j = .int .i64 jj ∧ jj ≤ q ∧ x = .string z ∧ Hid (othL n 0 L1 = R ++ othL n jj (L1.drop jj)) ∧ Hid (z.data.toList = u.data.toList ++ glS (sepL sep) R ∧ z.size ≤ 60 + 61 * jj) ∧ Hid (Below w5.heap.size w5 wr)) (fun _ j _ => q - (intOf j).toNat)
        case atStart => exact ⟨0, [], u, rfl, Nat.zero_le _, rfl, Lib.hid rfl, Lib.hid ⟨by simp [glS], HU0.out.2⟩, Lib.hid (Below.refl _ _)⟩
        case round =>
          obtain ⟨jj, R, z, rfl, hj, rfl, HO, HZ, BR⟩ := hrel
          by_cases hlt : jj < q
          · have l1 : jj < L1.length := by rw [HQ.out]; exact hlt
            rcases HC5.out with h0 | ⟨g, o, rfl, hg, hc⟩
            · rw [List.map_eq_nil_iff] at h0; rw [h0] at l1; simp at l1
            obtain ⟨y, hy⟩ : ∃ y, L1[jj]? = some y := ⟨_, List.getElem?_eq_getElem l1⟩
            have DR := Lib.hid (drop_get hy)
            have p0 : (0 : Int) ≤ (jj : Int) := by omega
            have p1 : (jj : Int) < (q : Int) := by omega
            have p2 : IntKind.i64.wrap (jj : Int) = (jj : Int) := IntWalk.i64_in _ (by omega)
            have p3 : IntKind.i64.wrap (n - 1) = n - 1 := IntWalk.i64_in _ (by omega)
            have c5 := kp BR.out (hc jj (bA y) (by rw [List.getElem?_map, hy]; rfl))
            have yz := LS1.out y (List.mem_of_getElem? hy)
            clear hc hg l1 hy
            by_cases hk : (jj : Int) + 1 = n
            · have t1 : ((jj : Int) != n - 1) = false := by rw [bne_eq_false_iff_eq]; omega
              have HO2 : Hid (othL n 0 L1 = R ++ othL n (jj + 1) (L1.drop (jj + 1))) := Lib.hid (by rw [HO.out, DR.out, othL_hit hk])
              clear hk HO DR
              go_wp2_with fail
              go_roundw
              case rel => exact ⟨jj + 1, R, z, by go_num, by omega, rfl, HO2, Lib.hid ⟨HZ.out.1, by have := HZ.out.2; omega⟩, BR⟩
              case measure => simp [intOf]; omega
            · have t1 : ((jj : Int) != n - 1) = true := by rw [bne_iff_ne]; omega
              have HO2 : Hid (othL n 0 L1 = (R ++ [y]) ++ othL n (jj + 1) (L1.drop (jj + 1))) := Lib.hid (by rw [HO.out, DR.out, othL_no hk, List.append_assoc]; rfl)
              obtain ⟨yb, hyb⟩ : ∃ yb, bA y = yb := ⟨_, rfl⟩
              have HYB : Hid (yb.data.toList = y) := Lib.hid (by rw [← hyb])
              have ybz : yb.size ≤ 60 := by rw [← hyb]; exact yz
              have zz : z.size ≤ 20000 := by have := HZ.out.2; omega
              have HZ2 : Hid ((z ++ ⟨#[32]⟩ ++ yb).data.toList = u.data.toList ++ glS (sepL sep) (R ++ [y]) ∧ (z ++ ⟨#[32]⟩ ++ yb).size ≤ 60 + 61 * (jj + 1)) := Lib.hid ⟨by rw [cat3, HZ.out.1, HSB.out, HYB.out, glS_snoc, List.append_assoc], by have := HZ.out.2; rw [ByteArray.size_append, ByteArray.size_append, SBZ.out]; omega⟩
              rw [hyb] at c5
              clear hk HO DR hyb yz
              go_wp2_with fail
              go_roundw
              case rel => exact ⟨jj + 1, R ++ [y], _, by go_num, by omega, rfl, HO2, HZ2, BR⟩
              case measure => simp [intOf]; omega
          · obtain rfl : jj = q := by omega
            have ER : Hid (othL n 0 L1 = R) := Lib.hid (by rw [HO.out, List.drop_eq_nil_of_le (by rw [HQ.out]; exact Nat.le_refl _)]; simp [othL])
            go_wp2_with fail
            go_roundw
            case rel => exact ⟨1, z, by go_num, by omega, rfl, Lib.hid ⟨by rw [HZ.out.1, HU0.out.1, ← ER.out]; simp [glS], by have := HZ.out.2; omega⟩, Lib.hid (BK5.out.trans (BR.out.mono BK5.out.size))⟩
            case measure => simp [intOf]
      · have c0 := kp BK.out H2.out
        have HU0 : Hid (u.data.toList = kb.data.toList ++ glS (sepL sep) (othL n 0 L1) ∧ u.size ≤ 4060) := Lib.hid (by have := HU.out; simpa using this)
        clear HU
        go_wp2_with (go_at_call 9; (with_reducible refine (FF2.out _ BK.out).mono ?_); rintro _ w5 ⟨v, rfl, F5, B5⟩; obtain ⟨a5, cap5, e5, -, -, hc5⟩ := F5.out.1; rw [List.length_map] at e5; obtain ⟨q, hq⟩ : ∃ q, L2.length = q := ⟨_, rfl⟩; rw [hq] at e5; subst e5; have HQ := Lib.hid hq; have HC5 := Lib.hid hc5; have BK5 := Lib.hid (BK.out.trans (B5.out.mono BK.out.size)); have hq61 : q ≤ 61 := (by rw [← hq]; exact LC2.out); clear hq hc5 c0)
        go_loopw [12, 17] (fun x j wr => ∃ (jj : Nat) (R : List (List UInt8)) (z : ByteArray), j = .int .i64 jj ∧ jj ≤ q ∧ x = .string z ∧ Hid (othL m 0 L2 = R ++ othL m jj (L2.drop jj)) ∧ Hid (z.data.toList = u.data.toList ++ glS (sepL sep) R ∧ z.size ≤ 4060 + 61 * jj) ∧ Hid (Below w5.heap.size w5 wr)) (fun _ j _ => q - (intOf j).toNat)
        case atStart => exact ⟨0, [], u, rfl, Nat.zero_le _, rfl, Lib.hid rfl, Lib.hid ⟨by simp [glS], HU0.out.2⟩, Lib.hid (Below.refl _ _)⟩
        case round =>
          obtain ⟨jj, R, z, rfl, hj, rfl, HO, HZ, BR⟩ := hrel
          by_cases hlt : jj < q
          · have l1 : jj < L2.length := by rw [HQ.out]; exact hlt
            rcases HC5.out with h0 | ⟨g, o, rfl, hg, hc⟩
            · rw [List.map_eq_nil_iff] at h0; rw [h0] at l1; simp at l1
            obtain ⟨y, hy⟩ : ∃ y, L2[jj]? = some y := ⟨_, List.getElem?_eq_getElem l1⟩
            have DR := Lib.hid (drop_get hy)
            have p0 : (0 : Int) ≤ (jj : Int) := by omega
            have p1 : (jj : Int) < (q : Int) := by omega
            have p2 : IntKind.i64.wrap (jj : Int) = (jj : Int) := IntWalk.i64_in _ (by omega)
            have p3 : IntKind.i64.wrap (m - 1) = m - 1 := IntWalk.i64_in _ (by omega)
            have c5 := kp BR.out (hc jj (bA y) (by rw [List.getElem?_map, hy]; rfl))
            have yz := LS2.out y (List.mem_of_getElem? hy)
            clear hc hg l1 hy
            by_cases hk : (jj : Int) + 1 = m
            · have t1 : ((jj : Int) != m - 1) = false := by rw [bne_eq_false_iff_eq]; omega
              have HO2 : Hid (othL m 0 L2 = R ++ othL m (jj + 1) (L2.drop (jj + 1))) := Lib.hid (by rw [HO.out, DR.out, othL_hit hk])
              clear hk HO DR
              go_wp2_with fail
              go_roundw
              case rel => exact ⟨jj + 1, R, z, by go_num, by omega, rfl, HO2, Lib.hid ⟨HZ.out.1, by have := HZ.out.2; omega⟩, BR⟩
              case measure => simp [intOf]; omega
            · have t1 : ((jj : Int) != m - 1) = true := by rw [bne_iff_ne]; omega
              have HO2 : Hid (othL m 0 L2 = (R ++ [y]) ++ othL m (jj + 1) (L2.drop (jj + 1))) := Lib.hid (by rw [HO.out, DR.out, othL_no hk, List.append_assoc]; rfl)
              obtain ⟨yb, hyb⟩ : ∃ yb, bA y = yb := ⟨_, rfl⟩
              have HYB : Hid (yb.data.toList = y) := Lib.hid (by rw [← hyb])
              have ybz : yb.size ≤ 60 := by rw [← hyb]; exact yz
              have zz : z.size ≤ 20000 := by have := HZ.out.2; omega
              have HZ2 : Hid ((z ++ ⟨#[32]⟩ ++ yb).data.toList = u.data.toList ++ glS (sepL sep) (R ++ [y]) ∧ (z ++ ⟨#[32]⟩ ++ yb).size ≤ 4060 + 61 * (jj + 1)) := Lib.hid ⟨by rw [cat3, HZ.out.1, HSB.out, HYB.out, glS_snoc, List.append_assoc], by have := HZ.out.2; rw [ByteArray.size_append, ByteArray.size_append, SBZ.out]; omega⟩
              rw [hyb] at c5
              clear hk HO DR hyb yz
              go_wp2_with fail
              go_roundw
              case rel => exact ⟨jj + 1, R ++ [y], _, by go_num, by omega, rfl, HO2, HZ2, BR⟩
              case measure => simp [intOf]; omega
          · obtain rfl : jj = q := by omega
            have ER : Hid (othL m 0 L2 = R) := Lib.hid (by rw [HO.out, List.drop_eq_nil_of_le (by rw [HQ.out]; exact Nat.le_refl _)]; simp [othL])
            go_wp2_with fail
            go_roundw
            case rel => exact ⟨2, z, by go_num, by omega, rfl, Lib.hid ⟨by rw [HZ.out.1, HU0.out.1, ← ER.out]; simp [glS], by have := HZ.out.2; omega⟩, Lib.hid (BK5.out.trans (BR.out.mono BK5.out.size))⟩
            case measure => simp [intOf]
      · have EU : Hid (bA (kb.data.toList ++ glS (sepL sep) (othL n 0 L1 ++ othL m 0 L2)) = u) := Lib.hid (by
          have h := HU.out.1
          simp at h
          have e : bA u.data.toList = u := bA_data u
          rw [← e, h])
        clear HU
        go_wp2_with fail
        go_ret
        exact ⟨by rw [EU.out]; rfl, BK⟩
set_option maxRecDepth 100000 in
set_option maxHeartbeats 8000000 in
theorem rowa_any (s1 : ByteArray) (g1 o1 c1 : Nat) (n m sep mx : Int) (w : World) (hm : w.cell? ⟨0, 0, none⟩ = some (.int .i64 mx)) (h1 : w.cell? ⟨g1, o1, none⟩ = some (.string s1)) (z1 : s1.size ≤ 60) (hn : 1 ≤ n ∧ n ≤ 1024) (_hm2 : 1 ≤ m ∧ m ≤ 1024) (hsep : -1 ≤ sep ∧ sep ≤ 255) :
    Calls Tryd.prog 21 #[.slice (some ⟨g1, o1, none⟩) 1 c1, .slice none 0 0, .int .i64 n, .int .i64 m, .int .i64 sep] w fun e w' => e = .returned (.string (bA (rowS sep n m (some s1.data.toList) none))) ∧ Hid (Below w.heap.size w w') := by
  have HM := Lib.hid hm
  have H1 := Lib.hid h1
  have Z1 := Lib.hid z1
  have FF1 := Lib.hid (fun W (hb : Below w.heap.size w W) => fields_any s1 sep mx W (kp hb HM.out) (Nat.le_trans Z1.out (by omega)))
  have LS1 : Hid (∀ x ∈ fieldsL sep s1.data.toList, x.length ≤ 60) := Lib.hid (fun x hx => Nat.le_trans (fieldsL_sz hx) (by simpa using Z1.out))
  have LC1 : Hid ((fieldsL sep s1.data.toList).length ≤ 61) := Lib.hid (fieldsL_61 _ Z1.out)
  have KK := Lib.hid (fun W (hb : Below w.heap.size w W) => lkey_any s1 n sep mx W (kp hb HM.out) (Nat.le_trans Z1.out (by omega)))
  have KZ : Hid ((bA (keyL sep n s1.data.toList)).size ≤ 60) := Lib.hid (key_sz _ _ _ Z1.out)
  have RS0 : True := trivial
  have RS : Hid (rowS sep n m (some s1.data.toList) none = keyL sep n s1.data.toList ++ glS (sepL sep) (othL n 0 (fieldsL sep s1.data.toList))) := Lib.hid (by unfold rowS glS; simp [xO, othL]; rfl)
  obtain ⟨L1, hL1⟩ : ∃ L, fieldsL sep s1.data.toList = L := ⟨_, rfl⟩
  rw [hL1] at FF1 LS1 LC1 RS
  clear hL1 h1 z1
  obtain ⟨kb, hkb⟩ : ∃ kb, bA (keyL sep n s1.data.toList) = kb := ⟨_, rfl⟩
  have HKB : Hid (keyL sep n s1.data.toList = kb.data.toList) := Lib.hid (by rw [← hkb])
  rw [hkb] at KK KZ
  rw [HKB.out] at RS
  rw [RS.out]
  clear hm hkb RS RS0
  by_cases h0 : 0 ≤ sep
  · have t0 : decide (0 ≤ sep) = true := decide_eq_true h0
    have CV := tx_conv_one sep w
    have e : strOfNums [sep] = bA (sepL sep) := by
      unfold sepL
      rw [if_pos h0]
      obtain ⟨k, rfl⟩ : ∃ k : Nat, sep = k := ⟨sep.toNat, by omega⟩
      simp [strOfNums]
    rw [e] at CV
    obtain ⟨sb, hsb⟩ : ∃ sb, bA (sepL sep) = sb := ⟨_, rfl⟩
    have HSB : Hid (sb.data.toList = sepL sep) := Lib.hid (by rw [← hsb])
    have sbz : sb.size = 1 := by rw [← hsb]; exact sepL_len sep
    have SBZ := Lib.hid sbz
    rw [hsb] at CV
    have WRP : IntKind.u8.wrap sep = sep := by unfold IntKind.wrap; simp [IntKind.bits, IntKind.signed]; omega
    have BB0 := Lib.hid ((Below.refl w.heap.size w).alloc (Nat.le_refl _) (.cells #[.int .u8 sep] 5))
    clear e hsb h0 hsep
    have ca := kp BB0.out H1.out
    go_enter Tryd.func21, Tryd.ntmps21
    go_wp2_with (go_at_call 20; (with_reducible refine (KK.out _ BB0.out).mono ?_); rintro _ w1 ⟨rfl, B1⟩; have BB1 := Lib.hid (BB0.out.trans (B1.out.mono BB0.out.size)))
    clear ca
    go_loopw [12, 13] (fun x i wr => ∃ (t : Nat) (u : ByteArray), i = .int .i64 t ∧ t ≤ 1 ∧ x = .string u ∧ Hid (u.data.toList = kb.data.toList ++ glS (sepL sep) ((fun t : Nat => if t = 0 then ([] : List (List UInt8)) else othL n 0 L1) t) ∧ u.size ≤ 60 + 4000 * t) ∧ Hid (Below w.heap.size w wr)) (fun _ i _ => 1 - (intOf i).toNat)
    case atStart => exact ⟨0, kb, rfl, Nat.zero_le _, rfl, Lib.hid ⟨by simp [glS], KZ.out⟩, BB1⟩
    case round =>
      obtain ⟨t, u, rfl, ht, rfl, HU, BK⟩ := hrel
      have hcase : t = 0 ∨ t = 1 := by omega
      rcases hcase with rfl | rfl
      · have c0 := kp BK.out H1.out
        have HU0 : Hid (u.data.toList = kb.data.toList ++ glS (sepL sep) ([] : List (List UInt8)) ∧ u.size ≤ 60) := Lib.hid (by have := HU.out; simpa using this)
        clear HU
        go_wp2_with (go_at_call 9; (with_reducible refine (FF1.out _ BK.out).mono ?_); rintro _ w5 ⟨v, rfl, F5, B5⟩; obtain ⟨a5, cap5, e5, -, -, hc5⟩ := F5.out.1; rw [List.length_map] at e5; obtain ⟨q, hq⟩ : ∃ q, L1.length = q := ⟨_, rfl⟩; rw [hq] at e5; subst e5; have HQ := Lib.hid hq; have HC5 := Lib.hid hc5; have BK5 := Lib.hid (BK.out.trans (B5.out.mono BK.out.size)); have hq61 : q ≤ 61 := (by rw [← hq]; exact LC1.out); clear hq hc5 c0)
        go_loopw [12, 17] (fun x j wr => ∃ (jj : Nat) (R : List (List UInt8)) (z : ByteArray), j = .int .i64 jj ∧ jj ≤ q ∧ x = .string z ∧ Hid (othL n 0 L1 = R ++ othL n jj (L1.drop jj)) ∧ Hid (z.data.toList = u.data.toList ++ glS (sepL sep) R ∧ z.size ≤ 60 + 61 * jj) ∧ Hid (Below w5.heap.size w5 wr)) (fun _ j _ => q - (intOf j).toNat)
        case atStart => exact ⟨0, [], u, rfl, Nat.zero_le _, rfl, Lib.hid rfl, Lib.hid ⟨by simp [glS], HU0.out.2⟩, Lib.hid (Below.refl _ _)⟩
        case round =>
          obtain ⟨jj, R, z, rfl, hj, rfl, HO, HZ, BR⟩ := hrel
          by_cases hlt : jj < q
          · have l1 : jj < L1.length := by rw [HQ.out]; exact hlt
            rcases HC5.out with h0 | ⟨g, o, rfl, hg, hc⟩
            · rw [List.map_eq_nil_iff] at h0; rw [h0] at l1; simp at l1
            obtain ⟨y, hy⟩ : ∃ y, L1[jj]? = some y := ⟨_, List.getElem?_eq_getElem l1⟩
            have DR := Lib.hid (drop_get hy)
            have p0 : (0 : Int) ≤ (jj : Int) := by omega
            have p1 : (jj : Int) < (q : Int) := by omega
            have p2 : IntKind.i64.wrap (jj : Int) = (jj : Int) := IntWalk.i64_in _ (by omega)
            have p3 : IntKind.i64.wrap (n - 1) = n - 1 := IntWalk.i64_in _ (by omega)
            have c5 := kp BR.out (hc jj (bA y) (by rw [List.getElem?_map, hy]; rfl))
            have yz := LS1.out y (List.mem_of_getElem? hy)
            clear hc hg l1 hy
            by_cases hk : (jj : Int) + 1 = n
            · have t1 : ((jj : Int) != n - 1) = false := by rw [bne_eq_false_iff_eq]; omega
              have HO2 : Hid (othL n 0 L1 = R ++ othL n (jj + 1) (L1.drop (jj + 1))) := Lib.hid (by rw [HO.out, DR.out, othL_hit hk])
              clear hk HO DR
              go_wp2_with fail
              go_roundw
              case rel => exact ⟨jj + 1, R, z, by go_num, by omega, rfl, HO2, Lib.hid ⟨HZ.out.1, by have := HZ.out.2; omega⟩, BR⟩
              case measure => simp [intOf]; omega
            · have t1 : ((jj : Int) != n - 1) = true := by rw [bne_iff_ne]; omega
              have HO2 : Hid (othL n 0 L1 = (R ++ [y]) ++ othL n (jj + 1) (L1.drop (jj + 1))) := Lib.hid (by rw [HO.out, DR.out, othL_no hk, List.append_assoc]; rfl)
              obtain ⟨yb, hyb⟩ : ∃ yb, bA y = yb := ⟨_, rfl⟩
              have HYB : Hid (yb.data.toList = y) := Lib.hid (by rw [← hyb])
              have ybz : yb.size ≤ 60 := by rw [← hyb]; exact yz
              have zz : z.size ≤ 20000 := by have := HZ.out.2; omega
              have HZ2 : Hid ((z ++ sb ++ yb).data.toList = u.data.toList ++ glS (sepL sep) (R ++ [y]) ∧ (z ++ sb ++ yb).size ≤ 60 + 61 * (jj + 1)) := Lib.hid ⟨by rw [cat3, HZ.out.1, HSB.out, HYB.out, glS_snoc, List.append_assoc], by have := HZ.out.2; rw [ByteArray.size_append, ByteArray.size_append, SBZ.out]; omega⟩
              rw [hyb] at c5
              clear hk HO DR hyb yz
              go_wp2_with fail
              go_roundw
              case rel => exact ⟨jj + 1, R ++ [y], _, by go_num, by omega, rfl, HO2, HZ2, BR⟩
              case measure => simp [intOf]; omega
          · obtain rfl : jj = q := by omega
            have ER : Hid (othL n 0 L1 = R) := Lib.hid (by rw [HO.out, List.drop_eq_nil_of_le (by rw [HQ.out]; exact Nat.le_refl _)]; simp [othL])
            go_wp2_with fail
            go_roundw
            case rel => exact ⟨1, z, by go_num, by omega, rfl, Lib.hid ⟨by rw [HZ.out.1, HU0.out.1, ← ER.out]; simp [glS], by have := HZ.out.2; omega⟩, Lib.hid (BK5.out.trans (BR.out.mono BK5.out.size))⟩
            case measure => simp [intOf]
      · have EU : Hid (bA (kb.data.toList ++ glS (sepL sep) (othL n 0 L1)) = u) := Lib.hid (by
          have h := HU.out.1
          simp at h
          have e : bA u.data.toList = u := bA_data u
          rw [← e, h])
        clear HU
        go_wp2_with fail
        go_ret
        exact ⟨by rw [EU.out]; rfl, BK⟩
  · have t0 : decide (0 ≤ sep) = false := decide_eq_false h0
    have HSB : Hid ((⟨#[32]⟩ : ByteArray).data.toList = sepL sep) := Lib.hid (by unfold sepL; rw [if_neg h0])
    have SBZ : Hid ((⟨#[32]⟩ : ByteArray).size = 1) := Lib.hid rfl
    have BB0 := Lib.hid (Below.refl w.heap.size w)
    clear h0 hsep
    have ca := kp BB0.out H1.out
    go_enter Tryd.func21, Tryd.ntmps21
    go_wp2_with (go_at_call 20; (with_reducible refine (KK.out _ BB0.out).mono ?_); rintro _ w1 ⟨rfl, B1⟩; have BB1 := Lib.hid (BB0.out.trans (B1.out.mono BB0.out.size)))
    clear ca
    go_loopw [12, 13] (fun x i wr => ∃ (t : Nat) (u : ByteArray), i = .int .i64 t ∧ t ≤ 1 ∧ x = .string u ∧ Hid (u.data.toList = kb.data.toList ++ glS (sepL sep) ((fun t : Nat => if t = 0 then ([] : List (List UInt8)) else othL n 0 L1) t) ∧ u.size ≤ 60 + 4000 * t) ∧ Hid (Below w.heap.size w wr)) (fun _ i _ => 1 - (intOf i).toNat)
    case atStart => exact ⟨0, kb, rfl, Nat.zero_le _, rfl, Lib.hid ⟨by simp [glS], KZ.out⟩, BB1⟩
    case round =>
      obtain ⟨t, u, rfl, ht, rfl, HU, BK⟩ := hrel
      have hcase : t = 0 ∨ t = 1 := by omega
      rcases hcase with rfl | rfl
      · have c0 := kp BK.out H1.out
        have HU0 : Hid (u.data.toList = kb.data.toList ++ glS (sepL sep) ([] : List (List UInt8)) ∧ u.size ≤ 60) := Lib.hid (by have := HU.out; simpa using this)
        clear HU
        go_wp2_with (go_at_call 9; (with_reducible refine (FF1.out _ BK.out).mono ?_); rintro _ w5 ⟨v, rfl, F5, B5⟩; obtain ⟨a5, cap5, e5, -, -, hc5⟩ := F5.out.1; rw [List.length_map] at e5; obtain ⟨q, hq⟩ : ∃ q, L1.length = q := ⟨_, rfl⟩; rw [hq] at e5; subst e5; have HQ := Lib.hid hq; have HC5 := Lib.hid hc5; have BK5 := Lib.hid (BK.out.trans (B5.out.mono BK.out.size)); have hq61 : q ≤ 61 := (by rw [← hq]; exact LC1.out); clear hq hc5 c0)
        go_loopw [12, 17] (fun x j wr => ∃ (jj : Nat) (R : List (List UInt8)) (z : ByteArray), j = .int .i64 jj ∧ jj ≤ q ∧ x = .string z ∧ Hid (othL n 0 L1 = R ++ othL n jj (L1.drop jj)) ∧ Hid (z.data.toList = u.data.toList ++ glS (sepL sep) R ∧ z.size ≤ 60 + 61 * jj) ∧ Hid (Below w5.heap.size w5 wr)) (fun _ j _ => q - (intOf j).toNat)
        case atStart => exact ⟨0, [], u, rfl, Nat.zero_le _, rfl, Lib.hid rfl, Lib.hid ⟨by simp [glS], HU0.out.2⟩, Lib.hid (Below.refl _ _)⟩
        case round =>
          obtain ⟨jj, R, z, rfl, hj, rfl, HO, HZ, BR⟩ := hrel
          by_cases hlt : jj < q
          · have l1 : jj < L1.length := by rw [HQ.out]; exact hlt
            rcases HC5.out with h0 | ⟨g, o, rfl, hg, hc⟩
            · rw [List.map_eq_nil_iff] at h0; rw [h0] at l1; simp at l1
            obtain ⟨y, hy⟩ : ∃ y, L1[jj]? = some y := ⟨_, List.getElem?_eq_getElem l1⟩
            have DR := Lib.hid (drop_get hy)
            have p0 : (0 : Int) ≤ (jj : Int) := by omega
            have p1 : (jj : Int) < (q : Int) := by omega
            have p2 : IntKind.i64.wrap (jj : Int) = (jj : Int) := IntWalk.i64_in _ (by omega)
            have p3 : IntKind.i64.wrap (n - 1) = n - 1 := IntWalk.i64_in _ (by omega)
            have c5 := kp BR.out (hc jj (bA y) (by rw [List.getElem?_map, hy]; rfl))
            have yz := LS1.out y (List.mem_of_getElem? hy)
            clear hc hg l1 hy
            by_cases hk : (jj : Int) + 1 = n
            · have t1 : ((jj : Int) != n - 1) = false := by rw [bne_eq_false_iff_eq]; omega
              have HO2 : Hid (othL n 0 L1 = R ++ othL n (jj + 1) (L1.drop (jj + 1))) := Lib.hid (by rw [HO.out, DR.out, othL_hit hk])
              clear hk HO DR
              go_wp2_with fail
              go_roundw
              case rel => exact ⟨jj + 1, R, z, by go_num, by omega, rfl, HO2, Lib.hid ⟨HZ.out.1, by have := HZ.out.2; omega⟩, BR⟩
              case measure => simp [intOf]; omega
            · have t1 : ((jj : Int) != n - 1) = true := by rw [bne_iff_ne]; omega
              have HO2 : Hid (othL n 0 L1 = (R ++ [y]) ++ othL n (jj + 1) (L1.drop (jj + 1))) := Lib.hid (by rw [HO.out, DR.out, othL_no hk, List.append_assoc]; rfl)
              obtain ⟨yb, hyb⟩ : ∃ yb, bA y = yb := ⟨_, rfl⟩
              have HYB : Hid (yb.data.toList = y) := Lib.hid (by rw [← hyb])
              have ybz : yb.size ≤ 60 := by rw [← hyb]; exact yz
              have zz : z.size ≤ 20000 := by have := HZ.out.2; omega
              have HZ2 : Hid ((z ++ ⟨#[32]⟩ ++ yb).data.toList = u.data.toList ++ glS (sepL sep) (R ++ [y]) ∧ (z ++ ⟨#[32]⟩ ++ yb).size ≤ 60 + 61 * (jj + 1)) := Lib.hid ⟨by rw [cat3, HZ.out.1, HSB.out, HYB.out, glS_snoc, List.append_assoc], by have := HZ.out.2; rw [ByteArray.size_append, ByteArray.size_append, SBZ.out]; omega⟩
              rw [hyb] at c5
              clear hk HO DR hyb yz
              go_wp2_with fail
              go_roundw
              case rel => exact ⟨jj + 1, R ++ [y], _, by go_num, by omega, rfl, HO2, HZ2, BR⟩
              case measure => simp [intOf]; omega
          · obtain rfl : jj = q := by omega
            have ER : Hid (othL n 0 L1 = R) := Lib.hid (by rw [HO.out, List.drop_eq_nil_of_le (by rw [HQ.out]; exact Nat.le_refl _)]; simp [othL])
            go_wp2_with fail
            go_roundw
            case rel => exact ⟨1, z, by go_num, by omega, rfl, Lib.hid ⟨by rw [HZ.out.1, HU0.out.1, ← ER.out]; simp [glS], by have := HZ.out.2; omega⟩, Lib.hid (BK5.out.trans (BR.out.mono BK5.out.size))⟩
            case measure => simp [intOf]
      · have EU : Hid (bA (kb.data.toList ++ glS (sepL sep) (othL n 0 L1)) = u) := Lib.hid (by
          have h := HU.out.1
          simp at h
          have e : bA u.data.toList = u := bA_data u
          rw [← e, h])
        clear HU
        go_wp2_with fail
        go_ret
        exact ⟨by rw [EU.out]; rfl, BK⟩
set_option maxRecDepth 100000 in
set_option maxHeartbeats 8000000 in
theorem rowb_any (s2 : ByteArray) (g2 o2 c2 : Nat) (n m sep mx : Int) (w : World) (hm : w.cell? ⟨0, 0, none⟩ = some (.int .i64 mx)) (h2 : w.cell? ⟨g2, o2, none⟩ = some (.string s2)) (z2 : s2.size ≤ 60) (_hn : 1 ≤ n ∧ n ≤ 1024) (hm2 : 1 ≤ m ∧ m ≤ 1024) (hsep : -1 ≤ sep ∧ sep ≤ 255) :
    Calls Tryd.prog 21 #[.slice none 0 0, .slice (some ⟨g2, o2, none⟩) 1 c2, .int .i64 n, .int .i64 m, .int .i64 sep] w fun e w' => e = .returned (.string (bA (rowS sep n m none (some s2.data.toList)))) ∧ Hid (Below w.heap.size w w') := by
  have HM := Lib.hid hm
  have H2 := Lib.hid h2
  have Z2 := Lib.hid z2
  have FF2 := Lib.hid (fun W (hb : Below w.heap.size w W) => fields_any s2 sep mx W (kp hb HM.out) (Nat.le_trans Z2.out (by omega)))
  have LS2 : Hid (∀ x ∈ fieldsL sep s2.data.toList, x.length ≤ 60) := Lib.hid (fun x hx => Nat.le_trans (fieldsL_sz hx) (by simpa using Z2.out))
  have LC2 : Hid ((fieldsL sep s2.data.toList).length ≤ 61) := Lib.hid (fieldsL_61 _ Z2.out)
  have KK := Lib.hid (fun W (hb : Below w.heap.size w W) => lkey_any s2 m sep mx W (kp hb HM.out) (Nat.le_trans Z2.out (by omega)))
  have KZ : Hid ((bA (keyL sep m s2.data.toList)).size ≤ 60) := Lib.hid (key_sz _ _ _ Z2.out)
  have RS0 : True := trivial
  have RS : Hid (rowS sep n m none (some s2.data.toList) = keyL sep m s2.data.toList ++ glS (sepL sep) (othL m 0 (fieldsL sep s2.data.toList))) := Lib.hid (by unfold rowS glS; simp [xO, othL]; rfl)
  obtain ⟨L2, hL2⟩ : ∃ L, fieldsL sep s2.data.toList = L := ⟨_, rfl⟩
  rw [hL2] at FF2 LS2 LC2 RS
  clear hL2 h2 z2
  obtain ⟨kb, hkb⟩ : ∃ kb, bA (keyL sep m s2.data.toList) = kb := ⟨_, rfl⟩
  have HKB : Hid (keyL sep m s2.data.toList = kb.data.toList) := Lib.hid (by rw [← hkb])
  rw [hkb] at KK KZ
  rw [HKB.out] at RS
  rw [RS.out]
  clear hm hkb RS RS0
  by_cases h0 : 0 ≤ sep
  · have t0 : decide (0 ≤ sep) = true := decide_eq_true h0
    have CV := tx_conv_one sep w
    have e : strOfNums [sep] = bA (sepL sep) := by
      unfold sepL
      rw [if_pos h0]
      obtain ⟨k, rfl⟩ : ∃ k : Nat, sep = k := ⟨sep.toNat, by omega⟩
      simp [strOfNums]
    rw [e] at CV
    obtain ⟨sb, hsb⟩ : ∃ sb, bA (sepL sep) = sb := ⟨_, rfl⟩
    have HSB : Hid (sb.data.toList = sepL sep) := Lib.hid (by rw [← hsb])
    have sbz : sb.size = 1 := by rw [← hsb]; exact sepL_len sep
    have SBZ := Lib.hid sbz
    rw [hsb] at CV
    have WRP : IntKind.u8.wrap sep = sep := by unfold IntKind.wrap; simp [IntKind.bits, IntKind.signed]; omega
    have BB0 := Lib.hid ((Below.refl w.heap.size w).alloc (Nat.le_refl _) (.cells #[.int .u8 sep] 5))
    clear e hsb h0 hsep
    have ca := kp BB0.out H2.out
    go_enter Tryd.func21, Tryd.ntmps21
    go_wp2_with (go_at_call 20; (with_reducible refine (KK.out _ BB0.out).mono ?_); rintro _ w1 ⟨rfl, B1⟩; have BB1 := Lib.hid (BB0.out.trans (B1.out.mono BB0.out.size)))
    clear ca
    go_loopw [12, 13] (fun x i wr => ∃ (t : Nat) (u : ByteArray), i = .int .i64 t ∧ t ≤ 1 ∧ x = .string u ∧ Hid (u.data.toList = kb.data.toList ++ glS (sepL sep) ((fun t : Nat => if t = 0 then ([] : List (List UInt8)) else othL m 0 L2) t) ∧ u.size ≤ 60 + 4000 * t) ∧ Hid (Below w.heap.size w wr)) (fun _ i _ => 1 - (intOf i).toNat)
    case atStart => exact ⟨0, kb, rfl, Nat.zero_le _, rfl, Lib.hid ⟨by simp [glS], KZ.out⟩, BB1⟩
    case round =>
      obtain ⟨t, u, rfl, ht, rfl, HU, BK⟩ := hrel
      have hcase : t = 0 ∨ t = 1 := by omega
      rcases hcase with rfl | rfl
      · have c0 := kp BK.out H2.out
        have HU0 : Hid (u.data.toList = kb.data.toList ++ glS (sepL sep) ([] : List (List UInt8)) ∧ u.size ≤ 60) := Lib.hid (by have := HU.out; simpa using this)
        clear HU
        go_wp2_with (go_at_call 9; (with_reducible refine (FF2.out _ BK.out).mono ?_); rintro _ w5 ⟨v, rfl, F5, B5⟩; obtain ⟨a5, cap5, e5, -, -, hc5⟩ := F5.out.1; rw [List.length_map] at e5; obtain ⟨q, hq⟩ : ∃ q, L2.length = q := ⟨_, rfl⟩; rw [hq] at e5; subst e5; have HQ := Lib.hid hq; have HC5 := Lib.hid hc5; have BK5 := Lib.hid (BK.out.trans (B5.out.mono BK.out.size)); have hq61 : q ≤ 61 := (by rw [← hq]; exact LC2.out); clear hq hc5 c0)
        go_loopw [12, 17] (fun x j wr => ∃ (jj : Nat) (R : List (List UInt8)) (z : ByteArray), j = .int .i64 jj ∧ jj ≤ q ∧ x = .string z ∧ Hid (othL m 0 L2 = R ++ othL m jj (L2.drop jj)) ∧ Hid (z.data.toList = u.data.toList ++ glS (sepL sep) R ∧ z.size ≤ 60 + 61 * jj) ∧ Hid (Below w5.heap.size w5 wr)) (fun _ j _ => q - (intOf j).toNat)
        case atStart => exact ⟨0, [], u, rfl, Nat.zero_le _, rfl, Lib.hid rfl, Lib.hid ⟨by simp [glS], HU0.out.2⟩, Lib.hid (Below.refl _ _)⟩
        case round =>
          obtain ⟨jj, R, z, rfl, hj, rfl, HO, HZ, BR⟩ := hrel
          by_cases hlt : jj < q
          · have l1 : jj < L2.length := by rw [HQ.out]; exact hlt
            rcases HC5.out with h0 | ⟨g, o, rfl, hg, hc⟩
            · rw [List.map_eq_nil_iff] at h0; rw [h0] at l1; simp at l1
            obtain ⟨y, hy⟩ : ∃ y, L2[jj]? = some y := ⟨_, List.getElem?_eq_getElem l1⟩
            have DR := Lib.hid (drop_get hy)
            have p0 : (0 : Int) ≤ (jj : Int) := by omega
            have p1 : (jj : Int) < (q : Int) := by omega
            have p2 : IntKind.i64.wrap (jj : Int) = (jj : Int) := IntWalk.i64_in _ (by omega)
            have p3 : IntKind.i64.wrap (m - 1) = m - 1 := IntWalk.i64_in _ (by omega)
            have c5 := kp BR.out (hc jj (bA y) (by rw [List.getElem?_map, hy]; rfl))
            have yz := LS2.out y (List.mem_of_getElem? hy)
            clear hc hg l1 hy
            by_cases hk : (jj : Int) + 1 = m
            · have t1 : ((jj : Int) != m - 1) = false := by rw [bne_eq_false_iff_eq]; omega
              have HO2 : Hid (othL m 0 L2 = R ++ othL m (jj + 1) (L2.drop (jj + 1))) := Lib.hid (by rw [HO.out, DR.out, othL_hit hk])
              clear hk HO DR
              go_wp2_with fail
              go_roundw
              case rel => exact ⟨jj + 1, R, z, by go_num, by omega, rfl, HO2, Lib.hid ⟨HZ.out.1, by have := HZ.out.2; omega⟩, BR⟩
              case measure => simp [intOf]; omega
            · have t1 : ((jj : Int) != m - 1) = true := by rw [bne_iff_ne]; omega
              have HO2 : Hid (othL m 0 L2 = (R ++ [y]) ++ othL m (jj + 1) (L2.drop (jj + 1))) := Lib.hid (by rw [HO.out, DR.out, othL_no hk, List.append_assoc]; rfl)
              obtain ⟨yb, hyb⟩ : ∃ yb, bA y = yb := ⟨_, rfl⟩
              have HYB : Hid (yb.data.toList = y) := Lib.hid (by rw [← hyb])
              have ybz : yb.size ≤ 60 := by rw [← hyb]; exact yz
              have zz : z.size ≤ 20000 := by have := HZ.out.2; omega
              have HZ2 : Hid ((z ++ sb ++ yb).data.toList = u.data.toList ++ glS (sepL sep) (R ++ [y]) ∧ (z ++ sb ++ yb).size ≤ 60 + 61 * (jj + 1)) := Lib.hid ⟨by rw [cat3, HZ.out.1, HSB.out, HYB.out, glS_snoc, List.append_assoc], by have := HZ.out.2; rw [ByteArray.size_append, ByteArray.size_append, SBZ.out]; omega⟩
              rw [hyb] at c5
              clear hk HO DR hyb yz
              go_wp2_with fail
              go_roundw
              case rel => exact ⟨jj + 1, R ++ [y], _, by go_num, by omega, rfl, HO2, HZ2, BR⟩
              case measure => simp [intOf]; omega
          · obtain rfl : jj = q := by omega
            have ER : Hid (othL m 0 L2 = R) := Lib.hid (by rw [HO.out, List.drop_eq_nil_of_le (by rw [HQ.out]; exact Nat.le_refl _)]; simp [othL])
            go_wp2_with fail
            go_roundw
            case rel => exact ⟨1, z, by go_num, by omega, rfl, Lib.hid ⟨by rw [HZ.out.1, HU0.out.1, ← ER.out]; simp [glS], by have := HZ.out.2; omega⟩, Lib.hid (BK5.out.trans (BR.out.mono BK5.out.size))⟩
            case measure => simp [intOf]
      · have EU : Hid (bA (kb.data.toList ++ glS (sepL sep) (othL m 0 L2)) = u) := Lib.hid (by
          have h := HU.out.1
          simp at h
          have e : bA u.data.toList = u := bA_data u
          rw [← e, h])
        clear HU
        go_wp2_with fail
        go_ret
        exact ⟨by rw [EU.out]; rfl, BK⟩
  · have t0 : decide (0 ≤ sep) = false := decide_eq_false h0
    have HSB : Hid ((⟨#[32]⟩ : ByteArray).data.toList = sepL sep) := Lib.hid (by unfold sepL; rw [if_neg h0])
    have SBZ : Hid ((⟨#[32]⟩ : ByteArray).size = 1) := Lib.hid rfl
    have BB0 := Lib.hid (Below.refl w.heap.size w)
    clear h0 hsep
    have ca := kp BB0.out H2.out
    go_enter Tryd.func21, Tryd.ntmps21
    go_wp2_with (go_at_call 20; (with_reducible refine (KK.out _ BB0.out).mono ?_); rintro _ w1 ⟨rfl, B1⟩; have BB1 := Lib.hid (BB0.out.trans (B1.out.mono BB0.out.size)))
    clear ca
    go_loopw [12, 13] (fun x i wr => ∃ (t : Nat) (u : ByteArray), i = .int .i64 t ∧ t ≤ 1 ∧ x = .string u ∧ Hid (u.data.toList = kb.data.toList ++ glS (sepL sep) ((fun t : Nat => if t = 0 then ([] : List (List UInt8)) else othL m 0 L2) t) ∧ u.size ≤ 60 + 4000 * t) ∧ Hid (Below w.heap.size w wr)) (fun _ i _ => 1 - (intOf i).toNat)
    case atStart => exact ⟨0, kb, rfl, Nat.zero_le _, rfl, Lib.hid ⟨by simp [glS], KZ.out⟩, BB1⟩
    case round =>
      obtain ⟨t, u, rfl, ht, rfl, HU, BK⟩ := hrel
      have hcase : t = 0 ∨ t = 1 := by omega
      rcases hcase with rfl | rfl
      · have c0 := kp BK.out H2.out
        have HU0 : Hid (u.data.toList = kb.data.toList ++ glS (sepL sep) ([] : List (List UInt8)) ∧ u.size ≤ 60) := Lib.hid (by have := HU.out; simpa using this)
        clear HU
        go_wp2_with (go_at_call 9; (with_reducible refine (FF2.out _ BK.out).mono ?_); rintro _ w5 ⟨v, rfl, F5, B5⟩; obtain ⟨a5, cap5, e5, -, -, hc5⟩ := F5.out.1; rw [List.length_map] at e5; obtain ⟨q, hq⟩ : ∃ q, L2.length = q := ⟨_, rfl⟩; rw [hq] at e5; subst e5; have HQ := Lib.hid hq; have HC5 := Lib.hid hc5; have BK5 := Lib.hid (BK.out.trans (B5.out.mono BK.out.size)); have hq61 : q ≤ 61 := (by rw [← hq]; exact LC2.out); clear hq hc5 c0)
        go_loopw [12, 17] (fun x j wr => ∃ (jj : Nat) (R : List (List UInt8)) (z : ByteArray), j = .int .i64 jj ∧ jj ≤ q ∧ x = .string z ∧ Hid (othL m 0 L2 = R ++ othL m jj (L2.drop jj)) ∧ Hid (z.data.toList = u.data.toList ++ glS (sepL sep) R ∧ z.size ≤ 60 + 61 * jj) ∧ Hid (Below w5.heap.size w5 wr)) (fun _ j _ => q - (intOf j).toNat)
        case atStart => exact ⟨0, [], u, rfl, Nat.zero_le _, rfl, Lib.hid rfl, Lib.hid ⟨by simp [glS], HU0.out.2⟩, Lib.hid (Below.refl _ _)⟩
        case round =>
          obtain ⟨jj, R, z, rfl, hj, rfl, HO, HZ, BR⟩ := hrel
          by_cases hlt : jj < q
          · have l1 : jj < L2.length := by rw [HQ.out]; exact hlt
            rcases HC5.out with h0 | ⟨g, o, rfl, hg, hc⟩
            · rw [List.map_eq_nil_iff] at h0; rw [h0] at l1; simp at l1
            obtain ⟨y, hy⟩ : ∃ y, L2[jj]? = some y := ⟨_, List.getElem?_eq_getElem l1⟩
            have DR := Lib.hid (drop_get hy)
            have p0 : (0 : Int) ≤ (jj : Int) := by omega
            have p1 : (jj : Int) < (q : Int) := by omega
            have p2 : IntKind.i64.wrap (jj : Int) = (jj : Int) := IntWalk.i64_in _ (by omega)
            have p3 : IntKind.i64.wrap (m - 1) = m - 1 := IntWalk.i64_in _ (by omega)
            have c5 := kp BR.out (hc jj (bA y) (by rw [List.getElem?_map, hy]; rfl))
            have yz := LS2.out y (List.mem_of_getElem? hy)
            clear hc hg l1 hy
            by_cases hk : (jj : Int) + 1 = m
            · have t1 : ((jj : Int) != m - 1) = false := by rw [bne_eq_false_iff_eq]; omega
              have HO2 : Hid (othL m 0 L2 = R ++ othL m (jj + 1) (L2.drop (jj + 1))) := Lib.hid (by rw [HO.out, DR.out, othL_hit hk])
              clear hk HO DR
              go_wp2_with fail
              go_roundw
              case rel => exact ⟨jj + 1, R, z, by go_num, by omega, rfl, HO2, Lib.hid ⟨HZ.out.1, by have := HZ.out.2; omega⟩, BR⟩
              case measure => simp [intOf]; omega
            · have t1 : ((jj : Int) != m - 1) = true := by rw [bne_iff_ne]; omega
              have HO2 : Hid (othL m 0 L2 = (R ++ [y]) ++ othL m (jj + 1) (L2.drop (jj + 1))) := Lib.hid (by rw [HO.out, DR.out, othL_no hk, List.append_assoc]; rfl)
              obtain ⟨yb, hyb⟩ : ∃ yb, bA y = yb := ⟨_, rfl⟩
              have HYB : Hid (yb.data.toList = y) := Lib.hid (by rw [← hyb])
              have ybz : yb.size ≤ 60 := by rw [← hyb]; exact yz
              have zz : z.size ≤ 20000 := by have := HZ.out.2; omega
              have HZ2 : Hid ((z ++ ⟨#[32]⟩ ++ yb).data.toList = u.data.toList ++ glS (sepL sep) (R ++ [y]) ∧ (z ++ ⟨#[32]⟩ ++ yb).size ≤ 60 + 61 * (jj + 1)) := Lib.hid ⟨by rw [cat3, HZ.out.1, HSB.out, HYB.out, glS_snoc, List.append_assoc], by have := HZ.out.2; rw [ByteArray.size_append, ByteArray.size_append, SBZ.out]; omega⟩
              rw [hyb] at c5
              clear hk HO DR hyb yz
              go_wp2_with fail
              go_roundw
              case rel => exact ⟨jj + 1, R ++ [y], _, by go_num, by omega, rfl, HO2, HZ2, BR⟩
              case measure => simp [intOf]; omega
          · obtain rfl : jj = q := by omega
            have ER : Hid (othL m 0 L2 = R) := Lib.hid (by rw [HO.out, List.drop_eq_nil_of_le (by rw [HQ.out]; exact Nat.le_refl _)]; simp [othL])
            go_wp2_with fail
            go_roundw
            case rel => exact ⟨1, z, by go_num, by omega, rfl, Lib.hid ⟨by rw [HZ.out.1, HU0.out.1, ← ER.out]; simp [glS], by have := HZ.out.2; omega⟩, Lib.hid (BK5.out.trans (BR.out.mono BK5.out.size))⟩
            case measure => simp [intOf]
      · have EU : Hid (bA (kb.data.toList ++ glS (sepL sep) (othL m 0 L2)) = u) := Lib.hid (by
          have h := HU.out.1
          simp at h
          have e : bA u.data.toList = u := bA_data u
          rw [← e, h])
        clear HU
        go_wp2_with fail
        go_ret
        exact ⟨by rw [EU.out]; rfl, BK⟩
end Go.Proofs.YtbhdhcnbagjmcaaDoor
