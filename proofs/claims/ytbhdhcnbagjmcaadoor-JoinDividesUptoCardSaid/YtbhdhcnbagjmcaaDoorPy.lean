/- the law JoinDivides: the fields make up the line (written by gen_py.py) -/
import Derived.Test.YtbhdhcnbagjmcaaDoorPv
namespace Jn
open Go
def gl (b : UInt8) (L : List (List UInt8)) : List UInt8 := L.flatMap fun y => b :: y
theorem spA_gl (b : UInt8) : ∀ (l cur : List UInt8), ∃ x r, spA b cur l = x :: r ∧ cur ++ l = x ++ gl b r
  | [], cur => ⟨cur, [], rfl, by simp [gl]⟩
  | c :: l, cur => by
    by_cases h : c = b
    · subst h
      obtain ⟨x, r, e1, e2⟩ := spA_gl c l []
      exact ⟨cur, x :: r, by rw [spA_hit, e1], by rw [List.nil_append] at e2; rw [e2]; simp [gl]⟩
    · obtain ⟨x, r, e1, e2⟩ := spA_gl b l (cur ++ [c])
      exact ⟨x, r, by rw [spA_no h, e1], by rw [← e2]; simp⟩
theorem spA_no_b (b : UInt8) : ∀ (l cur : List UInt8), b ∉ cur → ∀ x ∈ spA b cur l, b ∉ x
  | [], cur, h, x, hx => by simp only [spA, List.mem_singleton] at hx; rw [hx]; exact h
  | c :: l, cur, h, x, hx => by
    by_cases hc : c = b
    · subst hc
      rw [spA_hit] at hx
      rcases List.mem_cons.1 hx with rfl | hx
      · exact h
      · exact spA_no_b c l [] (by simp) x hx
    · rw [spA_no hc] at hx
      exact spA_no_b b l (cur ++ [c]) (by simp [h, Ne.symm hc]) x hx
/-- a word at the beginning -/
theorem wdA_word : ∀ (l cur : List UInt8), cur ≠ [] → ∃ u r, l = u ++ r ∧ (∀ c ∈ u, isB c = false) ∧ (∀ c t, r = c :: t → isB c = true) ∧ wdA cur l = (cur ++ u) :: wdA [] r
  | [], cur, h => ⟨[], [], rfl, by simp, by simp, by simp [wdA, h]⟩
  | c :: l, cur, h => by
    cases hb : isB c with
    | true => exact ⟨[], c :: l, rfl, by simp, fun c' t e => by cases e; exact hb, by rw [wdA_sp hb, if_neg h, wdA_sp hb]; simp⟩
    | false =>
      obtain ⟨u, r, e1, e2, e3, e4⟩ := wdA_word l (cur ++ [c]) (by simp)
      refine ⟨c :: u, r, by rw [e1]; rfl, fun x hx => ?_, e3, by rw [wdA_no hb, e4]; simp⟩
      rcases List.mem_cons.1 hx with rfl | hx
      · exact hb
      · exact e2 x hx
theorem wdA_head {c : UInt8} {l : List UInt8} (h : isB c = false) : ∃ u r, c :: l = u ++ r ∧ u ≠ [] ∧ (∀ x ∈ u, isB x = false) ∧ (∀ x t, r = x :: t → isB x = true) ∧ wdA [] (c :: l) = u :: wdA [] r := by
  obtain ⟨u, r, e1, e2, e3, e4⟩ := wdA_word l [c] (by simp)
  refine ⟨c :: u, r, by rw [e1]; rfl, by simp, fun x hx => ?_, e3, by rw [wdA_no h, List.nil_append, e4]; rfl⟩
  rcases List.mem_cons.1 hx with rfl | hx
  · exact h
  · exact e2 x hx
end Jn
namespace Go.Proofs.YtbhdhcnbagjmcaaDoor
open Go.RowKit Go.Maps
open Jn Lcl
theorem isB_32 {c : UInt8} : isB c = (((c.toNat : Int) == 32) || ((c.toNat : Int) == 9)) := by
  rw [isB_toNat]; unfold isR
  congr 1 <;> (rw [Bool.eq_iff_iff, decide_eq_true_iff, beq_iff_eq]; omega)
set_option maxRecDepth 100000 in
set_option maxHeartbeats 8000000 in
theorem law_divides (s : ByteArray) (sep m : Int) (w : World) (hm : w.cell? ⟨0, 0, none⟩ = some (.int .i64 m)) (hs : s.size ≤ 1048576) :
    Calls Tryd.prog 7 #[.string s, .int .i64 sep] w fun e w' => e = .returned (.bool true) ∧ Below w.heap.size w w' := by
  have FF := Lib.hid (fields_any s sep m w hm hs)
  have LN := Lib.hid (fieldsL_len sep s.data.toList)
  have SZ : Hid (∀ x ∈ fieldsL sep s.data.toList, x.length ≤ s.size) := Lib.hid (fun x hx => by have := fieldsL_sz hx; simpa using this)
  have HM := Lib.hid hm
  have hsz : s.data.toList.length = s.size := by simp
  have HSZ := Lib.hid hsz
  clear hm
  by_cases h12 : 0 ≤ sep ∧ sep ≤ 255
  · have EF : fieldsL sep s.data.toList = spA (UInt8.ofNat sep.toNat) [] s.data.toList := if_pos h12
    have CV := tx_conv_one sep
    have e : strOfNums [sep] = ⟨#[UInt8.ofNat sep.toNat]⟩ := by
      obtain ⟨k, rfl⟩ : ∃ k : Nat, sep = k := ⟨sep.toNat, by omega⟩
      simp [strOfNums]
    simp only [e] at CV
    obtain ⟨b, hb⟩ : ∃ b, UInt8.ofNat sep.toNat = b := ⟨_, rfl⟩
    have BV : Hid ((b.toNat : Int) = sep) := Lib.hid (by rw [← hb, UInt8.toNat_ofNat']; omega)
    rw [hb] at EF CV
    obtain ⟨x0, r0, g1, g2⟩ := spA_gl b s.data.toList []
    have NB := Lib.hid (spA_no_b b s.data.toList [] (by simp))
    obtain ⟨L, hL⟩ : ∃ L, fieldsL sep s.data.toList = L := ⟨_, rfl⟩
    rw [← EF, hL] at g1 NB
    rw [hL] at FF LN SZ
    rw [List.nil_append] at g2
    have WR : IntKind.u8.wrap sep = sep := by unfold IntKind.wrap; simp [IntKind.bits, IntKind.signed]; omega
    have t1 : decide (0 ≤ sep) = true := decide_eq_true h12.1
    have t2 : decide (sep ≤ 255) = true := decide_eq_true h12.2
    obtain ⟨q, hq⟩ : ∃ q, L.length = q := ⟨_, rfl⟩
    have HQ := Lib.hid hq
    have G0 : Hid (∀ j, 1 ≤ j → ∀ u, u ++ gl b (L.drop j) = s.data.toList → j < q → ∃ x, L[j]? = some x ∧ (u ++ (b :: x)) ++ gl b (L.drop (j + 1)) = s.data.toList) := Lib.hid (fun j _ u hu hj => by
      obtain ⟨x, hx⟩ : ∃ x, L[j]? = some x := ⟨_, List.getElem?_eq_getElem (by rw [hq]; exact hj)⟩
      refine ⟨x, hx, ?_⟩
      rw [← hu, drop_get hx]; simp [gl])
    have G1 : Hid (L[0]? = some x0 ∧ x0 ++ gl b (L.drop 1) = s.data.toList) := Lib.hid ⟨by rw [g1]; rfl, by rw [g1, g2]; rfl⟩
    have q1 : 0 < q := by rw [← hq, g1]; simp
    have q2 : q ≤ 1048577 := by have := LN.out; omega
    clear hL EF hb e g1 g2 h12 hq hsz
    have CVH := Lib.hid CV
    clear CV
    go_enter Tryd.func7, Tryd.ntmps7
    go_wp2_with (go_at_call 9; refine FF.out.mono ?_; rintro _ w1 ⟨v, rfl, F1, B1⟩; obtain ⟨g, o, cap, e, -, -, hg, hc⟩ := Strs.cons F1.out.1 (fun e => by rw [List.map_eq_nil_iff] at e; have := HQ.out; rw [e] at this; simp at this; omega); rw [List.length_map, HQ.out] at e; subst e; have HC : Hid (∀ (j : Nat) x, L[j]? = some x → w1.cell? ⟨g, o + j, none⟩ = some (.string (bA x))) := Lib.hid (fun j x hx => hc j _ (by rw [List.getElem?_map, hx]; rfl)); clear hc)
    go_loopw [6, 7] (fun st i wr => ∃ (j : Nat) (u : ByteArray), j ≤ q ∧ i = .int .i64 j ∧ st = .string u ∧ Hid ((j = 0 ∧ u = ⟨#[]⟩) ∨ (1 ≤ j ∧ u.data.toList ++ gl b (L.drop j) = s.data.toList)) ∧ Hid (Below w1.heap.size w1 wr)) (fun _ i _ => q - (intOf i).toNat)
    case atStart => exact ⟨0, ⟨#[]⟩, Nat.zero_le _, rfl, rfl, Lib.hid (.inl ⟨rfl, rfl⟩), Lib.hid (Below.refl _ _)⟩
    case round =>
      obtain ⟨j, u, hj, rfl, rfl, HU, BK⟩ := hrel
      by_cases hlt : j < q
      · have p0 : (0 : Int) ≤ (j : Int) := by omega
        have p1 : (j : Int) < (q : Int) := by omega
        have p2 : IntKind.i64.wrap (j : Int) = (j : Int) := IntWalk.i64_in _ (by omega)
        by_cases h0 : j = 0
        · subst h0
          have hu0 : u = ⟨#[]⟩ := by
            rcases HU.out with ⟨_, h⟩ | ⟨h, _⟩
            · exact h
            · omega
          subst hu0
          have c0 := kp BK.out (HC.out 0 x0 G1.out.1)
          rw [Nat.add_zero] at c0
          have NX := Lib.hid (NB.out x0 (List.mem_of_getElem? G1.out.1))
          have ZX := Lib.hid (SZ.out x0 (List.mem_of_getElem? G1.out.1))
          obtain ⟨xb, hxb⟩ : ∃ xb, bA x0 = xb := ⟨_, rfl⟩
          have HXB : Hid (xb.data.toList = x0) := Lib.hid (by rw [← hxb])
          have zx : xb.size ≤ 1048576 := by rw [← hxb]; exact Nat.le_trans ZX.out hs
          rw [hxb] at c0
          have C9 : Hid (w1.cell? ⟨g, o, none⟩ = some (.string xb)) := Lib.hid (by have := HC.out 0 x0 G1.out.1; rw [hxb] at this; exact this)
          clear hxb
          have NE : Hid (∀ t (h : t < xb.size), (wrap64 (xb[t].toNat : Int) == sep) = false) := Lib.hid (fun t h => by
            rw [u8_64, beq_eq_false_iff_ne]
            intro e
            have e2 : xb[t] = b := UInt8.toNat_inj.1 (by have := BV.out; omega)
            refine NX.out ?_
            rw [← HXB.out, ← e2]
            exact List.getElem_mem (by simpa using h))
          go_wp2_with fail
          go_loopw [8] (fun k wr2 => ∃ t : Nat, k = .int .i64 t ∧ t ≤ xb.size ∧ Hid (Below w1.heap.size w1 wr2)) (fun k _ => xb.size - (intOf k).toNat)
          case atStart => exact ⟨0, rfl, Nat.zero_le _, BK⟩
          case round =>
            obtain ⟨t, rfl, ht, BR⟩ := hrel
            have c9 := kp BR.out C9.out
            by_cases hlt2 : t < xb.size
            · have ne := NE.out t hlt2
              go_wp2_with fail
              go_roundw
              case rel => exact ⟨t + 1, by go_num, by omega, BR⟩
              case measure => simp [intOf]; omega
            · obtain rfl : t = xb.size := by omega
              go_wp2_with fail
              go_roundw
              case rel => exact ⟨0 + 1, _, by omega, by go_num, rfl, Lib.hid (.inr ⟨by omega, by have := G1.out.2; rw [← HXB.out] at this; simpa using this⟩), BR⟩
              case measure => simp [intOf]; omega
        · have GU : u.data.toList ++ gl b (L.drop j) = s.data.toList := by
            rcases HU.out with ⟨h, _⟩ | ⟨_, h⟩
            · exact absurd h h0
            · exact h
          obtain ⟨x, hx, hn⟩ := G0.out j (by omega) u.data.toList GU hlt
          clear GU
          have HX := Lib.hid hx
          have HNX := Lib.hid hn
          have t0 : 0 < j := by omega
          have CV := CVH.out wr
          have BX := Lib.hid (BK.out.alloc BK.out.size (.cells #[.int .u8 sep] 5))
          have c0 := kp BX.out (HC.out j x hx)
          have UZ : Hid (u.size + 1 + x.length ≤ s.size) := Lib.hid (by
            have := congrArg List.length hn
            have e : u.data.toList.length = u.size := by simp
            rw [HSZ.out, List.length_append, List.length_append, List.length_cons] at this
            omega)
          have uz : u.size ≤ 1048576 := by have := UZ.out; omega
          have c0' := kp BK.out (HC.out j x hx)
          clear hx hn HU h0
          have NX := Lib.hid (NB.out x (List.mem_of_getElem? HX.out))
          have ZX := Lib.hid (SZ.out x (List.mem_of_getElem? HX.out))
          obtain ⟨xb, hxb⟩ : ∃ xb, bA x = xb := ⟨_, rfl⟩
          have HXB : Hid (xb.data.toList = x) := Lib.hid (by rw [← hxb])
          have zx : xb.size ≤ 1048576 := by rw [← hxb]; exact Nat.le_trans ZX.out hs
          rw [hxb] at c0 c0'
          have C9 : Hid (w1.cell? ⟨g, o + j, none⟩ = some (.string xb)) := Lib.hid (by have := HC.out j x HX.out; rw [hxb] at this; exact this)
          clear hxb
          have NE : Hid (∀ t (h : t < xb.size), (wrap64 (xb[t].toNat : Int) == sep) = false) := Lib.hid (fun t h => by
            rw [u8_64, beq_eq_false_iff_ne]
            intro e
            have e2 : xb[t] = b := UInt8.toNat_inj.1 (by have := BV.out; omega)
            refine NX.out ?_
            rw [← HXB.out, ← e2]
            exact List.getElem_mem (by simpa using h))
          go_wp2_with fail
          go_loopw [8] (fun k wr2 => ∃ t : Nat, k = .int .i64 t ∧ t ≤ xb.size ∧ Hid (Below w1.heap.size w1 wr2)) (fun k _ => xb.size - (intOf k).toNat)
          case atStart => exact ⟨0, rfl, Nat.zero_le _, BX⟩
          case round =>
            obtain ⟨t, rfl, ht, BR⟩ := hrel
            have c9 := kp BR.out C9.out
            by_cases hlt2 : t < xb.size
            · have ne := NE.out t hlt2
              go_wp2_with fail
              go_roundw
              case rel => exact ⟨t + 1, by go_num, by omega, BR⟩
              case measure => simp [intOf]; omega
            · obtain rfl : t = xb.size := by omega
              go_wp2_with fail
              go_roundw
              case rel => exact ⟨j + 1, _, by omega, by go_num, rfl, Lib.hid (.inr ⟨by omega, by rw [← HNX.out, ← HXB.out]; simp⟩), BR⟩
              case measure => simp [intOf]; omega
      · obtain rfl : j = q := by omega
        have EU : Hid (u.data.toList = s.data.toList) := Lib.hid (by
          rcases HU.out with ⟨h, _⟩ | ⟨_, h⟩
          · omega
          · rw [List.drop_eq_nil_of_le (by rw [HQ.out]; exact Nat.le_refl _)] at h; simpa [gl] using h)
        obtain rfl : u = s := str_ext EU.out
        have Y1 := Lib.hid (B1.out.trans (BK.out.mono B1.out.size))
        clear HU EU
        go_wp2_with ((go_at_call 14; (with_reducible refine (awake_any m _ (kp Y1.out HM.out)).mono ?_); rintro _ w5 ⟨rfl, B5⟩))
        go_ret
        exact ⟨rfl, Y1.out.trans (B5.out.mono Y1.out.size)⟩
  · have EF : fieldsL sep s.data.toList = wdA [] s.data.toList := if_neg h12
    obtain ⟨L, hL⟩ : ∃ L, fieldsL sep s.data.toList = L := ⟨_, rfl⟩
    rw [hL] at FF LN SZ EF
    obtain ⟨q, hq⟩ : ∃ q, L.length = q := ⟨_, rfl⟩
    have HQ := Lib.hid hq
    have E0 : Hid (wdA [] (s.data.toList.drop 0) = L.drop 0) := Lib.hid (by rw [List.drop_zero, List.drop_zero, EF])
    have q2 : q ≤ 1048577 := by have := LN.out; omega
    clear hL EF hq hsz LN SZ
    by_cases h1 : 0 ≤ sep
    · have t1 : decide (0 ≤ sep) = true := decide_eq_true h1
      have t2 : decide (sep ≤ 255) = false := decide_eq_false (fun h => h12 ⟨h1, h⟩)
      clear h12 h1
      go_enter Tryd.func7, Tryd.ntmps7
      go_wp2_with (go_at_call 9; refine FF.out.mono ?_; rintro _ w1 ⟨v, rfl, F1, B1⟩; obtain ⟨a, cap, e, -, -, hc⟩ := F1.out.1; rw [List.length_map, HQ.out] at e; subst e; have HC0 := Lib.hid hc; clear hc)
      go_loopw [9, 10] (fun x i wr => ∃ (j p : Nat), i = .int .i64 j ∧ x = .int .i64 p ∧ j ≤ q ∧ p ≤ s.size ∧ Hid (wdA [] (s.data.toList.drop p) = L.drop j) ∧ Hid (Below w1.heap.size w1 wr)) (fun _ i _ => q - (intOf i).toNat)
      case atStart => exact ⟨0, 0, rfl, rfl, Nat.zero_le _, Nat.zero_le _, E0, Lib.hid (Below.refl _ _)⟩
      case round =>
        obtain ⟨j, p, rfl, rfl, hj, hp, EE0, BK⟩ := hrel
        clear E0
        by_cases hlt : j < q
        · rcases HC0.out with h0 | ⟨g, o, rfl, hg, hc⟩
          · rw [List.map_eq_nil_iff] at h0; have := HQ.out; rw [h0] at this; simp at this; omega
          have HC : Hid (∀ (j : Nat) x, L[j]? = some x → w1.cell? ⟨g, o + j, none⟩ = some (.string (bA x))) := Lib.hid (fun j x hx => hc j _ (by rw [List.getElem?_map, hx]; rfl))
          have p0 : (0 : Int) ≤ (j : Int) := by omega
          have p1 : (j : Int) < (q : Int) := by omega
          have p2 : IntKind.i64.wrap (j : Int) = (j : Int) := IntWalk.i64_in _ (by omega)
          clear hc hg
          go_wp2_with fail
          go_loopw [9] (fun x wr => ∃ p : Nat, x = .int .i64 p ∧ p ≤ s.size ∧ Hid (wdA [] (s.data.toList.drop p) = L.drop j) ∧ Hid (Below w1.heap.size w1 wr)) (fun x _ => s.size - (intOf x).toNat)
          case atStart => exact ⟨p, rfl, hp, EE0, BK⟩
          case round =>
            clear hp EE0 BK
            obtain ⟨p, rfl, hp, EE, BR⟩ := hrel
            by_cases hps : p < s.size
            · have DR := Lib.hid (pc_drop s p hps)
              cases h32 : ((s[p].toNat : Int) == 32)
              · cases h9 : ((s[p].toNat : Int) == 9)
                · have NB : isB s[p] = false := by rw [isB_32, h32, h9]; rfl
                  obtain ⟨u, r, g1, g2, g3, g4, g5⟩ := wdA_head (l := s.data.toList.drop (p + 1)) NB
                  rw [← DR.out] at g1 g5
                  have e5 := EE.out.symm.trans g5
                  have HX : L[j]? = some u := by
                    have := congrArg List.head? e5
                    rw [List.head?_drop] at this; exact this
                  have hul : u.length + r.length = s.size - p := by
                    have := congrArg List.length g1
                    rw [List.length_drop, HSZ.out, List.length_append] at this; omega
                  have hu0 : 1 ≤ u.length := List.length_pos_iff.2 g2
                  have ER : s.data.toList.drop (p + u.length) = r := by rw [← List.drop_drop, g1, List.drop_left]
                  have EN : Hid (wdA [] (s.data.toList.drop (p + u.length)) = L.drop (j + 1)) := Lib.hid (by
                    rw [ER, ← List.drop_drop, e5]; rfl)
                  have CUT : (s.extract p (p + u.length)).data.toList = u := by
                    rw [ex_snoc s p p u.length (Nat.le_refl _) (by omega), g1]; simp
                  have HC9 := HC.out j u HX
                  obtain ⟨xb, hxb⟩ : ∃ xb, bA u = xb := ⟨_, rfl⟩
                  have HXB : Hid (xb.data.toList = u) := Lib.hid (by rw [← hxb])
                  have hxs : xb.size = u.length := by rw [← hxb]; rfl
                  rw [hxb] at HC9
                  have C9 := Lib.hid HC9
                  have NX : Hid (∀ t (h : t < xb.size), isB xb[t] = false) := Lib.hid (fun t h => g3 _ (by rw [← HXB.out]; exact List.getElem_mem (by simpa using h)))
                  have HR : Hid (∀ (h : p + xb.size < s.size), isB s[p + xb.size] = true) := Lib.hid (fun h => by
                    refine g4 _ (s.data.toList.drop (p + xb.size + 1)) ?_
                    rw [← pc_drop s _ h, hxs]; exact ER.symm)
                  rw [← hxs] at EN CUT hul hu0
                  have cutE : s.extract p (p + xb.size) = xb := str_ext (by rw [CUT, HXB.out])
                  have ne : (xb.toList == []) = false := by rw [size_ne]; exact decide_eq_false (by omega)
                  have k1 : p + xb.size ≤ s.size := by omega
                  have k2 : ((p : Int) + (xb.size : Int)).toNat = p + xb.size := by omega
                  have k3 : IntKind.i64.wrap ((p : Int) + (xb.size : Int)) = (p : Int) + (xb.size : Int) := IntWalk.i64_in _ (by omega)
                  have k4 : decide ((s.size : Int) - (p : Int) < (xb.size : Int)) = false := decide_eq_false (by omega)
                  have k5 : IntKind.i64.wrap ((s.size : Int) - (p : Int)) = (s.size : Int) - (p : Int) := IntWalk.i64_in _ (by omega)
                  have c9 := kp BR.out C9.out
                  clear g1 g2 g3 g4 g5 e5 HX ER CUT HC9 hxb hxs EE DR NB hul
                  go_wp2_with fail
                  go_quiet (fail)
                  clear cutE k4 k5 ne
                  go_wp2_with fail
                  go_loopw [11] (fun k wr2 => ∃ t : Nat, k = .int .i64 t ∧ t ≤ xb.size ∧ Hid (Below w1.heap.size w1 wr2)) (fun k _ => xb.size - (intOf k).toNat)
                  case atStart => exact ⟨0, rfl, Nat.zero_le _, Lib.hid (BR.out.trans ((bel_drewN _ _).mono BR.out.size))⟩
                  case round =>
                    obtain ⟨t, rfl, ht, BS⟩ := hrel
                    have c9 := kp BS.out C9.out
                    by_cases hlt2 : t < xb.size
                    · have n1 := NX.out t hlt2
                      rw [isB_32, Bool.or_eq_false_iff] at n1
                      obtain ⟨n1, n2⟩ := n1
                      go_wp2_with fail
                      go_roundw
                      case rel => exact ⟨t + 1, by go_num, by omega, BS⟩
                      case measure => simp [intOf]; omega
                    · obtain rfl : t = xb.size := by omega
                      by_cases hend : p + xb.size < s.size
                      · have b1 := HR.out hend
                        rw [isB_32] at b1
                        have p9 : (0 : Int) ≤ (p : Int) + (xb.size : Int) := by omega
                        have p8 : (p : Int) + (xb.size : Int) < (s.size : Int) := by omega
                        obtain ⟨pp, hpp⟩ : ∃ pp, p + xb.size = pp := ⟨_, rfl⟩
                        have hpi : (p : Int) + (xb.size : Int) = (pp : Int) := by omega
                        simp only [hpp] at b1 hend EN k2
                        cases b32 : ((s[pp].toNat : Int) == 32)
                        · rw [b32, Bool.false_or] at b1
                          have b33 : ((s[pp].toNat : Int) != 32) = true := by rw [bne, b32]; rfl
                          have b34 : ((s[pp].toNat : Int) != 9) = false := by rw [bne, b1]; rfl
                          go_wp2_with fail
                          go_roundw
                          case rel => exact ⟨j + 1, pp, by go_num, by go_num, by omega, by omega, EN, BS⟩
                          case measure => simp [intOf]; omega
                        · have b33 : ((s[pp].toNat : Int) != 32) = false := by rw [bne, b32]; rfl
                          go_wp2_with fail
                          go_roundw
                          case rel => exact ⟨j + 1, pp, by go_num, by go_num, by omega, by omega, EN, BS⟩
                          case measure => simp [intOf]; omega
                      · go_wp2_with fail
                        go_roundw
                        case rel => exact ⟨j + 1, p + xb.size, by go_num, by go_num, by omega, by omega, EN, BS⟩
                        case measure => simp [intOf]; omega
                · have E2 : Hid (wdA [] (s.data.toList.drop (p + 1)) = L.drop j) := Lib.hid (by have := EE.out; rw [DR.out, wdA_sp (by rw [isB_32, h32, h9]; rfl)] at this; simpa using this)
                  clear EE DR
                  go_wp2_with fail
                  go_roundw
                  case rel => exact ⟨p + 1, by go_num, by omega, E2, BR⟩
                  case measure => simp [intOf]; omega
              · have E2 : Hid (wdA [] (s.data.toList.drop (p + 1)) = L.drop j) := Lib.hid (by have := EE.out; rw [DR.out, wdA_sp (by rw [isB_32, h32]; rfl)] at this; simpa using this)
                clear EE DR
                go_wp2_with fail
                go_roundw
                case rel => exact ⟨p + 1, by go_num, by omega, E2, BR⟩
                case measure => simp [intOf]; omega
            · exfalso
              have h := EE.out
              rw [List.drop_eq_nil_of_le (by rw [HSZ.out]; omega)] at h
              have h2 := congrArg List.length h
              rw [List.length_drop, HQ.out] at h2
              simp [wdA] at h2; omega
        · obtain rfl : j = q := by omega
          have EE1 : Hid (wdA [] (s.data.toList.drop p) = []) := Lib.hid (by rw [EE0.out, List.drop_eq_nil_of_le (by rw [HQ.out]; exact Nat.le_refl _)])
          go_wp2_with fail
          go_loopw [9] (fun x wr => ∃ p : Nat, x = .int .i64 p ∧ p ≤ s.size ∧ Hid (wdA [] (s.data.toList.drop p) = []) ∧ Hid (Below w1.heap.size w1 wr)) (fun x _ => s.size - (intOf x).toNat)
          case atStart => exact ⟨p, rfl, hp, EE1, BK⟩
          case round =>
            clear hp EE0 EE1 BK
            obtain ⟨p, rfl, hp, EE, BR⟩ := hrel
            by_cases hps : p < s.size
            · have DR := Lib.hid (pc_drop s p hps)
              cases h32 : ((s[p].toNat : Int) == 32)
              · cases h9 : ((s[p].toNat : Int) == 9)
                · exfalso
                  have NB : isB s[p] = false := by rw [isB_32, h32, h9]; rfl
                  obtain ⟨u, r, g1, g2, g3, g4, g5⟩ := wdA_head (l := s.data.toList.drop (p + 1)) NB
                  rw [← DR.out] at g5
                  exact absurd (EE.out.symm.trans g5) (by simp)
                · have E2 : Hid (wdA [] (s.data.toList.drop (p + 1)) = []) := Lib.hid (by have := EE.out; rw [DR.out, wdA_sp (by rw [isB_32, h32, h9]; rfl)] at this; simpa using this)
                  clear EE DR
                  go_wp2_with fail
                  go_roundw
                  case rel => exact ⟨p + 1, by go_num, by omega, E2, BR⟩
                  case measure => simp [intOf]; omega
              · have E2 : Hid (wdA [] (s.data.toList.drop (p + 1)) = []) := Lib.hid (by have := EE.out; rw [DR.out, wdA_sp (by rw [isB_32, h32]; rfl)] at this; simpa using this)
                clear EE DR
                go_wp2_with fail
                go_roundw
                case rel => exact ⟨p + 1, by go_num, by omega, E2, BR⟩
                case measure => simp [intOf]; omega
            · obtain rfl : p = s.size := by omega
              have Y1 := Lib.hid (B1.out.trans (BR.out.mono B1.out.size))
              clear EE
              go_wp2_with ((go_at_call 14; (with_reducible refine (awake_any m _ (kp Y1.out HM.out)).mono ?_); rintro _ w5 ⟨rfl, B5⟩))
              go_ret
              exact ⟨rfl, Y1.out.trans (B5.out.mono Y1.out.size)⟩
    · have t1 : decide (0 ≤ sep) = false := decide_eq_false h1
      clear h12 h1
      go_enter Tryd.func7, Tryd.ntmps7
      go_wp2_with (go_at_call 9; refine FF.out.mono ?_; rintro _ w1 ⟨v, rfl, F1, B1⟩; obtain ⟨a, cap, e, -, -, hc⟩ := F1.out.1; rw [List.length_map, HQ.out] at e; subst e; have HC0 := Lib.hid hc; clear hc)
      go_loopw [9, 10] (fun x i wr => ∃ (j p : Nat), i = .int .i64 j ∧ x = .int .i64 p ∧ j ≤ q ∧ p ≤ s.size ∧ Hid (wdA [] (s.data.toList.drop p) = L.drop j) ∧ Hid (Below w1.heap.size w1 wr)) (fun _ i _ => q - (intOf i).toNat)
      case atStart => exact ⟨0, 0, rfl, rfl, Nat.zero_le _, Nat.zero_le _, E0, Lib.hid (Below.refl _ _)⟩
      case round =>
        obtain ⟨j, p, rfl, rfl, hj, hp, EE0, BK⟩ := hrel
        clear E0
        by_cases hlt : j < q
        · rcases HC0.out with h0 | ⟨g, o, rfl, hg, hc⟩
          · rw [List.map_eq_nil_iff] at h0; have := HQ.out; rw [h0] at this; simp at this; omega
          have HC : Hid (∀ (j : Nat) x, L[j]? = some x → w1.cell? ⟨g, o + j, none⟩ = some (.string (bA x))) := Lib.hid (fun j x hx => hc j _ (by rw [List.getElem?_map, hx]; rfl))
          have p0 : (0 : Int) ≤ (j : Int) := by omega
          have p1 : (j : Int) < (q : Int) := by omega
          have p2 : IntKind.i64.wrap (j : Int) = (j : Int) := IntWalk.i64_in _ (by omega)
          clear hc hg
          go_wp2_with fail
          go_loopw [9] (fun x wr => ∃ p : Nat, x = .int .i64 p ∧ p ≤ s.size ∧ Hid (wdA [] (s.data.toList.drop p) = L.drop j) ∧ Hid (Below w1.heap.size w1 wr)) (fun x _ => s.size - (intOf x).toNat)
          case atStart => exact ⟨p, rfl, hp, EE0, BK⟩
          case round =>
            clear hp EE0 BK
            obtain ⟨p, rfl, hp, EE, BR⟩ := hrel
            by_cases hps : p < s.size
            · have DR := Lib.hid (pc_drop s p hps)
              cases h32 : ((s[p].toNat : Int) == 32)
              · cases h9 : ((s[p].toNat : Int) == 9)
                · have NB : isB s[p] = false := by rw [isB_32, h32, h9]; rfl
                  obtain ⟨u, r, g1, g2, g3, g4, g5⟩ := wdA_head (l := s.data.toList.drop (p + 1)) NB
                  rw [← DR.out] at g1 g5
                  have e5 := EE.out.symm.trans g5
                  have HX : L[j]? = some u := by
                    have := congrArg List.head? e5
                    rw [List.head?_drop] at this; exact this
                  have hul : u.length + r.length = s.size - p := by
                    have := congrArg List.length g1
                    rw [List.length_drop, HSZ.out, List.length_append] at this; omega
                  have hu0 : 1 ≤ u.length := List.length_pos_iff.2 g2
                  have ER : s.data.toList.drop (p + u.length) = r := by rw [← List.drop_drop, g1, List.drop_left]
                  have EN : Hid (wdA [] (s.data.toList.drop (p + u.length)) = L.drop (j + 1)) := Lib.hid (by
                    rw [ER, ← List.drop_drop, e5]; rfl)
                  have CUT : (s.extract p (p + u.length)).data.toList = u := by
                    rw [ex_snoc s p p u.length (Nat.le_refl _) (by omega), g1]; simp
                  have HC9 := HC.out j u HX
                  obtain ⟨xb, hxb⟩ : ∃ xb, bA u = xb := ⟨_, rfl⟩
                  have HXB : Hid (xb.data.toList = u) := Lib.hid (by rw [← hxb])
                  have hxs : xb.size = u.length := by rw [← hxb]; rfl
                  rw [hxb] at HC9
                  have C9 := Lib.hid HC9
                  have NX : Hid (∀ t (h : t < xb.size), isB xb[t] = false) := Lib.hid (fun t h => g3 _ (by rw [← HXB.out]; exact List.getElem_mem (by simpa using h)))
                  have HR : Hid (∀ (h : p + xb.size < s.size), isB s[p + xb.size] = true) := Lib.hid (fun h => by
                    refine g4 _ (s.data.toList.drop (p + xb.size + 1)) ?_
                    rw [← pc_drop s _ h, hxs]; exact ER.symm)
                  rw [← hxs] at EN CUT hul hu0
                  have cutE : s.extract p (p + xb.size) = xb := str_ext (by rw [CUT, HXB.out])
                  have ne : (xb.toList == []) = false := by rw [size_ne]; exact decide_eq_false (by omega)
                  have k1 : p + xb.size ≤ s.size := by omega
                  have k2 : ((p : Int) + (xb.size : Int)).toNat = p + xb.size := by omega
                  have k3 : IntKind.i64.wrap ((p : Int) + (xb.size : Int)) = (p : Int) + (xb.size : Int) := IntWalk.i64_in _ (by omega)
                  have k4 : decide ((s.size : Int) - (p : Int) < (xb.size : Int)) = false := decide_eq_false (by omega)
                  have k5 : IntKind.i64.wrap ((s.size : Int) - (p : Int)) = (s.size : Int) - (p : Int) := IntWalk.i64_in _ (by omega)
                  have c9 := kp BR.out C9.out
                  clear g1 g2 g3 g4 g5 e5 HX ER CUT HC9 hxb hxs EE DR NB hul
                  go_wp2_with fail
                  go_quiet (fail)
                  clear cutE k4 k5 ne
                  go_wp2_with fail
                  go_loopw [11] (fun k wr2 => ∃ t : Nat, k = .int .i64 t ∧ t ≤ xb.size ∧ Hid (Below w1.heap.size w1 wr2)) (fun k _ => xb.size - (intOf k).toNat)
                  case atStart => exact ⟨0, rfl, Nat.zero_le _, Lib.hid (BR.out.trans ((bel_drewN _ _).mono BR.out.size))⟩
                  case round =>
                    obtain ⟨t, rfl, ht, BS⟩ := hrel
                    have c9 := kp BS.out C9.out
                    by_cases hlt2 : t < xb.size
                    · have n1 := NX.out t hlt2
                      rw [isB_32, Bool.or_eq_false_iff] at n1
                      obtain ⟨n1, n2⟩ := n1
                      go_wp2_with fail
                      go_roundw
                      case rel => exact ⟨t + 1, by go_num, by omega, BS⟩
                      case measure => simp [intOf]; omega
                    · obtain rfl : t = xb.size := by omega
                      by_cases hend : p + xb.size < s.size
                      · have b1 := HR.out hend
                        rw [isB_32] at b1
                        have p9 : (0 : Int) ≤ (p : Int) + (xb.size : Int) := by omega
                        have p8 : (p : Int) + (xb.size : Int) < (s.size : Int) := by omega
                        obtain ⟨pp, hpp⟩ : ∃ pp, p + xb.size = pp := ⟨_, rfl⟩
                        have hpi : (p : Int) + (xb.size : Int) = (pp : Int) := by omega
                        simp only [hpp] at b1 hend EN k2
                        cases b32 : ((s[pp].toNat : Int) == 32)
                        · rw [b32, Bool.false_or] at b1
                          have b33 : ((s[pp].toNat : Int) != 32) = true := by rw [bne, b32]; rfl
                          have b34 : ((s[pp].toNat : Int) != 9) = false := by rw [bne, b1]; rfl
                          go_wp2_with fail
                          go_roundw
                          case rel => exact ⟨j + 1, pp, by go_num, by go_num, by omega, by omega, EN, BS⟩
                          case measure => simp [intOf]; omega
                        · have b33 : ((s[pp].toNat : Int) != 32) = false := by rw [bne, b32]; rfl
                          go_wp2_with fail
                          go_roundw
                          case rel => exact ⟨j + 1, pp, by go_num, by go_num, by omega, by omega, EN, BS⟩
                          case measure => simp [intOf]; omega
                      · go_wp2_with fail
                        go_roundw
                        case rel => exact ⟨j + 1, p + xb.size, by go_num, by go_num, by omega, by omega, EN, BS⟩
                        case measure => simp [intOf]; omega
                · have E2 : Hid (wdA [] (s.data.toList.drop (p + 1)) = L.drop j) := Lib.hid (by have := EE.out; rw [DR.out, wdA_sp (by rw [isB_32, h32, h9]; rfl)] at this; simpa using this)
                  clear EE DR
                  go_wp2_with fail
                  go_roundw
                  case rel => exact ⟨p + 1, by go_num, by omega, E2, BR⟩
                  case measure => simp [intOf]; omega
              · have E2 : Hid (wdA [] (s.data.toList.drop (p + 1)) = L.drop j) := Lib.hid (by have := EE.out; rw [DR.out, wdA_sp (by rw [isB_32, h32]; rfl)] at this; simpa using this)
                clear EE DR
                go_wp2_with fail
                go_roundw
                case rel => exact ⟨p + 1, by go_num, by omega, E2, BR⟩
                case measure => simp [intOf]; omega
            · exfalso
              have h := EE.out
              rw [List.drop_eq_nil_of_le (by rw [HSZ.out]; omega)] at h
              have h2 := congrArg List.length h
              rw [List.length_drop, HQ.out] at h2
              simp [wdA] at h2; omega
        · obtain rfl : j = q := by omega
          have EE1 : Hid (wdA [] (s.data.toList.drop p) = []) := Lib.hid (by rw [EE0.out, List.drop_eq_nil_of_le (by rw [HQ.out]; exact Nat.le_refl _)])
          go_wp2_with fail
          go_loopw [9] (fun x wr => ∃ p : Nat, x = .int .i64 p ∧ p ≤ s.size ∧ Hid (wdA [] (s.data.toList.drop p) = []) ∧ Hid (Below w1.heap.size w1 wr)) (fun x _ => s.size - (intOf x).toNat)
          case atStart => exact ⟨p, rfl, hp, EE1, BK⟩
          case round =>
            clear hp EE0 EE1 BK
            obtain ⟨p, rfl, hp, EE, BR⟩ := hrel
            by_cases hps : p < s.size
            · have DR := Lib.hid (pc_drop s p hps)
              cases h32 : ((s[p].toNat : Int) == 32)
              · cases h9 : ((s[p].toNat : Int) == 9)
                · exfalso
                  have NB : isB s[p] = false := by rw [isB_32, h32, h9]; rfl
                  obtain ⟨u, r, g1, g2, g3, g4, g5⟩ := wdA_head (l := s.data.toList.drop (p + 1)) NB
                  rw [← DR.out] at g5
                  exact absurd (EE.out.symm.trans g5) (by simp)
                · have E2 : Hid (wdA [] (s.data.toList.drop (p + 1)) = []) := Lib.hid (by have := EE.out; rw [DR.out, wdA_sp (by rw [isB_32, h32, h9]; rfl)] at this; simpa using this)
                  clear EE DR
                  go_wp2_with fail
                  go_roundw
                  case rel => exact ⟨p + 1, by go_num, by omega, E2, BR⟩
                  case measure => simp [intOf]; omega
              · have E2 : Hid (wdA [] (s.data.toList.drop (p + 1)) = []) := Lib.hid (by have := EE.out; rw [DR.out, wdA_sp (by rw [isB_32, h32]; rfl)] at this; simpa using this)
                clear EE DR
                go_wp2_with fail
                go_roundw
                case rel => exact ⟨p + 1, by go_num, by omega, E2, BR⟩
                case measure => simp [intOf]; omega
            · obtain rfl : p = s.size := by omega
              have Y1 := Lib.hid (B1.out.trans (BR.out.mono B1.out.size))
              clear EE
              go_wp2_with ((go_at_call 14; (with_reducible refine (awake_any m _ (kp Y1.out HM.out)).mono ?_); rintro _ w5 ⟨rfl, B5⟩))
              go_ret
              exact ⟨rfl, Y1.out.trans (B5.out.mono Y1.out.size)⟩
end Go.Proofs.YtbhdhcnbagjmcaaDoor
