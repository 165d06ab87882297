/- walks: each of the program's locale, with the closure that gathers the weights of a string -/
import Derived.Test.YtbhdhcnbagjmcaaDoorZb
namespace Go.Proofs.YtbhdhcnbagjmcaaDoor
open Go.RowKit Go.Maps Go.WideMaps
open Lcl
theorem ext_one (s : ByteArray) (k : Nat) (h : k < s.size) : (s.extract k (k + 1)).size = 1 := by
  rw [ByteArray.size_extract]; omega
theorem ext_two (s : ByteArray) (k : Nat) (h : k + 2 ≤ s.size) : (s.extract k (k + 2)).size = 2 ∧ (s.extract k (k + 2)).data.toList = [s[k], s[k + 1]] := by
  refine ⟨by rw [ByteArray.size_extract]; omega, ?_⟩
  have e : (s.extract k (k + 2)).data.toList = (s.data.toList.drop k).take 2 := by
    rw [Lib.extract_data]
    simp
  have h1 : k < s.data.toList.length := by show k < s.size; omega
  have h2 : k + 1 < s.data.toList.length := by show k + 1 < s.size; omega
  rw [e, List.drop_eq_getElem_cons h1, List.drop_eq_getElem_cons h2]
  rfl
theorem els_wt : ∀ (l : List (ByteArray × Int)) (seen : List (List UInt8)), elsB seen l = true → ∀ p ∈ l, 0 ≤ p.2 ∧ p.2 ≤ 65535
  | [], _, _, _, hp => by cases hp
  | x :: r, seen, h, p, hp => by
    obtain ⟨_, h2, h3, _, h5⟩ := elsB_cons h
    rcases List.mem_cons.1 hp with rfl | hp
    · exact ⟨h2, h3⟩
    · exact els_wt r _ h5 p hp
theorem elsOk_B {E : List El} (h : elsOk E = true) : elsB [] (E.map El.pr) = true ∧ E.length ≤ 64 := by
  unfold elsOk at h
  simp only [Bool.and_eq_true, decide_eq_true_eq] at h
  exact ⟨h.2, h.1⟩
/-- what a look-up of two bytes gives -/
theorem look_is {E : List El} (h : elsB [] (E.map El.pr) = true) (u : ByteArray) (c d : UInt8) (hu : u.data.toList = [c, d]) : 
    (fstE (E.map El.pr) [c, d] = none → Hid ((lstE (E.map El.pr) u.data.toList).getD 0 = 0 ∧ (lstE (E.map El.pr) u.data.toList).isSome = false)) ∧
    ∀ m, fstE (E.map El.pr) [c, d] = some m → Hid ((lstE (E.map El.pr) u.data.toList).getD 0 = m ∧ (lstE (E.map El.pr) u.data.toList).isSome = true) := by
  rw [hu, lst_fst _ _ [] h]
  exact ⟨fun e => Lib.hid (by rw [e]; exact ⟨rfl, rfl⟩), fun m e => Lib.hid (by rw [e]; exact ⟨rfl, rfl⟩)⟩
set_option maxRecDepth 100000 in
set_option maxHeartbeats 8000000 in
theorem each_any (n lo up : ByteArray) (v1 v4 v5 : Value) (W : List Int) (C : List Cl) (E : List El) (s : ByteArray) (w0 w : World) (hL : LocAt w0 v1 v4 v5 W C E) (hW : W.length = 256) (hE : elsOk E = true) (hs : s.size ≤ 1048576) (ho : OutC w0 w w0.heap.size (.slice none 0 0) []) :
    Calls Tryd.prog 46 #[lval n v1 lo up v4 v5, .string s, .func (.func 47) #[] #[.pointer (some ⟨w0.heap.size, 0, none⟩)]] w fun e w' => ∃ v', e = .returned (.tuple #[]) ∧ Hid (OutC w0 w' w0.heap.size v' (wts W (fstE (E.map El.pr)) s.data.toList)) := by
  have hmm := @run_makeMap Tryd.prog
  have HEB := Lib.hid (elsOk_B hE).1
  have E64 := Lib.hid (elsOk_B hE).2
  have HO := Lib.hid ho
  have ZN : Hid (∀ x ∈ E, x.n.size ≤ 9223372036854775807) := Lib.hid hL.z5
  obtain ⟨gW, oW, cW, rfl, -, -, hgW, hcW⟩ := hL.r1.cons (by intro e; have := congrArg List.length e; simp [hW] at this)
  rw [List.length_map, hW]
  have HC := Lib.hid hcW
  have HW := Lib.hid hW
  obtain ⟨a, capE, rfl, hE1, hE2, hE3⟩ := hL.r5
  rw [List.length_map] at hE1 ⊢
  have H3 := Lib.hid hE3
  have H2 := Lib.hid hE2
  have GW : Hid (gW < w0.heap.size) := Lib.hid hgW
  clear hL hE ho hcW hW hE1 hE2 hE3 hgW
  go_enter Tryd.func46, Tryd.ntmps46
  go_wp2_with fail
  go_loopw [18] (fun i wr => ∃ k : Nat, k ≤ E.length ∧ i = .int .i64 k ∧ Hid (E1 w wr n lo up (.slice (some ⟨gW, oW, none⟩) 256 cW) v4 (.slice a E.length capE) E k)) (fun i _ => E.length - (intOf i).toNat)
  case atStart => exact ⟨0, Nat.zero_le _, rfl, Lib.hid (E1.start w n lo up _ v4 _ E)⟩
  case round =>
    obtain ⟨k, hk, rfl, RK⟩ := hrel
    have k64 : E.length ≤ 64 := E64.out
    by_cases hlt : k < E.length
    · obtain ⟨g, o, rfl, hg, hcell⟩ : ∃ g o, a = some ⟨g, o, none⟩ ∧ g < w0.heap.size ∧ ∀ (j : Nat) x, (E.map El.row)[j]? = some x → ∀ (i : Nat) y, x[i]? = some y → w0.cell? ⟨g, o + j * 2 + i, none⟩ = some y := by
        rcases H3.out with h | h
        · have := congrArg List.length h; rw [List.length_map, List.length_nil] at this; omega
        · exact h
      obtain ⟨x, hx⟩ : ∃ x, E[k]? = some x := ⟨E[k], List.getElem?_eq_getElem hlt⟩
      have hB := HO.out.bel.trans (RK.out.bel.mono HO.out.bel.size)
      have c0 := (hB.cell (p := ⟨g, o + k * 2, none⟩) hg).trans (hcell k _ (by rw [List.getElem?_map, hx]; rfl) 0 _ rfl)
      have c1 := (hB.cell (p := ⟨g, o + k * 2 + 1, none⟩) hg).trans (hcell k _ (by rw [List.getElem?_map, hx]; rfl) 1 _ rfl)
      have HX := Lib.hid hx
      have HM : Hid (x.n.size ≤ 9223372036854775807) := Lib.hid (ZN.out x (List.mem_of_getElem? hx))
      have HT : Hid (0 ≤ x.w ∧ x.w ≤ 65535) := Lib.hid (els_wt _ _ HEB.out x.pr (List.mem_map_of_mem (List.mem_of_getElem? hx)))
      have SK := Lib.hid (RK.out.map.alloc (.cells #[.string x.n, .int .i64 x.w] 88))
      have HCE := Lib.hid hcell
      clear hB hx hcell hg
      go_wp2_with (first
        | (at_mapUpdate; refine wp_update_prs _ rfl _ _ _ rfl (w.heap.size + 1) k _ rfl SK.out x.n x.w HM.out rfl rfl HT.out (by have := E64.out; unfold maxLen; omega) ?_; intro w1 S1 G1))
      have RN := Lib.hid (RK.out.next HX.out S1.out G1.out)
      clear S1 G1 SK RK
      go_roundw
      case rel => exact ⟨k + 1, by omega, by go_num, RN⟩
      case measure => simp [intOf]; omega
    · have ek : k = E.length := by omega
      subst ek
      have R2 := Lib.hid (E2.start (W := W) (s := s) RK.out HO.out)
      clear RK H3
      go_wp2_with fail
      go_loopw [9] (fun i wr => ∃ (k : Nat) (v : Value) (L : List Int), k ≤ s.size ∧ i = .int .i64 k ∧ Hid (E2 w0 w wr n lo up (.slice (some ⟨gW, oW, none⟩) 256 cW) v4 (.slice a E.length capE) W E s k v L)) (fun i _ => s.size - (intOf i).toNat)
      case atStart => exact ⟨0, _, _, Nat.zero_le _, rfl, R2⟩
      case round =>
        clear R2
        obtain ⟨k, v, L, hk, rfl, RK⟩ := hrel
        by_cases hlt : k < s.size
        · obtain ⟨-, l1, -, -, -, -⟩ := lrow_cells RK.out.loc
          have h257 := s[k].toNat_lt
          have hk1 : s.data.toList[k]? = some s[k] := by rw [List.getElem?_eq_getElem (show k < s.data.toList.length from hlt)]; rfl
          obtain ⟨m, hm⟩ : ∃ m, W[s[k].toNat]? = some m := ⟨_, List.getElem?_eq_getElem (by rw [HW.out]; omega)⟩
          have cw := (RK.out.out.bel.cell (p := ⟨gW, oW + s[k].toNat * 1 + 0, none⟩) GW.out).trans (HC.out s[k].toNat _ (by rw [List.getElem?_map, hm]; rfl) 0 _ rfl)
          rw [Nat.mul_one, Nat.add_zero] at cw
          have GM : Hid (W.getD s[k].toNat 0 = m) := Lib.hid (by rw [List.getD_eq_getElem?_getD, hm]; rfl)
          have z1 := ext_one s k hlt
          obtain ⟨u1, hu1⟩ : ∃ u, s.extract k (k + 1) = u := ⟨_, rfl⟩
          rw [hu1] at z1
          have HL : Hid (L.length + 1 ≤ 1048577) := Lib.hid (by have := RK.out.len; omega)
          have HK1 := Lib.hid hk1
          clear hm hk1
          by_cases h2 : k + 2 ≤ s.size
          · have z2 := ext_two s k h2
            obtain ⟨z2, d2⟩ := z2
            obtain ⟨LN, LS⟩ := look_is HEB.out (s.extract k (k + 2)) s[k] s[k + 1] d2
            have U2 : Hid ((s.extract k (k + 2)).size ≤ maxLen) := Lib.hid (by unfold maxLen; omega)
            obtain ⟨u2, hu2⟩ : ∃ u, s.extract k (k + 2) = u := ⟨_, rfl⟩
            rw [hu2] at z2
            have HK2 : Hid (s.data.toList[k + 1]? = some s[k + 1]) := Lib.hid (by rw [List.getElem?_eq_getElem (show k + 1 < s.data.toList.length from h2)]; rfl)
            have HW2 := Lib.hid (wts_two W (fstE (E.map El.pr)) s.data.toList k s[k] s[k + 1] HK1.out HK2.out)
            clear d2
            cases hf : fstE (E.map El.pr) [s[k], s[k + 1]] with
            | none =>
              have LK := LN hf
              have WN : Hid (wts W (fstE (E.map El.pr)) (s.data.toList.drop k) = m :: wts W (fstE (E.map El.pr)) (s.data.toList.drop (k + 1))) := Lib.hid (by have h := HW2.out; rw [hf, GM.out] at h; exact h)
              clear LN LS hf HW2
              go_wp2_with fail
              go_quiet (fail)
              go_wp2_with (first
                | (at_lookup; refine wp_lookup_prs _ rfl _ _ rfl (w.heap.size + 1) E.length (E.map El.pr) rfl (RK.out.map.kept rfl) (s.extract k (k + 2)) U2.out rfl 0 false LK ?_)
                | (go_at_call 47; (with_reducible refine (gather_any w0 _ w0.heap.size v L u1 m (RK.out.out.later (below_drewN (Below.refl _ _) _)) HL.out).mono ?_); rintro e w2 ⟨v', rfl, O2, T2⟩))
              have RN := Lib.hid (RK.out.next (w1 := wr.drewN _) rfl O2.out T2.out (Nat.lt_succ_self k) WN.out)
              clear O2 T2 RK
              go_roundw
              case rel => exact ⟨k + 1, v', _, by omega, by go_num, RN⟩
              case measure => simp [intOf]; omega
            | some m2 =>
              have LK := LS m2 hf
              have WN : Hid (wts W (fstE (E.map El.pr)) (s.data.toList.drop k) = m2 :: wts W (fstE (E.map El.pr)) (s.data.toList.drop (k + 2))) := Lib.hid (by have h := HW2.out; rw [hf] at h; exact h)
              clear LN LS hf HW2
              go_wp2_with fail
              go_quiet (fail)
              go_wp2_with (first
                | (at_lookup; refine wp_lookup_prs _ rfl _ _ rfl (w.heap.size + 1) E.length (E.map El.pr) rfl (RK.out.map.kept rfl) (s.extract k (k + 2)) U2.out rfl m2 true LK ?_)
                | (go_at_call 47; (with_reducible refine (gather_any w0 _ w0.heap.size v L u2 m2 (RK.out.out.later (below_drewN (Below.refl _ _) _)) HL.out).mono ?_); rintro e w2 ⟨v', rfl, O2, T2⟩))
              have RN := Lib.hid (RK.out.next (w1 := wr.drewN _) rfl O2.out T2.out (show k < k + 2 by omega) WN.out)
              clear O2 T2 RK
              go_roundw
              case rel => exact ⟨k + 2, v', _, by omega, by go_num, RN⟩
              case measure => simp [intOf]; omega
          · have WN : Hid (wts W (fstE (E.map El.pr)) (s.data.toList.drop k) = m :: wts W (fstE (E.map El.pr)) (s.data.toList.drop (k + 1))) := Lib.hid (by
              have h := wts_one W (fstE (E.map El.pr)) s.data.toList k s[k] HK1.out (by show k + 1 = s.size; omega)
              rw [GM.out] at h; exact h)
            go_wp2_with fail
            go_quiet (fail)
            go_wp2_with (first
              | (go_at_call 47; (with_reducible refine (gather_any w0 _ w0.heap.size v L u1 m (RK.out.out.later (below_drewN (Below.refl _ _) _)) HL.out).mono ?_); rintro e w2 ⟨v', rfl, O2, T2⟩))
            have RN := Lib.hid (RK.out.next (w1 := wr.drewN _) rfl O2.out T2.out (Nat.lt_succ_self k) WN.out)
            clear O2 T2 RK
            go_roundw
            case rel => exact ⟨k + 1, v', _, by omega, by go_num, RN⟩
            case measure => simp [intOf]; omega
        · have ek : k = s.size := by omega
          subst ek
          have WE : Hid (L = wts W (fstE (E.map El.pr)) s.data.toList) := Lib.hid (by
            have h := RK.out.sum
            rw [List.drop_of_length_le (show s.data.toList.length ≤ s.size from Nat.le_refl _)] at h
            rw [← h]; simp [wts])
          go_wp2_with fail
          go_end0
          exact ⟨v, rfl, Lib.hid (by rw [← WE.out]; exact RK.out.out)⟩
end Go.Proofs.YtbhdhcnbagjmcaaDoor
