/- walks: PatchFiles (written by gen_vco.py) -/
import Derived.Test.YtnkpigibjicmaaaDoorVcn
namespace Go.Proofs.YtnkpigibjicmaaaDoor
open Go.RowKit Go.Maps
open Pt
/-- a rejected hunk is one of a patch -/
theorem whole_small {fuzz : Int} : ∀ (L : List PV) (out : List Nm) (rej : List Hk), (∀ p ∈ L, fewPB p.1.2.2 = true) → (∀ h ∈ rej, h.ls.length ≤ 100 ∧ ∀ x ∈ h.ls, x.2.1.size ≤ 100000) → ∀ h ∈ (wholeP fuzz (L.map phP) out rej).2.1, h.ls.length ≤ 100 ∧ ∀ x ∈ h.ls, x.2.1.size ≤ 100000
  | [], _, _, _, hr => hr
  | p :: r, out, rej, hf, hr => by
    rw [List.map_cons, wholeP_cons]
    split
    · intro h hh; simp at hh
    · split
      · intro h hh; simp at hh
      · split
        · intro h hh; simp at hh
        · refine whole_small r _ _ (fun q hq => hf q (List.mem_cons_of_mem _ hq)) (fun h hh => ?_)
          rcases List.mem_append.1 hh with hh | hh
          · exact hr h hh
          · have SA := few_smallA (hf p List.mem_cons_self)
            obtain ⟨⟨t, pl, bd⟩, hap⟩ : ∃ x, applyP (out.getD (idxN (phP p).1 0 out).toNat (⟨#[]⟩, ⟨#[]⟩)).2 (p.1.2.2.map (·.1)) fuzz = x := ⟨_, rfl⟩
            have hh2 : h ∈ bd := by
              have := hh
              rw [show applyP (out.getD (idxN (phP p).1 0 out).toNat (⟨#[]⟩, ⟨#[]⟩)).2 (phP p).2.2 fuzz = (t, pl, bd) from hap] at this
              exact this
            have hx := (apply_small (M := bd.map (fun h => (h, Value.nilIface))) SA hap).2 (by rw [List.map_map]; exact (List.map_congr_left (fun _ _ => rfl)).trans (List.map_id _))
            exact hx.2 (h, Value.nilIface) (List.mem_map.2 ⟨h, hh2, rfl⟩)
theorem whole_len {fuzz : Int} : ∀ (L : List PV) (out : List Nm) (rej : List Hk), (∀ p ∈ L, fewPB p.1.2.2 = true) → (wholeP fuzz (L.map phP) out rej).2.1.length ≤ rej.length + 100 * L.length ∧ (wholeP fuzz (L.map phP) out rej).1.length ≤ out.length
  | [], _, _, _ => ⟨by simp [wholeP], Nat.le_refl _⟩
  | p :: r, out, rej, hf => by
    rw [List.map_cons, wholeP_cons]
    split
    · simp
    · split
      · simp
      · split
        · simp
        · have SA := few_smallA (hf p List.mem_cons_self)
          obtain ⟨⟨t, pl, bd⟩, hap⟩ : ∃ x, applyP (out.getD (idxN (phP p).1 0 out).toNat (⟨#[]⟩, ⟨#[]⟩)).2 (p.1.2.2.map (·.1)) fuzz = x := ⟨_, rfl⟩
          have hx := ((apply_small (M := bd.map (fun h => (h, Value.nilIface))) SA hap).2 (by rw [List.map_map]; exact (List.map_congr_left (fun _ _ => rfl)).trans (List.map_id _))).1
          rw [List.length_map] at hx
          have h1 := whole_len (fuzz := fuzz) r (out.set (idxN (phP p).1 0 out).toNat ((phP p).2.1, bA (applyP (out.getD (idxN (phP p).1 0 out).toNat (⟨#[]⟩, ⟨#[]⟩)).2 (phP p).2.2 fuzz).1)) (rej ++ (applyP (out.getD (idxN (phP p).1 0 out).toNat (⟨#[]⟩, ⟨#[]⟩)).2 (phP p).2.2 fuzz).2.2) (fun q hq => hf q (List.mem_cons_of_mem _ hq))
          have h2 : (applyP (out.getD (idxN (phP p).1 0 out).toNat (⟨#[]⟩, ⟨#[]⟩)).2 (phP p).2.2 fuzz).2.2.length ≤ 100 := by
            rw [show applyP (out.getD (idxN (phP p).1 0 out).toNat (⟨#[]⟩, ⟨#[]⟩)).2 (phP p).2.2 fuzz = (t, pl, bd) from hap]; exact hx
          rw [List.length_append, List.length_set] at h1
          rw [List.length_cons]
          omega
set_option maxRecDepth 100000 in
set_option maxHeartbeats 8000000 in
theorem law_files (files : List Nm) (L : List PV) (fv pv : Value) (fuzz m : Int) (w : World) (hm : w.cell? ⟨0, 0, none⟩ = some (.int .i64 m)) (hf : RowsAt w fv 2 (files.map rowN)) (hp : PsAt w pv L) (hz : ∀ p ∈ L, ∀ q ∈ p.1.2.2, ∀ x ∈ q.1.ls, x.2.1.size ≤ 9223372036854775807) (hfs : ∀ x ∈ files, x.2.size ≤ 9223372036854775807) :
    Calls Tryd.prog 5 #[fv, pv, .int .i64 fuzz] w fun e w' => e = .returned (.bool true) ∧ Below w.heap.size w w' := by
  obtain ⟨n, hn⟩ : ∃ n, L.length = n := ⟨_, rfl⟩
  obtain ⟨fn, hfn⟩ : ∃ n, files.length = n := ⟨_, rfl⟩
  have HN := Lib.hid (And.intro hn hfn)
  have HPS := Lib.hid hp
  have HFR := Lib.hid hf
  have HM := Lib.hid hm
  have HZ := Lib.hid hz
  have HFS := Lib.hid hfs
  obtain ⟨pa, pc, rfl, q1, q2, hc⟩ := hp.rows.sl (n := n) (by rw [List.length_map]; exact hn)
  obtain ⟨fa, fc, rfl, r1, r2, hd⟩ := hf.sl (n := fn) (by rw [List.length_map]; exact hfn)
  have HC := Lib.hid hc
  have HD := Lib.hid hd
  unfold maxLen at q2 r2
  have AW := Lib.hid (fun W (hb : Below w.heap.size w W) => awake_any m W (kp hb HM.out))
  have BK := Lib.hid (Below.refl w.heap.size w)
  clear hm hf hp hz hfs hn hfn hc hd
  by_cases h6 : 6 < fn
  · have t6 : (6 : Int) < (fn : Int) := by omega
    go_enter Tryd.func5, Tryd.ntmps5
    go_wp2_with (first | (go_at_call 10; (with_reducible refine (AW.out _ BK.out).mono ?_); rintro e w8 ⟨rfl, hb8⟩))
    go_ret
    exact ⟨rfl, hb8.out⟩
  have t6 : ¬ (6 : Int) < (fn : Int) := by omega
  by_cases h4 : 4 < n
  · have t4 : (4 : Int) < (n : Int) := by omega
    go_enter Tryd.func5, Tryd.ntmps5
    go_wp2_with (first | (go_at_call 10; (with_reducible refine (AW.out _ BK.out).mono ?_); rintro e w8 ⟨rfl, hb8⟩))
    go_ret
    exact ⟨rfl, hb8.out⟩
  have t4 : ¬ (4 : Int) < (n : Int) := by omega
  go_enter Tryd.func5, Tryd.ntmps5
  go_wp2_with fail
  go_loop [7] (fun i => ∃ j : Nat, i = .int .i64 j ∧ j ≤ fn ∧ Hid (∀ x ∈ files.take j, x.2.size ≤ 200)) (fun i => fn - (intOf i).toNat)
  case atStart => exact ⟨0, rfl, Nat.zero_le _, Lib.hid (fun x hx => by simp at hx)⟩
  case round =>
    obtain ⟨j, rfl, hj, HI⟩ := hrel
    by_cases hlt : j < fn
    · obtain ⟨x, hx⟩ : ∃ x, files[j]? = some x := ⟨_, List.getElem?_eq_getElem (by rw [HN.out.2]; exact hlt)⟩
      have hmem := List.mem_of_getElem? hx
      rcases HD.out with h0 | ⟨g, o, rfl, -, hcc⟩
      · omega
      have m1 : (files.map rowN)[j]? = some (rowN x) := by rw [List.getElem?_map, hx]; rfl
      have d1 := hcc j _ m1 1 _ rfl
      have XS := HFS.out x hmem
      have TK : Hid (x.2.size ≤ 200 → ∀ y ∈ files.take (j + 1), y.2.size ≤ 200) := Lib.hid (fun h y hy => by
        rw [take_get hx] at hy
        rcases List.mem_append.1 hy with hy | hy
        · exact HI.out y hy
        · rw [List.mem_singleton] at hy; rw [hy]; exact h)
      have p0 : (0 : Int) ≤ (j : Int) := by omega
      have p1 : (j : Int) < (fn : Int) := by omega
      have p2 : IntKind.i64.wrap (j : Int) = (j : Int) := IntWalk.i64_in _ (by omega)
      obtain ⟨xn, xt⟩ := x
      simp only at d1 XS TK
      clear hcc m1 hx hmem
      by_cases h2 : xt.size ≤ 200
      · have t2 : ¬ (200 : Int) < (xt.size : Int) := by omega
        have E := Lib.hid (TK.out h2)
        go_wp2_with fail
        go_round
        case rel => exact ⟨j + 1, by go_num, by omega, E⟩
        case measure => simp [intOf]; omega
      · have t2 : (200 : Int) < (xt.size : Int) := by omega
        go_wp2_with (first | (go_at_call 10; (with_reducible refine (AW.out _ BK.out).mono ?_); rintro e w8 ⟨rfl, hb8⟩))
        go_ret
        exact ⟨rfl, hb8.out⟩
    · obtain rfl : j = fn := by omega
      have FZ : Hid (∀ x ∈ files, x.2.size ≤ 200) := Lib.hid (fun x hx => HI.out x (by rw [List.take_of_length_le (by rw [HN.out.2]; exact Nat.le_refl _)]; exact hx))
      go_wp2_with fail
      go_loopw [8] (fun i wr => ∃ q : Nat, i = .int .i64 q ∧ q ≤ n ∧ Hid (∀ p ∈ L.take q, fewPB p.1.2.2 = true) ∧ Hid (Below w.heap.size w wr)) (fun i _ => n - (intOf i).toNat)
      case atStart => exact ⟨0, rfl, Nat.zero_le _, Lib.hid (fun x hx => by simp at hx), BK⟩
      case round =>
        obtain ⟨q, rfl, hq, HI2, BK⟩ := hrel
        by_cases hlt2 : q < n
        · obtain ⟨x, hx⟩ : ∃ x, L[q]? = some x := ⟨_, List.getElem?_eq_getElem (by rw [HN.out.1]; exact hlt2)⟩
          have hmem := List.mem_of_getElem? hx
          rcases HC.out with h0 | ⟨g, o, rfl, -, hcc⟩
          · omega
          have m1 : (L.map rowP)[q]? = some (rowP x) := by rw [List.getElem?_map, hx]; rfl
          have d0 := kp BK.out (hcc q _ m1 0 _ rfl)
          have d1 := kp BK.out (hcc q _ m1 1 _ rfl)
          have d2 := kp BK.out (hcc q _ m1 2 _ rfl)
          rw [Nat.add_zero] at d0
          have HK := Lib.hid (HPS.out.each x hmem)
          have XZ := Lib.hid (HZ.out x hmem)
          have TK : Hid (fewPB x.1.2.2 = true → ∀ y ∈ L.take (q + 1), fewPB y.1.2.2 = true) := Lib.hid (fun h y hy => by
            rw [take_get hx] at hy
            rcases List.mem_append.1 hy with hy | hy
            · exact HI2.out y hy
            · rw [List.mem_singleton] at hy; rw [hy]; exact h)
          have p0 : (0 : Int) ≤ (q : Int) := by omega
          have p1 : (q : Int) < (n : Int) := by omega
          have p2 : IntKind.i64.wrap (q : Int) = (q : Int) := IntWalk.i64_in _ (by omega)
          obtain ⟨⟨old, new, H⟩, u⟩ := x
          simp only at d0 d1 d2 HK XZ TK
          clear hcc m1 hx hmem
          have FW := Lib.hid (fun W (hb : Below w.heap.size w W) => few_any old new H u W (HK.out.below hb) XZ.out)
          cases hfw : fewPB H with
          | true =>
            rw [hfw] at FW
            have E := Lib.hid (TK.out hfw)
            clear hfw
            go_wp2_with (first | (go_at_call 9; (with_reducible refine (FW.out _ BK.out).mono ?_); rintro e w5 ⟨rfl, hb5⟩; have BK := Lib.hid (BK.out.trans (hb5.out.mono BK.out.size))))
            go_roundw
            case rel => exact ⟨q + 1, by go_num, by omega, E, BK⟩
            case measure => simp [intOf]; omega
          | false =>
            rw [hfw] at FW
            clear hfw
            go_wp2_with (first | (go_at_call 9; (with_reducible refine (FW.out _ BK.out).mono ?_); rintro e w5 ⟨rfl, hb5⟩; have BK := Lib.hid (BK.out.trans (hb5.out.mono BK.out.size))) | (go_at_call 10; (with_reducible refine (AW.out _ BK.out).mono ?_); rintro e w8 ⟨rfl, hb8⟩))
            go_ret
            exact ⟨rfl, BK.out.trans (hb8.out.mono BK.out.size)⟩
        · obtain rfl : q = n := by omega
          have FP : Hid (∀ p ∈ L, fewPB p.1.2.2 = true) := Lib.hid (fun x hx => HI2.out x (by rw [List.take_of_length_le (by rw [HN.out.1]; exact Nat.le_refl _)]; exact hx))
          obtain ⟨⟨out, rej, er⟩, hwp⟩ : ∃ x, wholeP fuzz (L.map phP) files [] = x := ⟨_, rfl⟩
          have HWP := Lib.hid hwp
          have SMW : Hid (∀ M : List HV, M.map (·.1) = rej → smallH M) := Lib.hid (fun M e => by
            have h1 := whole_small (fuzz := fuzz) L files [] FP.out (fun h hh => by simp at hh)
            have h2 := (whole_len (fuzz := fuzz) L files [] FP.out).1
            rw [hwp] at h1 h2
            simp only [List.length_nil] at h2
            have h3 := congrArg List.length e
            rw [List.length_map] at h3
            have h4 := HN.out.1
            refine ⟨by omega, fun p hp => ?_⟩
            have h5 := h1 p.1 (by rw [← e]; exact List.mem_map_of_mem hp)
            exact ⟨by have := h5.1; omega, fun x hx => by have := h5.2 x hx; omega⟩)
          have OL : Hid (out.length ≤ 6) := Lib.hid (by
            have h2 := (whole_len (fuzz := fuzz) L files [] FP.out).2
            rw [hwp] at h2
            have := HN.out.2
            simp only at h2
            omega)
          obtain ⟨no, hno⟩ : ∃ k, out.length = k := ⟨_, rfl⟩
          have HNO : Hid ((out.map rowN).length = no) := Lib.hid (by rw [List.length_map]; exact hno)
          have HNL := Lib.hid hno
          have no6 : no ≤ 6 := by have := OL.out; omega
          have WH := Lib.hid (fun W (hb : Below w.heap.size w W) => whole_any files L (.slice fa j fc) (.slice pa q pc) fuzz m W (kp hb HM.out) (HFR.out.below hb) (HPS.out.below hb) (by rw [HN.out.2]; omega) (by rw [HN.out.1]; omega) FZ.out FP.out HWP)
          have RW := Lib.hid (fun W (hb : Below w.heap.size w W) => rwhole_any files L (.slice fa j fc) (.slice pa q pc) fuzz W (HFR.out.below hb) (HPS.out.below hb) (by rw [HN.out.2]; omega) (by rw [HN.out.1]; omega) FZ.out FP.out HWP)
          clear hwp hno
          go_wp2_with (first | (go_at_call 18; (with_reducible refine (WH.out _ BK.out).mono ?_); rintro e w9 ⟨vo1, vr1, M1, rfl, R1, h1, H1, hb⟩; have BK := Lib.hid (BK.out.trans (hb.out.mono BK.out.size)); obtain ⟨oa1, oc1, ov1, -⟩ := R1.out.sl HNO.out; subst ov1) | (go_at_call 19; (with_reducible refine (RW.out _ BK.out).mono ?_); rintro e w10 ⟨vo2, vr2, M2, rfl, R2, h2, H2, hb⟩; have BK := Lib.hid (BK.out.trans (hb.out.mono BK.out.size)); have R1 := Lib.hid (R1.out.below hb.out); have H1 := Lib.hid (H1.out.below hb.out); obtain ⟨oa2, oc2, ov2, -⟩ := R2.out.sl HNO.out; subst ov2))
          go_loopw [15] (fun i wr => ∃ z : Nat, i = .int .i64 z ∧ z ≤ no ∧ Hid (Below w10.heap.size w10 wr)) (fun i _ => no - (intOf i).toNat)
          case atStart => exact ⟨0, rfl, Nat.zero_le _, Lib.hid (Below.refl _ _)⟩
          case round =>
            obtain ⟨z, rfl, hz, BI⟩ := hrel
            by_cases hlz : z < no
            · obtain ⟨x, hx⟩ : ∃ x, out[z]? = some x := ⟨_, List.getElem?_eq_getElem (by rw [HNL.out]; exact hlz)⟩
              have m1 : (out.map rowN)[z]? = some (rowN x) := by rw [List.getElem?_map, hx]; rfl
              obtain ⟨g1, o1, rfl, -, -, -, k1⟩ := R1.out.at rfl m1
              obtain ⟨g2, o2, rfl, -, -, -, k2⟩ := R2.out.at rfl m1
              have d0 := kp BI.out (k1 0 _ rfl)
              have d1 := kp BI.out (k1 1 _ rfl)
              have e0 := kp BI.out (k2 0 _ rfl)
              have e1 := kp BI.out (k2 1 _ rfl)
              rw [Nat.add_zero] at d0 e0
              have p0 : (0 : Int) ≤ (z : Int) := by omega
              have p1 : (z : Int) < (no : Int) := by omega
              have p2 : IntKind.i64.wrap (z : Int) = (z : Int) := IntWalk.i64_in _ (by omega)
              obtain ⟨xn, xt⟩ := x
              clear k1 k2 m1 hx
              go_wp2_with fail
              go_quiet (fail)
              go_wp2_with fail
              go_roundw
              case rel => exact ⟨z + 1, by go_num, by omega, Lib.hid (BI.out.trans ((bel_dn wr _).mono BI.out.size))⟩
              case measure => simp [intOf]; omega
            · obtain rfl : z = no := by omega
              have BK := Lib.hid (BK.out.trans (BI.out.mono BK.out.size))
              go_wp2_with (first | (go_at_call 14; (with_reducible refine (samehunks_eq M1 M2 vr1 vr2 _ (H1.out.below BI.out) (H2.out.below BI.out) (h1.out.trans h2.out.symm) (SMW.out M1 h1.out)).mono ?_); rintro e w12 ⟨rfl, hb⟩; have BK := Lib.hid (BK.out.trans (hb.out.mono BK.out.size))) | (go_at_call 10; (with_reducible refine (AW.out _ BK.out).mono ?_); rintro e w8 ⟨rfl, hb8⟩))
              go_ret
              exact ⟨rfl, BK.out.trans (hb8.out.mono BK.out.size)⟩
end Go.Proofs.YtnkpigibjicmaaaDoor
