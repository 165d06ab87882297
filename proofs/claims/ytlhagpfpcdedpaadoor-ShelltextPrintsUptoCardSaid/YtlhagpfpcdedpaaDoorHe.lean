/- walks: the parser's word (written by gen_he.py) -/
import Derived.Test.YtlhagpfpcdedpaaDoorHd
import Derived.Test.YtlhagpfpcdedpaaDoorDetb
import Derived.Test.YtlhagpfpcdedpaaDoorHplain
namespace Go.Proofs.YtlhagpfpcdedpaaDoor
open Go.RowKit
open Shp
namespace Shp
theorem quS_len (s : ByteArray) (q : UInt8) (j : Nat) : (quS s q (j + 1, [])).2.length + (j + 1) ≤ (quS s q (j + 1, [])).1 := by
  refine iter_keeps (fun y : Nat × List UInt8 => y.2.length + (j + 1) ≤ y.1) ?_ _ (by simp)
  intro x y hx h
  unfold qu1 at h
  split at h
  · cases h
  · split at h
    · cases h
    · split at h
      · split at h <;> (cases h; simp only [List.length_append, List.length_singleton] at *; omega)
      · cases h; simp only [List.length_append, List.length_singleton] at *; omega
theorem part_len {s : ByteArray} {j : Nat} {x : List UInt8 × Nat} (h : part s j = some x) : j + x.1.length ≤ x.2 := by
  unfold part at h
  split at h
  · cases h
  · split at h
    · unfold quP at h
      split at h
      · have := quS_len s (by assumption) j
        cases h; simp only at *; omega
      · cases h
    · split at h
      · split at h
        · cases h
        · split at h <;> (cases h; simp)
      · cases h; simp
theorem wd1_len {s : ByteArray} {x y : Nat × List UInt8} (hx : x.2.length ≤ x.1) (h : wd1 s x = some y) : y.2.length ≤ y.1 := by
  unfold wd1 at h
  split at h
  · cases h
  · split at h
    · cases h
    · cases hp : part s x.1 with
      | none => rw [hp] at h; cases h
      | some p => rw [hp] at h; cases h; have := part_len hp; simp only [List.length_append]; omega
theorem idx_mem (c : UInt8) (l : List UInt8) : 0 ≤ Lib.indexByte l c ↔ c ∈ l := by
  constructor
  · intro h
    obtain ⟨o, ho⟩ : ∃ o : Nat, Lib.indexByte l c = o := ⟨(Lib.indexByte l c).toNat, by omega⟩
    exact List.mem_of_getElem? (Lib.indexByte_some ho).1
  · intro h
    have g := Lib.indexByte_ge l c
    refine Decidable.byContradiction fun hn => ?_
    obtain ⟨k, hk, e⟩ := List.getElem_of_mem h
    exact Lib.indexByte_none (l := l) (c := c) (by omega) k (by rw [List.getElem?_eq_getElem hk, e])
theorem idx_sp (c : UInt8) : decide (0 ≤ Lib.indexByte [32, 9, 10, 124, 59, 38, 60, 62] c) = spB c := by
  rw [Bool.eq_iff_iff, decide_eq_true_iff, idx_mem]
  unfold spB
  simp only [List.mem_cons, Bool.or_eq_true, beq_iff_eq, List.not_mem_nil, or_false, or_assoc]
end Shp
theorem bang_ext (s : ByteArray) (a i : Nat) : bangB s a i = ((s.extract a i).toList == [33]) := by
  unfold bangB
  rw [Lib.toList_data, Lib.extract_data, List.drop_take]
  rw [Bool.eq_iff_iff, decide_eq_true_iff, beq_iff_eq]
theorem ix_is (u : ByteArray) (c : UInt8) (k : Int) (w : World) {v : Int} (h : Hid (Lib.indexByte u.data.toList c = k)) (hv : v = (c.toNat : Int)) :
    Calls Tryd.prog 53 #[.string u, .int .u8 v] w fun e w' => e = .returned (.int .i64 k) ∧ w = w' := by
  subst hv
  refine (Tryd.strings_IndexByte u (c.toNat : Int) w).mono fun e w' ⟨h1, h2⟩ => ⟨?_, h2.symm⟩
  rw [h1, ← h.out]
  simp
theorem str_i (p b : Nat) (s : ByteArray) (a : Int) (tx : ByteArray) (wd bg : Bool) (ta er po : Int) (out : List UInt8) (wb w : World) (L : RX p s a tx wd bg ta er po w) (I : IBF b out w) (G : GB p b wb w) (hp : p < b) :
    Calls Tryd.prog 38 #[.pointer (some ⟨b, 0, none⟩)] w fun e w' => e = .returned (.string ⟨out.toArray⟩) ∧ RX p s a tx wd bg ta er po w' ∧ IBF b out w' ∧ GB p b wb w' :=
  (Any.Builder_String_any_k Tryd.lays169 Tryd.Builder_Extra_169 b b out w I (ibf_size I)).mono fun _ _ ⟨h1, h2, h3, _⟩ => ⟨h1, L.gb h3 hp, h2, G.trans (GB.of h3)⟩
theorem str_p (p b : Nat) (s : ByteArray) (a : Int) (tx : ByteArray) (wd bg : Bool) (ta er po : Int) (out : List UInt8) (wb w0 w : World) (L : RX p s a tx wd bg ta er po w0) (I : IBF b out w0) (G : GB p b wb w0) (hp : p < b) (hw : SameW w0 w) :
    Calls Tryd.prog 38 #[.pointer (some ⟨b, 0, none⟩)] w fun e w' => e = .returned (.string ⟨out.toArray⟩) ∧ Hid (RX p s a tx wd bg ta er po w') ∧ Hid (GB p b wb w') := by
  refine (str_k b out w (ibf_keep I (fun i _ _ => by rw [hw.1]))).mono fun e w' ⟨h1, h3⟩ => ⟨h1, ?_, ?_⟩
  · exact Lib.hid ((L.keep (by rw [hw.1])).gb h3 hp)
  · exact Lib.hid (G.trans (GB.of (bel_same h3 hw)))
def errOf (w : World) (p : Nat) : Int := match w.cell? ⟨p, 6, none⟩ with
  | some (.int _ x) => x
  | _ => 0
theorem RX.errOf {p : Nat} {s : ByteArray} {a : Int} {tx : ByteArray} {wd bg : Bool} {ta er po : Int} {w : World} (h : RX p s a tx wd bg ta er po w) : Go.Proofs.YtlhagpfpcdedpaaDoor.errOf w p = er := by
  unfold Go.Proofs.YtlhagpfpcdedpaaDoor.errOf; rw [h.cells.2.2.2.2.2.2.1]
def muOf (s : ByteArray) (p : Nat) (w : World) : Nat := if errOf w p = 0 then s.size + 1 - atOf w p else 0
theorem mu_run {p : Nat} {s : ByteArray} {a : Nat} {tx : ByteArray} {wd bg : Bool} {ta po : Int} {w : World} (h : RX p s a tx wd bg ta 0 po w) : muOf s p w = s.size + 1 - a := by
  unfold muOf; rw [h.errOf, h.atOf, if_pos rfl]; rfl
theorem mu_bad {p : Nat} {s : ByteArray} {a : Int} {tx : ByteArray} {wd bg : Bool} {ta er po : Int} {w : World} (h : RX p s a tx wd bg ta er po w) (he : er ≠ 0) : muOf s p w = 0 := by
  unfold muOf; rw [h.errOf, if_neg he]
/-- the state in memory -/
def StM (p : Nat) (s : ByteArray) (po : Int) (w : World) : St → Prop
  | .run t a => RX p s (a : Nat) ⟨t.t.toArray⟩ (decide (t.k = 1)) t.b (t.a : Nat) 0 po w
  | .bad e q => ∃ a tx wd bg ta, RX p s a tx wd bg ta e q w
theorem part_esc {s : ByteArray} {j : Nat} (h : at? s j = some 92) : Shp.part s j = escP s j := by
  unfold Shp.part escP; rw [h]; rfl
theorem part_39 {s : ByteArray} {j : Nat} (h : at? s j = some 39) : Shp.part s j = quP s 39 j := by
  unfold Shp.part; rw [h]; rfl
theorem part_34 {s : ByteArray} {j : Nat} (h : at? s j = some 34) : Shp.part s j = quP s 34 j := by
  unfold Shp.part; rw [h]; rfl
set_option maxRecDepth 100000 in
set_option maxHeartbeats 8000000 in
theorem word_any (p : Nat) (s : ByteArray) (a : Nat) (tx : ByteArray) (wd bg : Bool) (po : Int) (w : World) (h : RX p s a tx wd bg a 0 po w) (hs : s.size ≤ 8192) (ha : a < s.size) :
    Calls Tryd.prog 46 #[.pointer (some ⟨p, 0, none⟩)] w fun e w' => e = .returned (.tuple #[]) ∧ Hid (StM p s po w' (wordS s a)) ∧ Hid (Gr p w w') := by
  have PB := Lib.hid h.lt
  have IB := Lib.hid (Lib.IsBuilderF.of (Lib.fresh_isBuilder 69 5 w))
  have H := Lib.hid (h.below (w' := w.alloc (.cells #[.pointer none, .slice none 0 0] 69)) ((Below.refl w.heap.size w).alloc (Nat.le_refl _) _))
  have GA := Lib.hid (GB.of (p := p) ((Below.refl w.heap.size w).alloc (Nat.le_refl _) (.cells #[.pointer none, .slice none 0 0] 69)))
  obtain ⟨c0, c1, -, -, -, -, c6, -⟩ := H.out.cells
  clear h
  go_enter Tryd.func46, Tryd.ntmps46
  go_wp2_with fail
  go_loopw [4] (fun _ wr => (∃ (i : Nat) (l : List UInt8), a ≤ i ∧ i ≤ s.size ∧ Hid (wdS s (i, l) = wdS s (a, [])) ∧ Hid (l.length ≤ i) ∧ Hid (IBF w.heap.size l wr) ∧ Hid (RX p s i tx wd bg a 0 po wr) ∧ Hid (GB p w.heap.size w wr)) ∨ (∃ (i : Nat) (l o : List UInt8), a ≤ i ∧ i < s.size ∧ Hid (wdS s (a, []) = (i, l)) ∧ Hid (∃ c, at? s i = some c ∧ spB c = false) ∧ Hid (IBF w.heap.size o wr) ∧ Hid (RX p s i tx wd bg a 1 i wr) ∧ Hid (GB p w.heap.size w wr))) (fun _ wr => muOf s p wr)
  case atStart => exact .inl ⟨a, [], by omega, by omega, Lib.hid rfl, Lib.hid (by simp), IB, H, GA⟩
  case round =>
    rcases hrel with ⟨i, l, ai, is, WD, LL, I, L, G⟩ | ⟨i, l, o, ai, is, WD, SP, I, L, G⟩
    · obtain ⟨c0, c1, -, -, -, -, c6, -⟩ := L.out.cells
      have f1 := L.out.fr 1
      have MU := Lib.hid (mu_run L.out)
      by_cases hlt : i < s.size
      · obtain ⟨c, hc⟩ : ∃ c, s[i] = c := ⟨_, rfl⟩
        have AC : Hid (at? s i = some c) := Lib.hid (by rw [at_lt hlt, hc])
        obtain ⟨k, hk⟩ : ∃ k, Lib.indexByte [32, 9, 10, 124, 59, 38, 60, 62] c = k := ⟨_, rfl⟩
        have HK := Lib.hid hk
        have KS := Lib.hid (idx_sp c)
        rw [hk] at KS
        clear hk
        by_cases hsp : spB c = true
        · have k0 : decide (0 ≤ k) = true := by rw [KS.out, hsp]
          obtain ⟨u, hu⟩ : ∃ u, s.extract a i = u := ⟨_, rfl⟩
          go_wp2_with ((first | (go_at_call 53; refine (ix_is _ c k _ HK rfl).mono ?_; rintro e w1 ⟨rfl, rfl⟩) | (go_at_call 38; refine (str_p p w.heap.size s i tx wd bg ta 0 po l w wr _ L.out I.out G.out PB.out (by exact ⟨rfl, rfl, rfl, rfl⟩)).mono ?_; rintro e w1 ⟨rfl, I1, L1, G1⟩; obtain ⟨c0, c1, c2, c3, c4, -, c6, -⟩ := L1.out.cells; have f2 := L1.out.fr 2; have f3 := L1.out.fr 3; have f4 := L1.out.fr 4)))
          repeat (go_region; go_wp2_with ((first | (go_at_call 53; refine (ix_is _ c k _ HK rfl).mono ?_; rintro e w1 ⟨rfl, rfl⟩) | (go_at_call 38; refine (str_p p w.heap.size s i tx wd bg ta 0 po l w wr _ L.out I.out G.out PB.out (by exact ⟨rfl, rfl, rfl, rfl⟩)).mono ?_; rintro e w1 ⟨rfl, I1, L1, G1⟩; obtain ⟨c0, c1, c2, c3, c4, -, c6, -⟩ := L1.out.cells; have f2 := L1.out.fr 2; have f3 := L1.out.fr 3; have f4 := L1.out.fr 4))))
          obtain ⟨B, hB⟩ : ∃ B, (u.toList == [33]) = B := ⟨_, rfl⟩
          have WR : Hid (wordS s a = .run ⟨1, l, B, a⟩ i) := Lib.hid (by
            have e := wdS_none (s := s) (x := (i, l)) (by unfold wd1; simp only [AC.out]; rw [if_pos hsp])
            rw [WD.out] at e
            unfold wordS
            rw [e]; simp only [AC.out]; rw [if_pos hsp, ← hB, ← hu, bang_ext])
          refine wp_region_inv (DetB (fun d w' => RX p s i (cond (d 18) ⟨l.toArray⟩ tx) (cond (d 22) true wd) (cond (d 26) B bg) a 0 po w' ∧ IBF w.heap.size l w' ∧ GB p w.heap.size w w') 48 24 (fun kk => ([0, 1, 2, 3, 4, 5, 6, 7, 8, 9, 10, 11, 12, 13, 14, 15, 16, 17, 19, 20, 21, 23, 24, 25] : List Nat).getD kk 0) (fun kk => ([.pointer (some ⟨p, 0, none⟩), .pointer (some ⟨p, 0, none⟩), .pointer (some ⟨p, 0, none⟩), .string ⟨l.toArray⟩, .pointer (some ⟨p, 0, none⟩), .pointer (some ⟨p, 0, none⟩), .pointer (some ⟨p, 0, none⟩), .string s, .int .i64 (a : Int), .pointer (some ⟨p, 0, none⟩), .pointer (some ⟨p, 0, none⟩), .pointer (some ⟨p, 1, none⟩), .int .i64 (i : Int), .string u, .bool B, .pointer (some ⟨p, 0, none⟩), .pointer (some ⟨p, 2, none⟩), .pointer (some ⟨p, 2, none⟩), .pointer (some ⟨p, 0, none⟩), .pointer (some ⟨p, 2, none⟩), .pointer (some ⟨p, 3, none⟩), .pointer (some ⟨p, 0, none⟩), .pointer (some ⟨p, 2, none⟩), .pointer (some ⟨p, 4, none⟩)] : List Value).getD kk undef)) (by kernel_rfl) (by kernel_rfl) ?_ ?_ ?_
          · exact DetB.start ⟨L.out.keep rfl, ibf_keep I.out (by intros; rfl), gb_same G.out ⟨rfl, rfl, rfl, rfl⟩⟩ (Nat.le_of_ble_eq_true rfl) (by decide)
          · refine StepsL.cons 1 rfl ?_ ?_
            · intro d ac wx hI hd hdep K hK
              have f0 : ac.tmps[0]? = some (.pointer (some ⟨p, 0, none⟩)) := hI.other 0 (by decide)
              have h0 := eval_slot f0
              go_simp
              exact hK.out _ _ (hI.put 0 (by decide) (by decide) _ rfl _ rfl hI.1)
            refine StepsL.cons 2 rfl ?_ ?_
            · intro d ac wx hI hd hdep K hK
              have f0 : ac.tmps[0]? = some (.pointer (some ⟨p, 0, none⟩)) := hI.other 0 (by decide)
              have h0 := eval_slot f0
              go_simp
              exact hK.out _ _ (hI.put 1 (by decide) (by decide) _ rfl _ rfl hI.1)
            refine StepsL.cons 3 rfl ?_ ?_
            · intro d ac wx hI hd hdep K hK
              have f0 : ac.tmps[0]? = some (.pointer (some ⟨p, 0, none⟩)) := hI.other 0 (by decide)
              have h0 := eval_slot f0
              go_simp
              exact hK.out _ _ (hI.put 2 (by decide) (by decide) _ rfl _ rfl hI.1)
            refine StepsL.cons 4 rfl ?_ ?_
            · intro d ac wx hI hd hdep K hK
              have f2 : ac.tmps[2]? = some (.pointer (some ⟨w.heap.size, 0, none⟩)) := hI.other 2 (by decide)
              have h2 := eval_slot f2
              go_simp
              go_at_call 38
              refine (str_i p w.heap.size s i _ _ _ a 0 po l w wx hI.1.1 hI.1.2.1 hI.1.2.2 PB.out).mono ?_
              rintro e w2 ⟨rfl, L2, I2, G2⟩
              go_wp2_with fail
              exact hK.out _ _ (hI.put 3 (by decide) (by decide) _ rfl _ rfl ⟨L2, I2, G2⟩)
            refine StepsL.cons 5 rfl ?_ ?_
            · intro d ac wx hI hd hdep K hK
              have f0 : ac.tmps[0]? = some (.pointer (some ⟨p, 0, none⟩)) := hI.other 0 (by decide)
              have h0 := eval_slot f0
              go_simp
              exact hK.out _ _ (hI.put 4 (by decide) (by decide) _ rfl _ rfl hI.1)
            refine StepsL.cons 6 rfl ?_ ?_
            · intro d ac wx hI hd hdep K hK
              have f52 : ac.tmps[52]? = some (.pointer (some ⟨p, 0, none⟩)) := hI.slot 4 (by decide) (hdep ⟨4, .data⟩ (by simp) (by rfl))
              have h52 := eval_slot f52
              go_simp
              exact hK.out _ _ (hI.put 5 (by decide) (by decide) _ rfl _ rfl hI.1)
            refine StepsL.cons 7 rfl ?_ ?_
            · intro d ac wx hI hd hdep K hK
              have f53 : ac.tmps[53]? = some (.pointer (some ⟨p, 0, none⟩)) := hI.slot 5 (by decide) (hdep ⟨5, .data⟩ (by simp) (by rfl))
              have h53 := eval_slot f53
              go_simp
              exact hK.out _ _ (hI.put 6 (by decide) (by decide) _ rfl _ rfl hI.1)
            refine StepsL.cons 8 rfl ?_ ?_
            · intro d ac wx hI hd hdep K hK
              have f54 : ac.tmps[54]? = some (.pointer (some ⟨p, 0, none⟩)) := hI.slot 6 (by decide) (hdep ⟨6, .data⟩ (by simp) (by rfl))
              have h54 := eval_slot f54
              obtain ⟨c0, c1, -, -, -, -, -, -⟩ := hI.1.1.cells
              go_simp
              exact hK.out _ _ (hI.put 7 (by decide) (by decide) _ rfl _ rfl hI.1)
            refine StepsL.cons 9 rfl ?_ ?_
            · intro d ac wx hI hd hdep K hK
              have f3 : ac.tmps[3]? = some (.int .i64 (a : Int)) := hI.other 3 (by decide)
              have h3 := eval_slot f3
              go_simp
              exact hK.out _ _ (hI.put 8 (by decide) (by decide) _ rfl _ rfl hI.1)
            refine StepsL.cons 10 rfl ?_ ?_
            · intro d ac wx hI hd hdep K hK
              have f0 : ac.tmps[0]? = some (.pointer (some ⟨p, 0, none⟩)) := hI.other 0 (by decide)
              have h0 := eval_slot f0
              go_simp
              exact hK.out _ _ (hI.put 9 (by decide) (by decide) _ rfl _ rfl hI.1)
            refine StepsL.cons 11 rfl ?_ ?_
            · intro d ac wx hI hd hdep K hK
              have f57 : ac.tmps[57]? = some (.pointer (some ⟨p, 0, none⟩)) := hI.slot 9 (by decide) (hdep ⟨9, .data⟩ (by simp) (by rfl))
              have h57 := eval_slot f57
              go_simp
              exact hK.out _ _ (hI.put 10 (by decide) (by decide) _ rfl _ rfl hI.1)
            refine StepsL.cons 12 rfl ?_ ?_
            · intro d ac wx hI hd hdep K hK
              have f58 : ac.tmps[58]? = some (.pointer (some ⟨p, 0, none⟩)) := hI.slot 10 (by decide) (hdep ⟨10, .data⟩ (by simp) (by rfl))
              have h58 := eval_slot f58
              go_simp
              exact hK.out _ _ (hI.put 11 (by decide) (by decide) _ rfl _ rfl hI.1)
            refine StepsL.cons 13 rfl ?_ ?_
            · intro d ac wx hI hd hdep K hK
              have f59 : ac.tmps[59]? = some (.pointer (some ⟨p, 1, none⟩)) := hI.slot 11 (by decide) (hdep ⟨11, .data⟩ (by simp) (by rfl))
              have h59 := eval_slot f59
              obtain ⟨c0, c1, -, -, -, -, -, -⟩ := hI.1.1.cells
              go_simp
              exact hK.out _ _ (hI.put 12 (by decide) (by decide) _ rfl _ rfl hI.1)
            refine StepsL.cons 14 rfl ?_ ?_
            · intro d ac wx hI hd hdep K hK
              have f55 : ac.tmps[55]? = some (.string s) := hI.slot 7 (by decide) (hdep ⟨7, .data⟩ (by simp) (by rfl))
              have h55 := eval_slot f55
              have f56 : ac.tmps[56]? = some (.int .i64 (a : Int)) := hI.slot 8 (by decide) (hdep ⟨8, .data⟩ (by simp) (by rfl))
              have h56 := eval_slot f56
              have f60 : ac.tmps[60]? = some (.int .i64 (i : Int)) := hI.slot 12 (by decide) (hdep ⟨12, .data⟩ (by simp) (by rfl))
              have h60 := eval_slot f60
              go_simp
              exact hK.out _ _ (hI.put 13 (by decide) (by decide) _ rfl _ rfl hI.1)
            refine StepsL.cons 15 rfl ?_ ?_
            · intro d ac wx hI hd hdep K hK
              have f61 : ac.tmps[61]? = some (.string u) := hI.slot 13 (by decide) (hdep ⟨13, .data⟩ (by simp) (by rfl))
              have h61 := eval_slot f61
              go_simp
              exact hK.out _ _ (hI.put 14 (by decide) (by decide) _ rfl _ rfl hI.1)
            refine StepsL.cons 16 rfl ?_ ?_
            · intro d ac wx hI hd hdep K hK
              have f48 : ac.tmps[48]? = some (.pointer (some ⟨p, 0, none⟩)) := hI.slot 0 (by decide) (hdep ⟨0, .data⟩ (by simp) (by rfl))
              have h48 := eval_slot f48
              go_simp
              exact hK.out _ _ (hI.put 15 (by decide) (by decide) _ rfl _ rfl hI.1)
            refine StepsL.cons 17 rfl ?_ ?_
            · intro d ac wx hI hd hdep K hK
              have f63 : ac.tmps[63]? = some (.pointer (some ⟨p, 0, none⟩)) := hI.slot 15 (by decide) (hdep ⟨15, .data⟩ (by simp) (by rfl))
              have h63 := eval_slot f63
              go_simp
              exact hK.out _ _ (hI.put 16 (by decide) (by decide) _ rfl _ rfl hI.1)
            refine StepsL.cons 18 rfl ?_ ?_
            · intro d ac wx hI hd hdep K hK
              have f64 : ac.tmps[64]? = some (.pointer (some ⟨p, 2, none⟩)) := hI.slot 16 (by decide) (hdep ⟨16, .data⟩ (by simp) (by rfl))
              have h64 := eval_slot f64
              go_simp
              exact hK.out _ _ (hI.put 17 (by decide) (by decide) _ rfl _ rfl hI.1)
            refine StepsL.cons 19 rfl ?_ ?_
            · intro d ac wx hI hd hdep K hK
              have f65 : ac.tmps[65]? = some (.pointer (some ⟨p, 2, none⟩)) := hI.slot 17 (by decide) (hdep ⟨17, .data⟩ (by simp) (by rfl))
              have h65 := eval_slot f65
              have f51 : ac.tmps[51]? = some (.string ⟨l.toArray⟩) := hI.slot 3 (by decide) (hdep ⟨3, .data⟩ (by simp) (by rfl))
              have h51 := eval_slot f51
              obtain ⟨-, -, c2, c3, c4, -, -, -⟩ := hI.1.1.cells; have f2 := hI.1.1.fr 2; have f3 := hI.1.1.fr 3; have f4 := hI.1.1.fr 4
              go_simp
              exact hK.out _ _ (hI.keep 18 (by decide) ⟨hI.1.1.set2 _, ibf_set hI.1.2.1 PB.out 2 _, hI.1.2.2.trans (GB.set p _ wx 2 _)⟩)
            refine StepsL.cons 20 rfl ?_ ?_
            · intro d ac wx hI hd hdep K hK
              have f49 : ac.tmps[49]? = some (.pointer (some ⟨p, 0, none⟩)) := hI.slot 1 (by decide) (hdep ⟨1, .data⟩ (by simp) (by rfl))
              have h49 := eval_slot f49
              go_simp
              exact hK.out _ _ (hI.put 18 (by decide) (by decide) _ rfl _ rfl hI.1)
            refine StepsL.cons 21 rfl ?_ ?_
            · intro d ac wx hI hd hdep K hK
              have f66 : ac.tmps[66]? = some (.pointer (some ⟨p, 0, none⟩)) := hI.slot 18 (by decide) (hdep ⟨19, .data⟩ (by simp) (by rfl))
              have h66 := eval_slot f66
              go_simp
              exact hK.out _ _ (hI.put 19 (by decide) (by decide) _ rfl _ rfl hI.1)
            refine StepsL.cons 22 rfl ?_ ?_
            · intro d ac wx hI hd hdep K hK
              have f67 : ac.tmps[67]? = some (.pointer (some ⟨p, 2, none⟩)) := hI.slot 19 (by decide) (hdep ⟨20, .data⟩ (by simp) (by rfl))
              have h67 := eval_slot f67
              go_simp
              exact hK.out _ _ (hI.put 20 (by decide) (by decide) _ rfl _ rfl hI.1)
            refine StepsL.cons 23 rfl ?_ ?_
            · intro d ac wx hI hd hdep K hK
              have f68 : ac.tmps[68]? = some (.pointer (some ⟨p, 3, none⟩)) := hI.slot 20 (by decide) (hdep ⟨21, .data⟩ (by simp) (by rfl))
              have h68 := eval_slot f68
              obtain ⟨-, -, c2, c3, c4, -, -, -⟩ := hI.1.1.cells; have f2 := hI.1.1.fr 2; have f3 := hI.1.1.fr 3; have f4 := hI.1.1.fr 4
              go_simp
              exact hK.out _ _ (hI.keep 22 (by decide) ⟨hI.1.1.set3 _, ibf_set hI.1.2.1 PB.out 3 _, hI.1.2.2.trans (GB.set p _ wx 3 _)⟩)
            refine StepsL.cons 24 rfl ?_ ?_
            · intro d ac wx hI hd hdep K hK
              have f50 : ac.tmps[50]? = some (.pointer (some ⟨p, 0, none⟩)) := hI.slot 2 (by decide) (hdep ⟨2, .data⟩ (by simp) (by rfl))
              have h50 := eval_slot f50
              go_simp
              exact hK.out _ _ (hI.put 21 (by decide) (by decide) _ rfl _ rfl hI.1)
            refine StepsL.cons 25 rfl ?_ ?_
            · intro d ac wx hI hd hdep K hK
              have f69 : ac.tmps[69]? = some (.pointer (some ⟨p, 0, none⟩)) := hI.slot 21 (by decide) (hdep ⟨23, .data⟩ (by simp) (by rfl))
              have h69 := eval_slot f69
              go_simp
              exact hK.out _ _ (hI.put 22 (by decide) (by decide) _ rfl _ rfl hI.1)
            refine StepsL.cons 26 rfl ?_ ?_
            · intro d ac wx hI hd hdep K hK
              have f70 : ac.tmps[70]? = some (.pointer (some ⟨p, 2, none⟩)) := hI.slot 22 (by decide) (hdep ⟨24, .data⟩ (by simp) (by rfl))
              have h70 := eval_slot f70
              go_simp
              exact hK.out _ _ (hI.put 23 (by decide) (by decide) _ rfl _ rfl hI.1)
            refine StepsL.cons 27 rfl ?_ ?_
            · intro d ac wx hI hd hdep K hK
              have f71 : ac.tmps[71]? = some (.pointer (some ⟨p, 4, none⟩)) := hI.slot 23 (by decide) (hdep ⟨25, .data⟩ (by simp) (by rfl))
              have h71 := eval_slot f71
              have f62 : ac.tmps[62]? = some (.bool B) := hI.slot 14 (by decide) (hdep ⟨14, .data⟩ (by simp) (by rfl))
              have h62 := eval_slot f62
              obtain ⟨-, -, c2, c3, c4, -, -, -⟩ := hI.1.1.cells; have f2 := hI.1.1.fr 2; have f3 := hI.1.1.fr 3; have f4 := hI.1.1.fr 4
              go_simp
              exact hK.out _ _ (hI.keep 26 (by decide) ⟨hI.1.1.set4 _, ibf_set hI.1.2.1 PB.out 4 _, hI.1.2.2.trans (GB.set p _ wx 4 _)⟩)
            exact StepsL.nil
          · intro d ac wy hI hall
            obtain ⟨SB2, rfl⟩ := hI.done hall
            simp only [putR, Act.put, List.setIfInBounds_toArray, List.set_cons_zero, List.set_cons_succ, Nat.reduceAdd]
            go_wp2_with fail
            (try simp only [Exit.inBlock, Exit.then]); refine bodyPost_ret (results_none rfl _ _ _) rfl ?_
            obtain ⟨z1, -, z3⟩ := SB2
            rw [hall 18, hall 22, hall 26] at z1
            exact ⟨rfl, Lib.hid (by rw [WR.out]; exact z1), Lib.hid (z3.gr (Nat.le_refl _))⟩

        · have SPF : spB c = false := by simpa using hsp
          have k0 : decide (0 ≤ k) = false := by rw [KS.out, SPF]
          have ST : ∀ x, Shp.part s i = some x → Hid (wdS s (x.2, l ++ x.1) = wdS s (a, []) ∧ i < x.2 ∧ x.2 ≤ s.size ∧ (l ++ x.1).length ≤ x.2) := fun x hx => Lib.hid (by
            have e : wd1 s (i, l) = some (x.2, l ++ x.1) := by unfold wd1; simp only [AC.out]; rw [if_neg hsp, hx]; rfl
            refine ⟨by rw [← WD.out, wdS_step e], (part_lt hx).1, (part_lt hx).2, ?_⟩
            exact wd1_len (x := (i, l)) LL.out e)
          have SN : Shp.part s i = none → Hid (wdS s (a, []) = (i, l)) := fun hx => Lib.hid (by rw [← WD.out]; exact wdS_none (by unfold wd1; simp only [AC.out]; rw [if_neg hsp, hx]; rfl))
          have ST := Lib.hid ST
          have SN := Lib.hid SN
          have HLL : Hid (l.length ≤ 8192) := Lib.hid (by have := LL.out; omega)
          by_cases h92 : c = 92
          · subst h92
            go_wp2_with ((first | (go_at_call 53; refine (ix_is _ 92 k _ HK rfl).mono ?_; rintro e w1 ⟨rfl, rfl⟩) | (go_at_call 57; refine (escape_any p w.heap.size s i tx wd bg a po l _ (L.out.keep (by rfl)) (ibf_keep I.out (by intros; rfl)) PB.out hs hlt HLL.out).mono ?_; rintro e w2 ⟨rfl, P1, G1⟩)))
            repeat (go_region; go_wp2_with ((first | (go_at_call 53; refine (ix_is _ 92 k _ HK rfl).mono ?_; rintro e w1 ⟨rfl, rfl⟩) | (go_at_call 57; refine (escape_any p w.heap.size s i tx wd bg a po l _ (L.out.keep (by rfl)) (ibf_keep I.out (by intros; rfl)) PB.out hs hlt HLL.out).mono ?_; rintro e w2 ⟨rfl, P1, G1⟩))))
            have P2 := P1.out
            rw [← part_esc AC.out] at P2
            have GG : Hid (GB p w.heap.size w w2) := Lib.hid (GB.trans (gb_same G.out (by exact ⟨rfl, rfl, rfl, rfl⟩)) G1.out)
            cases hp : Shp.part s i with
            | none =>
              have Y := SN.out hp
              rw [hp] at P2
              obtain ⟨L1, o, I1⟩ := P2
              have L1 := Lib.hid L1
              have I1 := Lib.hid I1
              have SPQ : Hid (∃ c, at? s i = some c ∧ spB c = false) := Lib.hid ⟨_, AC.out, SPF⟩
              clear P1 hp
              go_roundw
              case rel => exact .inr ⟨i, l, o, ai, hlt, Y, SPQ, I1, L1, GG⟩
              case measure => rw [MU.out, mu_bad L1.out (by decide)]; omega
            | some x =>
              have Y := ST.out _ hp
              rw [hp] at P2
              obtain ⟨L1, I1⟩ := P2
              have L1 := Lib.hid L1
              have I1 := Lib.hid I1
              clear P1 hp
              go_roundw
              case rel => exact .inl ⟨x.2, l ++ x.1, by have := Y.out.2.1; omega, Y.out.2.2.1, Lib.hid Y.out.1, Lib.hid Y.out.2.2.2, I1, L1, GG⟩
              case measure => rw [MU.out, mu_run L1.out]; have := Y.out.2; omega
          by_cases h39 : c = 39
          · subst h39
            go_wp2_with ((first | (go_at_call 53; refine (ix_is _ 39 k _ HK rfl).mono ?_; rintro e w1 ⟨rfl, rfl⟩) | (go_at_call 58; refine (quoted_39 p w.heap.size s i tx wd bg a po l _ (L.out.keep (by rfl)) (ibf_keep I.out (by intros; rfl)) PB.out hs hlt HLL.out).mono ?_; rintro e w2 ⟨rfl, P1, G1⟩)))
            repeat (go_region; go_wp2_with ((first | (go_at_call 53; refine (ix_is _ 39 k _ HK rfl).mono ?_; rintro e w1 ⟨rfl, rfl⟩) | (go_at_call 58; refine (quoted_39 p w.heap.size s i tx wd bg a po l _ (L.out.keep (by rfl)) (ibf_keep I.out (by intros; rfl)) PB.out hs hlt HLL.out).mono ?_; rintro e w2 ⟨rfl, P1, G1⟩))))
            have P2 := P1.out
            rw [← part_39 AC.out] at P2
            have GG : Hid (GB p w.heap.size w w2) := Lib.hid (GB.trans (gb_same G.out (by exact ⟨rfl, rfl, rfl, rfl⟩)) G1.out)
            cases hp : Shp.part s i with
            | none =>
              have Y := SN.out hp
              rw [hp] at P2
              obtain ⟨L1, o, I1⟩ := P2
              have L1 := Lib.hid L1
              have I1 := Lib.hid I1
              have SPQ : Hid (∃ c, at? s i = some c ∧ spB c = false) := Lib.hid ⟨_, AC.out, SPF⟩
              clear P1 hp
              go_roundw
              case rel => exact .inr ⟨i, l, o, ai, hlt, Y, SPQ, I1, L1, GG⟩
              case measure => rw [MU.out, mu_bad L1.out (by decide)]; omega
            | some x =>
              have Y := ST.out _ hp
              rw [hp] at P2
              obtain ⟨L1, I1⟩ := P2
              have L1 := Lib.hid L1
              have I1 := Lib.hid I1
              clear P1 hp
              go_roundw
              case rel => exact .inl ⟨x.2, l ++ x.1, by have := Y.out.2.1; omega, Y.out.2.2.1, Lib.hid Y.out.1, Lib.hid Y.out.2.2.2, I1, L1, GG⟩
              case measure => rw [MU.out, mu_run L1.out]; have := Y.out.2; omega
          by_cases h34 : c = 34
          · subst h34
            go_wp2_with ((first | (go_at_call 53; refine (ix_is _ 34 k _ HK rfl).mono ?_; rintro e w1 ⟨rfl, rfl⟩) | (go_at_call 58; refine (quoted_34 p w.heap.size s i tx wd bg a po l _ (L.out.keep (by rfl)) (ibf_keep I.out (by intros; rfl)) PB.out hs hlt HLL.out).mono ?_; rintro e w2 ⟨rfl, P1, G1⟩)))
            repeat (go_region; go_wp2_with ((first | (go_at_call 53; refine (ix_is _ 34 k _ HK rfl).mono ?_; rintro e w1 ⟨rfl, rfl⟩) | (go_at_call 58; refine (quoted_34 p w.heap.size s i tx wd bg a po l _ (L.out.keep (by rfl)) (ibf_keep I.out (by intros; rfl)) PB.out hs hlt HLL.out).mono ?_; rintro e w2 ⟨rfl, P1, G1⟩))))
            have P2 := P1.out
            rw [← part_34 AC.out] at P2
            have GG : Hid (GB p w.heap.size w w2) := Lib.hid (GB.trans (gb_same G.out (by exact ⟨rfl, rfl, rfl, rfl⟩)) G1.out)
            cases hp : Shp.part s i with
            | none =>
              have Y := SN.out hp
              rw [hp] at P2
              obtain ⟨L1, o, I1⟩ := P2
              have L1 := Lib.hid L1
              have I1 := Lib.hid I1
              have SPQ : Hid (∃ c, at? s i = some c ∧ spB c = false) := Lib.hid ⟨_, AC.out, SPF⟩
              clear P1 hp
              go_roundw
              case rel => exact .inr ⟨i, l, o, ai, hlt, Y, SPQ, I1, L1, GG⟩
              case measure => rw [MU.out, mu_bad L1.out (by decide)]; omega
            | some x =>
              have Y := ST.out _ hp
              rw [hp] at P2
              obtain ⟨L1, I1⟩ := P2
              have L1 := Lib.hid L1
              have I1 := Lib.hid I1
              clear P1 hp
              go_roundw
              case rel => exact .inl ⟨x.2, l ++ x.1, by have := Y.out.2.1; omega, Y.out.2.2.1, Lib.hid Y.out.1, Lib.hid Y.out.2.2.2, I1, L1, GG⟩
              case measure => rw [MU.out, mu_run L1.out]; have := Y.out.2; omega
          · have t1 : ((c.toNat : Int) == 92) = false := by rw [beq_eq_false_iff_ne]; exact fun e => h92 (UInt8.toNat_inj.mp (by show _ = 92; omega))
            have t2 : ((c.toNat : Int) == 39) = false := by rw [beq_eq_false_iff_ne]; exact fun e => h39 (UInt8.toNat_inj.mp (by show _ = 39; omega))
            have t3 : ((c.toNat : Int) == 34) = false := by rw [beq_eq_false_iff_ne]; exact fun e => h34 (UInt8.toNat_inj.mp (by show _ = 34; omega))
            have pe : Shp.part s i = some ([c], i + 1) := by unfold Shp.part; rw [AC.out]; simp only; rw [if_neg (not_or.mpr ⟨h39, h34⟩), if_neg h92]
            have Y := ST.out _ pe
            go_wp2_with ((first | (go_at_call 53; refine (ix_is _ c k _ HK rfl).mono ?_; rintro e w1 ⟨rfl, rfl⟩) | (go_at_call 59; refine (wb_p p w.heap.size s i tx wd bg a 0 po l c _ w wr _ L.out I.out G.out PB.out (by exact ⟨rfl, rfl, rfl, rfl⟩) rfl (Nat.le_trans (Nat.succ_le_succ HLL.out) (by decide))).mono ?_; rintro e w2 ⟨rfl, I1, L1, G1⟩; obtain ⟨c0, c1, -, -, -, -, -, -⟩ := L1.out.cells; have f1 := L1.out.fr 1)))
            repeat (go_region; go_wp2_with ((first | (go_at_call 53; refine (ix_is _ c k _ HK rfl).mono ?_; rintro e w1 ⟨rfl, rfl⟩) | (go_at_call 59; refine (wb_p p w.heap.size s i tx wd bg a 0 po l c _ w wr _ L.out I.out G.out PB.out (by exact ⟨rfl, rfl, rfl, rfl⟩) rfl (Nat.le_trans (Nat.succ_le_succ HLL.out) (by decide))).mono ?_; rintro e w2 ⟨rfl, I1, L1, G1⟩; obtain ⟨c0, c1, -, -, -, -, -, -⟩ := L1.out.cells; have f1 := L1.out.fr 1))))
            have HGQ := Lib.hid (G1.out.trans (GB.set p _ w2 1 (.int .i64 ((i : Int) + 1))))
            have HIQ := Lib.hid (ibf_set I1.out PB.out 1 (.int .i64 ((i : Int) + 1)))
            go_roundw
            case rel => exact .inl ⟨i + 1, l ++ [c], by omega, by omega, Lib.hid Y.out.1, Lib.hid Y.out.2.2.2, Lib.hid (ibf_keep HIQ.out (by intros; rfl)), Lib.hid (L1.out.to1 ((i + 1 : Nat) : Int) _ (by omega) rfl), Lib.hid (gb_same HGQ.out ⟨rfl, rfl, rfl, rfl⟩)⟩
            case measure => rw [MU.out, mu_run (L1.out.to1 ((i + 1 : Nat) : Int) _ (by omega) rfl)]; omega
      · obtain rfl : i = s.size := by omega
        have i2 : ¬ ((s.size : Int) < (s.size : Int)) := by omega
        obtain ⟨u, hu⟩ : ∃ u, s.extract a s.size = u := ⟨_, rfl⟩
        obtain ⟨B, hB⟩ : ∃ B, (u.toList == [33]) = B := ⟨_, rfl⟩
        have WR : Hid (wordS s a = .run ⟨1, l, B, a⟩ s.size) := Lib.hid (by
          have e := wdS_none (s := s) (x := (s.size, l)) (by unfold wd1; simp only [at_ge (Nat.le_refl _)])
          rw [WD.out] at e
          unfold wordS
          rw [e]; simp only [at_ge (Nat.le_refl _)]; rw [← hB, ← hu, bang_ext])
        go_wp2_with (fail)
        repeat (go_region; go_wp2_with (fail))
        refine wp_region_inv (DetB (fun d w' => RX p s s.size (cond (d 14) ⟨l.toArray⟩ tx) (cond (d 18) true wd) (cond (d 22) B bg) a 0 po w' ∧ IBF w.heap.size l w' ∧ GB p w.heap.size w w') 87 20 (fun kk => ([0, 1, 2, 3, 4, 5, 6, 7, 8, 9, 10, 11, 12, 13, 15, 16, 17, 19, 20, 21] : List Nat).getD kk 0) (fun kk => ([.pointer (some ⟨p, 0, none⟩), .pointer (some ⟨p, 0, none⟩), .pointer (some ⟨p, 0, none⟩), .string ⟨l.toArray⟩, .pointer (some ⟨p, 0, none⟩), .pointer (some ⟨p, 0, none⟩), .pointer (some ⟨p, 0, none⟩), .string s, .int .i64 (a : Int), .string u, .bool B, .pointer (some ⟨p, 0, none⟩), .pointer (some ⟨p, 2, none⟩), .pointer (some ⟨p, 2, none⟩), .pointer (some ⟨p, 0, none⟩), .pointer (some ⟨p, 2, none⟩), .pointer (some ⟨p, 3, none⟩), .pointer (some ⟨p, 0, none⟩), .pointer (some ⟨p, 2, none⟩), .pointer (some ⟨p, 4, none⟩)] : List Value).getD kk undef)) (by kernel_rfl) (by kernel_rfl) ?_ ?_ ?_
        · exact DetB.start ⟨L.out.keep rfl, ibf_keep I.out (by intros; rfl), gb_same G.out ⟨rfl, rfl, rfl, rfl⟩⟩ (Nat.le_of_ble_eq_true rfl) (by decide)
        · refine StepsL.cons 1 rfl ?_ ?_
          · intro d ac wx hI hd hdep K hK
            have f0 : ac.tmps[0]? = some (.pointer (some ⟨p, 0, none⟩)) := hI.other 0 (by decide)
            have h0 := eval_slot f0
            go_simp
            exact hK.out _ _ (hI.put 0 (by decide) (by decide) _ rfl _ rfl hI.1)
          refine StepsL.cons 2 rfl ?_ ?_
          · intro d ac wx hI hd hdep K hK
            have f0 : ac.tmps[0]? = some (.pointer (some ⟨p, 0, none⟩)) := hI.other 0 (by decide)
            have h0 := eval_slot f0
            go_simp
            exact hK.out _ _ (hI.put 1 (by decide) (by decide) _ rfl _ rfl hI.1)
          refine StepsL.cons 3 rfl ?_ ?_
          · intro d ac wx hI hd hdep K hK
            have f0 : ac.tmps[0]? = some (.pointer (some ⟨p, 0, none⟩)) := hI.other 0 (by decide)
            have h0 := eval_slot f0
            go_simp
            exact hK.out _ _ (hI.put 2 (by decide) (by decide) _ rfl _ rfl hI.1)
          refine StepsL.cons 4 rfl ?_ ?_
          · intro d ac wx hI hd hdep K hK
            have f2 : ac.tmps[2]? = some (.pointer (some ⟨w.heap.size, 0, none⟩)) := hI.other 2 (by decide)
            have h2 := eval_slot f2
            go_simp
            go_at_call 38
            refine (str_i p w.heap.size s s.size _ _ _ a 0 po l w wx hI.1.1 hI.1.2.1 hI.1.2.2 PB.out).mono ?_
            rintro e w2 ⟨rfl, L2, I2, G2⟩
            go_wp2_with fail
            exact hK.out _ _ (hI.put 3 (by decide) (by decide) _ rfl _ rfl ⟨L2, I2, G2⟩)
          refine StepsL.cons 5 rfl ?_ ?_
          · intro d ac wx hI hd hdep K hK
            have f0 : ac.tmps[0]? = some (.pointer (some ⟨p, 0, none⟩)) := hI.other 0 (by decide)
            have h0 := eval_slot f0
            go_simp
            exact hK.out _ _ (hI.put 4 (by decide) (by decide) _ rfl _ rfl hI.1)
          refine StepsL.cons 6 rfl ?_ ?_
          · intro d ac wx hI hd hdep K hK
            have f91 : ac.tmps[91]? = some (.pointer (some ⟨p, 0, none⟩)) := hI.slot 4 (by decide) (hdep ⟨4, .data⟩ (by simp) (by rfl))
            have h91 := eval_slot f91
            go_simp
            exact hK.out _ _ (hI.put 5 (by decide) (by decide) _ rfl _ rfl hI.1)
          refine StepsL.cons 7 rfl ?_ ?_
          · intro d ac wx hI hd hdep K hK
            have f92 : ac.tmps[92]? = some (.pointer (some ⟨p, 0, none⟩)) := hI.slot 5 (by decide) (hdep ⟨5, .data⟩ (by simp) (by rfl))
            have h92 := eval_slot f92
            go_simp
            exact hK.out _ _ (hI.put 6 (by decide) (by decide) _ rfl _ rfl hI.1)
          refine StepsL.cons 8 rfl ?_ ?_
          · intro d ac wx hI hd hdep K hK
            have f93 : ac.tmps[93]? = some (.pointer (some ⟨p, 0, none⟩)) := hI.slot 6 (by decide) (hdep ⟨6, .data⟩ (by simp) (by rfl))
            have h93 := eval_slot f93
            obtain ⟨c0, c1, -, -, -, -, -, -⟩ := hI.1.1.cells
            go_simp
            exact hK.out _ _ (hI.put 7 (by decide) (by decide) _ rfl _ rfl hI.1)
          refine StepsL.cons 9 rfl ?_ ?_
          · intro d ac wx hI hd hdep K hK
            have f3 : ac.tmps[3]? = some (.int .i64 (a : Int)) := hI.other 3 (by decide)
            have h3 := eval_slot f3
            go_simp
            exact hK.out _ _ (hI.put 8 (by decide) (by decide) _ rfl _ rfl hI.1)
          refine StepsL.cons 10 rfl ?_ ?_
          · intro d ac wx hI hd hdep K hK
            have f94 : ac.tmps[94]? = some (.string s) := hI.slot 7 (by decide) (hdep ⟨7, .data⟩ (by simp) (by rfl))
            have h94 := eval_slot f94
            have f95 : ac.tmps[95]? = some (.int .i64 (a : Int)) := hI.slot 8 (by decide) (hdep ⟨8, .data⟩ (by simp) (by rfl))
            have h95 := eval_slot f95
            go_simp
            exact hK.out _ _ (hI.put 9 (by decide) (by decide) _ rfl _ rfl hI.1)
          refine StepsL.cons 11 rfl ?_ ?_
          · intro d ac wx hI hd hdep K hK
            have f96 : ac.tmps[96]? = some (.string u) := hI.slot 9 (by decide) (hdep ⟨9, .data⟩ (by simp) (by rfl))
            have h96 := eval_slot f96
            go_simp
            exact hK.out _ _ (hI.put 10 (by decide) (by decide) _ rfl _ rfl hI.1)
          refine StepsL.cons 12 rfl ?_ ?_
          · intro d ac wx hI hd hdep K hK
            have f87 : ac.tmps[87]? = some (.pointer (some ⟨p, 0, none⟩)) := hI.slot 0 (by decide) (hdep ⟨0, .data⟩ (by simp) (by rfl))
            have h87 := eval_slot f87
            go_simp
            exact hK.out _ _ (hI.put 11 (by decide) (by decide) _ rfl _ rfl hI.1)
          refine StepsL.cons 13 rfl ?_ ?_
          · intro d ac wx hI hd hdep K hK
            have f98 : ac.tmps[98]? = some (.pointer (some ⟨p, 0, none⟩)) := hI.slot 11 (by decide) (hdep ⟨11, .data⟩ (by simp) (by rfl))
            have h98 := eval_slot f98
            go_simp
            exact hK.out _ _ (hI.put 12 (by decide) (by decide) _ rfl _ rfl hI.1)
          refine StepsL.cons 14 rfl ?_ ?_
          · intro d ac wx hI hd hdep K hK
            have f99 : ac.tmps[99]? = some (.pointer (some ⟨p, 2, none⟩)) := hI.slot 12 (by decide) (hdep ⟨12, .data⟩ (by simp) (by rfl))
            have h99 := eval_slot f99
            go_simp
            exact hK.out _ _ (hI.put 13 (by decide) (by decide) _ rfl _ rfl hI.1)
          refine StepsL.cons 15 rfl ?_ ?_
          · intro d ac wx hI hd hdep K hK
            have f100 : ac.tmps[100]? = some (.pointer (some ⟨p, 2, none⟩)) := hI.slot 13 (by decide) (hdep ⟨13, .data⟩ (by simp) (by rfl))
            have h100 := eval_slot f100
            have f90 : ac.tmps[90]? = some (.string ⟨l.toArray⟩) := hI.slot 3 (by decide) (hdep ⟨3, .data⟩ (by simp) (by rfl))
            have h90 := eval_slot f90
            obtain ⟨-, -, c2, c3, c4, -, -, -⟩ := hI.1.1.cells; have f2 := hI.1.1.fr 2; have f3 := hI.1.1.fr 3; have f4 := hI.1.1.fr 4
            go_simp
            exact hK.out _ _ (hI.keep 14 (by decide) ⟨hI.1.1.set2 _, ibf_set hI.1.2.1 PB.out 2 _, hI.1.2.2.trans (GB.set p _ wx 2 _)⟩)
          refine StepsL.cons 16 rfl ?_ ?_
          · intro d ac wx hI hd hdep K hK
            have f88 : ac.tmps[88]? = some (.pointer (some ⟨p, 0, none⟩)) := hI.slot 1 (by decide) (hdep ⟨1, .data⟩ (by simp) (by rfl))
            have h88 := eval_slot f88
            go_simp
            exact hK.out _ _ (hI.put 14 (by decide) (by decide) _ rfl _ rfl hI.1)
          refine StepsL.cons 17 rfl ?_ ?_
          · intro d ac wx hI hd hdep K hK
            have f101 : ac.tmps[101]? = some (.pointer (some ⟨p, 0, none⟩)) := hI.slot 14 (by decide) (hdep ⟨15, .data⟩ (by simp) (by rfl))
            have h101 := eval_slot f101
            go_simp
            exact hK.out _ _ (hI.put 15 (by decide) (by decide) _ rfl _ rfl hI.1)
          refine StepsL.cons 18 rfl ?_ ?_
          · intro d ac wx hI hd hdep K hK
            have f102 : ac.tmps[102]? = some (.pointer (some ⟨p, 2, none⟩)) := hI.slot 15 (by decide) (hdep ⟨16, .data⟩ (by simp) (by rfl))
            have h102 := eval_slot f102
            go_simp
            exact hK.out _ _ (hI.put 16 (by decide) (by decide) _ rfl _ rfl hI.1)
          refine StepsL.cons 19 rfl ?_ ?_
          · intro d ac wx hI hd hdep K hK
            have f103 : ac.tmps[103]? = some (.pointer (some ⟨p, 3, none⟩)) := hI.slot 16 (by decide) (hdep ⟨17, .data⟩ (by simp) (by rfl))
            have h103 := eval_slot f103
            obtain ⟨-, -, c2, c3, c4, -, -, -⟩ := hI.1.1.cells; have f2 := hI.1.1.fr 2; have f3 := hI.1.1.fr 3; have f4 := hI.1.1.fr 4
            go_simp
            exact hK.out _ _ (hI.keep 18 (by decide) ⟨hI.1.1.set3 _, ibf_set hI.1.2.1 PB.out 3 _, hI.1.2.2.trans (GB.set p _ wx 3 _)⟩)
          refine StepsL.cons 20 rfl ?_ ?_
          · intro d ac wx hI hd hdep K hK
            have f89 : ac.tmps[89]? = some (.pointer (some ⟨p, 0, none⟩)) := hI.slot 2 (by decide) (hdep ⟨2, .data⟩ (by simp) (by rfl))
            have h89 := eval_slot f89
            go_simp
            exact hK.out _ _ (hI.put 17 (by decide) (by decide) _ rfl _ rfl hI.1)
          refine StepsL.cons 21 rfl ?_ ?_
          · intro d ac wx hI hd hdep K hK
            have f104 : ac.tmps[104]? = some (.pointer (some ⟨p, 0, none⟩)) := hI.slot 17 (by decide) (hdep ⟨19, .data⟩ (by simp) (by rfl))
            have h104 := eval_slot f104
            go_simp
            exact hK.out _ _ (hI.put 18 (by decide) (by decide) _ rfl _ rfl hI.1)
          refine StepsL.cons 22 rfl ?_ ?_
          · intro d ac wx hI hd hdep K hK
            have f105 : ac.tmps[105]? = some (.pointer (some ⟨p, 2, none⟩)) := hI.slot 18 (by decide) (hdep ⟨20, .data⟩ (by simp) (by rfl))
            have h105 := eval_slot f105
            go_simp
            exact hK.out _ _ (hI.put 19 (by decide) (by decide) _ rfl _ rfl hI.1)
          refine StepsL.cons 23 rfl ?_ ?_
          · intro d ac wx hI hd hdep K hK
            have f106 : ac.tmps[106]? = some (.pointer (some ⟨p, 4, none⟩)) := hI.slot 19 (by decide) (hdep ⟨21, .data⟩ (by simp) (by rfl))
            have h106 := eval_slot f106
            have f97 : ac.tmps[97]? = some (.bool B) := hI.slot 10 (by decide) (hdep ⟨10, .data⟩ (by simp) (by rfl))
            have h97 := eval_slot f97
            obtain ⟨-, -, c2, c3, c4, -, -, -⟩ := hI.1.1.cells; have f2 := hI.1.1.fr 2; have f3 := hI.1.1.fr 3; have f4 := hI.1.1.fr 4
            go_simp
            exact hK.out _ _ (hI.keep 22 (by decide) ⟨hI.1.1.set4 _, ibf_set hI.1.2.1 PB.out 4 _, hI.1.2.2.trans (GB.set p _ wx 4 _)⟩)
          exact StepsL.nil
        · intro d ac wy hI hall
          obtain ⟨SB2, rfl⟩ := hI.done hall
          simp only [putR, Act.put, List.setIfInBounds_toArray, List.set_cons_zero, List.set_cons_succ, Nat.reduceAdd]
          go_wp2_with fail
          go_end0
          obtain ⟨z1, -, z3⟩ := SB2
          rw [hall 14, hall 18, hall 22] at z1
          exact ⟨rfl, Lib.hid (by rw [WR.out]; exact z1), Lib.hid (z3.gr (Nat.le_refl _))⟩

    · obtain ⟨c0, c1, -, -, -, -, c6, -⟩ := L.out.cells
      have f1 := L.out.fr 1
      have asz : a ≤ s.size := by omega
      obtain ⟨u, hu⟩ : ∃ u, s.extract a s.size = u := ⟨_, rfl⟩
      obtain ⟨B, hB⟩ : ∃ B, (u.toList == [33]) = B := ⟨_, rfl⟩
      have WR : Hid (wordS s a = .bad 1 i) := Lib.hid (by
        obtain ⟨c, h1, h2⟩ := SP.out
        unfold wordS
        rw [WD.out]; simp only [h1]; rw [if_neg (by rw [h2]; decide)])
      go_wp2_with (fail)
      repeat (go_region; go_wp2_with (fail))
      refine wp_region_inv (DetB (fun d w' => RX p s i (cond (d 14) ⟨o.toArray⟩ tx) (cond (d 18) true wd) (cond (d 22) B bg) a 1 i w' ∧ IBF w.heap.size o w' ∧ GB p w.heap.size w w') 87 20 (fun kk => ([0, 1, 2, 3, 4, 5, 6, 7, 8, 9, 10, 11, 12, 13, 15, 16, 17, 19, 20, 21] : List Nat).getD kk 0) (fun kk => ([.pointer (some ⟨p, 0, none⟩), .pointer (some ⟨p, 0, none⟩), .pointer (some ⟨p, 0, none⟩), .string ⟨o.toArray⟩, .pointer (some ⟨p, 0, none⟩), .pointer (some ⟨p, 0, none⟩), .pointer (some ⟨p, 0, none⟩), .string s, .int .i64 (a : Int), .string u, .bool B, .pointer (some ⟨p, 0, none⟩), .pointer (some ⟨p, 2, none⟩), .pointer (some ⟨p, 2, none⟩), .pointer (some ⟨p, 0, none⟩), .pointer (some ⟨p, 2, none⟩), .pointer (some ⟨p, 3, none⟩), .pointer (some ⟨p, 0, none⟩), .pointer (some ⟨p, 2, none⟩), .pointer (some ⟨p, 4, none⟩)] : List Value).getD kk undef)) (by kernel_rfl) (by kernel_rfl) ?_ ?_ ?_
      · exact DetB.start ⟨L.out.keep rfl, ibf_keep I.out (by intros; rfl), gb_same G.out ⟨rfl, rfl, rfl, rfl⟩⟩ (Nat.le_of_ble_eq_true rfl) (by decide)
      · refine StepsL.cons 1 rfl ?_ ?_
        · intro d ac wx hI hd hdep K hK
          have f0 : ac.tmps[0]? = some (.pointer (some ⟨p, 0, none⟩)) := hI.other 0 (by decide)
          have h0 := eval_slot f0
          go_simp
          exact hK.out _ _ (hI.put 0 (by decide) (by decide) _ rfl _ rfl hI.1)
        refine StepsL.cons 2 rfl ?_ ?_
        · intro d ac wx hI hd hdep K hK
          have f0 : ac.tmps[0]? = some (.pointer (some ⟨p, 0, none⟩)) := hI.other 0 (by decide)
          have h0 := eval_slot f0
          go_simp
          exact hK.out _ _ (hI.put 1 (by decide) (by decide) _ rfl _ rfl hI.1)
        refine StepsL.cons 3 rfl ?_ ?_
        · intro d ac wx hI hd hdep K hK
          have f0 : ac.tmps[0]? = some (.pointer (some ⟨p, 0, none⟩)) := hI.other 0 (by decide)
          have h0 := eval_slot f0
          go_simp
          exact hK.out _ _ (hI.put 2 (by decide) (by decide) _ rfl _ rfl hI.1)
        refine StepsL.cons 4 rfl ?_ ?_
        · intro d ac wx hI hd hdep K hK
          have f2 : ac.tmps[2]? = some (.pointer (some ⟨w.heap.size, 0, none⟩)) := hI.other 2 (by decide)
          have h2 := eval_slot f2
          go_simp
          go_at_call 38
          refine (str_i p w.heap.size s i _ _ _ a 1 i o w wx hI.1.1 hI.1.2.1 hI.1.2.2 PB.out).mono ?_
          rintro e w2 ⟨rfl, L2, I2, G2⟩
          go_wp2_with fail
          exact hK.out _ _ (hI.put 3 (by decide) (by decide) _ rfl _ rfl ⟨L2, I2, G2⟩)
        refine StepsL.cons 5 rfl ?_ ?_
        · intro d ac wx hI hd hdep K hK
          have f0 : ac.tmps[0]? = some (.pointer (some ⟨p, 0, none⟩)) := hI.other 0 (by decide)
          have h0 := eval_slot f0
          go_simp
          exact hK.out _ _ (hI.put 4 (by decide) (by decide) _ rfl _ rfl hI.1)
        refine StepsL.cons 6 rfl ?_ ?_
        · intro d ac wx hI hd hdep K hK
          have f91 : ac.tmps[91]? = some (.pointer (some ⟨p, 0, none⟩)) := hI.slot 4 (by decide) (hdep ⟨4, .data⟩ (by simp) (by rfl))
          have h91 := eval_slot f91
          go_simp
          exact hK.out _ _ (hI.put 5 (by decide) (by decide) _ rfl _ rfl hI.1)
        refine StepsL.cons 7 rfl ?_ ?_
        · intro d ac wx hI hd hdep K hK
          have f92 : ac.tmps[92]? = some (.pointer (some ⟨p, 0, none⟩)) := hI.slot 5 (by decide) (hdep ⟨5, .data⟩ (by simp) (by rfl))
          have h92 := eval_slot f92
          go_simp
          exact hK.out _ _ (hI.put 6 (by decide) (by decide) _ rfl _ rfl hI.1)
        refine StepsL.cons 8 rfl ?_ ?_
        · intro d ac wx hI hd hdep K hK
          have f93 : ac.tmps[93]? = some (.pointer (some ⟨p, 0, none⟩)) := hI.slot 6 (by decide) (hdep ⟨6, .data⟩ (by simp) (by rfl))
          have h93 := eval_slot f93
          obtain ⟨c0, c1, -, -, -, -, -, -⟩ := hI.1.1.cells
          go_simp
          exact hK.out _ _ (hI.put 7 (by decide) (by decide) _ rfl _ rfl hI.1)
        refine StepsL.cons 9 rfl ?_ ?_
        · intro d ac wx hI hd hdep K hK
          have f3 : ac.tmps[3]? = some (.int .i64 (a : Int)) := hI.other 3 (by decide)
          have h3 := eval_slot f3
          go_simp
          exact hK.out _ _ (hI.put 8 (by decide) (by decide) _ rfl _ rfl hI.1)
        refine StepsL.cons 10 rfl ?_ ?_
        · intro d ac wx hI hd hdep K hK
          have f94 : ac.tmps[94]? = some (.string s) := hI.slot 7 (by decide) (hdep ⟨7, .data⟩ (by simp) (by rfl))
          have h94 := eval_slot f94
          have f95 : ac.tmps[95]? = some (.int .i64 (a : Int)) := hI.slot 8 (by decide) (hdep ⟨8, .data⟩ (by simp) (by rfl))
          have h95 := eval_slot f95
          go_simp
          exact hK.out _ _ (hI.put 9 (by decide) (by decide) _ rfl _ rfl hI.1)
        refine StepsL.cons 11 rfl ?_ ?_
        · intro d ac wx hI hd hdep K hK
          have f96 : ac.tmps[96]? = some (.string u) := hI.slot 9 (by decide) (hdep ⟨9, .data⟩ (by simp) (by rfl))
          have h96 := eval_slot f96
          go_simp
          exact hK.out _ _ (hI.put 10 (by decide) (by decide) _ rfl _ rfl hI.1)
        refine StepsL.cons 12 rfl ?_ ?_
        · intro d ac wx hI hd hdep K hK
          have f87 : ac.tmps[87]? = some (.pointer (some ⟨p, 0, none⟩)) := hI.slot 0 (by decide) (hdep ⟨0, .data⟩ (by simp) (by rfl))
          have h87 := eval_slot f87
          go_simp
          exact hK.out _ _ (hI.put 11 (by decide) (by decide) _ rfl _ rfl hI.1)
        refine StepsL.cons 13 rfl ?_ ?_
        · intro d ac wx hI hd hdep K hK
          have f98 : ac.tmps[98]? = some (.pointer (some ⟨p, 0, none⟩)) := hI.slot 11 (by decide) (hdep ⟨11, .data⟩ (by simp) (by rfl))
          have h98 := eval_slot f98
          go_simp
          exact hK.out _ _ (hI.put 12 (by decide) (by decide) _ rfl _ rfl hI.1)
        refine StepsL.cons 14 rfl ?_ ?_
        · intro d ac wx hI hd hdep K hK
          have f99 : ac.tmps[99]? = some (.pointer (some ⟨p, 2, none⟩)) := hI.slot 12 (by decide) (hdep ⟨12, .data⟩ (by simp) (by rfl))
          have h99 := eval_slot f99
          go_simp
          exact hK.out _ _ (hI.put 13 (by decide) (by decide) _ rfl _ rfl hI.1)
        refine StepsL.cons 15 rfl ?_ ?_
        · intro d ac wx hI hd hdep K hK
          have f100 : ac.tmps[100]? = some (.pointer (some ⟨p, 2, none⟩)) := hI.slot 13 (by decide) (hdep ⟨13, .data⟩ (by simp) (by rfl))
          have h100 := eval_slot f100
          have f90 : ac.tmps[90]? = some (.string ⟨o.toArray⟩) := hI.slot 3 (by decide) (hdep ⟨3, .data⟩ (by simp) (by rfl))
          have h90 := eval_slot f90
          obtain ⟨-, -, c2, c3, c4, -, -, -⟩ := hI.1.1.cells; have f2 := hI.1.1.fr 2; have f3 := hI.1.1.fr 3; have f4 := hI.1.1.fr 4
          go_simp
          exact hK.out _ _ (hI.keep 14 (by decide) ⟨hI.1.1.set2 _, ibf_set hI.1.2.1 PB.out 2 _, hI.1.2.2.trans (GB.set p _ wx 2 _)⟩)
        refine StepsL.cons 16 rfl ?_ ?_
        · intro d ac wx hI hd hdep K hK
          have f88 : ac.tmps[88]? = some (.pointer (some ⟨p, 0, none⟩)) := hI.slot 1 (by decide) (hdep ⟨1, .data⟩ (by simp) (by rfl))
          have h88 := eval_slot f88
          go_simp
          exact hK.out _ _ (hI.put 14 (by decide) (by decide) _ rfl _ rfl hI.1)
        refine StepsL.cons 17 rfl ?_ ?_
        · intro d ac wx hI hd hdep K hK
          have f101 : ac.tmps[101]? = some (.pointer (some ⟨p, 0, none⟩)) := hI.slot 14 (by decide) (hdep ⟨15, .data⟩ (by simp) (by rfl))
          have h101 := eval_slot f101
          go_simp
          exact hK.out _ _ (hI.put 15 (by decide) (by decide) _ rfl _ rfl hI.1)
        refine StepsL.cons 18 rfl ?_ ?_
        · intro d ac wx hI hd hdep K hK
          have f102 : ac.tmps[102]? = some (.pointer (some ⟨p, 2, none⟩)) := hI.slot 15 (by decide) (hdep ⟨16, .data⟩ (by simp) (by rfl))
          have h102 := eval_slot f102
          go_simp
          exact hK.out _ _ (hI.put 16 (by decide) (by decide) _ rfl _ rfl hI.1)
        refine StepsL.cons 19 rfl ?_ ?_
        · intro d ac wx hI hd hdep K hK
          have f103 : ac.tmps[103]? = some (.pointer (some ⟨p, 3, none⟩)) := hI.slot 16 (by decide) (hdep ⟨17, .data⟩ (by simp) (by rfl))
          have h103 := eval_slot f103
          obtain ⟨-, -, c2, c3, c4, -, -, -⟩ := hI.1.1.cells; have f2 := hI.1.1.fr 2; have f3 := hI.1.1.fr 3; have f4 := hI.1.1.fr 4
          go_simp
          exact hK.out _ _ (hI.keep 18 (by decide) ⟨hI.1.1.set3 _, ibf_set hI.1.2.1 PB.out 3 _, hI.1.2.2.trans (GB.set p _ wx 3 _)⟩)
        refine StepsL.cons 20 rfl ?_ ?_
        · intro d ac wx hI hd hdep K hK
          have f89 : ac.tmps[89]? = some (.pointer (some ⟨p, 0, none⟩)) := hI.slot 2 (by decide) (hdep ⟨2, .data⟩ (by simp) (by rfl))
          have h89 := eval_slot f89
          go_simp
          exact hK.out _ _ (hI.put 17 (by decide) (by decide) _ rfl _ rfl hI.1)
        refine StepsL.cons 21 rfl ?_ ?_
        · intro d ac wx hI hd hdep K hK
          have f104 : ac.tmps[104]? = some (.pointer (some ⟨p, 0, none⟩)) := hI.slot 17 (by decide) (hdep ⟨19, .data⟩ (by simp) (by rfl))
          have h104 := eval_slot f104
          go_simp
          exact hK.out _ _ (hI.put 18 (by decide) (by decide) _ rfl _ rfl hI.1)
        refine StepsL.cons 22 rfl ?_ ?_
        · intro d ac wx hI hd hdep K hK
          have f105 : ac.tmps[105]? = some (.pointer (some ⟨p, 2, none⟩)) := hI.slot 18 (by decide) (hdep ⟨20, .data⟩ (by simp) (by rfl))
          have h105 := eval_slot f105
          go_simp
          exact hK.out _ _ (hI.put 19 (by decide) (by decide) _ rfl _ rfl hI.1)
        refine StepsL.cons 23 rfl ?_ ?_
        · intro d ac wx hI hd hdep K hK
          have f106 : ac.tmps[106]? = some (.pointer (some ⟨p, 4, none⟩)) := hI.slot 19 (by decide) (hdep ⟨21, .data⟩ (by simp) (by rfl))
          have h106 := eval_slot f106
          have f97 : ac.tmps[97]? = some (.bool B) := hI.slot 10 (by decide) (hdep ⟨10, .data⟩ (by simp) (by rfl))
          have h97 := eval_slot f97
          obtain ⟨-, -, c2, c3, c4, -, -, -⟩ := hI.1.1.cells; have f2 := hI.1.1.fr 2; have f3 := hI.1.1.fr 3; have f4 := hI.1.1.fr 4
          go_simp
          exact hK.out _ _ (hI.keep 22 (by decide) ⟨hI.1.1.set4 _, ibf_set hI.1.2.1 PB.out 4 _, hI.1.2.2.trans (GB.set p _ wx 4 _)⟩)
        exact StepsL.nil
      · intro d ac wy hI hall
        obtain ⟨SB2, rfl⟩ := hI.done hall
        simp only [putR, Act.put, List.setIfInBounds_toArray, List.set_cons_zero, List.set_cons_succ, Nat.reduceAdd]
        go_wp2_with fail
        go_end0
        obtain ⟨z1, -, z3⟩ := SB2
        exact ⟨rfl, Lib.hid (by rw [WR.out]; exact ⟨_, _, _, _, _, z1⟩), Lib.hid (z3.gr (Nat.le_refl _))⟩

end Go.Proofs.YtlhagpfpcdedpaaDoor
