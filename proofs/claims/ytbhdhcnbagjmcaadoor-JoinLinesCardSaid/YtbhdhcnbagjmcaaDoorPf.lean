/- walks: Unsorted, both (written by gen_pf.py) -/
import Derived.Test.YtbhdhcnbagjmcaaDoorPe
namespace Go.Proofs.YtbhdhcnbagjmcaaDoor
open Go.RowKit
open Jn Lcl
theorem keep2 {w w' : World} {b0 i0 b1 i1 : Nat} {x0 x1 : Value} (hb : Below w.heap.size w w') (h0 : w.cell? ⟨b0, i0, none⟩ = some x0) (h1 : w.cell? ⟨b1, i1, none⟩ = some x1) : Below w.heap.size w w' ∧ w'.cell? ⟨b0, i0, none⟩ = some x0 ∧ w'.cell? ⟨b1, i1, none⟩ = some x1 := ⟨hb, kp hb h0, kp hb h1⟩
theorem keep8 {w w' : World} {b0 i0 b1 i1 b2 i2 b3 i3 b4 i4 b5 i5 b6 i6 b7 i7 : Nat} {x0 x1 x2 x3 x4 x5 x6 x7 : Value} (hb : Below w.heap.size w w') (h0 : w.cell? ⟨b0, i0, none⟩ = some x0) (h1 : w.cell? ⟨b1, i1, none⟩ = some x1) (h2 : w.cell? ⟨b2, i2, none⟩ = some x2) (h3 : w.cell? ⟨b3, i3, none⟩ = some x3) (h4 : w.cell? ⟨b4, i4, none⟩ = some x4) (h5 : w.cell? ⟨b5, i5, none⟩ = some x5) (h6 : w.cell? ⟨b6, i6, none⟩ = some x6) (h7 : w.cell? ⟨b7, i7, none⟩ = some x7) : Below w.heap.size w w' ∧ w'.cell? ⟨b0, i0, none⟩ = some x0 ∧ w'.cell? ⟨b1, i1, none⟩ = some x1 ∧ w'.cell? ⟨b2, i2, none⟩ = some x2 ∧ w'.cell? ⟨b3, i3, none⟩ = some x3 ∧ w'.cell? ⟨b4, i4, none⟩ = some x4 ∧ w'.cell? ⟨b5, i5, none⟩ = some x5 ∧ w'.cell? ⟨b6, i6, none⟩ = some x6 ∧ w'.cell? ⟨b7, i7, none⟩ = some x7 := ⟨hb, kp hb h0, kp hb h1, kp hb h2, kp hb h3, kp hb h4, kp hb h5, kp hb h6, kp hb h7⟩
theorem FrL.l {w : World} {B : Nat} {v : Value} {L : List (List UInt8)} (h : FrL w B v L) : LSt w v L := h.1
/-- the index of the first line that is out of order -/
def unsF (sep n : Int) : Nat → List (List UInt8) → Int
  | i, x :: y :: r => if 0 < cmpD (keyL sep n x) (keyL sep n y) then (i : Int) else unsF sep n (i + 1) (y :: r)
  | _, _ => -1
def unsL (sep n : Int) (l : List (List UInt8)) : Int := unsF sep n 1 l
theorem unsF_two (sep n : Int) (i : Nat) (x y : List UInt8) (r : List (List UInt8)) : unsF sep n i (x :: y :: r) = if 0 < cmpD (keyL sep n x) (keyL sep n y) then (i : Int) else unsF sep n (i + 1) (y :: r) := rfl
theorem unsF_short (sep n : Int) (i : Nat) (l : List (List UInt8)) (h : l.length ≤ 1) : unsF sep n i l = -1 := by
  match l, h with
  | [], _ => rfl
  | [_], _ => rfl
set_option maxRecDepth 100000 in
theorem ukey_any (s : ByteArray) (n sep m : Int) (bs bf : Nat) (w : World) (hm : w.cell? ⟨0, 0, none⟩ = some (.int .i64 m)) (h1 : w.cell? ⟨bs, 0, none⟩ = some (.int .i64 sep)) (h2 : w.cell? ⟨bf, 0, none⟩ = some (.int .i64 n)) (hs : s.size ≤ 1048576) :
    Calls Tryd.prog 27 #[.string s, .pointer (some ⟨bs, 0, none⟩), .pointer (some ⟨bf, 0, none⟩)] w fun e w' => e = .returned (.string (bA (keyL sep n s.data.toList))) ∧ Hid (Below w.heap.size w w') := by
  have H1 := Lib.hid h1
  have H2 := Lib.hid h2
  have HM := Lib.hid hm
  unfold keyL
  have FA := Lib.hid (fun w hm => fields_any s sep m w hm hs)
  obtain ⟨L, hL⟩ : ∃ L, fieldsL sep s.data.toList = L := ⟨_, rfl⟩
  rw [hL] at FA ⊢
  have S0 := keep2 (Below.refl w.heap.size w).drew h1 h2
  clear hm h1 h2 hL hs
  go_enter Tryd.func27, Tryd.ntmps27
  go_wp2_with fail
  go_region_held3 (fun w' => Below w.heap.size w w' ∧ w'.cell? ⟨bs, 0, none⟩ = some (.int .i64 sep) ∧ w'.cell? ⟨bf, 0, none⟩ = some (.int .i64 n)) (first | exact S0)
    (first | (go_at_call 9; (with_reducible refine (FA.out _ (kp S0.1 HM.out)).mono ?_); rintro _ w1 ⟨v, rfl, F1, B1⟩; have S0 := keep2 (S0.1.trans (B1.out.mono S0.1.size)) H1.out H2.out) | (go_at_call 28; (with_reducible refine (get_any L _ n _ (FrL.l F1.out)).mono ?_); rintro _ _ ⟨rfl, rfl⟩))
  go_wp2_with fail
  go_ret
  exact ⟨rfl, Lib.hid S0.1⟩
theorem blk_cellx {w : World} {b : Nat} {cs : Array Value} {T : TypeId} (h : w.heap[b]? = some (.cells cs T (0, 0))) (i : Nat) (x : Value) (hx : cs[i]? = some x) : w.cell? ⟨b, i, none⟩ = some x := by
  simp [World.cell?, h, hx]
theorem drop_get {α : Type} {l : List α} {i : Nat} {x : α} (h : l[i]? = some x) : l.drop i = x :: l.drop (i + 1) := by
  obtain ⟨hi, rfl⟩ := List.getElem?_eq_some_iff.1 h
  exact List.drop_eq_getElem_cons hi
theorem spA_sz (b : UInt8) (l : List UInt8) : ∀ (cur x : List UInt8), x ∈ spA b cur l → x.length ≤ cur.length + l.length := by
  induction l with
  | nil => intro cur x h; simp only [spA, List.mem_singleton] at h; rw [h]; exact Nat.le_refl _
  | cons c r ih =>
    intro cur x h
    by_cases hc : c = b
    · subst hc
      rw [spA_hit] at h
      rcases List.mem_cons.1 h with rfl | h
      · exact Nat.le_add_right _ _
      · have := ih [] x h; simp at this ⊢; omega
    · rw [spA_no hc] at h
      have := ih _ x h; simp at this ⊢; omega
theorem wdA_sz (l : List UInt8) : ∀ (cur x : List UInt8), x ∈ wdA cur l → x.length ≤ cur.length + l.length := by
  induction l with
  | nil =>
    intro cur x h
    simp only [wdA] at h
    split at h
    · cases h
    · rw [List.mem_singleton.1 h]; exact Nat.le_refl _
  | cons c r ih =>
    intro cur x h
    cases hc : isB c
    · rw [wdA_no hc] at h
      have := ih _ x h; simp at this ⊢; omega
    · rw [wdA_sp hc] at h
      rcases List.mem_append.1 h with h | h
      · split at h
        · cases h
        · rw [List.mem_singleton.1 h]; exact Nat.le_add_right _ _
      · have := ih [] x h; simp at this ⊢; omega
theorem fieldsL_sz {sep : Int} {l x : List UInt8} (h : x ∈ fieldsL sep l) : x.length ≤ l.length := by
  unfold fieldsL at h
  split at h
  · simpa using spA_sz _ _ _ _ h
  · simpa using wdA_sz _ _ _ h
theorem getL_sz {L : List (List UInt8)} {m : Nat} (h : ∀ x ∈ L, x.length ≤ m) (n : Int) : (getL L n).length ≤ m := by
  unfold getL
  split
  · exact Nat.zero_le _
  · rw [List.getD_eq_getElem?_getD]
    cases hx : L[(n - 1).toNat]? with
    | none => exact Nat.zero_le _
    | some x => exact h x (List.mem_of_getElem? hx)
theorem key_sz (sep n : Int) (s : ByteArray) {m : Nat} (hs : s.size ≤ m) : (bA (keyL sep n s.data.toList)).size ≤ m := by
  show (keyL sep n s.data.toList).length ≤ m
  exact getL_sz (fun x hx => Nat.le_trans (fieldsL_sz hx) (by simpa using hs)) n
set_option maxRecDepth 100000 in
set_option maxHeartbeats 4000000 in
theorem unsorted_any (lines : List ByteArray) (v vl : Value) (n sep : Int) (m : Int) (w : World) (hm : w.cell? ⟨0, 0, none⟩ = some (.int .i64 m)) (hv : Strs w v lines) (hl : DLoc w vl) (hs : ∀ x ∈ lines, x.size ≤ 1048576) :
    Calls Tryd.prog 11 #[vl, v, .int .i64 n, .int .i64 sep] w fun e w' => e = .returned (.int .i64 (unsL sep n (lines.map (·.data.toList)))) ∧ Hid (Below w.heap.size w w') := by
  obtain ⟨v1, rfl, hL⟩ := hl
  obtain ⟨q, hq⟩ : ∃ q, lines.length = q := ⟨_, rfl⟩
  have HQ := Lib.hid hq
  have hlen := Strs.len hv
  unfold maxLen at hlen
  rw [hq] at hlen
  have B0 : Hid (Below w.heap.size w (((w.alloc (.cells #[.string dNm, v1, .string dLo, .string dUp, .slice none 0 0, .slice none 0 0] 30)).alloc (.cells #[.int .i64 n] 3)).alloc (.cells #[.int .i64 sep] 3))) := Lib.hid ((((Below.refl w.heap.size w).alloc (Nat.le_refl _) _).alloc (by rw [World.size_alloc]; exact Nat.le_succ _) _).alloc (by rw [World.size_alloc, World.size_alloc]; omega) _)
  have LA := Lib.hid (hL.below B0.out)
  have HV := Lib.hid (Strs.below hv B0.out)
  have HS := Lib.hid hs
  have HM := Lib.hid (kp B0.out hm)
  have s1 : (w.alloc (.cells #[.string dNm, v1, .string dLo, .string dUp, .slice none 0 0, .slice none 0 0] 30)).heap.size = w.heap.size + 1 := World.size_alloc _ _
  have s2 : ((w.alloc (.cells #[.string dNm, v1, .string dLo, .string dUp, .slice none 0 0, .slice none 0 0] 30)).alloc (.cells #[.int .i64 n] 3)).heap.size = w.heap.size + 1 + 1 := by rw [World.size_alloc, s1]
  have n1 := heap_alloc_new w (.cells #[.string dNm, v1, .string dLo, .string dUp, .slice none 0 0, .slice none 0 0] 30)
  have n2 := heap_alloc_new (w.alloc (.cells #[.string dNm, v1, .string dLo, .string dUp, .slice none 0 0, .slice none 0 0] 30)) (.cells #[.int .i64 n] 3)
  have n3 := heap_alloc_new ((w.alloc (.cells #[.string dNm, v1, .string dLo, .string dUp, .slice none 0 0, .slice none 0 0] 30)).alloc (.cells #[.int .i64 n] 3)) (.cells #[.int .i64 sep] 3)
  rw [s1] at n2
  rw [s2] at n3
  have N1 := (Below.heap_alloc _ (.cells #[.int .i64 sep] 3) w.heap.size (by rw [s2]; omega)).trans ((Below.heap_alloc _ (.cells #[.int .i64 n] 3) w.heap.size (by rw [s1]; omega)).trans n1)
  have N2 := (Below.heap_alloc _ (.cells #[.int .i64 sep] 3) (w.heap.size + 1) (by rw [s2]; omega)).trans n2
  have C2 : Hid ((((w.alloc (.cells #[.string dNm, v1, .string dLo, .string dUp, .slice none 0 0, .slice none 0 0] 30)).alloc (.cells #[.int .i64 n] 3)).alloc (.cells #[.int .i64 sep] 3)).cell? ⟨w.heap.size + 1, 0, none⟩ = some (.int .i64 n)) := Lib.hid (blk_cellx N2 0 _ rfl)
  have C3 : Hid ((((w.alloc (.cells #[.string dNm, v1, .string dLo, .string dUp, .slice none 0 0, .slice none 0 0] 30)).alloc (.cells #[.int .i64 n] 3)).alloc (.cells #[.int .i64 sep] 3)).cell? ⟨w.heap.size + 1 + 1, 0, none⟩ = some (.int .i64 sep)) := Lib.hid (blk_cellx n3 0 _ rfl)
  have D0 : Hid ((((w.alloc (.cells #[.string dNm, v1, .string dLo, .string dUp, .slice none 0 0, .slice none 0 0] 30)).alloc (.cells #[.int .i64 n] 3)).alloc (.cells #[.int .i64 sep] 3)).cell? ⟨w.heap.size, 0, none⟩ = some (.string dNm)) := Lib.hid (blk_cellx N1 0 _ rfl)
  have D1 : Hid ((((w.alloc (.cells #[.string dNm, v1, .string dLo, .string dUp, .slice none 0 0, .slice none 0 0] 30)).alloc (.cells #[.int .i64 n] 3)).alloc (.cells #[.int .i64 sep] 3)).cell? ⟨w.heap.size, 1, none⟩ = some (v1)) := Lib.hid (blk_cellx N1 1 _ rfl)
  have D2 : Hid ((((w.alloc (.cells #[.string dNm, v1, .string dLo, .string dUp, .slice none 0 0, .slice none 0 0] 30)).alloc (.cells #[.int .i64 n] 3)).alloc (.cells #[.int .i64 sep] 3)).cell? ⟨w.heap.size, 2, none⟩ = some (.string dLo)) := Lib.hid (blk_cellx N1 2 _ rfl)
  have D3 : Hid ((((w.alloc (.cells #[.string dNm, v1, .string dLo, .string dUp, .slice none 0 0, .slice none 0 0] 30)).alloc (.cells #[.int .i64 n] 3)).alloc (.cells #[.int .i64 sep] 3)).cell? ⟨w.heap.size, 3, none⟩ = some (.string dUp)) := Lib.hid (blk_cellx N1 3 _ rfl)
  have D4 : Hid ((((w.alloc (.cells #[.string dNm, v1, .string dLo, .string dUp, .slice none 0 0, .slice none 0 0] 30)).alloc (.cells #[.int .i64 n] 3)).alloc (.cells #[.int .i64 sep] 3)).cell? ⟨w.heap.size, 4, none⟩ = some (.slice none 0 0)) := Lib.hid (blk_cellx N1 4 _ rfl)
  have D5 : Hid ((((w.alloc (.cells #[.string dNm, v1, .string dLo, .string dUp, .slice none 0 0, .slice none 0 0] 30)).alloc (.cells #[.int .i64 n] 3)).alloc (.cells #[.int .i64 sep] 3)).cell? ⟨w.heap.size, 5, none⟩ = some (.slice none 0 0)) := Lib.hid (blk_cellx N1 5 _ rfl)
  clear s1 s2 n1 n2 n3 N1 N2 hm hv hL hq hs
  obtain ⟨a, cap, rfl, -, -, hc⟩ := HV.out
  rw [HQ.out]
  rw [HQ.out] at HV
  have HC := Lib.hid hc
  clear hc
  go_enter Tryd.func11, Tryd.ntmps11
  go_wp2_with fail
  go_loopw [10] (fun i wr => ∃ k : Nat, i = .int .i64 ((k : Int) + 1) ∧ (k ≤ q) ∧ Hid (unsL sep n (lines.map (·.data.toList)) = unsF sep n (k + 1) ((lines.map (·.data.toList)).drop k)) ∧ Hid (Below (((w.alloc (.cells #[.string dNm, v1, .string dLo, .string dUp, .slice none 0 0, .slice none 0 0] 30)).alloc (.cells #[.int .i64 n] 3)).alloc (.cells #[.int .i64 sep] 3)).heap.size (((w.alloc (.cells #[.string dNm, v1, .string dLo, .string dUp, .slice none 0 0, .slice none 0 0] 30)).alloc (.cells #[.int .i64 n] 3)).alloc (.cells #[.int .i64 sep] 3)) wr)) (fun i _ => q + 1 - (intOf i).toNat)
  case atStart => exact ⟨0, rfl, Nat.zero_le _, Lib.hid rfl, Lib.hid (Below.refl _ _)⟩
  case round =>
    obtain ⟨i, rfl, hi, HU, BK⟩ := hrel
    by_cases hlt : i + 1 < q
    · have l1 : i < lines.length := by rw [HQ.out]; omega
      have l2 : i + 1 < lines.length := by rw [HQ.out]; omega
      rcases HC.out with h0 | ⟨g, o, rfl, hg, hc⟩
      · rw [h0] at l1; exact absurd l1 (Nat.not_lt_zero _)
      obtain ⟨x, hx⟩ : ∃ x, lines[i]? = some x := ⟨_, List.getElem?_eq_getElem l1⟩
      obtain ⟨y, hy⟩ : ∃ y, lines[i + 1]? = some y := ⟨_, List.getElem?_eq_getElem l2⟩
      have e0 := Lib.hid (kp BK.out (hc i x hx))
      have e1 := Lib.hid (kp BK.out (hc (i + 1) y hy))
      have d0 := Lib.hid (kp BK.out D0.out)
      have d1 := Lib.hid (kp BK.out D1.out)
      have d2 := Lib.hid (kp BK.out D2.out)
      have d3 := Lib.hid (kp BK.out D3.out)
      have d4 := Lib.hid (kp BK.out D4.out)
      have d5 := Lib.hid (kp BK.out D5.out)
      have KX := Lib.hid (fun W hm h1 h2 => ukey_any x n sep m (w.heap.size + 1 + 1) (w.heap.size + 1) W hm h1 h2 (HS.out x (List.mem_of_getElem? hx)))
      have KY := Lib.hid (fun W hm h1 h2 => ukey_any y n sep m (w.heap.size + 1 + 1) (w.heap.size + 1) W hm h1 h2 (HS.out y (List.mem_of_getElem? hy)))
      obtain ⟨kx, hkx⟩ : ∃ kx, bA (keyL sep n x.data.toList) = kx := ⟨_, rfl⟩
      obtain ⟨ky, hky⟩ : ∃ ky, bA (keyL sep n y.data.toList) = ky := ⟨_, rfl⟩
      have ZX : Hid (kx.size ≤ 1048576) := Lib.hid (by rw [← hkx]; exact key_sz _ _ _ (HS.out x (List.mem_of_getElem? hx)))
      have ZY : Hid (ky.size ≤ 1048576) := Lib.hid (by rw [← hky]; exact key_sz _ _ _ (HS.out y (List.mem_of_getElem? hy)))
      rw [hkx] at KX
      rw [hky] at KY
      obtain ⟨c, hcm⟩ : ∃ c, cmpD kx.data.toList ky.data.toList = c := ⟨_, rfl⟩
      have CMP := Lib.hid (fun vl W h => dcompare_any vl kx ky W h ZX.out ZY.out)
      rw [hcm] at CMP
      have HU2 : Hid (unsL sep n (lines.map (·.data.toList)) = if 0 < c then ((i : Int) + 1) else unsF sep n (i + 1 + 1) ((lines.map (·.data.toList)).drop (i + 1))) := Lib.hid (by
        have m1 : (lines.map (·.data.toList))[i]? = some x.data.toList := by rw [List.getElem?_map, hx]; rfl
        have m2 : (lines.map (·.data.toList))[i + 1]? = some y.data.toList := by rw [List.getElem?_map, hy]; rfl
        rw [HU.out, drop_get m1, drop_get m2, unsF_two, ← hcm, ← hkx, ← hky]; rfl)
      have VL := Lib.hid (show DLoc wr (lval dNm v1 dLo dUp (.slice none 0 0) (.slice none 0 0)) from ⟨v1, rfl, LA.out.below BK.out⟩)
      have S0 := keep8 (Below.refl wr.heap.size wr).drew d0.out d1.out d2.out d3.out d4.out d5.out e0.out e1.out
      have j1 : (i : Int) + 1 - 1 = i := by omega
      have j2 : IntKind.i64.wrap ((i : Int) + 1 - 1) = (i : Int) := by rw [j1]; exact IntWalk.i64_in _ (by omega)
      have j3 : IntKind.i64.wrap (i : Int) = (i : Int) := IntWalk.i64_in _ (by omega)
      have p0 : (0 : Int) ≤ (i : Int) := by omega
      have p1 : (i : Int) < (q : Int) := by omega
      have p2 : (0 : Int) ≤ (i : Int) + 1 := by omega
      have p3 : (i : Int) + 1 < (q : Int) := by omega
      have p4 : ((i : Int) + 1).toNat = i + 1 := by omega
      clear hx hy hkx hky hcm hc HU l1 l2
      by_cases hc0 : 0 < c
      · go_wp2_with fail
        go_region_held3 (fun w' => Below wr.heap.size wr w' ∧ w'.cell? ⟨w.heap.size, 0, none⟩ = some (.string dNm) ∧ w'.cell? ⟨w.heap.size, 1, none⟩ = some (v1) ∧ w'.cell? ⟨w.heap.size, 2, none⟩ = some (.string dLo) ∧ w'.cell? ⟨w.heap.size, 3, none⟩ = some (.string dUp) ∧ w'.cell? ⟨w.heap.size, 4, none⟩ = some (.slice none 0 0) ∧ w'.cell? ⟨w.heap.size, 5, none⟩ = some (.slice none 0 0) ∧ w'.cell? ⟨g, o + i, none⟩ = some (.string x) ∧ w'.cell? ⟨g, o + (i + 1), none⟩ = some (.string y)) (first | exact S0)
          (first | (go_at_call 27; (first | (with_reducible refine (KX.out _ (kp (BK.out.trans (S0.1.mono BK.out.size)) HM.out) (kp (BK.out.trans (S0.1.mono BK.out.size)) C3.out) (kp (BK.out.trans (S0.1.mono BK.out.size)) C2.out)).mono ?_) | (with_reducible refine (KY.out _ (kp (BK.out.trans (S0.1.mono BK.out.size)) HM.out) (kp (BK.out.trans (S0.1.mono BK.out.size)) C3.out) (kp (BK.out.trans (S0.1.mono BK.out.size)) C2.out)).mono ?_)); rintro _ w1 ⟨rfl, B1⟩; have S0 := keep8 (S0.1.trans (B1.out.mono S0.1.size)) d0.out d1.out d2.out d3.out d4.out d5.out e0.out e1.out) | (go_at_call 29; (with_reducible refine (CMP.out _ _ (VL.out.below S0.1)).mono ?_); rintro _ w1 ⟨rfl, B1⟩; have S0 := keep8 (S0.1.trans (B1.out.mono S0.1.size)) d0.out d1.out d2.out d3.out d4.out d5.out e0.out e1.out))
        go_wp2_with fail
        go_ret
        exact ⟨by rw [HU2.out, if_pos hc0]; rfl, Lib.hid (B0.out.trans ((BK.out.trans (S0.1.mono BK.out.size)).mono B0.out.size))⟩
      · go_wp2_with fail
        go_region_held3 (fun w' => Below wr.heap.size wr w' ∧ w'.cell? ⟨w.heap.size, 0, none⟩ = some (.string dNm) ∧ w'.cell? ⟨w.heap.size, 1, none⟩ = some (v1) ∧ w'.cell? ⟨w.heap.size, 2, none⟩ = some (.string dLo) ∧ w'.cell? ⟨w.heap.size, 3, none⟩ = some (.string dUp) ∧ w'.cell? ⟨w.heap.size, 4, none⟩ = some (.slice none 0 0) ∧ w'.cell? ⟨w.heap.size, 5, none⟩ = some (.slice none 0 0) ∧ w'.cell? ⟨g, o + i, none⟩ = some (.string x) ∧ w'.cell? ⟨g, o + (i + 1), none⟩ = some (.string y)) (first | exact S0)
          (first | (go_at_call 27; (first | (with_reducible refine (KX.out _ (kp (BK.out.trans (S0.1.mono BK.out.size)) HM.out) (kp (BK.out.trans (S0.1.mono BK.out.size)) C3.out) (kp (BK.out.trans (S0.1.mono BK.out.size)) C2.out)).mono ?_) | (with_reducible refine (KY.out _ (kp (BK.out.trans (S0.1.mono BK.out.size)) HM.out) (kp (BK.out.trans (S0.1.mono BK.out.size)) C3.out) (kp (BK.out.trans (S0.1.mono BK.out.size)) C2.out)).mono ?_)); rintro _ w1 ⟨rfl, B1⟩; have S0 := keep8 (S0.1.trans (B1.out.mono S0.1.size)) d0.out d1.out d2.out d3.out d4.out d5.out e0.out e1.out) | (go_at_call 29; (with_reducible refine (CMP.out _ _ (VL.out.below S0.1)).mono ?_); rintro _ w1 ⟨rfl, B1⟩; have S0 := keep8 (S0.1.trans (B1.out.mono S0.1.size)) d0.out d1.out d2.out d3.out d4.out d5.out e0.out e1.out))
        go_wp2_with fail
        go_roundw
        case rel => exact ⟨i + 1, by go_num, by omega, Lib.hid (by rw [HU2.out, if_neg (by omega)]), Lib.hid (BK.out.trans (S0.1.mono BK.out.size))⟩
        case measure => simp [intOf]; omega
    · have RZ : Hid (unsL sep n (lines.map (·.data.toList)) = -1) := Lib.hid (by rw [HU.out, unsF_short]; rw [List.length_drop, List.length_map, HQ.out]; omega)
      clear HU
      go_wp2_with fail
      go_ret
      exact ⟨by rw [RZ.out]; rfl, Lib.hid (B0.out.trans (BK.out.mono B0.out.size))⟩
set_option maxRecDepth 100000 in
set_option maxHeartbeats 4000000 in
theorem runsorted_any (lines : List ByteArray) (v vl : Value) (n sep : Int) (w : World) (hv : Strs w v lines) (hl : DLoc w vl) (hs : ∀ x ∈ lines, x.size ≤ 1048576) :
    Calls Tryd.prog 13 #[vl, v, .int .i64 n, .int .i64 sep] w fun e w' => e = .returned (.int .i64 (unsL sep n (lines.map (·.data.toList)))) ∧ Hid (Below w.heap.size w w') := by
  obtain ⟨v1, rfl, hL⟩ := hl
  obtain ⟨q, hq⟩ : ∃ q, lines.length = q := ⟨_, rfl⟩
  have HQ := Lib.hid hq
  have hlen := Strs.len hv
  unfold maxLen at hlen
  rw [hq] at hlen
  have B0 : Hid (Below w.heap.size w (w.alloc (.cells #[.string dNm, v1, .string dLo, .string dUp, .slice none 0 0, .slice none 0 0] 30))) := Lib.hid ((Below.refl w.heap.size w).alloc (Nat.le_refl _) _)
  have LA := Lib.hid (hL.below B0.out)
  have HV := Lib.hid (Strs.below hv B0.out)
  have HS := Lib.hid hs
  have N1 := heap_alloc_new w (.cells #[.string dNm, v1, .string dLo, .string dUp, .slice none 0 0, .slice none 0 0] 30)
  have D0 : Hid ((w.alloc (.cells #[.string dNm, v1, .string dLo, .string dUp, .slice none 0 0, .slice none 0 0] 30)).cell? ⟨w.heap.size, 0, none⟩ = some (.string dNm)) := Lib.hid (blk_cellx N1 0 _ rfl)
  have D1 : Hid ((w.alloc (.cells #[.string dNm, v1, .string dLo, .string dUp, .slice none 0 0, .slice none 0 0] 30)).cell? ⟨w.heap.size, 1, none⟩ = some (v1)) := Lib.hid (blk_cellx N1 1 _ rfl)
  have D2 : Hid ((w.alloc (.cells #[.string dNm, v1, .string dLo, .string dUp, .slice none 0 0, .slice none 0 0] 30)).cell? ⟨w.heap.size, 2, none⟩ = some (.string dLo)) := Lib.hid (blk_cellx N1 2 _ rfl)
  have D3 : Hid ((w.alloc (.cells #[.string dNm, v1, .string dLo, .string dUp, .slice none 0 0, .slice none 0 0] 30)).cell? ⟨w.heap.size, 3, none⟩ = some (.string dUp)) := Lib.hid (blk_cellx N1 3 _ rfl)
  have D4 : Hid ((w.alloc (.cells #[.string dNm, v1, .string dLo, .string dUp, .slice none 0 0, .slice none 0 0] 30)).cell? ⟨w.heap.size, 4, none⟩ = some (.slice none 0 0)) := Lib.hid (blk_cellx N1 4 _ rfl)
  have D5 : Hid ((w.alloc (.cells #[.string dNm, v1, .string dLo, .string dUp, .slice none 0 0, .slice none 0 0] 30)).cell? ⟨w.heap.size, 5, none⟩ = some (.slice none 0 0)) := Lib.hid (blk_cellx N1 5 _ rfl)
  clear N1 hv hL hq hs
  obtain ⟨a, cap, rfl, -, -, hc⟩ := HV.out
  rw [HQ.out]
  rw [HQ.out] at HV
  have HC := Lib.hid hc
  clear hc
  go_enter Tryd.func13, Tryd.ntmps13
  go_wp2_with fail
  go_loopw [9] (fun i wr => ∃ k : Nat, i = .int .i64 ((k : Int) + 1) ∧ (k ≤ q) ∧ Hid (unsL sep n (lines.map (·.data.toList)) = unsF sep n (k + 1) ((lines.map (·.data.toList)).drop k)) ∧ Hid (Below (w.alloc (.cells #[.string dNm, v1, .string dLo, .string dUp, .slice none 0 0, .slice none 0 0] 30)).heap.size (w.alloc (.cells #[.string dNm, v1, .string dLo, .string dUp, .slice none 0 0, .slice none 0 0] 30)) wr)) (fun i _ => q + 1 - (intOf i).toNat)
  case atStart => exact ⟨0, rfl, Nat.zero_le _, Lib.hid rfl, Lib.hid (Below.refl _ _)⟩
  case round =>
    obtain ⟨i, rfl, hi, HU, BK⟩ := hrel
    by_cases hlt : i + 1 < q
    · have l1 : i < lines.length := by rw [HQ.out]; omega
      have l2 : i + 1 < lines.length := by rw [HQ.out]; omega
      rcases HC.out with h0 | ⟨g, o, rfl, hg, hc⟩
      · rw [h0] at l1; exact absurd l1 (Nat.not_lt_zero _)
      obtain ⟨x, hx⟩ : ∃ x, lines[i]? = some x := ⟨_, List.getElem?_eq_getElem l1⟩
      obtain ⟨y, hy⟩ : ∃ y, lines[i + 1]? = some y := ⟨_, List.getElem?_eq_getElem l2⟩
      have e0 := Lib.hid (kp BK.out (hc i x hx))
      have e1 := Lib.hid (kp BK.out (hc (i + 1) y hy))
      have d0 := Lib.hid (kp BK.out D0.out)
      have d1 := Lib.hid (kp BK.out D1.out)
      have d2 := Lib.hid (kp BK.out D2.out)
      have d3 := Lib.hid (kp BK.out D3.out)
      have d4 := Lib.hid (kp BK.out D4.out)
      have d5 := Lib.hid (kp BK.out D5.out)
      have KX := Lib.hid (fun W => key_any x n sep W (HS.out x (List.mem_of_getElem? hx)))
      have KY := Lib.hid (fun W => key_any y n sep W (HS.out y (List.mem_of_getElem? hy)))
      obtain ⟨kx, hkx⟩ : ∃ kx, bA (keyL sep n x.data.toList) = kx := ⟨_, rfl⟩
      obtain ⟨ky, hky⟩ : ∃ ky, bA (keyL sep n y.data.toList) = ky := ⟨_, rfl⟩
      have ZX : Hid (kx.size ≤ 1048576) := Lib.hid (by rw [← hkx]; exact key_sz _ _ _ (HS.out x (List.mem_of_getElem? hx)))
      have ZY : Hid (ky.size ≤ 1048576) := Lib.hid (by rw [← hky]; exact key_sz _ _ _ (HS.out y (List.mem_of_getElem? hy)))
      rw [hkx] at KX
      rw [hky] at KY
      obtain ⟨c, hcm⟩ : ∃ c, cmpD kx.data.toList ky.data.toList = c := ⟨_, rfl⟩
      have CMP := Lib.hid (fun vl W h => drcompare_any vl kx ky W h ZX.out ZY.out)
      rw [hcm] at CMP
      have HU2 : Hid (unsL sep n (lines.map (·.data.toList)) = if 0 < c then ((i : Int) + 1) else unsF sep n (i + 1 + 1) ((lines.map (·.data.toList)).drop (i + 1))) := Lib.hid (by
        have m1 : (lines.map (·.data.toList))[i]? = some x.data.toList := by rw [List.getElem?_map, hx]; rfl
        have m2 : (lines.map (·.data.toList))[i + 1]? = some y.data.toList := by rw [List.getElem?_map, hy]; rfl
        rw [HU.out, drop_get m1, drop_get m2, unsF_two, ← hcm, ← hkx, ← hky]; rfl)
      have VL := Lib.hid (show DLoc wr (lval dNm v1 dLo dUp (.slice none 0 0) (.slice none 0 0)) from ⟨v1, rfl, LA.out.below BK.out⟩)
      have S0 := keep8 (Below.refl wr.heap.size wr).drew d0.out d1.out d2.out d3.out d4.out d5.out e0.out e1.out
      have j1 : (i : Int) + 1 - 1 = i := by omega
      have j2 : IntKind.i64.wrap ((i : Int) + 1 - 1) = (i : Int) := by rw [j1]; exact IntWalk.i64_in _ (by omega)
      have j3 : IntKind.i64.wrap (i : Int) = (i : Int) := IntWalk.i64_in _ (by omega)
      have p0 : (0 : Int) ≤ (i : Int) := by omega
      have p1 : (i : Int) < (q : Int) := by omega
      have p2 : (0 : Int) ≤ (i : Int) + 1 := by omega
      have p3 : (i : Int) + 1 < (q : Int) := by omega
      have p4 : ((i : Int) + 1).toNat = i + 1 := by omega
      clear hx hy hkx hky hcm hc HU l1 l2
      by_cases hc0 : 0 < c
      · go_wp2_with fail
        go_region_held3 (fun w' => Below wr.heap.size wr w' ∧ w'.cell? ⟨w.heap.size, 0, none⟩ = some (.string dNm) ∧ w'.cell? ⟨w.heap.size, 1, none⟩ = some (v1) ∧ w'.cell? ⟨w.heap.size, 2, none⟩ = some (.string dLo) ∧ w'.cell? ⟨w.heap.size, 3, none⟩ = some (.string dUp) ∧ w'.cell? ⟨w.heap.size, 4, none⟩ = some (.slice none 0 0) ∧ w'.cell? ⟨w.heap.size, 5, none⟩ = some (.slice none 0 0) ∧ w'.cell? ⟨g, o + i, none⟩ = some (.string x) ∧ w'.cell? ⟨g, o + (i + 1), none⟩ = some (.string y)) (first | exact S0)
          (first | (go_at_call 31; (first | (with_reducible refine (KX.out _).mono ?_) | (with_reducible refine (KY.out _).mono ?_)); rintro _ w1 ⟨rfl, B1⟩; have S0 := keep8 (S0.1.trans (B1.out.mono S0.1.size)) d0.out d1.out d2.out d3.out d4.out d5.out e0.out e1.out) | (go_at_call 30; (with_reducible refine (CMP.out _ _ (VL.out.below S0.1)).mono ?_); rintro _ w1 ⟨rfl, B1⟩; have S0 := keep8 (S0.1.trans (B1.out.mono S0.1.size)) d0.out d1.out d2.out d3.out d4.out d5.out e0.out e1.out))
        go_wp2_with fail
        go_ret
        exact ⟨by rw [HU2.out, if_pos hc0]; rfl, Lib.hid (B0.out.trans ((BK.out.trans (S0.1.mono BK.out.size)).mono B0.out.size))⟩
      · go_wp2_with fail
        go_region_held3 (fun w' => Below wr.heap.size wr w' ∧ w'.cell? ⟨w.heap.size, 0, none⟩ = some (.string dNm) ∧ w'.cell? ⟨w.heap.size, 1, none⟩ = some (v1) ∧ w'.cell? ⟨w.heap.size, 2, none⟩ = some (.string dLo) ∧ w'.cell? ⟨w.heap.size, 3, none⟩ = some (.string dUp) ∧ w'.cell? ⟨w.heap.size, 4, none⟩ = some (.slice none 0 0) ∧ w'.cell? ⟨w.heap.size, 5, none⟩ = some (.slice none 0 0) ∧ w'.cell? ⟨g, o + i, none⟩ = some (.string x) ∧ w'.cell? ⟨g, o + (i + 1), none⟩ = some (.string y)) (first | exact S0)
          (first | (go_at_call 31; (first | (with_reducible refine (KX.out _).mono ?_) | (with_reducible refine (KY.out _).mono ?_)); rintro _ w1 ⟨rfl, B1⟩; have S0 := keep8 (S0.1.trans (B1.out.mono S0.1.size)) d0.out d1.out d2.out d3.out d4.out d5.out e0.out e1.out) | (go_at_call 30; (with_reducible refine (CMP.out _ _ (VL.out.below S0.1)).mono ?_); rintro _ w1 ⟨rfl, B1⟩; have S0 := keep8 (S0.1.trans (B1.out.mono S0.1.size)) d0.out d1.out d2.out d3.out d4.out d5.out e0.out e1.out))
        go_wp2_with fail
        go_roundw
        case rel => exact ⟨i + 1, by go_num, by omega, Lib.hid (by rw [HU2.out, if_neg (by omega)]), Lib.hid (BK.out.trans (S0.1.mono BK.out.size))⟩
        case measure => simp [intOf]; omega
    · have RZ : Hid (unsL sep n (lines.map (·.data.toList)) = -1) := Lib.hid (by rw [HU.out, unsF_short]; rw [List.length_drop, List.length_map, HQ.out]; omega)
      clear HU
      go_wp2_with fail
      go_ret
      exact ⟨by rw [RZ.out]; rfl, Lib.hid (B0.out.trans (BK.out.mono B0.out.size))⟩
end Go.Proofs.YtbhdhcnbagjmcaaDoor
