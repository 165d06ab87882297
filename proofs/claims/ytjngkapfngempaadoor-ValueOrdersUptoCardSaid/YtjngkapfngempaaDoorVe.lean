/- walks: awake and the laws on numbers, texts, strings and operations of values -/
import Derived.Test.YtjngkapfngempaaDoorVd
namespace Go.Proofs.YtjngkapfngempaaDoor
open Go.RowKit
open Dcm Byt Vl
theorem arith_at (op : ByteArray) (k1 n1 k2 n2 d : Int) (s1 s2 : ByteArray) (w : World) (hs1 : s1.size ≤ 9223372036854775807) (hs2 : s2.size ≤ 9223372036854775807)
    (hd : arV (opN op.data.toList) (numV k1 n1 s1.data.toList) (numV k2 n2 s2.data.toList) = d) (he : arE (opN op.data.toList) (numV k1 n1 s1.data.toList) (numV k2 n2 s2.data.toList) = 0) :
    Calls Tryd.prog 20 #[.string op, vval k1 n1 s1, vval k2 n2 s2] w fun e w' => e = .returned (.tuple #[vval 1 (near d) ⟨#[]⟩, .int .i64 0]) ∧ Below w.heap.size w w' := by
  have h := arith_any op k1 n1 k2 n2 s1 s2 w hs1 hs2
  rw [hd, he] at h; exact h
theorem text_at (k n : Int) (s t : ByteArray) (w : World) (ht : Tab w) (h : textB k n s = t) :
    Calls Tryd.prog 11 #[vval k n s] w fun e w' => e = .returned (.string t) ∧ Below w.heap.size w w' := by rw [← h]; exact vtext_any k n s w ht
theorem input_at (s : ByteArray) (k d : Int) (w : World) (hs : s.size ≤ 9223372036854775807) (hk : inK s.data.toList = k) (hd : inD s.data.toList = d) :
    Calls Tryd.prog 16 #[.string s] w fun e w' => e = .returned (vval k d s) ∧ Below w.heap.size w w' := by rw [← hk, ← hd]; exact input_any s w hs
theorem truth_at (k n : Int) (s : ByteArray) (b : Bool) (w : World) (hs : s.size ≤ 9223372036854775807) (h : truthV k n s = b) :
    Calls Tryd.prog 13 #[vval k n s] w fun e w' => e = .returned (.bool b) ∧ Below w.heap.size w w' := by rw [← h]; exact truth_any k n s w hs
theorem vw1 : arV (opN (ByteArray.mk #[42]).data.toList) (numV 2 0 (ByteArray.mk #[51, 120]).data.toList) (numV 1 20000 (ByteArray.mk #[]).data.toList) = 60000 := by decide
theorem vw2 : arE (opN (ByteArray.mk #[42]).data.toList) (numV 2 0 (ByteArray.mk #[51, 120]).data.toList) (numV 1 20000 (ByteArray.mk #[]).data.toList) = 0 := by decide
theorem vw3 : inK (ByteArray.mk #[32, 45, 50, 32]).data.toList = 3 := by decide
theorem vw4 : inD (ByteArray.mk #[32, 45, 50, 32]).data.toList = -20000 := by decide
theorem vw5 : textB 1 60000 ⟨#[]⟩ = ⟨#[54]⟩ := by
  have h : Lib.decDigits 6 = [54] := by rw [Lib.decDigits, dif_pos (by decide)]; rfl
  have h2 : (near (near 60000)).natAbs / 10000 = 6 := by decide
  have h3 : (near (near 60000)).natAbs % 10000 = 0 := by decide
  have h4 : ¬ near (near 60000) < 0 := by decide
  show (⟨(fmtL (near 60000)).toArray⟩ : ByteArray) = _
  unfold fmtL
  rw [h2, h3, h, if_neg h4, if_pos rfl]; rfl
theorem vw6 : truthV 1 60000 ⟨#[]⟩ = true := by decide
theorem vs1 : (ByteArray.mk #[51, 120]).size ≤ 9223372036854775807 := by show 2 ≤ 9223372036854775807; omega
theorem vs2 : (ByteArray.mk #[32, 45, 50, 32]).size ≤ 9223372036854775807 := by show 4 ≤ 9223372036854775807; omega
theorem vs0 : (ByteArray.mk #[]).size ≤ 9223372036854775807 := by show 0 ≤ 9223372036854775807; omega
theorem fromNumber_20000 (w : World) : Calls Tryd.prog 22 #[.int .i64 20000] w fun e w' => e = .returned (vval 1 20000 ⟨#[]⟩) ∧ Below w.heap.size w w' := fromNumber_any 20000 w
theorem arith_6 (w : World) : Calls Tryd.prog 20 #[.string ⟨#[42]⟩, vval 2 0 ⟨#[51, 120]⟩, vval 1 20000 ⟨#[]⟩] w fun e w' => e = .returned (.tuple #[vval 1 60000 ⟨#[]⟩, .int .i64 0]) ∧ Below w.heap.size w w' :=
  arith_at _ _ _ _ _ 60000 _ _ w vs1 vs0 vw1 vw2
theorem chain1 {w a b : World} {o : Obj} (B : Below w.heap.size w a) (hb : Below (a.alloc o).heap.size (a.alloc o) b) : Below w.heap.size w b := B.trans ((below_step hb).mono B.size)
theorem keepA {w3 w4 w' : World} (hb : Below (w3.alloc (.cells #[.int .i64 1, .int .i64 60000, .string ⟨#[]⟩] 24)).heap.size (w3.alloc (.cells #[.int .i64 1, .int .i64 60000, .string ⟨#[]⟩] 24)) w4) (h : Below (w4.alloc (.cells #[.int .i64 3, .int .i64 (-20000), .string ⟨#[32, 45, 50, 32]⟩] 24)).heap.size (w4.alloc (.cells #[.int .i64 3, .int .i64 (-20000), .string ⟨#[32, 45, 50, 32]⟩] 24)) w') :
    Below (w4.alloc (.cells #[.int .i64 3, .int .i64 (-20000), .string ⟨#[32, 45, 50, 32]⟩] 24)).heap.size (w4.alloc (.cells #[.int .i64 3, .int .i64 (-20000), .string ⟨#[32, 45, 50, 32]⟩] 24)) w' ∧ w'.cell? ⟨w3.heap.size, 0, none⟩ = some (.int .i64 1) ∧ w'.cell? ⟨w3.heap.size, 1, none⟩ = some (.int .i64 60000) ∧ w'.cell? ⟨w3.heap.size, 2, none⟩ = some (.string ⟨#[]⟩) ∧
    w'.cell? ⟨w4.heap.size, 0, none⟩ = some (.int .i64 3) ∧ w'.cell? ⟨w4.heap.size, 1, none⟩ = some (.int .i64 (-20000)) ∧ w'.cell? ⟨w4.heap.size, 2, none⟩ = some (.string ⟨#[32, 45, 50, 32]⟩) := by
  obtain ⟨-, -, -, a0, a1, a2⟩ := own_cells h
  obtain ⟨-, -, -, c0, c1, c2⟩ := own_cells (chain1 hb h)
  exact ⟨h, c0, c1, c2, a0, a1, a2⟩
set_option maxHeartbeats 2000000 in
set_option maxRecDepth 100000 in
theorem vawake_any (w : World) (ht : Tab w) :
    Calls Tryd.prog 15 #[] w fun e w' => e = .returned (.bool true) ∧ Below w.heap.size w w' := by
  have T := Lib.hid ht; clear ht
  have B0 := Below.refl w.heap.size w
  go_enter Tryd.func15, Tryd.ntmps15
  go_wp2_with (first
    | (go_at_call 18; refine (fromText_any _ _).mono ?_; rintro e w1 ⟨rfl, hb1⟩; have B1 := B0.trans (hb1.mono B0.size))
    | (go_at_call 22; refine (fromNumber_20000 _).mono ?_; rintro e w2 ⟨rfl, hb2⟩; have B2 := B1.trans (hb2.mono B1.size))
    | (go_at_call 20; refine (arith_6 _).mono ?_; rintro e w3 ⟨rfl, hb3⟩; have B3 := B2.trans (hb3.mono B2.size))
    | (go_at_call 16; refine (input_at _ _ _ _ vs2 vw3 vw4).mono ?_; rintro e w4 ⟨rfl, hb4⟩; have B4 := chain1 B3 hb4; obtain ⟨-, p0, p1, p2, q0, q1, q2⟩ := keepA hb4 (Below.refl _ _))
    | (go_at_call 11; refine (text_at 1 60000 ⟨#[]⟩ ⟨#[54]⟩ _ (tab_alloc (tab_below T.out B4)) vw5).mono ?_; rintro e w5 ⟨rfl, hb5⟩; obtain ⟨-, r0, r1, r2, s0, s1, s2⟩ := keepA hb4 hb5)
    | (go_at_call 13; refine (truth_at 1 60000 ⟨#[]⟩ true _ vs0 vw6).mono ?_; rintro e w6 ⟨rfl, hb6⟩; have B6 := hb5.trans (hb6.mono hb5.size)))
  go_ret
  exact ⟨rfl, chain1 B4 B6⟩
theorem keep1 {w w' : World} {k n : Int} {s : ByteArray} (h : Below (w.alloc (.cells #[.int .i64 k, .int .i64 n, .string s] 24)).heap.size (w.alloc (.cells #[.int .i64 k, .int .i64 n, .string s] 24)) w') :
    Below (w.alloc (.cells #[.int .i64 k, .int .i64 n, .string s] 24)).heap.size (w.alloc (.cells #[.int .i64 k, .int .i64 n, .string s] 24)) w' ∧ w'.cell? ⟨w.heap.size, 0, none⟩ = some (.int .i64 k) ∧ w'.cell? ⟨w.heap.size, 1, none⟩ = some (.int .i64 n) ∧ w'.cell? ⟨w.heap.size, 2, none⟩ = some (.string s) := by
  obtain ⟨-, -, -, a0, a1, a2⟩ := own_cells h
  exact ⟨h, a0, a1, a2⟩
set_option maxHeartbeats 8000000 in
theorem law_coerces (k n : Int) (s : ByteArray) (w : World) (ht : Tab w) (hs : s.size ≤ 9223372036854775807) :
    Calls Tryd.prog 3 #[vval k n s] w fun e w' => e = .returned (.bool true) ∧ Below w.heap.size w w' := by
  have T := Lib.hid ht; clear ht
  have S := Lib.hid hs; clear hs
  have S0 := keep1 (w := w) (k := k) (n := n) (s := s) ((Below.refl _ _).drew)
  go_enter Tryd.func3, Tryd.ntmps3
  go_wp2_with fail
  go_region_held3 (fun w' => Below (w.alloc (.cells #[.int .i64 k, .int .i64 n, .string s] 24)).heap.size (w.alloc (.cells #[.int .i64 k, .int .i64 n, .string s] 24)) w' ∧ w'.cell? ⟨w.heap.size, 0, none⟩ = some (.int .i64 k) ∧ w'.cell? ⟨w.heap.size, 1, none⟩ = some (.int .i64 n) ∧ w'.cell? ⟨w.heap.size, 2, none⟩ = some (.string s)) (first | exact S0 | exact keep1 B7 | exact keep1 B6 | exact keep1 B5 | exact keep1 B4 | exact keep1 B3 | exact keep1 B2 | exact keep1 B1)
    (first | (go_at_call 9; refine (vnumber_any k n s _ S.out).mono ?_; rintro e w1 ⟨rfl, hb1⟩; have B1 := S0.1.trans (hb1.mono S0.1.size)) | (go_at_call 10; refine (rvnumber_any k n s _ S.out).mono ?_; rintro e w2 ⟨rfl, hb2⟩; have B2 := B1.trans (hb2.mono B1.size)) | (go_at_call 11; refine (vtext_any k n s _ (tab_below (tab_alloc T.out) B2)).mono ?_; rintro e w3 ⟨rfl, hb3⟩; have B3 := B2.trans (hb3.mono B2.size)) | (go_at_call 12; refine (vrtext_any k n s _).mono ?_; rintro e w4 ⟨rfl, hb4⟩; have B4 := B3.trans (hb4.mono B3.size)) | (go_at_call 13; refine (truth_any k n s _ S.out).mono ?_; rintro e w5 ⟨rfl, hb5⟩; have B5 := B4.trans (hb5.mono B4.size)) | (go_at_call 14; refine (rtruth_any k n s _).mono ?_; rintro e w6 ⟨rfl, hb6⟩; have B6 := B5.trans (hb6.mono B5.size)) | (go_at_call 15; refine (vawake_any _ (tab_below (tab_alloc T.out) B6)).mono ?_; rintro e w7 ⟨rfl, hb7⟩; have B7 := B6.trans (hb7.mono B6.size)))
  go_wp2_with fail
  go_ret
  exact ⟨rfl, below_step B7⟩
set_option maxHeartbeats 4000000 in
theorem law_inputs (s : ByteArray) (w : World) (ht : Tab w) (hs : s.size ≤ 9223372036854775807) :
    Calls Tryd.prog 4 #[.string s] w fun e w' => e = .returned (.bool true) ∧ Below w.heap.size w w' := by
  have T := Lib.hid ht; clear ht
  have S := Lib.hid hs; clear hs
  have B0 := Below.refl w.heap.size w
  go_enter Tryd.func4, Tryd.ntmps4
  go_wp2_with (first
    | (go_at_call 16; refine (input_any s _ S.out).mono ?_; rintro e w1 ⟨rfl, hb1⟩; have B1 := B0.trans (hb1.mono B0.size))
    | (go_at_call 17; refine (rinput_any s _ S.out).mono ?_; rintro e w2 ⟨rfl, hb2⟩; have B2 := B1.trans (hb2.mono B1.size))
    | (go_at_call 18; refine (fromText_any s _).mono ?_; rintro e w3 ⟨rfl, hb3⟩; have B3 := B2.trans (hb3.mono B2.size))
    | (go_at_call 19; refine (rfromText_any s _).mono ?_; rintro e w4 ⟨rfl, hb4⟩; have B4 := B3.trans (hb4.mono B3.size))
    | (go_at_call 15; refine (vawake_any _ (tab_below T.out B4)).mono ?_; rintro e w5 ⟨rfl, hb5⟩; have B5 := B4.trans (hb5.mono B4.size)))
  go_ret
  exact ⟨rfl, B5⟩
theorem par2 {w w' : World} {a0 a1 a2 b0 b1 b2 : Value} {T : TypeId}
    (hb : Below ((w.alloc (.cells #[a0, a1, a2] T)).alloc (.cells #[b0, b1, b2] T)).heap.size ((w.alloc (.cells #[a0, a1, a2] T)).alloc (.cells #[b0, b1, b2] T)) w') :
    w'.cell? ⟨w.heap.size, 0, none⟩ = some a0 ∧ w'.cell? ⟨w.heap.size, 1, none⟩ = some a1 ∧ w'.cell? ⟨w.heap.size, 2, none⟩ = some a2 ∧
    w'.cell? ⟨w.heap.size + 1, 0, none⟩ = some b0 ∧ w'.cell? ⟨w.heap.size + 1, 1, none⟩ = some b1 ∧ w'.cell? ⟨w.heap.size + 1, 2, none⟩ = some b2 := by
  have s1 : (w.alloc (.cells #[a0, a1, a2] T)).heap.size = w.heap.size + 1 := World.size_alloc _ _
  have s2 : ((w.alloc (.cells #[a0, a1, a2] T)).alloc (.cells #[b0, b1, b2] T)).heap.size = w.heap.size + 1 + 1 := by rw [World.size_alloc, s1]
  have h0 : w'.heap[w.heap.size]? = some (.cells #[a0, a1, a2] T (0, 0)) := by
    rw [hb.block _ (by omega), Below.heap_alloc _ _ _ (by omega)]; exact heap_alloc_new _ _
  have h1 : w'.heap[w.heap.size + 1]? = some (.cells #[b0, b1, b2] T (0, 0)) := by
    rw [hb.block _ (by omega)]
    have := heap_alloc_new (w.alloc (.cells #[a0, a1, a2] T)) (.cells #[b0, b1, b2] T)
    rw [s1] at this; exact this
  refine ⟨?_, ?_, ?_, ?_, ?_, ?_⟩
  all_goals simp [World.cell?, h0, h1]
theorem arith_is (op : ByteArray) (k1 n1 k2 n2 K D E : Int) (s1 s2 : ByteArray) (w : World) (hs1 : s1.size ≤ 9223372036854775807) (hs2 : s2.size ≤ 9223372036854775807)
    (h : Hid (rsK (arE (opN op.data.toList) (numV k1 n1 s1.data.toList) (numV k2 n2 s2.data.toList)) = K ∧ rsD (arE (opN op.data.toList) (numV k1 n1 s1.data.toList) (numV k2 n2 s2.data.toList)) (arV (opN op.data.toList) (numV k1 n1 s1.data.toList) (numV k2 n2 s2.data.toList)) = D ∧ arE (opN op.data.toList) (numV k1 n1 s1.data.toList) (numV k2 n2 s2.data.toList) = E)) :
    Calls Tryd.prog 20 #[.string op, vval k1 n1 s1, vval k2 n2 s2] w fun e w' => e = .returned (.tuple #[vval K D ⟨#[]⟩, .int .i64 E]) ∧ Below w.heap.size w w' := by
  have := arith_any op k1 n1 k2 n2 s1 s2 w hs1 hs2
  rw [h.out.1, h.out.2.1, h.out.2.2] at this; exact this
theorem rarith_is (op : ByteArray) (k1 n1 k2 n2 K D E : Int) (s1 s2 : ByteArray) (w : World) (hs1 : s1.size ≤ 9223372036854775807) (hs2 : s2.size ≤ 9223372036854775807)
    (h : Hid (rsK (arE (opN op.data.toList) (numV k1 n1 s1.data.toList) (numV k2 n2 s2.data.toList)) = K ∧ rsD (arE (opN op.data.toList) (numV k1 n1 s1.data.toList) (numV k2 n2 s2.data.toList)) (arV (opN op.data.toList) (numV k1 n1 s1.data.toList) (numV k2 n2 s2.data.toList)) = D ∧ arE (opN op.data.toList) (numV k1 n1 s1.data.toList) (numV k2 n2 s2.data.toList) = E)) :
    Calls Tryd.prog 21 #[.string op, vval k1 n1 s1, vval k2 n2 s2] w fun e w' => e = .returned (.tuple #[vval K D ⟨#[]⟩, .int .i64 E]) ∧ Below w.heap.size w w' := by
  have := rarith_any op k1 n1 k2 n2 s1 s2 w hs1 hs2
  rw [h.out.1, h.out.2.1, h.out.2.2] at this; exact this
set_option maxHeartbeats 4000000 in
theorem law_computes (op : ByteArray) (k1 n1 k2 n2 : Int) (s1 s2 : ByteArray) (w : World) (ht : Tab w) (hs1 : s1.size ≤ 9223372036854775807) (hs2 : s2.size ≤ 9223372036854775807) :
    Calls Tryd.prog 5 #[.string op, vval k1 n1 s1, vval k2 n2 s2] w fun e w' => e = .returned (.bool true) ∧ Below w.heap.size w w' := by
  have T := Lib.hid ht; clear ht
  have S1 := Lib.hid hs1; clear hs1
  have S2 := Lib.hid hs2; clear hs2
  obtain ⟨K, D, E, h⟩ : ∃ K D E, rsK (arE (opN op.data.toList) (numV k1 n1 s1.data.toList) (numV k2 n2 s2.data.toList)) = K ∧ rsD (arE (opN op.data.toList) (numV k1 n1 s1.data.toList) (numV k2 n2 s2.data.toList)) (arV (opN op.data.toList) (numV k1 n1 s1.data.toList) (numV k2 n2 s2.data.toList)) = D ∧ arE (opN op.data.toList) (numV k1 n1 s1.data.toList) (numV k2 n2 s2.data.toList) = E := ⟨_, _, _, rfl, rfl, rfl⟩
  have HH := Lib.hid h; clear h
  go_enter Tryd.func5, Tryd.ntmps5
  go_wp2_with (first
    | (go_at_call 20; refine (arith_is op k1 n1 k2 n2 K D E s1 s2 _ S1.out S2.out HH).mono ?_; rintro e w1 ⟨rfl, hb1⟩; have B1 := hb1.alloc hb1.size (.cells #[.int .i64 K, .int .i64 D, .string ⟨#[]⟩] 24); obtain ⟨a0, a1, a2, b0, b1, b2⟩ := par2 B1)
    | (go_at_call 21; refine (rarith_is op k1 n1 k2 n2 K D E s1 s2 _ S1.out S2.out HH).mono ?_; rintro e w2 ⟨rfl, hb2⟩; have B2 := hb2.alloc hb2.size (.cells #[.int .i64 K, .int .i64 D, .string ⟨#[]⟩] 24); obtain ⟨-, -, -, c0, c1, c2⟩ := own_cells B2)
    | (go_at_call 15; refine (vawake_any _ (tab_below (tab_alloc (tab_alloc T.out)) (hb1.trans ((below_step B2).mono hb1.size)))).mono ?_; rintro e w3 ⟨rfl, hb3⟩))
  go_ret
  exact ⟨rfl, below_step (below_step (hb1.trans ((below_step (B2.trans (hb3.mono B2.size))).mono hb1.size)))⟩
end Go.Proofs.YtjngkapfngempaaDoor
