/- walks: awake; the laws on parts, counts, numbers -/
import Derived.Test.YtpakciceohgfhaaDoorNh
namespace Go.Proofs.YtpakciceohgfhaaDoor
open Go.RowKit
open Tx
structure Env (m : Int) (w : World) : Prop where
  c : w.cell? ⟨0, 0, none⟩ = some (.int .i64 m)
  t : Tab w
theorem Env.below {m : Int} {w w' : World} (h : Env m w) (hb : Below w.heap.size w w') : Env m w' := ⟨max_below h.c hb, tab_below h.t hb⟩
theorem head_is (s t : ByteArray) (n m : Int) (w : World) (E : Env m w) (hs : s.size ≤ 300) (ht : t = ⟨(headL s.data.toList n).toArray⟩) :
    Calls Tryd.prog 9 #[.string s, .int .i64 n] w fun e w' => e = .returned (.string t) ∧ Below w.heap.size w w' := by rw [ht]; exact head_any s n m w E.c hs
theorem tail_is (s t : ByteArray) (n m : Int) (w : World) (E : Env m w) (hs : s.size ≤ 300) (ht : t = ⟨(tailL s.data.toList n).toArray⟩) :
    Calls Tryd.prog 11 #[.string s, .int .i64 n] w fun e w' => e = .returned (.string t) ∧ Below w.heap.size w w' := by rw [ht]; exact tail_any s n m w E.c hs
theorem from_is (s t : ByteArray) (n m : Int) (w : World) (E : Env m w) (hs : s.size ≤ 300) (hn : n ≤ 9223372036854775807) (ht : t = ⟨(fromL s.data.toList n).toArray⟩) :
    Calls Tryd.prog 13 #[.string s, .int .i64 n] w fun e w' => e = .returned (.string t) ∧ Below w.heap.size w w' := by rw [ht]; exact from_any s n m w E.c hs hn
theorem number_is (s t : ByteArray) (n m : Int) (w : World) (E : Env m w) (hs : s.size ≤ 300) (h0 : -9223372036854775808 ≤ n ∧ n ≤ 9223372036854775807) (ht : t = ⟨(numb (lnk s.data.toList) n).toArray⟩) :
    Calls Tryd.prog 17 #[.string s, .int .i64 n] w fun e w' => e = .returned (.string t) ∧ Below w.heap.size w w' := by rw [ht]; exact number_any s n m w E.c E.t hs h0.1 h0.2
theorem rhead_is (s t : ByteArray) (n : Int) (w : World) (hs : s.size ≤ 300) (ht : t = ⟨(headL s.data.toList n).toArray⟩) :
    Calls Tryd.prog 10 #[.string s, .int .i64 n] w fun e w' => e = .returned (.string t) ∧ Below w.heap.size w w' := by rw [ht]; exact rhead_any s n w hs
theorem rtail_is (s t : ByteArray) (n : Int) (w : World) (hs : s.size ≤ 300) (ht : t = ⟨(tailL s.data.toList n).toArray⟩) :
    Calls Tryd.prog 12 #[.string s, .int .i64 n] w fun e w' => e = .returned (.string t) ∧ Below w.heap.size w w' := by rw [ht]; exact rtail_any s n w hs
theorem rfrom_is (s t : ByteArray) (n : Int) (w : World) (hs : s.size ≤ 300) (ht : t = ⟨(fromL s.data.toList n).toArray⟩) :
    Calls Tryd.prog 14 #[.string s, .int .i64 n] w fun e w' => e = .returned (.string t) ∧ Below w.heap.size w w' := by rw [ht]; exact rfrom_any s n w hs
theorem rnumber_is (s t : ByteArray) (n : Int) (w : World) (hs : s.size ≤ 300) (h0 : -9223372036854775808 ≤ n ∧ n ≤ 9223372036854775807) (ht : t = ⟨(numb (lnk s.data.toList) n).toArray⟩) :
    Calls Tryd.prog 18 #[.string s, .int .i64 n] w fun e w' => e = .returned (.string t) ∧ Below w.heap.size w w' := by rw [ht]; exact rnumber_any s n w hs h0.1 h0.2
theorem count_is2 (s : ByteArray) (a b : Nat) (w : World) (hs : s.size ≤ 1048576) (ha : s.data.toList.count 10 = a) (hb : (wrds s.data.toList).length = b) :
    Calls Tryd.prog 15 #[.string s] w fun e w' => e = .returned (.tuple #[.int .i64 (a : Int), .int .i64 (b : Int), .int .i64 (s.size : Int)]) ∧ Below w.heap.size w w' := by rw [← ha, ← hb]; exact count_any s w hs
theorem rcount_is2 (s : ByteArray) (a b : Nat) (w : World) (hs : s.size ≤ 1048576) (ha : s.data.toList.count 10 = a) (hb : (wrds s.data.toList).length = b) :
    Calls Tryd.prog 16 #[.string s] w fun e w' => e = .returned (.tuple #[.int .i64 (a : Int), .int .i64 (b : Int), .int .i64 (s.size : Int)]) ∧ Below w.heap.size w w' := by rw [← ha, ← hb]; exact rcount_any s w hs
theorem count_lit (w : World) : Calls Tryd.prog 15 #[.string ⟨#[97, 10, 98, 10, 99]⟩] w fun e w' => e = .returned (.tuple #[.int .i64 2, .int .i64 3, .int .i64 5]) ∧ Below w.heap.size w w' :=
  count_is2 ⟨#[97, 10, 98, 10, 99]⟩ 2 3 w (by show 5 ≤ 1048576; omega) (by decide +kernel) aw4
set_option maxHeartbeats 1000000 in
theorem awake31 (m : Int) (w : World) (E : Hid (Env m w)) :
    Calls Tryd.prog 8 #[] w fun e w' => e = .returned (.bool true) ∧ Below w.heap.size w w' := by
  go_enter Tryd.func8, Tryd.ntmps8
  go_wp2_with (first
    | (go_at_call 15; refine (count_lit _).mono ?_; rintro e w1 ⟨rfl, hb1⟩; have E1 := E.out.below hb1)
    | (go_at_call 9; refine (head_is ⟨#[97, 10, 98, 10, 99]⟩ ⟨#[97, 10, 98, 10]⟩ (-1) m _ E1 (by show 5 ≤ 300; omega) (congrArg (fun l => ByteArray.mk (List.toArray l)) aw1.symm)).mono ?_; rintro e w2 ⟨rfl, hb2⟩; have E2 := E1.below hb2)
    | (go_at_call 11; refine (tail_is ⟨#[97, 10, 98, 10, 99]⟩ ⟨#[99]⟩ 1 m _ E2 (by show 5 ≤ 300; omega) (congrArg (fun l => ByteArray.mk (List.toArray l)) aw2.symm)).mono ?_; rintro e w3 ⟨rfl, hb3⟩; have E3 := E2.below hb3)
    | (go_at_call 13; refine (from_is ⟨#[97, 10, 98, 10, 99]⟩ ⟨#[99]⟩ 3 m _ E3 (by show 5 ≤ 300; omega) (by omega) (congrArg (fun l => ByteArray.mk (List.toArray l)) aw3.symm)).mono ?_; rintro e w4 ⟨rfl, hb4⟩; have E4 := E3.below hb4)
    | (go_at_call 17; refine (number_is ⟨#[97, 10, 98, 10, 99]⟩ ⟨#[57, 9, 97, 10, 49, 48, 9, 98, 10, 49, 49, 9, 99]⟩ 9 m _ E4 (by show 5 ≤ 300; omega) (by omega) (congrArg (fun l => ByteArray.mk (List.toArray l)) aw5.symm)).mono ?_; rintro e w5 ⟨rfl, hb5⟩))
  go_ret
  exact ⟨rfl, hb1.trans ((hb2.trans ((hb3.trans ((hb4.trans (hb5.mono hb4.size)).mono hb3.size)).mono hb2.size)).mono hb1.size)⟩
set_option maxHeartbeats 1000000 in
theorem law_parts (s : ByteArray) (n m : Int) (w : World) (hE : Env m w) (hn : n ≤ 9223372036854775807) :
    Calls Tryd.prog 3 #[.string s, .int .i64 n] w fun e w' => e = .returned (.bool true) ∧ Below w.heap.size w w' := by
  have E := Lib.hid hE; clear hE
  have HN := Lib.hid hn; clear hn
  by_cases hs : s.size ≤ 300
  · obtain ⟨t1, h1⟩ : ∃ t : ByteArray, t = ⟨(headL s.data.toList n).toArray⟩ := ⟨_, rfl⟩
    obtain ⟨t2, h2⟩ : ∃ t : ByteArray, t = ⟨(tailL s.data.toList n).toArray⟩ := ⟨_, rfl⟩
    obtain ⟨t3, h3⟩ : ∃ t : ByteArray, t = ⟨(fromL s.data.toList n).toArray⟩ := ⟨_, rfl⟩
    have H1 := Lib.hid h1
    have H2 := Lib.hid h2
    have H3 := Lib.hid h3
    have HS := Lib.hid hs
    clear h1 h2 h3
    go_enter Tryd.func3, Tryd.ntmps3
    go_wp2_with (first
      | (go_at_call 9; refine (head_is s t1 n m _ E.out HS.out H1.out).mono ?_; rintro e w1 ⟨rfl, hb1⟩)
      | (go_at_call 10; refine (rhead_is s t1 n _ HS.out H1.out).mono ?_; rintro e w2 ⟨rfl, hb2⟩; have B2 := Lib.hid (hb1.trans (hb2.mono hb1.size)))
      | (go_at_call 11; refine (tail_is s t2 n m _ (E.out.below B2.out) HS.out H2.out).mono ?_; rintro e w3 ⟨rfl, hb3⟩; have B3 := Lib.hid (B2.out.trans (hb3.mono B2.out.size)))
      | (go_at_call 12; refine (rtail_is s t2 n _ HS.out H2.out).mono ?_; rintro e w4 ⟨rfl, hb4⟩; have B4 := Lib.hid (B3.out.trans (hb4.mono B3.out.size)))
      | (go_at_call 13; refine (from_is s t3 n m _ (E.out.below B4.out) HS.out HN.out H3.out).mono ?_; rintro e w5 ⟨rfl, hb5⟩; have B5 := Lib.hid (B4.out.trans (hb5.mono B4.out.size)))
      | (go_at_call 14; refine (rfrom_is s t3 n _ HS.out H3.out).mono ?_; rintro e w6 ⟨rfl, hb6⟩; have B6 := Lib.hid (B5.out.trans (hb6.mono B5.out.size)))
      | (go_at_call 8; refine (awake31 m _ (Lib.hid (E.out.below B6.out))).mono ?_; rintro e w7 ⟨rfl, hb7⟩))
    go_ret
    exact ⟨rfl, B6.out.trans (hb7.mono B6.out.size)⟩
  · go_enter Tryd.func3, Tryd.ntmps3
    go_wp2_with (go_at_call 8; refine (awake31 m _ E).mono ?_; rintro e w7 ⟨rfl, hb7⟩)
    go_ret
    exact ⟨rfl, hb7⟩
set_option maxHeartbeats 1000000 in
theorem law_lcounts (s : ByteArray) (m : Int) (w : World) (hE : Env m w) :
    Calls Tryd.prog 4 #[.string s] w fun e w' => e = .returned (.bool true) ∧ Below w.heap.size w w' := by
  have E := Lib.hid hE; clear hE
  by_cases hs : s.size ≤ 300
  · obtain ⟨a, ha⟩ : ∃ a, s.data.toList.count 10 = a := ⟨_, rfl⟩
    obtain ⟨b, hb⟩ : ∃ b, (wrds s.data.toList).length = b := ⟨_, rfl⟩
    have HA := Lib.hid ha
    have HB := Lib.hid hb
    have HS : Hid (s.size ≤ 1048576) := Lib.hid (by omega)
    clear ha hb
    go_enter Tryd.func4, Tryd.ntmps4
    go_wp2_with (first
      | (go_at_call 15; refine (count_is2 s a b _ HS.out HA.out HB.out).mono ?_; rintro e w1 ⟨rfl, hb1⟩)
      | (go_at_call 16; refine (rcount_is2 s a b _ HS.out HA.out HB.out).mono ?_; rintro e w2 ⟨rfl, hb2⟩; have B2 := Lib.hid (hb1.trans (hb2.mono hb1.size)))
      | (go_at_call 8; refine (awake31 m _ (Lib.hid (E.out.below B2.out))).mono ?_; rintro e w7 ⟨rfl, hb7⟩))
    go_ret
    exact ⟨rfl, B2.out.trans (hb7.mono B2.out.size)⟩
  · go_enter Tryd.func4, Tryd.ntmps4
    go_wp2_with (go_at_call 8; refine (awake31 m _ E).mono ?_; rintro e w7 ⟨rfl, hb7⟩)
    go_ret
    exact ⟨rfl, hb7⟩
set_option maxHeartbeats 1000000 in
theorem law_numbers (s : ByteArray) (n m : Int) (w : World) (hE : Env m w) (hn : -9223372036854775808 ≤ n ∧ n ≤ 9223372036854775807) :
    Calls Tryd.prog 5 #[.string s, .int .i64 n] w fun e w' => e = .returned (.bool true) ∧ Below w.heap.size w w' := by
  have E := Lib.hid hE; clear hE
  have HN := Lib.hid hn; clear hn
  by_cases hs : s.size ≤ 300
  · obtain ⟨t1, h1⟩ : ∃ t : ByteArray, t = ⟨(numb (lnk s.data.toList) n).toArray⟩ := ⟨_, rfl⟩
    have H1 := Lib.hid h1
    have HS := Lib.hid hs
    clear h1
    go_enter Tryd.func5, Tryd.ntmps5
    go_wp2_with (first
      | (go_at_call 17; refine (number_is s t1 n m _ E.out HS.out HN.out H1.out).mono ?_; rintro e w1 ⟨rfl, hb1⟩)
      | (go_at_call 18; refine (rnumber_is s t1 n _ HS.out HN.out H1.out).mono ?_; rintro e w2 ⟨rfl, hb2⟩; have B2 := Lib.hid (hb1.trans (hb2.mono hb1.size)))
      | (go_at_call 8; refine (awake31 m _ (Lib.hid (E.out.below B2.out))).mono ?_; rintro e w7 ⟨rfl, hb7⟩))
    go_ret
    exact ⟨rfl, B2.out.trans (hb7.mono B2.out.size)⟩
  · go_enter Tryd.func5, Tryd.ntmps5
    go_wp2_with (go_at_call 8; refine (awake31 m _ E).mono ?_; rintro e w7 ⟨rfl, hb7⟩)
    go_ret
    exact ⟨rfl, hb7⟩
end Go.Proofs.YtpakciceohgfhaaDoor
