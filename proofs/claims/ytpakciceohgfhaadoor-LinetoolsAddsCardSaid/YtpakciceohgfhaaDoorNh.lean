/- walks: the reference's Head, Tail, From; awake -/
import Derived.Test.YtpakciceohgfhaaDoorNg
namespace Go.Proofs.YtpakciceohgfhaaDoor
open Go.RowKit
open Tx
theorem rj_is (v : Value) (L : List ByteArray) (f t : Int) (F T : Nat) (w : World) (hS : Strs w v L) (hL : fullB L ≤ 601) (ht : t ≤ 1000) (hF : f.toNat = F) (hT : min t.toNat L.length = T) :
    Calls Tryd.prog 24 #[v, .int .i64 f, .int .i64 t] w fun e w' => e = .returned (.string ⟨(jfl (L.map (·.data.toList)) F T).toArray⟩) ∧ w = w' := by
  subst hF; subst hT
  exact rjoined_any v L f t w hS hL ht
theorem jfl_head {L : List ByteArray} {l : List UInt8} (h : L.map (·.data.toList) = lnk l) (n : Int) : jfl (L.map (·.data.toList)) 0 (hdK n L.length) = headL l n := by
  rw [head_eq h]; rfl
theorem jfl_tail {L : List ByteArray} {l : List UInt8} (h : L.map (·.data.toList) = lnk l) (n : Int) : jfl (L.map (·.data.toList)) (L.length - hdK n L.length) L.length = tailL l n := by
  rw [tail_eq h]; unfold jfl; rw [List.take_of_length_le (by rw [List.length_map]; exact Nat.le_refl _)]
theorem jfl_from {L : List ByteArray} {l : List UInt8} (h : L.map (·.data.toList) = lnk l) (n : Int) : jfl (L.map (·.data.toList)) (frK n L.length) L.length = fromL l n := by
  rw [from_eq h]; unfold jfl; rw [List.take_of_length_le (by rw [List.length_map]; exact Nat.le_refl _)]
set_option maxHeartbeats 1000000 in
theorem rhead_any (s : ByteArray) (n : Int) (w : World) (hs : s.size ≤ 300) :
    Calls Tryd.prog 10 #[.string s, .int .i64 n] w fun e w' => e = .returned (.string ⟨(headL s.data.toList n).toArray⟩) ∧ Below w.heap.size w w' := by
  have RL := Lib.hid (rlnk_any s w hs)
  have HS : Hid (s.data.toList.length ≤ 300) := Lib.hid (by rw [← size_len]; exact hs)
  clear hs
  by_cases hn : n < 0
  all_goals go_enter Tryd.func10, Tryd.ntmps10
  all_goals go_wp2_with (first
    | (go_at_call 22; refine RL.out.mono ?_; rintro e w1 ⟨v, L, rfl, hL, hO, hb1⟩; obtain ⟨a, cap, rfl, _⟩ := hO.strs; have O1 := Lib.hid hO.strs; have LF := Lib.hid (lnk_full hL HS.out); have LN := LF.out.2; have HL := Lib.hid hL; clear hO hL)
    | (go_at_call 23; refine (bounded_any n _ _ (by omega) (by omega)).mono ?_; rintro e w2 ⟨rfl, rfl⟩)
    | (go_at_call 24; refine (rj_is _ L _ _ 0 (hdK n L.length) _ O1.out LF.out.1 (by omega) (by omega) (by unfold hdK; split <;> omega)).mono ?_; rintro e w3 ⟨rfl, rfl⟩))
  all_goals go_ret
  all_goals exact ⟨by rw [jfl_head HL.out]; rfl, hb1⟩
set_option maxHeartbeats 1000000 in
theorem rtail_any (s : ByteArray) (n : Int) (w : World) (hs : s.size ≤ 300) :
    Calls Tryd.prog 12 #[.string s, .int .i64 n] w fun e w' => e = .returned (.string ⟨(tailL s.data.toList n).toArray⟩) ∧ Below w.heap.size w w' := by
  have RL := Lib.hid (rlnk_any s w hs)
  have HS : Hid (s.data.toList.length ≤ 300) := Lib.hid (by rw [← size_len]; exact hs)
  clear hs
  by_cases hn : n < 0
  all_goals go_enter Tryd.func12, Tryd.ntmps12
  all_goals go_wp2_with (first
    | (go_at_call 22; refine RL.out.mono ?_; rintro e w1 ⟨v, L, rfl, hL, hO, hb1⟩; obtain ⟨a, cap, rfl, _⟩ := hO.strs; have O1 := Lib.hid hO.strs; have LF := Lib.hid (lnk_full hL HS.out); have LN := LF.out.2; have HL := Lib.hid hL; clear hO hL)
    | (go_at_call 23; refine (bounded_any n _ _ (by omega) (by omega)).mono ?_; rintro e w2 ⟨rfl, rfl⟩)
    | (go_at_call 24; refine (rj_is _ L _ _ (L.length - hdK n L.length) L.length _ O1.out LF.out.1 (by omega) (by unfold hdK; split <;> omega) (by omega)).mono ?_; rintro e w3 ⟨rfl, rfl⟩))
  all_goals go_ret
  all_goals exact ⟨by rw [jfl_tail HL.out]; rfl, hb1⟩
set_option maxHeartbeats 1000000 in
theorem rfrom_any (s : ByteArray) (n : Int) (w : World) (hs : s.size ≤ 300) :
    Calls Tryd.prog 14 #[.string s, .int .i64 n] w fun e w' => e = .returned (.string ⟨(fromL s.data.toList n).toArray⟩) ∧ Below w.heap.size w w' := by
  have RL := Lib.hid (rlnk_any s w hs)
  have HS : Hid (s.data.toList.length ≤ 300) := Lib.hid (by rw [← size_len]; exact hs)
  clear hs
  go_enter Tryd.func14, Tryd.ntmps14
  go_wp2_with (first
    | (go_at_call 22; refine RL.out.mono ?_; rintro e w1 ⟨v, L, rfl, hL, hO, hb1⟩; obtain ⟨a, cap, rfl, _⟩ := hO.strs; have O1 := Lib.hid hO.strs; have LF := Lib.hid (lnk_full hL HS.out); have LN := LF.out.2; have HL := Lib.hid hL; clear hO hL)
    | (go_at_call 23; refine (bounded_any n _ _ (by omega) (by omega)).mono ?_; rintro e w2 ⟨rfl, rfl⟩)
    | (go_at_call 24; refine (rj_is _ L _ _ (frK n L.length) L.length _ O1.out LF.out.1 (by omega) (by unfold frK; omega) (by omega)).mono ?_; rintro e w3 ⟨rfl, rfl⟩))
  all_goals go_ret
  all_goals exact ⟨by rw [jfl_from HL.out]; rfl, hb1⟩
theorem aw1 : headL [97, 10, 98, 10, 99] (-1) = [97, 10, 98, 10] := by decide +kernel
theorem aw2 : tailL [97, 10, 98, 10, 99] 1 = [99] := by decide +kernel
theorem aw3 : fromL [97, 10, 98, 10, 99] 3 = [99] := by decide +kernel
theorem aw4 : (wrds [97, 10, 98, 10, 99]).length = 3 := by decide +kernel
theorem aw5 : numb (lnk [97, 10, 98, 10, 99]) 9 = [57, 9, 97, 10, 49, 48, 9, 98, 10, 49, 49, 9, 99] := by decide +kernel
end Go.Proofs.YtpakciceohgfhaaDoor
