/- walks: Head, Tail, From of the program -/
import Derived.Test.YtpakciceohgfhaaDoorNa
namespace Go.Proofs.YtpakciceohgfhaaDoor
open Go.RowKit
open Tx
theorem jn0_is (a : Option Addr) (k c : Nat) (w : World) (hk : k = 0) : Calls Tryd.prog 21 #[.slice a k c, .string ⟨#[]⟩] w fun e w' => e = .returned (.string ⟨#[]⟩) ∧ w = w' := by
  subst hk
  exact (Tryd.strings_Join_none a c ⟨#[]⟩ w).mono fun _ _ ⟨h, h'⟩ => ⟨h, h'.symm⟩
theorem head_eq {L : List ByteArray} {l : List UInt8} (h : L.map (·.data.toList) = lnk l) (n : Int) : headL l n = ((L.map (·.data.toList)).take (hdK n L.length)).flatten := by
  unfold headL; rw [h, ← h, List.length_map]
theorem tail_eq {L : List ByteArray} {l : List UInt8} (h : L.map (·.data.toList) = lnk l) (n : Int) : tailL l n = ((L.map (·.data.toList)).drop (L.length - hdK n L.length)).flatten := by
  unfold tailL; rw [h, ← h, List.length_map]
theorem from_eq {L : List ByteArray} {l : List UInt8} (h : L.map (·.data.toList) = lnk l) (n : Int) : fromL l n = ((L.map (·.data.toList)).drop (frK n L.length)).flatten := by
  unfold fromL; rw [h, ← h, List.length_map]
theorem fullB_take (L : List ByteArray) (k : Nat) : fullB (L.take k) ≤ fullB L := by
  rcases Nat.lt_or_ge k L.length with h | h
  · have := fullB_le L k L.length (by omega); rw [List.take_length] at this; exact this
  · rw [List.take_of_length_le h]; exact Nat.le_refl _
theorem jtake_is (g cap K D : Nat) (L : List ByteArray) (t : ByteArray) (w : World) (hD : D = K) (hK : K ≤ L.length) (ht : t = ⟨((L.map (·.data.toList)).take K).flatten.toArray⟩) (hl : L.length ≤ cap) (hg : g < w.heap.size) (hc : ∀ (j : Nat) x, L[j]? = some x → w.cell? ⟨g, j, none⟩ = some (.string x)) (hs : fullB L ≤ 601) :
    Calls Tryd.prog 21 #[.slice (some ⟨g, 0, none⟩) D cap, .string ⟨#[]⟩] w fun e w' => e = .returned (.string t) ∧ Below w.heap.size w w' := by
  subst hD
  refine jn_is g 0 cap D (L.take D) t w (by rw [List.length_take]; omega) (by rw [ht, List.map_take]) hg (by omega) (fun j x hj => ?_) (by have := fullB_take L D; omega)
  rw [Nat.zero_add]
  rw [List.getElem?_take] at hj
  split at hj
  · exact hc j x hj
  · cases hj
theorem jdrop_is (g cap K D : Nat) (L : List ByteArray) (t : ByteArray) (w : World) (hD : D = K) (hK : K ≤ L.length) (ht : t = ⟨((L.map (·.data.toList)).drop K).flatten.toArray⟩) (hl : L.length ≤ cap) (hg : g < w.heap.size) (hc : ∀ (j : Nat) x, L[j]? = some x → w.cell? ⟨g, j, none⟩ = some (.string x)) (hs : fullB L ≤ 601) :
    Calls Tryd.prog 21 #[.slice (if cap = D then some ⟨g, 0, none⟩ else some ⟨g, D, none⟩) (L.length - D) (cap - D), .string ⟨#[]⟩] w fun e w' => e = .returned (.string t) ∧ Below w.heap.size w w' := by
  subst hD
  by_cases h : cap = D
  · rw [if_pos h]
    have e : L.length - D = 0 := by omega
    have e2 : t = ⟨#[]⟩ := by
      rw [ht, List.drop_of_length_le (by rw [List.length_map]; omega)]; rfl
    rw [e2]
    exact (jn0_is _ _ _ w e).mono fun _ _ ⟨h, h'⟩ => ⟨h, by rw [h']; exact Below.refl _ _⟩
  · rw [if_neg h]
    refine jn_is g D (cap - D) (L.length - D) (L.drop D) t w (by rw [List.length_drop]) (by rw [ht, List.map_drop]) hg (by omega) (fun j x hj => ?_) (by have := fullB_drop L D; omega)
    rw [List.getElem?_drop] at hj
    exact hc _ x hj
set_option maxHeartbeats 1000000 in
theorem head_any (s : ByteArray) (n m : Int) (w : World) (hm : w.cell? ⟨0, 0, none⟩ = some (.int .i64 m)) (hs : s.size ≤ 300) :
    Calls Tryd.prog 9 #[.string s, .int .i64 n] w fun e w' => e = .returned (.string ⟨(headL s.data.toList n).toArray⟩) ∧ Below w.heap.size w w' := by
  have LN := Lib.hid (lnk_any s m w hm hs)
  have hs' : s.data.toList.length ≤ 300 := by rw [← size_len]; exact hs
  have HS := Lib.hid hs'
  have ND : Hid (hdK n 0 = 0) := Lib.hid (by unfold hdK; split <;> omega)
  clear hm hs hs'
  by_cases hn : n < 0
  · go_enter Tryd.func9, Tryd.ntmps9
    go_wp2_with (first
      | (go_at_call 20; refine LN.out.mono ?_; rintro e w1 ⟨v, L, rfl, hL, hV, hb1⟩; have HL := Lib.hid hL; have LF := Lib.hid (lnk_full hL HS.out); clear hL; have LF2 := LF.out.2; rcases hV with ⟨rfl, rfl⟩ | ⟨g, cap, rfl, hl, hc1, hne, hg, hc, _⟩)
      | (go_at_call 21; first
          | (refine (jn0_is _ _ _ _ (by omega)).mono ?_; rintro e w2 ⟨rfl, rfl⟩)
          | (refine (jtake_is g cap (hdK n L.length) _ L _ _ (by unfold hdK; split <;> omega) (by unfold hdK; split <;> omega) rfl hl hg hc LF.out.1).mono ?_; rintro e w2 ⟨rfl, hb2⟩)))
    · go_ret
      exact ⟨by rw [head_eq HL.out, List.map_nil, List.take_nil]; rfl, hb1⟩
    · go_ret
      exact ⟨by rw [head_eq HL.out]; rfl, hb1.trans (hb2.mono hb1.size)⟩
  · go_enter Tryd.func9, Tryd.ntmps9
    go_wp2_with (first
      | (go_at_call 20; refine LN.out.mono ?_; rintro e w1 ⟨v, L, rfl, hL, hV, hb1⟩; have HL := Lib.hid hL; have LF := Lib.hid (lnk_full hL HS.out); clear hL; have LF2 := LF.out.2; rcases hV with ⟨rfl, rfl⟩ | ⟨g, cap, rfl, hl, hc1, hne, hg, hc, _⟩)
      | (go_at_call 21; first
          | (refine (jn0_is _ _ _ _ (by omega)).mono ?_; rintro e w2 ⟨rfl, rfl⟩)
          | (refine (jtake_is g cap (hdK n L.length) _ L _ _ (by unfold hdK; split <;> omega) (by unfold hdK; split <;> omega) rfl hl hg hc LF.out.1).mono ?_; rintro e w2 ⟨rfl, hb2⟩)))
    · go_ret
      exact ⟨by rw [head_eq HL.out, List.map_nil, List.take_nil]; rfl, hb1⟩
    · go_ret
      exact ⟨by rw [head_eq HL.out]; rfl, hb1.trans (hb2.mono hb1.size)⟩
set_option maxHeartbeats 1000000 in
theorem tail_any (s : ByteArray) (n m : Int) (w : World) (hm : w.cell? ⟨0, 0, none⟩ = some (.int .i64 m)) (hs : s.size ≤ 300) :
    Calls Tryd.prog 11 #[.string s, .int .i64 n] w fun e w' => e = .returned (.string ⟨(tailL s.data.toList n).toArray⟩) ∧ Below w.heap.size w w' := by
  have LN := Lib.hid (lnk_any s m w hm hs)
  have hs' : s.data.toList.length ≤ 300 := by rw [← size_len]; exact hs
  have HS := Lib.hid hs'
  clear hm hs hs'
  by_cases hn : n < 0
  · go_enter Tryd.func11, Tryd.ntmps11
    go_wp2_with (first
      | (go_at_call 20; refine LN.out.mono ?_; rintro e w1 ⟨v, L, rfl, hL, hV, hb1⟩; have HL := Lib.hid hL; have LF := Lib.hid (lnk_full hL HS.out); clear hL; have LF2 := LF.out.2; rcases hV with ⟨rfl, rfl⟩ | ⟨g, cap, rfl, hl, hc1, hne, hg, hc, _⟩)
      | (go_at_call 21; first
          | (refine (jn0_is _ _ _ _ (by omega)).mono ?_; rintro e w2 ⟨rfl, rfl⟩)
          | (refine (jdrop_is g cap (L.length - hdK n L.length) _ L _ _ (by unfold hdK; split <;> omega) (by unfold hdK; split <;> omega) rfl hl hg hc LF.out.1).mono ?_; rintro e w2 ⟨rfl, hb2⟩)))
    · go_ret
      exact ⟨by rw [tail_eq HL.out, List.map_nil, List.drop_nil]; rfl, hb1⟩
    all_goals go_ret
    all_goals exact ⟨by rw [tail_eq HL.out]; rfl, hb1.trans (hb2.mono hb1.size)⟩
  · go_enter Tryd.func11, Tryd.ntmps11
    go_wp2_with (first
      | (go_at_call 20; refine LN.out.mono ?_; rintro e w1 ⟨v, L, rfl, hL, hV, hb1⟩; have HL := Lib.hid hL; have LF := Lib.hid (lnk_full hL HS.out); clear hL; have LF2 := LF.out.2; rcases hV with ⟨rfl, rfl⟩ | ⟨g, cap, rfl, hl, hc1, hne, hg, hc, _⟩)
      | (go_at_call 21; first
          | (refine (jn0_is _ _ _ _ (by omega)).mono ?_; rintro e w2 ⟨rfl, rfl⟩)
          | (refine (jdrop_is g cap (L.length - hdK n L.length) _ L _ _ (by unfold hdK; split <;> omega) (by unfold hdK; split <;> omega) rfl hl hg hc LF.out.1).mono ?_; rintro e w2 ⟨rfl, hb2⟩)))
    · go_ret
      exact ⟨by rw [tail_eq HL.out, List.map_nil, List.drop_nil]; rfl, hb1⟩
    all_goals go_ret
    all_goals exact ⟨by rw [tail_eq HL.out]; rfl, hb1.trans (hb2.mono hb1.size)⟩
set_option maxHeartbeats 1000000 in
theorem from_any (s : ByteArray) (n m : Int) (w : World) (hm : w.cell? ⟨0, 0, none⟩ = some (.int .i64 m)) (hs : s.size ≤ 300) (hn : n ≤ 9223372036854775807) :
    Calls Tryd.prog 13 #[.string s, .int .i64 n] w fun e w' => e = .returned (.string ⟨(fromL s.data.toList n).toArray⟩) ∧ Below w.heap.size w w' := by
  have LN := Lib.hid (lnk_any s m w hm hs)
  have hs' : s.data.toList.length ≤ 300 := by rw [← size_len]; exact hs
  have HS := Lib.hid hs'
  clear hm hs hs'
  go_enter Tryd.func13, Tryd.ntmps13
  go_wp2_with (first
      | (go_at_call 20; refine LN.out.mono ?_; rintro e w1 ⟨v, L, rfl, hL, hV, hb1⟩; have HL := Lib.hid hL; have LF := Lib.hid (lnk_full hL HS.out); clear hL; have LF2 := LF.out.2; rcases hV with ⟨rfl, rfl⟩ | ⟨g, cap, rfl, hl, hc1, hne, hg, hc, _⟩)
      | (go_at_call 21; first
          | (refine (jn0_is _ _ _ _ (by omega)).mono ?_; rintro e w2 ⟨rfl, rfl⟩)
          | (refine (jdrop_is g cap (frK n L.length) _ L _ _ (by unfold frK; omega) (by unfold frK; omega) rfl hl hg hc LF.out.1).mono ?_; rintro e w2 ⟨rfl, hb2⟩)))
  · go_ret
    exact ⟨by rw [from_eq HL.out, List.map_nil, List.drop_nil]; rfl, hb1⟩
  all_goals go_ret
  all_goals exact ⟨by rw [from_eq HL.out]; rfl, hb1.trans (hb2.mono hb1.size)⟩
end Go.Proofs.YtpakciceohgfhaaDoor
