/- walks: the law on Lines and Words -/
import Derived.Test.YtnbellffbbaamaaDoorWb
import Derived.Test.YtnbellffbbaamaaDoorJb
namespace Go.Proofs.YtnbellffbbaamaaDoor
open Go.RowKit
open Tx
theorem rlines_is (s : ByteArray) (e0 : Bool) (w : World) (hs : s.size ≤ 1048576) (he : linE s.data.toList = e0) :
    Calls Tryd.prog 22 #[.string s] w fun e w' => ∃ v L, e = .returned (.tuple #[v, .bool e0]) ∧ L.map (·.data.toList) = lin s.data.toList ∧ OwnS w' w.heap.size v L ∧ Below w.heap.size w w' := by
  rw [← he]; exact rlines_any s w hs
set_option maxHeartbeats 2000000 in
theorem law_lines (s : ByteArray) (m : Int) (w : World) (hm : w.cell? ⟨0, 0, none⟩ = some (.int .i64 m)) (hs : s.size ≤ 1048576) :
    Calls Tryd.prog 8 #[.string s] w fun e w' => e = .returned (.bool true) ∧ Below w.heap.size w w' := by
  have H := Lib.hid hm; clear hm
  have S := Lib.hid hs; clear hs
  obtain ⟨b1, hb1⟩ : ∃ b, linE s.data.toList = b := ⟨_, rfl⟩
  have E1 := Lib.hid hb1; clear hb1
  go_enter Tryd.func8, Tryd.ntmps8
  go_wp2_with (first
    | (go_at_call 14; refine (lines_is s b1 m _ H.out S.out E1.out).mono ?_; rintro e w1 ⟨v1, L1, rfl, hl1, hs1, hb1⟩)
    | (go_at_call 22; refine (rlines_is s b1 _ S.out E1.out).mono ?_; rintro e w2 ⟨v2, L2, rfl, hl2, hs2, hb2⟩)
    | (go_at_call 16; (first
        | (with_reducible refine (same_yes v1 v2 L1 L2 _ (hs1.below hb2) hs2.strs (by rw [hl1, hl2])).mono ?_; rintro e w3 ⟨rfl, hb3⟩)
        | (with_reducible refine (same_yes v4 v5 L4 L5 _ (hs4.strs.below hb5) hs5.strs (by rw [hl4, hl5])).mono ?_; rintro e w6 ⟨rfl, hb6⟩)))
    | (go_at_call 23; refine (words_any s _ S.out).mono ?_; rintro e w4 ⟨v4, L4, rfl, hl4, hs4, hb4⟩)
    | (go_at_call 24; refine (rwords_any s _ S.out).mono ?_; rintro e w5 ⟨v5, L5, rfl, hl5, hs5, hb5⟩)
    | (go_at_call 13; refine (awake_any m _ (max_below (max_below (max_below (max_below (max_below (max_below H.out hb1) hb2) hb3) hb4) hb5) hb6)).mono ?_; rintro e w7 ⟨rfl, hb7⟩))
  go_ret
  exact ⟨rfl, hb1.trans ((hb2.trans ((hb3.trans ((hb4.trans ((hb5.trans ((hb6.trans (hb7.mono hb6.size)).mono hb5.size)).mono hb4.size)).mono hb3.size)).mono hb2.size)).mono hb1.size)⟩
end Go.Proofs.YtnbellffbbaamaaDoor
