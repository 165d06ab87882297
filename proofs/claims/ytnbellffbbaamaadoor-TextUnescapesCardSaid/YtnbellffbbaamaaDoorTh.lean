/- walks: the law on Unescape -/
import Derived.Test.YtnbellffbbaamaaDoorTd
import Derived.Test.YtnbellffbbaamaaDoorTg
namespace Go.Proofs.YtnbellffbbaamaaDoor
open Go.RowKit
open Tx
set_option maxHeartbeats 2000000 in
theorem law_unescapes (s : ByteArray) (m : Int) (w : World) (hm : w.cell? ⟨0, 0, none⟩ = some (.int .i64 m)) (hs : s.size ≤ 140737488351232) :
    Calls Tryd.prog 7 #[.string s] w fun e w' => e = .returned (.bool true) ∧ Below w.heap.size w w' := by
  have H := Lib.hid hm; clear hm
  have S := Lib.hid hs; clear hs
  go_enter Tryd.func7, Tryd.ntmps7
  go_wp2_with (first
    | (go_at_call 20; refine (unescape_any s _ S.out).mono ?_; rintro e w1 ⟨rfl, hb1⟩)
    | (go_at_call 21; refine (runescape_any s _ S.out).mono ?_; rintro e w2 ⟨rfl, hb2⟩)
    | (go_at_call 13; refine (awake_any m _ (max_below (max_below H.out hb1) hb2)).mono ?_; rintro e w3 ⟨rfl, hb3⟩))
  go_ret
  exact ⟨rfl, hb1.trans ((hb2.trans (hb3.mono hb2.size)).mono hb1.size)⟩
end Go.Proofs.YtnbellffbbaamaaDoor
