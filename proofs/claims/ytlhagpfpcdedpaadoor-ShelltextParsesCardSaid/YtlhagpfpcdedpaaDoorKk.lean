/- walks: the law of Parse (written by gen_kk.py) -/
import Derived.Test.YtlhagpfpcdedpaaDoorKj
import Derived.Test.YtlhagpfpcdedpaaDoorHs
import Derived.Test.YtlhagpfpcdedpaaDoorHv
import Derived.Test.YtlhagpfpcdedpaaDoorIf
namespace Go.Proofs.YtlhagpfpcdedpaaDoor
open Go.RowKit
open Shp
set_option maxRecDepth 100000 in
set_option maxHeartbeats 4000000 in
theorem law_parses0 (s : ByteArray) (m : Int) (w : World) (hm : w.cell? ⟨0, 0, none⟩ = some (.int .i64 m)) :
    Calls Tryd.prog 3 #[.string s] w fun e w' => e = .returned (.bool true) ∧ Hid (Below w.heap.size w w') := by
  have HM := Lib.hid hm
  clear hm
  obtain ⟨p, e, po, hp⟩ : ∃ p e po, paR s = (p, e, po) := ⟨_, _, _, rfl⟩
  have PR := Lib.hid hp
  obtain ⟨np, hnp⟩ : ∃ n, p.length = n := ⟨_, rfl⟩
  have HL := Lib.hid hnp
  have HR : Hid (sameL 0 true p p = true) := Lib.hid (same_self p (paR_at hp))
  clear hp hnp
  go_enter Tryd.func3, Tryd.ntmps3
  go_wp2_with (first | (go_at_call 9; with_reducible refine (parse_is _ _ PR).mono ?_; rintro _ w1 ⟨v1, rfl, D1, B1⟩; obtain ⟨a1, c1, rfl, -, -⟩ := D1.out.slice; rw [HL.out] at D1 ⊢; have B1a := Lib.hid ((Below.refl w1.heap.size w1).alloc (Nat.le_refl _) (.cells #[.slice a1 np c1] 24))) | (go_at_call 10; with_reducible refine (rparse_is _ _ PR).mono ?_; rintro _ w2 ⟨v2, rfl, D2, B2⟩; obtain ⟨a2, c2, rfl, -, -⟩ := D2.out.slice; rw [HL.out] at D2 ⊢; have B2a := Lib.hid ((Below.refl w2.heap.size w2).alloc (Nat.le_refl _) (.cells #[.slice a2 np c2] 24)); have B12 := Lib.hid (B1a.out.trans (B2.out.mono B1a.out.size)); have s1 : w2.cell? ⟨w1.heap.size, 0, none⟩ = some (.slice a1 np c1) := kp B2.out (new_cell1 w1 (.slice a1 np c1) 24); have s1' := kp B2a.out s1; have s2' := new_cell1 w2 (.slice a2 np c2) 24; have BY := Lib.hid ((B1.out.trans (B12.out.mono B1.out.size)).trans (B2a.out.mono (B1.out.trans (B12.out.mono B1.out.size)).size)); have DA := Lib.hid ((D1.out.below B12.out).below B2a.out); have DB := Lib.hid (D2.out.below B2a.out)) | (go_at_call 11; refine (same_pipelines p p _ _ 0 true _ DA.out DB.out HR).mono ?_; rintro _ w3 ⟨rfl, B3⟩; have BZ := Lib.hid (BY.out.trans (B3.out.mono BY.out.size))) | (go_at_call 12; refine (awake_any m _ (kp BZ.out HM.out)).mono ?_; rintro _ w5 ⟨rfl, B5⟩))
  go_ret
  exact ⟨rfl, Lib.hid (BZ.out.trans (B5.out.mono BZ.out.size))⟩
theorem law_parses (s : ByteArray) (m : Int) (w : World) (hm : w.cell? ⟨0, 0, none⟩ = some (.int .i64 m)) :
    Calls Tryd.prog 3 #[.string s] w fun e w' => e = .returned (.bool true) ∧ Below w.heap.size w w' := (law_parses0 s m w hm).mono fun _ _ h => ⟨h.1, h.2.out⟩
end Go.Proofs.YtlhagpfpcdedpaaDoor
