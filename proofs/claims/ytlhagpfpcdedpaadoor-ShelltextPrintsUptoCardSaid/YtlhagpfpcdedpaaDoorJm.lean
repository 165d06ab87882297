/- walks: the law of prints (written by gen_jm.py) -/
import Derived.Test.YtlhagpfpcdedpaaDoorJk
import Derived.Test.YtlhagpfpcdedpaaDoorJj
import Derived.Test.YtlhagpfpcdedpaaDoorJl
namespace Go.Proofs.YtlhagpfpcdedpaaDoor
open Go.RowKit
open Shp
set_option maxRecDepth 100000 in
set_option maxHeartbeats 4000000 in
theorem law_prints0 (l : List Pl) (v : Value) (m : Int) (w : World) (hm : w.cell? ⟨0, 0, none⟩ = some (.int .i64 m)) (h : PlsD w v l) (hz : SzL l) (hl : (scT l).length ≤ 17592186044416) :
    Calls Tryd.prog 6 #[.agg #[v]] w fun e w' => e = .returned (.bool true) ∧ Hid (Below w.heap.size w w') := by
  have B0 := Lib.hid ((Below.refl w.heap.size w).alloc (Nat.le_refl _) (.cells #[v] 24))
  have HM := Lib.hid (kp B0.out hm)
  have D1 := Lib.hid (h.below B0.out)
  have BX := Lib.hid (new_c1 w v 24)
  have SZ := Lib.hid hz
  have LN := Lib.hid hl
  obtain ⟨ch, hch⟩ : ∃ c, chk l = c := ⟨_, rfl⟩
  have CH := Lib.hid hch
  obtain ⟨tx, htx⟩ : ∃ tx, ByteArray.mk (prR l).1.toArray = tx := ⟨_, rfl⟩
  obtain ⟨er, her⟩ : ∃ er, (prR l).2 = er := ⟨_, rfl⟩
  have PRH : Hid (ByteArray.mk (prR l).1.toArray = tx ∧ (prR l).2 = er) := Lib.hid ⟨htx, her⟩
  clear hm h hz hl hch htx her
  go_enter Tryd.func6, Tryd.ntmps6
  go_wp2_with (first | (go_at_call 15; refine (print_any l _ m _ HM.out D1.out SZ.out PRH).mono ?_; rintro _ w1 ⟨rfl, B1⟩; have x1 := kp B1.out BX.out; have D2 := Lib.hid (D1.out.below B1.out)) | (go_at_call 16; refine (rprint_any l _ _ D2.out SZ.out LN.out PRH).mono ?_; rintro _ w2 ⟨rfl, B2⟩; have B12 := Lib.hid (B1.out.trans (B2.out.mono B1.out.size)); have x2 := kp B2.out x1))
  have S0 : Below (w.alloc (.cells #[v] 24)).heap.size (w.alloc (.cells #[v] 24)) w2.drew ∧ w2.drew.cell? ⟨w.heap.size, 0, none⟩ = some v := ⟨B12.out.drew, x2⟩
  clear x1 x2
  go_region_held3 (fun w' => Below (w.alloc (.cells #[v] 24)).heap.size (w.alloc (.cells #[v] 24)) w' ∧ w'.cell? ⟨w.heap.size, 0, none⟩ = some v) (first | exact S0) (first | (go_at_call 17; with_reducible refine (check_any l _ _ (PlsD.below D1.out S0.1) CH).mono ?_; rintro e w7 ⟨rfl, B7⟩; have BB := Lib.hid (S0.1.trans (B7.out.mono S0.1.size)); have S0 : Below (w.alloc (.cells #[v] 24)).heap.size (w.alloc (.cells #[v] 24)) w7 ∧ w7.cell? ⟨w.heap.size, 0, none⟩ = some v := ⟨BB.out, kp B7.out S0.2⟩) | (go_at_call 18; with_reducible refine (rcheck_any l _ _ (PlsD.below D1.out S0.1) CH).mono ?_; rintro e w7 ⟨rfl, B7⟩; have BB := Lib.hid (S0.1.trans (B7.out.mono S0.1.size)); have S0 : Below (w.alloc (.cells #[v] 24)).heap.size (w.alloc (.cells #[v] 24)) w7 ∧ w7.cell? ⟨w.heap.size, 0, none⟩ = some v := ⟨BB.out, kp B7.out S0.2⟩) | (go_at_call 12; refine (awake_any m _ (kp S0.1 HM.out)).mono ?_; rintro e w7 ⟨rfl, B7⟩; have BB := Lib.hid (S0.1.trans (B7.out.mono S0.1.size)); have S0 : Below (w.alloc (.cells #[v] 24)).heap.size (w.alloc (.cells #[v] 24)) w7 ∧ w7.cell? ⟨w.heap.size, 0, none⟩ = some v := ⟨BB.out, kp B7.out S0.2⟩))
  go_wp2_with fail
  go_ret
  exact ⟨rfl, Lib.hid (B0.out.trans (S0.1.mono B0.out.size))⟩
theorem law_prints (l : List Pl) (v : Value) (m : Int) (w : World) (hm : w.cell? ⟨0, 0, none⟩ = some (.int .i64 m)) (h : PlsD w v l) (hs : (l.map szP).sum ≤ 1048576) :
    Calls Tryd.prog 6 #[.agg #[v]] w fun e w' => e = .returned (.bool true) ∧ Below w.heap.size w w' := (law_prints0 l v m w hm h (szL_of hs).1 (szL_of hs).2).mono fun _ _ h => ⟨h.1, h.2.out⟩
end Go.Proofs.YtlhagpfpcdedpaaDoor
