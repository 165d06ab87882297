/- walks: the law of quotes (written by gen_hz.py) -/
import Derived.Test.YtlhagpfpcdedpaaDoorHs
import Derived.Test.YtlhagpfpcdedpaaDoorHv
import Derived.Test.YtlhagpfpcdedpaaDoorHw
import Derived.Test.YtlhagpfpcdedpaaDoorHy
namespace Go.Proofs.YtlhagpfpcdedpaaDoor
open Go.RowKit
open Shp
/-- the cells of a command with one argument -/
structure QuC (v : Value) (s : ByteArray) (w : World) (g o cap g0 o0 c0 ga oa ca : Nat) (vr : Value) : Prop where
  v : v = .slice (some ⟨g, o, none⟩) 1 cap
  lim : 1 ≤ cap ∧ cap ≤ maxLen ∧ 1 ≤ c0 ∧ c0 ≤ maxLen ∧ 1 ≤ ca ∧ ca ≤ maxLen
  p0 : w.cell? ⟨g, o, none⟩ = some (.slice (some ⟨g0, o0, none⟩) 1 c0)
  p1 : w.cell? ⟨g, o + 1, none⟩ = some (.bool false)
  q0 : w.cell? ⟨g0, o0, none⟩ = some (.string s)
  q1 : w.cell? ⟨g0, o0 + 1, none⟩ = some (.slice (some ⟨ga, oa, none⟩) 1 ca)
  a0 : w.cell? ⟨ga, oa, none⟩ = some (.string s)
theorem quC {v : Value} {w : World} {l : List UInt8} {s : ByteArray} (h : PlsD w v [⟨[⟨l, [l], [], 0⟩], false, 1⟩]) (hl : ByteArray.mk l.toArray = s) : ∃ g o cap g0 o0 c0 ga oa ca vr, QuC v s w g o cap g0 o0 c0 ga oa ca vr := by
  subst hl
  obtain ⟨g, o, cap, e, l1, l2, -, hc⟩ := h.get (by simp)
  obtain ⟨r0, ⟨vc0, rfl, hD0⟩, h0⟩ := hc 0 _ rfl
  obtain ⟨g0, o0, c0, rfl, l3, l4, -, hc0⟩ := hD0.get (by simp)
  obtain ⟨r2, ⟨va, vr, rfl, ha, -⟩, h2⟩ := hc0 0 _ rfl
  obtain ⟨ga, oa, ca, rfl, l7, l8, -, ca0⟩ := ha.cons (by simp)
  exact ⟨g, o, cap, g0, o0, c0, ga, oa, ca, vr, e, ⟨l1, l2, l3, l4, l7, l8⟩, h0 0 _ rfl, h0 1 _ rfl, h2 0 _ rfl, h2 1 _ rfl, ca0 0 _ rfl 0 _ rfl⟩
theorem QuC.below {v : Value} {s : ByteArray} {w w' : World} {g o cap g0 o0 c0 ga oa ca : Nat} {vr : Value} (h : QuC v s w g o cap g0 o0 c0 ga oa ca vr) (hb : Below w.heap.size w w') : QuC v s w' g o cap g0 o0 c0 ga oa ca vr :=
  ⟨h.v, h.lim, kp hb h.p0, kp hb h.p1, kp hb h.q0, kp hb h.q1, kp hb h.a0⟩
set_option maxRecDepth 100000 in
set_option maxHeartbeats 4000000 in
theorem law_quotes0 (s : ByteArray) (m : Int) (w : World) (hm : w.cell? ⟨0, 0, none⟩ = some (.int .i64 m)) :
    Calls Tryd.prog 4 #[.string s] w fun e w' => e = .returned (.bool true) ∧ Hid (Below w.heap.size w w') := by
  have HM := Lib.hid hm
  clear hm
  by_cases hs : s.size ≤ 1000
  · obtain ⟨q, hq⟩ : ∃ q, ByteArray.mk (quoteL s.data.toList).toArray = q := ⟨_, rfl⟩
    have HQ := Lib.hid hq
    have qs : q.size ≤ 4002 := by
      rw [← hq]
      have := quote_len s.data.toList
      have e1 : s.data.toList.length = s.size := rfl
      show (quoteL s.data.toList).length ≤ _
      omega
    have PR : Hid (paR (q ++ ByteArray.mk #[32] ++ q) = ([⟨[⟨s.data.toList, [s.data.toList], [], 0⟩], false, 1⟩], 0, 0)) := Lib.hid (by
      refine two_words s.data.toList _ ?_ (by simp only [ByteArray.size_append]; show q.size + 1 + q.size ≤ _; omega)
      rw [← hq]
      simp)
    clear hq
    go_enter Tryd.func4, Tryd.ntmps4
    go_wp2_with (first | (go_at_call 13; refine (quote_any s m _ HM.out (by omega)).mono ?_; rw [HQ.out]; rintro e w1 ⟨rfl, B1⟩) | (go_at_call 9; with_reducible refine (parse_is _ _ PR).mono ?_; rintro e w2 ⟨v2, rfl, D2, B2⟩; obtain ⟨g, o, cap, g0, o0, c0, ga, oa, ca, vr, C2⟩ := quC D2.out (show ByteArray.mk s.data.toList.toArray = s by cases s; simp); obtain rfl := C2.v; obtain ⟨l1, l2, l3, l4, l5, l6⟩ := C2.lim; have C2 := Lib.hid C2; have BA := Lib.hid ((Below.refl w2.heap.size w2).alloc (Nat.le_refl _) (.cells #[.slice (some ⟨g, o, none⟩) 1 cap] 24))) | (go_at_call 14; refine (rquote_any s _ (by omega)).mono ?_; rw [HQ.out]; rintro e w3 ⟨rfl, B3⟩; have BB := Lib.hid (BA.out.trans (B3.out.mono BA.out.size)); have C3 := Lib.hid (C2.out.below BB.out); have p0 := C3.out.p0; have p1 := C3.out.p1; have q0 := C3.out.q0; have q1 := C3.out.q1; have a0 := C3.out.a0; have s1 : w3.cell? ⟨w2.heap.size, 0, none⟩ = some (.slice (some ⟨g, o, none⟩) 1 cap) := (B3.out.cell (p := ⟨w2.heap.size, 0, none⟩) (by simp)).trans (blk_cell (heap_alloc_new w2 (.cells #[.slice (some ⟨g, o, none⟩) 1 cap] 24)) 0); have BC := Lib.hid (BB.out.alloc BB.out.size (.cells #[.string s, .slice (some ⟨ga, oa, none⟩) 1 ca] 37)); have C4 := Lib.hid (C2.out.below BC.out); have p0' := C4.out.p0; have p1' := C4.out.p1; have q0' := C4.out.q0; have q1' := C4.out.q1; have a0' := C4.out.a0) | (go_at_call 12; refine (awake_any m _ (kp ((B1.out.trans (B2.out.mono B1.out.size)).trans (BC.out.mono (B1.out.trans (B2.out.mono B1.out.size)).size)) HM.out)).mono ?_; rintro e w5 ⟨rfl, B5⟩))
    go_ret
    refine ⟨rfl, Lib.hid ?_⟩
    have b := (B1.out.trans (B2.out.mono B1.out.size)).trans (BC.out.mono (B1.out.trans (B2.out.mono B1.out.size)).size)
    exact b.trans (B5.out.mono b.size)
  · go_enter Tryd.func4, Tryd.ntmps4
    go_wp2_with (go_at_call 12; refine (awake_any m _ HM.out).mono ?_; rintro e w5 ⟨rfl, B5⟩)
    go_ret
    exact ⟨rfl, B5⟩
theorem law_quotes (s : ByteArray) (m : Int) (w : World) (hm : w.cell? ⟨0, 0, none⟩ = some (.int .i64 m)) :
    Calls Tryd.prog 4 #[.string s] w fun e w' => e = .returned (.bool true) ∧ Below w.heap.size w w' := (law_quotes0 s m w hm).mono fun _ _ h => ⟨h.1, h.2.out⟩
end Go.Proofs.YtlhagpfpcdedpaaDoor
