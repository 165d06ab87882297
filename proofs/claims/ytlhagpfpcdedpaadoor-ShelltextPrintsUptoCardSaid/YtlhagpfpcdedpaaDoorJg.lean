/- walks: the reference's Print (written by gen_jg.py) -/
import Derived.Test.YtlhagpfpcdedpaaDoorJf
import Derived.Test.YtlhagpfpcdedpaaDoorJe
import Derived.Test.YtlhagpfpcdedpaaDoorHw
namespace Go.Proofs.YtlhagpfpcdedpaaDoor
open Go.RowKit
open Shp
theorem rquote_is (u : ByteArray) (w : World) (hs : u.size ≤ 16777216) {l : List UInt8} (hu : Hid (u.data.toList = l)) {q : ByteArray} (hq : Hid (ByteArray.mk (quoteL l).toArray = q)) :
    Calls Tryd.prog 14 #[.string u] w fun e w' => e = .returned (.string q) ∧ Hid (Below w.heap.size w w') := by
  refine (rquote_any u w hs).mono ?_
  rw [hu.out, hq.out]
  exact fun _ _ h => h
theorem btw_is (k : Int) (w : World) {x : ByteArray} (hx : Hid (ByteArray.mk (btw k).toArray = x)) :
    Calls Tryd.prog 39 #[.int .i64 k] w fun e w' => e = .returned (.string x) ∧ w = w' := by
  by_cases h1 : k = 2
  · subst h1
    obtain rfl := hx.out
    go_enter Tryd.func39, Tryd.ntmps39
    go_wp2_with fail
    go_ret
    exact ⟨rfl, rfl⟩
  · have t1 : (k == 2) = false := by rw [beq_eq_false_iff_ne]; exact h1
    by_cases h2 : k = 3
    · subst h2
      obtain rfl := hx.out
      clear h1
      go_enter Tryd.func39, Tryd.ntmps39
      go_wp2_with fail
      go_ret
      exact ⟨rfl, rfl⟩
    · have t2 : (k == 3) = false := by rw [beq_eq_false_iff_ne]; exact h2
      obtain rfl : x = ⟨#[10]⟩ := by rw [← hx.out]; unfold btw; rw [if_neg h1, if_neg h2]
      clear h1 h2
      go_enter Tryd.func39, Tryd.ntmps39
      go_wp2_with fail
      go_ret
      exact ⟨rfl, rfl⟩
theorem hab {W w1 : World} {v : Obj} {n : Nat} (B : Below W.heap.size W w1) (h : W.heap[n]? = some v) : w1.heap[n]? = some v := (B.block n (Array.getElem?_eq_some_iff.1 h).1).trans h
theorem size_of {q : ByteArray} {l : List UInt8} (h : q.data.toList = l) : q.size = l.length := by
  rw [← h]; rfl
theorem argsT_le (l : List (List UInt8)) (k : Nat) : (argsT (l.take k)).length ≤ (argsT l).length := by
  conv => rhs; rw [← List.take_append_drop k l]
  unfold argsT
  rw [List.flatMap_append, List.length_append]; omega
theorem redsT_le (l : List (Int × List UInt8)) (k : Nat) : (redsT (l.take k)).length ≤ (redsT l).length := by
  conv => rhs; rw [← List.take_append_drop k l]
  unfold redsT
  rw [List.flatMap_append, List.length_append]; omega
theorem bytes_of {q : ByteArray} {l : List UInt8} (h : q.data.toList = l) : q = ⟨l.toArray⟩ := by
  rw [← h]
theorem mkR_len (k : Int) : (mkR k).length ≤ 4 := by
  unfold mkR
  split
  · decide
  split
  · decide
  · decide
set_option maxRecDepth 100000 in
set_option maxHeartbeats 8000000 in
theorem printcmd_any (c : Cm) (u : ByteArray) (p1 p2 : Option Addr) (m1 k1 m2 k2 : Nat) (z : Int) (w : World) (HU0 : Hid (u.data.toList = c.name)) (HM1 : Hid (c.args.length = m1)) (HM2 : Hid (c.red.length = m2)) (R1 : Hid (RowsAt w (.slice p1 m1 k1) 1 (argR c))) (R2 : Hid (RowsAt w (.slice p2 m2 k2) 2 (redR c)))
    (SZC : Hid (c.name.length ≤ 16777216 ∧ (∀ a ∈ c.args, a.length ≤ 16777216) ∧ ∀ r ∈ c.red, r.2.length ≤ 16777216)) (LT : Hid ((cmT c).length ≤ 17592186044416)) (HK : okC c = true) {x : ByteArray} (hx : Hid (x.data.toList = cmT c)) :
    Calls Tryd.prog 40 #[.agg #[.string u, .slice p1 m1 k1, .slice p2 m2 k2, .int .i64 z]] w fun e w' => e = .returned (.string x) ∧ Hid (Below w.heap.size w w') := by
  have L1 : m1 ≤ 9223372036854775807 := by have := R1.out.len; rw [List.length_map, HM1.out] at this; exact this
  have L2 : m2 ≤ 9223372036854775807 := by have := R2.out.len; rw [List.length_map, HM2.out] at this; exact this
  have B0 := Lib.hid ((Below.refl w.heap.size w).alloc (Nat.le_refl _) (.cells #[.string u, .slice p1 m1 k1, .slice p2 m2 k2, .int .i64 z] 40))
  have HBX := Lib.hid (heap_alloc_new w (.cells #[.string u, .slice p1 m1 k1, .slice p2 m2 k2, .int .i64 z] 40))
  have R1 := Lib.hid (R1.out.below B0.out)
  have R2 := Lib.hid (R2.out.below B0.out)
  have OKC := Lib.hid HK
  have US : u.size ≤ 16777216 := by rw [size_of HU0.out]; exact SZC.out.1
  have HU := HU0
  obtain ⟨q, hq⟩ : ∃ q, ByteArray.mk (quoteL c.name).toArray = q := ⟨_, rfl⟩
  have HQ := Lib.hid hq
  have HQD : Hid (q.data.toList = quoteL c.name) := Lib.hid (by rw [← hq])
  have c0 := blk_cell HBX.out 0
  simp only [List.getElem?_toArray, List.getElem?_cons_zero] at c0
  clear hq HK
  go_enter Tryd.func40, Tryd.ntmps40
  go_wp2_with ((go_at_call 14; refine (rquote_is u _ US HU HQ).mono ?_; rintro _ w3 ⟨rfl, B3⟩))
  repeat (go_region; go_wp2_with ((go_at_call 14; refine (rquote_is u _ US HU HQ).mono ?_; rintro _ w3 ⟨rfl, B3⟩)))
  go_loopw [3, 4] (fun v i wr => ∃ (y : Nat) (o : ByteArray), y ≤ m1 ∧ v = .string o ∧ i = .int .i64 y ∧ Hid (o.data.toList = quoteL c.name ++ argsT (c.args.take y)) ∧ Hid (Below (w.alloc (.cells #[.string u, .slice p1 m1 k1, .slice p2 m2 k2, .int .i64 z] 40)).heap.size (w.alloc (.cells #[.string u, .slice p1 m1 k1, .slice p2 m2 k2, .int .i64 z] 40)) wr)) (fun _ i _ => m1 - (intOf i).toNat)
  case atStart => exact ⟨0, q, Nat.zero_le _, rfl, rfl, Lib.hid (by rw [HQD.out]; simp [argsT]), Lib.hid (by first | exact B3.out | exact bel_eqw B3.out ⟨rfl, rfl, rfl, rfl⟩)⟩
  case round =>
    obtain ⟨y, o, hy, rfl, rfl, HO, BY⟩ := hrel
    have HB := Lib.hid (hab BY.out HBX.out)
    have d1 := blk_cell HB.out 1
    have d2 := blk_cell HB.out 2
    simp only [List.getElem?_toArray, List.getElem?_cons_zero, List.getElem?_cons_succ] at d1 d2
    clear B3 HU US HQ HQD c0
    by_cases hyt : y < m1
    · obtain ⟨ag, hag⟩ : ∃ ag, c.args[y]? = some ag := ⟨_, List.getElem?_eq_getElem (by rw [HM1.out]; exact hyt)⟩
      have HAG := Lib.hid hag
      obtain ⟨g4, o4, rfl, hc4⟩ := R1.out.at (argR_at hag)
      have v0 := kp BY.out (hc4 0 _ rfl)
      rw [Nat.add_zero, Nat.mul_one] at v0
      obtain ⟨ua, hua⟩ : ∃ ua, ByteArray.mk ag.toArray = ua := ⟨_, rfl⟩
      have HU : Hid (ua.data.toList = ag) := Lib.hid (by rw [← hua])
      rw [hua] at v0
      have US : ua.size ≤ 16777216 := by rw [size_of HU.out]; exact SZC.out.2.1 ag (List.mem_of_getElem? hag)
      obtain ⟨q, hq⟩ : ∃ q, ByteArray.mk (quoteL ag).toArray = q := ⟨_, rfl⟩
      have HQ := Lib.hid hq
      have HQD : Hid (q.data.toList = quoteL ag) := Lib.hid (by rw [← hq])
      have NXT : Hid ((o ++ ByteArray.mk #[32] ++ q).data.toList = quoteL c.name ++ argsT (c.args.take (y + 1))) := Lib.hid (by rw [argsT_more HAG.out]; simp [HO.out, HQD.out])
      have SS : o.size + 1 + q.size ≤ 17592186044416 := by
        have h1 := size_of NXT.out
        have h2 := LT.out
        have h3 := argsT_le c.args (y + 1)
        unfold cmT at h2
        simp only [List.length_append, ByteArray.size_append] at h1 h2
        have e : (ByteArray.mk #[32]).size = 1 := rfl
        omega
      clear hag hc4 hua hq
      go_wp2_with ((go_at_call 14; refine (rquote_is ua _ US HU HQ).mono ?_; rintro _ w4 ⟨rfl, B3⟩))
      repeat (go_region; go_wp2_with ((go_at_call 14; refine (rquote_is ua _ US HU HQ).mono ?_; rintro _ w4 ⟨rfl, B3⟩)))
      go_roundw
      case rel => exact ⟨y + 1, _, by omega, rfl, by go_num, NXT, Lib.hid (by first | exact BY.out.trans (B3.out.mono BY.out.size) | exact BY.out.trans ((bel_eqw B3.out ⟨rfl, rfl, rfl, rfl⟩).mono BY.out.size))⟩
      case measure => simp [intOf]; omega
    · have TA : Hid (o.data.toList = quoteL c.name ++ argsT c.args) := Lib.hid (by have := HO.out; rw [List.take_of_length_le (by rw [HM1.out]; omega)] at this; exact this)
      go_wp2_with (fail)
      repeat (go_region; go_wp2_with (fail))
      go_loopw [3, 5] (fun v i wr => ∃ (y : Nat) (o : ByteArray), y ≤ m2 ∧ v = .string o ∧ i = .int .i64 y ∧ Hid (o.data.toList = quoteL c.name ++ argsT c.args ++ redsT (c.red.take y)) ∧ Hid (Below (w.alloc (.cells #[.string u, .slice p1 m1 k1, .slice p2 m2 k2, .int .i64 z] 40)).heap.size (w.alloc (.cells #[.string u, .slice p1 m1 k1, .slice p2 m2 k2, .int .i64 z] 40)) wr)) (fun _ i _ => m2 - (intOf i).toNat)
      case atStart => exact ⟨0, o, Nat.zero_le _, rfl, rfl, Lib.hid (by rw [TA.out]; simp [redsT]), (by first | exact BY | exact Lib.hid BY.out.drew)⟩
      case round =>
        obtain ⟨y, o, hy, rfl, rfl, HO, BY⟩ := hrel
        have HB := Lib.hid (hab BY.out HBX.out)
        have d2 := blk_cell HB.out 2
        simp only [List.getElem?_toArray, List.getElem?_cons_zero, List.getElem?_cons_succ] at d2
        by_cases hyt : y < m2
        · obtain ⟨rx, hrx⟩ : ∃ rx, c.red[y]? = some rx := ⟨_, List.getElem?_eq_getElem (by rw [HM2.out]; exact hyt)⟩
          have HRX := Lib.hid hrx
          obtain ⟨g5, o5, rfl, hc5⟩ := R2.out.at (redR_at hrx)
          have v0 := kp BY.out (hc5 0 _ rfl)
          have v1 := kp BY.out (hc5 1 _ rfl)
          rw [Nat.add_zero] at v0
          obtain ⟨rk, rn⟩ := rx
          simp only at v0 v1
          obtain ⟨ua, hua⟩ : ∃ ua, ByteArray.mk rn.toArray = ua := ⟨_, rfl⟩
          have HU : Hid (ua.data.toList = rn) := Lib.hid (by rw [← hua])
          rw [hua] at v1
          have US : ua.size ≤ 16777216 := by rw [size_of HU.out]; exact SZC.out.2.2 _ (List.mem_of_getElem? hrx)
          obtain ⟨q, hq⟩ : ∃ q, ByteArray.mk (quoteL rn).toArray = q := ⟨_, rfl⟩
          have HQ := Lib.hid hq
          have HQD : Hid (q.data.toList = quoteL rn) := Lib.hid (by rw [← hq])
          have KR : Hid (1 ≤ rk ∧ rk ≤ 3) := Lib.hid (by
            have h := List.all_eq_true.1 (okC_all c ▸ OKC.out) _ (List.mem_of_getElem? hrx)
            unfold okR at h
            simpa using h)
          have NXT : ∀ mk : ByteArray, mk.data.toList = mkR rk → Hid ((o ++ mk ++ q).data.toList = quoteL c.name ++ argsT c.args ++ redsT (c.red.take (y + 1))) := fun mk hm => Lib.hid (by rw [redsT_more HRX.out]; simp [HO.out, HQD.out, hm])
          have SS : o.size + 4 + q.size ≤ 17592186044420 := by
            have h1 := size_of (NXT ⟨(mkR rk).toArray⟩ rfl).out
            have h2 := LT.out
            have h3 := redsT_le c.red (y + 1)
            unfold cmT at h2
            simp only [List.length_append, ByteArray.size_append] at h1 h2
            have e : (ByteArray.mk (mkR rk).toArray).size = (mkR rk).length := rfl
            omega
          have NXT := Lib.hid NXT
          clear hrx hc5 hua hq
          obtain ⟨kr1, kr3⟩ := KR.out
          by_cases r1 : rk = 1
          · subst r1
            have NX := Lib.hid ((NXT.out ⟨#[32, 60, 32]⟩ rfl).out)
            clear kr1 kr3
            go_wp2_with ((go_at_call 14; refine (rquote_is ua _ US HU HQ).mono ?_; rintro _ w4 ⟨rfl, B3⟩))
            repeat (go_region; go_wp2_with ((go_at_call 14; refine (rquote_is ua _ US HU HQ).mono ?_; rintro _ w4 ⟨rfl, B3⟩)))
            go_roundw
            case rel => exact ⟨y + 1, _, by omega, rfl, by go_num, NX, Lib.hid (by first | exact BY.out.trans (B3.out.mono BY.out.size) | exact BY.out.trans ((bel_eqw B3.out ⟨rfl, rfl, rfl, rfl⟩).mono BY.out.size))⟩
            case measure => simp [intOf]; omega
          · have q1 : (rk == 1) = false := by rw [beq_eq_false_iff_ne]; exact r1
            by_cases r2 : rk = 2
            · subst r2
              have NX := Lib.hid ((NXT.out ⟨#[32, 62, 32]⟩ rfl).out)
              clear kr1 kr3 r1
              go_wp2_with ((go_at_call 14; refine (rquote_is ua _ US HU HQ).mono ?_; rintro _ w4 ⟨rfl, B3⟩))
              repeat (go_region; go_wp2_with ((go_at_call 14; refine (rquote_is ua _ US HU HQ).mono ?_; rintro _ w4 ⟨rfl, B3⟩)))
              go_roundw
              case rel => exact ⟨y + 1, _, by omega, rfl, by go_num, NX, Lib.hid (by first | exact BY.out.trans (B3.out.mono BY.out.size) | exact BY.out.trans ((bel_eqw B3.out ⟨rfl, rfl, rfl, rfl⟩).mono BY.out.size))⟩
              case measure => simp [intOf]; omega
            · obtain rfl : rk = 3 := by omega
              have NX := Lib.hid ((NXT.out ⟨#[32, 62, 62, 32]⟩ rfl).out)
              clear kr1 kr3 r1 r2
              go_wp2_with ((go_at_call 14; refine (rquote_is ua _ US HU HQ).mono ?_; rintro _ w4 ⟨rfl, B3⟩))
              repeat (go_region; go_wp2_with ((go_at_call 14; refine (rquote_is ua _ US HU HQ).mono ?_; rintro _ w4 ⟨rfl, B3⟩)))
              go_roundw
              case rel => exact ⟨y + 1, _, by omega, rfl, by go_num, NX, Lib.hid (by first | exact BY.out.trans (B3.out.mono BY.out.size) | exact BY.out.trans ((bel_eqw B3.out ⟨rfl, rfl, rfl, rfl⟩).mono BY.out.size))⟩
              case measure => simp [intOf]; omega
        · have XE : Hid (o = x) := Lib.hid (by
            have := HO.out
            rw [List.take_of_length_le (by rw [HM2.out]; omega)] at this
            rw [bytes_of this, bytes_of hx.out]; rfl)
          go_wp2_with fail
          go_ret
          exact ⟨by rw [← XE.out]; rfl, Lib.hid (B0.out.trans (BY.out.mono B0.out.size))⟩
end Go.Proofs.YtlhagpfpcdedpaaDoor
