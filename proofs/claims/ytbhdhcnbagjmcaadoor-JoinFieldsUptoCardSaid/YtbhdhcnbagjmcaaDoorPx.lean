/- the law JoinFields -/
import Derived.Test.YtbhdhcnbagjmcaaDoorPv
import Derived.Test.YtbhdhcnbagjmcaaDoorLplain2
namespace Go.Proofs.YtbhdhcnbagjmcaaDoor
open Go.RowKit Go.Maps
open Jn Lcl
theorem full_mem {L : List ByteArray} {x : ByteArray} (h : x ∈ L) : x.size ≤ Tx.fullB L := by
  induction L with
  | nil => cases h
  | cons y r ih =>
    have e : Tx.fullB (y :: r) = (y.size + 1) + Tx.fullB r := by simp [Tx.fullB]
    rw [e]
    rcases List.mem_cons.1 h with rfl | h
    · omega
    · have := ih h; omega
theorem same_l (v1 v2 : Value) (L : List (List UInt8)) (w : World) (h1 : LSt w v1 L) (h2 : LSt w v2 L) : Calls Tryd.prog 8 #[v1, v2] w fun e w' => e = .returned (.bool true) ∧ Hid (Below w.heap.size w w') := same_eq v1 v2 (L.map bA) w h1 h2
set_option maxRecDepth 100000 in
set_option maxHeartbeats 4000000 in
theorem law_fields (lines : List ByteArray) (v : Value) (n sep m : Int) (w : World) (hm : w.cell? ⟨0, 0, none⟩ = some (.int .i64 m)) (hv : Strs w v lines) (hs : ∀ x ∈ lines, x.size ≤ 1048576) :
    Calls Tryd.prog 3 #[v, .int .i64 n, .int .i64 sep] w fun e w' => e = .returned (.bool true) ∧ Below w.heap.size w w' := by
  have HV := Lib.hid hv
  have HS := Lib.hid hs
  have HM := Lib.hid hm
  obtain ⟨u, hu⟩ : ∃ u, unsL sep n (lines.map (·.data.toList)) = u := ⟨_, rfl⟩
  have U1 := Lib.hid (fun W vl (hb : Below w.heap.size w W) (hl : DLoc W vl) => unsorted_any lines v vl n sep m W (kp hb hm) (Strs.below hv hb) hl hs)
  have U2 := Lib.hid (fun W vl (hb : Below w.heap.size w W) (hl : DLoc W vl) => runsorted_any lines v vl n sep W (Strs.below hv hb) hl hs)
  rw [hu] at U1 U2
  have hlen := Strs.len hv
  unfold maxLen at hlen
  obtain ⟨a, cap, rfl, -, -, hc⟩ := hv
  obtain ⟨q, hq⟩ : ∃ q, lines.length = q := ⟨_, rfl⟩
  have HQ := Lib.hid hq
  have HC := Lib.hid hc
  rw [hq] at hlen HV U1 U2 ⊢
  clear hm hs hu hc hq
  go_enter Tryd.func3, Tryd.ntmps3
  go_wp2_with fail
  go_loopw [7] (fun i wr => ∃ j : Nat, i = .int .i64 j ∧ j ≤ q ∧ Hid (Below w.heap.size w wr)) (fun i _ => q - (intOf i).toNat)
  case atStart => exact ⟨0, rfl, Nat.zero_le _, Lib.hid (Below.refl _ _)⟩
  case round =>
    obtain ⟨j, rfl, hj, BK⟩ := hrel
    by_cases hlt : j < q
    · have l1 : j < lines.length := by rw [HQ.out]; omega
      rcases HC.out with h0 | ⟨g, o, rfl, hg, hc⟩
      · rw [h0] at l1; exact absurd l1 (Nat.not_lt_zero _)
      obtain ⟨x, hx⟩ : ∃ x, lines[j]? = some x := ⟨_, List.getElem?_eq_getElem l1⟩
      have d0 := kp BK.out (hc j x hx)
      have SX := HS.out x (List.mem_of_getElem? hx)
      have F1 := Lib.hid (fun W hm => fields_any x sep m W hm SX)
      have F2 := Lib.hid (fun W => rfields_any x sep W SX)
      have S0 : Below wr.heap.size wr wr.drew ∧ wr.drew.cell? ⟨g, o + j, none⟩ = some (.string x) := ⟨(Below.refl _ _).drew, d0⟩
      have p0 : (0 : Int) ≤ (j : Int) := by omega
      have p1 : (j : Int) < (q : Int) := by omega
      have p2 : IntKind.i64.wrap (j : Int) = (j : Int) := IntWalk.i64_in _ (by omega)
      clear hc hx SX l1 hg
      go_wp2_with fail
      go_region_held3 (fun w' => Below wr.heap.size wr w' ∧ w'.cell? ⟨g, o + j, none⟩ = some (.string x)) (first | exact S0)
        (first
          | (go_at_call 9; (with_reducible refine (F1.out _ (kp (BK.out.trans (S0.1.mono BK.out.size)) HM.out)).mono ?_); rintro _ w1 ⟨v1, rfl, R1, B1⟩; have BB := Lib.hid (S0.1.trans (B1.out.mono S0.1.size)); have S0 := And.intro BB.out (kp BB.out d0))
          | (go_at_call 10; (with_reducible refine (F2.out _).mono ?_); rintro _ w2 ⟨v2, rfl, R2, B2⟩; have BB := Lib.hid (S0.1.trans (B2.out.mono S0.1.size)); have S0 := And.intro BB.out (kp BB.out d0))
          | (go_at_call 8; (with_reducible refine (same_l _ _ _ _ ((FrL.l R1.out).below B2.out) (FrL.l R2.out)).mono ?_); rintro _ w3 ⟨rfl, B3⟩; have BB := Lib.hid (S0.1.trans (B3.out.mono S0.1.size)); have S0 := And.intro BB.out (kp BB.out d0)))
      go_wp2_with fail
      go_roundw
      case rel => exact ⟨j + 1, by go_num, by omega, Lib.hid (BK.out.trans (S0.1.mono BK.out.size))⟩
      case measure => simp [intOf]; omega
    · go_wp2_with (first
        | (go_at_call 12; (first
            | ((with_reducible refine (ddefault_any wr).mono ?_); rintro _ w1 ⟨vl, rfl, DL, B1⟩; have Y1 := Lib.hid (BK.out.trans (B1.out.mono BK.out.size)))
            | ((with_reducible refine (ddefault_any _).mono ?_); rintro _ w3 ⟨vl3, rfl, D3, B3⟩; have Y3 := Lib.hid (Y2.out.trans (B3.out.mono Y2.out.size)))))
        | (go_at_call 11; (with_reducible refine (U1.out _ _ Y1.out DL.out).mono ?_); rintro _ w2 ⟨rfl, B2⟩; have Y2 := Lib.hid (Y1.out.trans (B2.out.mono Y1.out.size)))
        | (go_at_call 13; (with_reducible refine (U2.out _ _ Y3.out D3.out).mono ?_); rintro _ w4 ⟨rfl, B4⟩; have Y4 := Lib.hid (Y3.out.trans (B4.out.mono Y3.out.size)))
        | (go_at_call 14; (with_reducible refine (awake_any m _ (kp Y4.out HM.out)).mono ?_); rintro _ w5 ⟨rfl, B5⟩; have Y5 := Lib.hid (Y4.out.trans (B5.out.mono Y4.out.size))))
      go_ret
      exact ⟨rfl, Y5.out⟩
end Go.Proofs.YtbhdhcnbagjmcaaDoor
