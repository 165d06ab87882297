/- walks: is a locale valid? -/
import Derived.Test.YtbhdhcnbagjmcaaDoorQf
import Derived.Test.YtbhdhcnbagjmcaaDoorCa
namespace Go.Proofs.YtbhdhcnbagjmcaaDoor
open Go.RowKit Go.Maps
open Lcl
/-- the weights, the classes and the elements of a locale lie in memory -/
structure LocAt (w : World) (v1 v4 v5 : Value) (W : List Int) (C : List Cl) (E : List El) : Prop where
  r1 : RowsAt w v1 1 (W.map fun n => [.int .i64 n])
  r4 : RowsAt w v4 5 (C.map Cl.row)
  r5 : RowsAt w v5 2 (E.map El.row)
  z4 : ∀ x ∈ C, x.n.size ≤ 9223372036854775807
  z5 : ∀ x ∈ E, x.n.size ≤ 9223372036854775807
theorem LocAt.below {w w' : World} {v1 v4 v5 : Value} {W : List Int} {C : List Cl} {E : List El} (h : LocAt w v1 v4 v5 W C E) (hb : Below w.heap.size w w') : LocAt w' v1 v4 v5 W C E :=
  ⟨h.r1.below hb, h.r4.below hb, h.r5.below hb, h.z4, h.z5⟩
def okL (n : ByteArray) (W : List Int) (lo up : ByteArray) (C : List Cl) (E : List El) : Bool :=
  nameB n.data.toList && ((decide (W.length = 256) && (decide (lo.size = 256) && decide (up.size = 256))) && (wsB W && (clsOk C && elsOk E)))
theorem errs_is {b : Bool} {w w' : World} {e : Ending} (h : Errs b w e w') : ∃ x : Int, e = .returned (.int .i64 x) ∧ (x == 0) = b ∧ Below w.heap.size w w' := h
theorem ws_take (W : List Int) (k : Nat) (h : wsB W = true) : wsB (W.take k) = true := by
  unfold wsB at *
  rw [List.all_eq_true] at *
  exact fun x hx => h x (List.mem_of_mem_take hx)
theorem ws_next {W : List Int} {k : Nat} {n : Int} (hn : W[k]? = some n) (h : wsB (W.take k) = true) : wsB (W.take (k + 1)) = (decide (0 ≤ n) && decide (n ≤ 65535)) := by
  unfold wsB at *
  rw [List.take_add_one, hn, List.all_append, h]
  simp
theorem ws_no {W : List Int} {k : Nat} (h : wsB (W.take k) = false) : wsB W = false := by
  cases e : wsB W with
  | false => rfl
  | true => rw [ws_take W k e] at h; cases h
theorem ok_1 {n : ByteArray} {W : List Int} {lo up : ByteArray} {C : List Cl} {E : List El} (h : nameB n.data.toList = false) : okL n W lo up C E = false := by unfold okL; rw [h]; rfl
theorem ok_2 {n : ByteArray} {W : List Int} {lo up : ByteArray} {C : List Cl} {E : List El} (h : ¬ (W.length = 256 ∧ lo.size = 256 ∧ up.size = 256)) : okL n W lo up C E = false := by
  unfold okL
  have : (decide (W.length = 256) && (decide (lo.size = 256) && decide (up.size = 256))) = false := by
    rw [Bool.eq_false_iff]; intro e
    simp only [Bool.and_eq_true, decide_eq_true_eq] at e
    exact h e
  rw [this, Bool.false_and, Bool.and_false]
theorem ok_3 {n : ByteArray} {W : List Int} {lo up : ByteArray} {C : List Cl} {E : List El} (h : wsB W = false) : okL n W lo up C E = false := by
  unfold okL; rw [h, Bool.false_and, Bool.and_false, Bool.and_false]
theorem ok_4 {n : ByteArray} {W : List Int} {lo up : ByteArray} {C : List Cl} {E : List El} (h : clsOk C = false) : okL n W lo up C E = false := by
  unfold okL; rw [h, Bool.false_and, Bool.and_false, Bool.and_false, Bool.and_false]
theorem ok_5 {n : ByteArray} {W : List Int} {lo up : ByteArray} {C : List Cl} {E : List El} (h1 : nameB n.data.toList = true) (h2 : W.length = 256 ∧ lo.size = 256 ∧ up.size = 256) (h3 : wsB W = true) (h4 : clsOk C = true) : okL n W lo up C E = elsOk E := by
  unfold okL; rw [h1, h3, h4, decide_eq_true h2.1, decide_eq_true h2.2.1, decide_eq_true h2.2.2]; rfl
theorem below_step {w w1 : World} {o : Obj} (hb : Below (w.alloc o).heap.size (w.alloc o) w1) : Below w.heap.size w w1 :=
  ((Below.refl w.heap.size w).alloc (Nat.le_refl _) o).trans (hb.mono ((Below.refl w.heap.size w).alloc (Nat.le_refl _) o).size)
/-- block g holds a locale -/
structure LBlk (w : World) (g : Nat) (a b c d e f : Value) : Prop where
  c0 : w.cell? ⟨g, 0, none⟩ = some a
  c1 : w.cell? ⟨g, 1, none⟩ = some b
  c2 : w.cell? ⟨g, 2, none⟩ = some c
  c3 : w.cell? ⟨g, 3, none⟩ = some d
  c4 : w.cell? ⟨g, 4, none⟩ = some e
  c5 : w.cell? ⟨g, 5, none⟩ = some f
theorem LBlk.below {w w' : World} {g : Nat} {a b c d e f : Value} (h : LBlk w g a b c d e f) (hb : Below w.heap.size w w') : LBlk w' g a b c d e f := by
  have hl : g < w.heap.size := World.block_lt_of_cell? w _ h.c0
  exact ⟨by rw [hb.cell (p := ⟨g, 0, none⟩) hl]; exact h.c0, by rw [hb.cell (p := ⟨g, 1, none⟩) hl]; exact h.c1, by rw [hb.cell (p := ⟨g, 2, none⟩) hl]; exact h.c2, by rw [hb.cell (p := ⟨g, 3, none⟩) hl]; exact h.c3, by rw [hb.cell (p := ⟨g, 4, none⟩) hl]; exact h.c4, by rw [hb.cell (p := ⟨g, 5, none⟩) hl]; exact h.c5⟩
theorem LBlk.new (w : World) (a b c d e f : Value) : LBlk (w.alloc (.cells #[a, b, c, d, e, f] 30)) w.heap.size a b c d e f := by
  have h := heap_alloc_new w (.cells #[a, b, c, d, e, f] 30)
  generalize w.alloc (.cells #[a, b, c, d, e, f] 30) = w', w.heap.size = n at h
  refine ⟨?_, ?_, ?_, ?_, ?_, ?_⟩
  all_goals simp [World.cell?, h]
set_option maxRecDepth 100000 in
set_option maxHeartbeats 4000000 in
theorem check_any (n : ByteArray) (v1 : Value) (lo up : ByteArray) (v4 v5 : Value) (W : List Int) (C : List Cl) (E : List El) (w : World) (hL : LocAt w v1 v4 v5 W C E) (hn : n.size ≤ 9223372036854775807) :
    Calls Tryd.prog 60 #[lval n v1 lo up v4 v5] w (Errs (okL n W lo up C E) w) := by
  have ZN := Lib.hid hn; clear hn
  have B0 : Below w.heap.size w (w.alloc (.cells #[.string n, v1, .string lo, .string up, v4, v5] 30)) := (Below.refl _ _).alloc (Nat.le_refl _) _
  obtain ⟨nb, hnb⟩ : ∃ b, nameB n.data.toList = b := ⟨_, rfl⟩
  have NB := Lib.hid hnb; clear hnb
  cases nb with
  | false =>
    have E1 : Hid (okL n W lo up C E = false) := Lib.hid (ok_1 NB.out)
    go_enter Tryd.func60, Tryd.ntmps60
    go_wp2_with (go_at_call 72; refine (name_is n false _ ZN.out NB).mono ?_; rintro e w' ⟨rfl, rfl⟩)
    go_ret
    exact ⟨4, rfl, by rw [E1.out]; rfl, B0⟩
  | true =>
    obtain ⟨a1, cap1, e1, hc1, hc2, hrow⟩ := hL.r1
    rw [List.length_map] at e1 hc1
    have LO := Lib.hid hL; clear hL
    by_cases hz : W.length = 256 ∧ lo.size = 256 ∧ up.size = 256
    · have HZ := Lib.hid hz
      obtain ⟨z1, z2, z3⟩ := hz
      rw [z1] at e1 hc1
      have t2 : ((lo.size : Int) != 256) = false := by rw [bne_eq_false_iff_eq]; omega
      have t3 : ((up.size : Int) != 256) = false := by rw [bne_eq_false_iff_eq]; omega
      obtain ⟨g, o, rfl, hg, hcell⟩ : ∃ g o, a1 = some ⟨g, o, none⟩ ∧ g < w.heap.size ∧ ∀ (j : Nat) m, W[j]? = some m → w.cell? ⟨g, o + j, none⟩ = some (.int .i64 m) := by
        rcases hrow with hrow | ⟨g, o, ha, hg, hc⟩
        · have := congrArg List.length hrow
          rw [List.length_map, z1] at this; cases this
        · refine ⟨g, o, ha, hg, fun j m hj => ?_⟩
          have := hc j [.int .i64 m] (by rw [List.getElem?_map, hj]; rfl) 0 _ rfl
          rw [Nat.mul_one, Nat.add_zero] at this; exact this
      have HC := Lib.hid hcell; clear hcell
      have H1 := Lib.hid hc1; clear hc1
      have H2 := Lib.hid hc2; clear hc2
      clear hrow z2 z3
      subst e1
      have W1 := Lib.hid z1; clear z1
      go_enter Tryd.func60, Tryd.ntmps60
      go_wp2_with (go_at_call 72; refine (name_is n true _ ZN.out NB).mono ?_; rintro e w' ⟨rfl, rfl⟩)
      go_loop [29] (fun i => ∃ k : Nat, k ≤ 256 ∧ i = .int .i64 k ∧ Hid (wsB (W.take k) = true)) (fun i => 256 - (intOf i).toNat)
      case atStart => exact ⟨0, Nat.zero_le _, rfl, Lib.hid rfl⟩
      case round =>
        obtain ⟨k, hk, rfl, WK⟩ := hrel
        by_cases hlt : k < 256
        · obtain ⟨x, hx⟩ : ∃ x, W[k]? = some x := ⟨W[k]'(by rw [W1.out]; exact hlt), List.getElem?_eq_getElem (by rw [W1.out]; exact hlt)⟩
          have c0 := (B0.cell (p := ⟨g, o + k, none⟩) hg).trans (HC.out k x hx)
          have WN := Lib.hid (ws_next hx WK.out); clear hx
          by_cases x0 : x < 0
          · have E1 : Hid (okL n W lo up C E = false) := Lib.hid (ok_3 (ws_no (by rw [WN.out, decide_eq_false (by omega : ¬ 0 ≤ x)]; rfl)))
            have t4 : decide (x < 0) = true := decide_eq_true x0
            clear x0
            go_wp2
            go_ret
            exact ⟨2, rfl, by rw [E1.out]; rfl, B0⟩
          · have t4 : decide (x < 0) = false := decide_eq_false x0
            by_cases x1 : 65535 < x
            · have E1 : Hid (okL n W lo up C E = false) := Lib.hid (ok_3 (ws_no (by rw [WN.out, decide_eq_false (by omega : ¬ x ≤ 65535), Bool.and_false])))
              have t5 : decide (65535 < x) = true := decide_eq_true x1
              clear x0 x1
              go_wp2
              go_ret
              exact ⟨2, rfl, by rw [E1.out]; rfl, B0⟩
            · have t5 : decide (65535 < x) = false := decide_eq_false x1
              have WX : Hid (wsB (W.take (k + 1)) = true) := Lib.hid (by rw [WN.out, decide_eq_true (by omega : 0 ≤ x), decide_eq_true (by omega : x ≤ 65535)]; rfl)
              clear x0 x1
              go_wp2
              go_round
              case rel => exact ⟨k + 1, by omega, by go_num, WX⟩
              case measure => simp [intOf]; omega
        · have ek : k = 256 := by omega
          have WA : Hid (wsB W = true) := Lib.hid (by
            have := WK.out
            rw [ek, ← W1.out, List.take_length] at this; exact this)
          clear ek
          obtain ⟨cb, hcb⟩ : ∃ b, clsOk C = b := ⟨_, rfl⟩
          have CB := Lib.hid hcb; clear hcb
          go_wp2_with fail
          (go_at_call 73; refine (checkClasses_any v4 C _ (LO.out.r4.below (Below.refl _ _ |>.alloc (Nat.le_refl _) _)) LO.out.z4).mono ?_)
          intro e w1 h1
          obtain ⟨x, rfl, hx, hb1⟩ := errs_is h1
          clear h1
          rw [CB.out] at hx
          cases cb with
          | false =>
            have E1 : Hid (okL n W lo up C E = false) := Lib.hid (ok_4 CB.out)
            have X := Lib.hid hx
            have hx' : (x != 0) = true := by rw [bne, hx]; rfl
            go_wp2_with fail
            go_ret
            exact ⟨x, rfl, by rw [E1.out]; exact X.out, below_step hb1⟩
          | true =>
            have E1 : Hid (okL n W lo up C E = elsOk E) := Lib.hid (ok_5 NB.out HZ.out WA.out CB.out)
            obtain rfl : x = 0 := by simpa using hx
            clear hx
            have LC := Lib.hid (LBlk.new w (.string n) (.slice (some ⟨g, o, none⟩) 256 cap1) (.string lo) (.string up) v4 v5 |>.below hb1)
            obtain ⟨l0, l1, l2, l3, l4, l5⟩ := LC.out
            go_wp2_with fail
            (go_at_call 74; refine (checkElements_any v5 E _ (LO.out.r5.below (below_step hb1)) LO.out.z5).mono ?_)
            intro e w2 h2
            obtain ⟨y, rfl, hy, hb2⟩ := errs_is h2
            clear h2 l0 l1 l2 l3 l4 l5
            have Y := Lib.hid hy; clear hy
            go_wp2_with fail
            go_ret
            exact ⟨y, rfl, by rw [E1.out]; exact Y.out, (below_step hb1).trans (hb2.mono (below_step hb1).size)⟩
    · have E1 : Hid (okL n W lo up C E = false) := Lib.hid (ok_2 hz)
      subst e1
      clear hrow hc1 hc2
      by_cases z1 : W.length = 256
      · rw [z1] at B0 ⊢
        by_cases z2 : lo.size = 256
        · have t2 : ((lo.size : Int) != 256) = false := by rw [bne_eq_false_iff_eq]; omega
          have t3 : ((up.size : Int) != 256) = true := by rw [bne_iff_ne]; intro e; exact hz ⟨z1, z2, by omega⟩
          clear hz z1 z2
          go_enter Tryd.func60, Tryd.ntmps60
          go_wp2_with (go_at_call 72; refine (name_is n true _ ZN.out NB).mono ?_; rintro e w' ⟨rfl, rfl⟩)
          go_ret
          exact ⟨2, rfl, by rw [E1.out]; rfl, B0⟩
        · have t2 : ((lo.size : Int) != 256) = true := by rw [bne_iff_ne]; omega
          clear hz z1 z2
          go_enter Tryd.func60, Tryd.ntmps60
          go_wp2_with (go_at_call 72; refine (name_is n true _ ZN.out NB).mono ?_; rintro e w' ⟨rfl, rfl⟩)
          go_ret
          exact ⟨2, rfl, by rw [E1.out]; rfl, B0⟩
      · have t1 : ((W.length : Int) != 256) = true := by rw [bne_iff_ne]; omega
        clear hz
        go_enter Tryd.func60, Tryd.ntmps60
        go_wp2_with (go_at_call 72; refine (name_is n true _ ZN.out NB).mono ?_; rintro e w' ⟨rfl, rfl⟩)
        go_ret
        exact ⟨2, rfl, by rw [E1.out]; rfl, B0⟩
set_option maxRecDepth 100000 in
set_option maxHeartbeats 4000000 in
theorem rcheck_any (n : ByteArray) (v1 : Value) (lo up : ByteArray) (v4 v5 : Value) (W : List Int) (C : List Cl) (E : List El) (w : World) (hL : LocAt w v1 v4 v5 W C E) (hn : n.size ≤ 9223372036854775807) :
    Calls Tryd.prog 63 #[lval n v1 lo up v4 v5] w (Errs (okL n W lo up C E) w) := by
  have ZN := Lib.hid hn; clear hn
  have B0 : Below w.heap.size w (w.alloc (.cells #[.string n, v1, .string lo, .string up, v4, v5] 30)) := (Below.refl _ _).alloc (Nat.le_refl _) _
  obtain ⟨nb, hnb⟩ : ∃ b, nameB n.data.toList = b := ⟨_, rfl⟩
  have NB := Lib.hid hnb; clear hnb
  cases nb with
  | false =>
    have E1 : Hid (okL n W lo up C E = false) := Lib.hid (ok_1 NB.out)
    go_enter Tryd.func63, Tryd.ntmps63
    go_wp2_with (go_at_call 77; refine (rname_is n false _ NB).mono ?_; rintro e w' ⟨rfl, rfl⟩)
    go_ret
    exact ⟨4, rfl, by rw [E1.out]; rfl, B0⟩
  | true =>
    obtain ⟨a1, cap1, e1, hc1, hc2, hrow⟩ := hL.r1
    rw [List.length_map] at e1 hc1
    have LO := Lib.hid hL; clear hL
    by_cases hz : W.length = 256 ∧ lo.size = 256 ∧ up.size = 256
    · have HZ := Lib.hid hz
      obtain ⟨z1, z2, z3⟩ := hz
      rw [z1] at e1 hc1
      have t2 : ((lo.size : Int) != 256) = false := by rw [bne_eq_false_iff_eq]; omega
      have t3 : ((up.size : Int) != 256) = false := by rw [bne_eq_false_iff_eq]; omega
      obtain ⟨g, o, rfl, hg, hcell⟩ : ∃ g o, a1 = some ⟨g, o, none⟩ ∧ g < w.heap.size ∧ ∀ (j : Nat) m, W[j]? = some m → w.cell? ⟨g, o + j, none⟩ = some (.int .i64 m) := by
        rcases hrow with hrow | ⟨g, o, ha, hg, hc⟩
        · have := congrArg List.length hrow
          rw [List.length_map, z1] at this; cases this
        · refine ⟨g, o, ha, hg, fun j m hj => ?_⟩
          have := hc j [.int .i64 m] (by rw [List.getElem?_map, hj]; rfl) 0 _ rfl
          rw [Nat.mul_one, Nat.add_zero] at this; exact this
      have HC := Lib.hid hcell; clear hcell
      have H1 := Lib.hid hc1; clear hc1
      have H2 := Lib.hid hc2; clear hc2
      clear hrow z2 z3
      subst e1
      have W1 := Lib.hid z1; clear z1
      go_enter Tryd.func63, Tryd.ntmps63
      go_wp2_with (go_at_call 77; refine (rname_is n true _ NB).mono ?_; rintro e w' ⟨rfl, rfl⟩)
      go_loop [3] (fun i => ∃ k : Nat, k ≤ 256 ∧ i = .int .i64 k ∧ Hid (wsB (W.take k) = true)) (fun i => 256 - (intOf i).toNat)
      case atStart => exact ⟨0, Nat.zero_le _, rfl, Lib.hid rfl⟩
      case round =>
        obtain ⟨k, hk, rfl, WK⟩ := hrel
        by_cases hlt : k < 256
        · obtain ⟨x, hx⟩ : ∃ x, W[k]? = some x := ⟨W[k]'(by rw [W1.out]; exact hlt), List.getElem?_eq_getElem (by rw [W1.out]; exact hlt)⟩
          have c0 := (B0.cell (p := ⟨g, o + k, none⟩) hg).trans (HC.out k x hx)
          have WN := Lib.hid (ws_next hx WK.out); clear hx
          obtain ⟨lb, hlb⟩ : ∃ b, (decide (0 ≤ x) && decide (x ≤ 65535)) = b := ⟨_, rfl⟩
          have LB := Lib.hid hlb; clear hlb
          cases lb with
          | false =>
            have E1 : Hid (okL n W lo up C E = false) := Lib.hid (ok_3 (ws_no (by rw [WN.out]; exact LB.out)))
            go_wp2_with (go_at_call 78; refine (light_is x false _ LB).mono ?_; rintro e w' ⟨rfl, rfl⟩)
            go_ret
            exact ⟨2, rfl, by rw [E1.out]; rfl, B0⟩
          | true =>
            have WX : Hid (wsB (W.take (k + 1)) = true) := Lib.hid (by rw [WN.out]; exact LB.out)
            go_wp2_with (go_at_call 78; refine (light_is x true _ LB).mono ?_; rintro e w' ⟨rfl, rfl⟩)
            go_round
            case rel => exact ⟨k + 1, by omega, by go_num, WX⟩
            case measure => simp [intOf]; omega
        · have ek : k = 256 := by omega
          have WA : Hid (wsB W = true) := Lib.hid (by
            have := WK.out
            rw [ek, ← W1.out, List.take_length] at this; exact this)
          clear ek
          obtain ⟨cb, hcb⟩ : ∃ b, clsOk C = b := ⟨_, rfl⟩
          have CB := Lib.hid hcb; clear hcb
          go_wp2_with fail
          (go_at_call 79; refine (rcheckClasses_any v4 C _ (LO.out.r4.below (Below.refl _ _ |>.alloc (Nat.le_refl _) _))).mono ?_)
          intro e w1 h1
          obtain ⟨x, rfl, hx, hb1⟩ := errs_is h1
          clear h1
          rw [CB.out] at hx
          cases cb with
          | false =>
            have E1 : Hid (okL n W lo up C E = false) := Lib.hid (ok_4 CB.out)
            have X := Lib.hid hx
            have hx' : (x != 0) = true := by rw [bne, hx]; rfl
            go_wp2_with fail
            go_ret
            exact ⟨x, rfl, by rw [E1.out]; exact X.out, below_step hb1⟩
          | true =>
            have E1 : Hid (okL n W lo up C E = elsOk E) := Lib.hid (ok_5 NB.out HZ.out WA.out CB.out)
            obtain rfl : x = 0 := by simpa using hx
            clear hx
            have LC := Lib.hid (LBlk.new w (.string n) (.slice (some ⟨g, o, none⟩) 256 cap1) (.string lo) (.string up) v4 v5 |>.below hb1)
            obtain ⟨l0, l1, l2, l3, l4, l5⟩ := LC.out
            go_wp2_with fail
            (go_at_call 80; refine (rcheckElements_any v5 E _ (LO.out.r5.below (below_step hb1))).mono ?_)
            intro e w2 h2
            obtain ⟨y, rfl, hy, hb2⟩ := errs_is h2
            clear h2 l0 l1 l2 l3 l4 l5
            have Y := Lib.hid hy; clear hy
            go_wp2_with fail
            go_ret
            exact ⟨y, rfl, by rw [E1.out]; exact Y.out, (below_step hb1).trans (hb2.mono (below_step hb1).size)⟩
    · have E1 : Hid (okL n W lo up C E = false) := Lib.hid (ok_2 hz)
      subst e1
      by_cases z1 : W.length = 256
      · rw [z1] at B0 ⊢
        obtain ⟨g, o, rfl, hg, hcell⟩ : ∃ g o, a1 = some ⟨g, o, none⟩ ∧ g < w.heap.size ∧ ∀ (j : Nat) m, W[j]? = some m → w.cell? ⟨g, o + j, none⟩ = some (.int .i64 m) := by
          rcases hrow with hrow | ⟨g, o, ha, hg, hc⟩
          · have := congrArg List.length hrow
            rw [List.length_map, z1] at this; cases this
          · refine ⟨g, o, ha, hg, fun j m hj => ?_⟩
            have := hc j [.int .i64 m] (by rw [List.getElem?_map, hj]; rfl) 0 _ rfl
            rw [Nat.mul_one, Nat.add_zero] at this; exact this
        have HC := Lib.hid hcell; clear hcell
        have tt : (((lo.size : Int) != 256) = true) ∨ (((lo.size : Int) != 256) = false ∧ ((up.size : Int) != 256) = true) := by
          by_cases z2 : lo.size = 256
          · refine .inr ⟨by rw [bne_eq_false_iff_eq]; omega, ?_⟩
            rw [bne_iff_ne]; intro e; exact hz ⟨z1, z2, by omega⟩
          · exact .inl (by rw [bne_iff_ne]; omega)
        have H1 := Lib.hid hc1
        have H2 := Lib.hid hc2
        have W1 := Lib.hid z1
        clear hz z1 hrow hc1 hc2
        rcases tt with t2 | ⟨t2, t3⟩
        all_goals
          go_enter Tryd.func63, Tryd.ntmps63
          go_wp2_with (go_at_call 77; refine (rname_is n true _ NB).mono ?_; rintro e w' ⟨rfl, rfl⟩)
          go_loop [3] (fun i => ∃ k : Nat, k ≤ 256 ∧ i = .int .i64 k) (fun i => 256 - (intOf i).toNat)
          case atStart => exact ⟨0, Nat.zero_le _, rfl⟩
          case round =>
            obtain ⟨k, hk, rfl⟩ := hrel
            by_cases hlt : k < 256
            · obtain ⟨x, hx⟩ : ∃ x, W[k]? = some x := ⟨W[k]'(by rw [W1.out]; exact hlt), List.getElem?_eq_getElem (by rw [W1.out]; exact hlt)⟩
              have c0 := (B0.cell (p := ⟨g, o + k, none⟩) hg).trans (HC.out k x hx)
              clear hx
              obtain ⟨lb, hlb⟩ : ∃ b, (decide (0 ≤ x) && decide (x ≤ 65535)) = b := ⟨_, rfl⟩
              have LB := Lib.hid hlb; clear hlb
              cases lb with
              | false =>
                go_wp2_with (go_at_call 78; refine (light_is x false _ LB).mono ?_; rintro e w' ⟨rfl, rfl⟩)
                go_ret
                exact ⟨2, rfl, by rw [E1.out]; rfl, B0⟩
              | true =>
                go_wp2_with (go_at_call 78; refine (light_is x true _ LB).mono ?_; rintro e w' ⟨rfl, rfl⟩)
                go_round
                case rel => exact ⟨k + 1, by omega, by go_num⟩
                case measure => simp [intOf]; omega
            · go_wp2
              go_ret
              exact ⟨2, rfl, by rw [E1.out]; rfl, B0⟩
      · have t1 : ((W.length : Int) != 256) = true := by rw [bne_iff_ne]; omega
        clear hz hrow hc1 hc2
        go_enter Tryd.func63, Tryd.ntmps63
        go_wp2_with (go_at_call 77; refine (rname_is n true _ NB).mono ?_; rintro e w' ⟨rfl, rfl⟩)
        go_ret
        exact ⟨2, rfl, by rw [E1.out]; rfl, B0⟩
end Go.Proofs.YtbhdhcnbagjmcaaDoor
