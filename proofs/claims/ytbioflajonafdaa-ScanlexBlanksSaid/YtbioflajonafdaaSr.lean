/- walks: SameTokens, moved, the law Reads -/
import Derived.Test.YtbioflajonafdaaSq
namespace Go.Proofs.Ytbioflajonafdaa
open Go.RowKit
open Tx
/-- tokens that can be read in memory, wherever they lie -/
def TkR (w : World) (v : Value) (T : List Tok) : Prop := T.length ≤ maxLen ∧ ∃ p cap, v = .slice p T.length cap ∧
  (T ≠ [] → ∃ g o, p = some ⟨g, o, none⟩ ∧ g < w.heap.size ∧ ∀ j u, (T.flatMap Tok.cells)[j]? = some u → w.cell? ⟨g, o + j, none⟩ = some u)
theorem Toks.rd {w : World} {B : Nat} {v : Value} {T : List Tok} (h : Toks w B v T) : TkR w v T := by
  by_cases hT : T = []
  · subst hT
    obtain ⟨gg, cp, rfl⟩ := h.nil
    exact ⟨Nat.zero_le _, gg, cp, rfl, fun x => absurd rfl x⟩
  · obtain ⟨g, cap, rfl, -, hg, hn, hm, -⟩ := h.cell hT
    refine ⟨by omega, _, cap, rfl, fun _ => ⟨g, 0, rfl, hg, fun j u hj => ?_⟩⟩
    have := World.ownsRow.cells h (g := g) rfl j u hj
    rw [Go.WideShapes.add_plain] at this
    exact this
theorem TkR.below {w w' : World} {v : Value} {T : List Tok} (h : TkR w v T) (hb : Below w.heap.size w w') : TkR w' v T := by
  obtain ⟨h1, p, cap, hv, h2⟩ := h
  refine ⟨h1, p, cap, hv, fun hT => ?_⟩
  obtain ⟨g, o, hp, hg, hc⟩ := h2 hT
  refine ⟨g, o, hp, Nat.lt_of_lt_of_le hg hb.size, fun j u hj => ?_⟩
  rw [hb.cell (p := ⟨g, o + j, none⟩) hg]; exact hc j u hj
theorem TkR.at {w : World} {v : Value} {T : List Tok} (h : TkR w v T) (hT : T ≠ []) : ∃ g o cap, v = .slice (some ⟨g, o, none⟩) T.length cap ∧ g < w.heap.size ∧
    ∀ (j : Nat) (t : Tok), T[j]? = some t → w.cell? ⟨g, o + j * 4, none⟩ = some (.int .i64 t.k) ∧ w.cell? ⟨g, o + j * 4 + 1, none⟩ = some (.string t.t) ∧ w.cell? ⟨g, o + j * 4 + 2, none⟩ = some (.int .i64 t.n) ∧ w.cell? ⟨g, o + j * 4 + 3, none⟩ = some (.int .i64 t.a) := by
  obtain ⟨h1, p, cap, hv, h2⟩ := h
  obtain ⟨g, o, hp, hg, hc⟩ := h2 hT
  subst hp
  refine ⟨g, o, cap, hv, hg, fun j t hj => ?_⟩
  have key : ∀ i x, i < 4 → t.cells[i]? = some x → w.cell? ⟨g, o + (j * 4 + i), none⟩ = some x := fun i x hi hx =>
    hc (j * 4 + i) x (by rw [flat_get T j i hi, hj]; exact hx)
  exact ⟨key 0 _ (by omega) rfl, key 1 _ (by omega) rfl, key 2 _ (by omega) rfl, key 3 _ (by omega) rfl⟩
set_option maxHeartbeats 4000000 in
theorem same_any (T : List Tok) (va vb : Value) (w : World) (ha : TkR w va T) (hb : TkR w vb T) :
    Calls Try.prog 11 #[va, vb] w fun e w' => e = .returned (.bool true) ∧ Below w.heap.size w w' := by
  by_cases hT : T = []
  · subst hT
    obtain ⟨-, p, cap, rfl, -⟩ := ha
    obtain ⟨-, p2, cap2, rfl, -⟩ := hb
    go_enter Try.func11, Try.ntmps11
    go_wp2_with fail
    go_loop [5] (fun i => i = .int .i64 0) (fun _ => 0)
    case atStart => rfl
    case round =>
      subst hrel
      go_wp2_with fail
      go_ret
      exact ⟨rfl, Below.refl _ _⟩
  · have hl := ha.1
    unfold maxLen at hl
    obtain ⟨g, o, cap, rfl, hg, hc⟩ := ha.at hT
    obtain ⟨g2, o2, cap2, rfl, hg2, hc2⟩ := hb.at hT
    obtain ⟨n, hn⟩ : ∃ n, T.length = n := ⟨_, rfl⟩
    rw [hn] at hl
    have C1 := Lib.hid hc
    have C2 := Lib.hid hc2
    clear hc hc2 ha hb
    rw [hn]
    have HN := Lib.hid hn
    clear hn
    go_enter Try.func11, Try.ntmps11
    go_wp2_with fail
    go_loopw [5] (fun i wr => ∃ j : Nat, i = .int .i64 j ∧ j ≤ n ∧ Hid (Below w.heap.size w wr)) (fun i _ => n - (intOf i).toNat)
    case atStart => exact ⟨0, rfl, by omega, Lib.hid (Below.refl _ _)⟩
    case round =>
      obtain ⟨j, rfl, hj, HB⟩ := hrel
      have j1 : (0 : Int) ≤ (j : Int) := by omega
      by_cases hlt : j < n
      · have j2 : (j : Int) < (n : Int) := by omega
        have wr1 : IntKind.i64.wrap ((j : Int) + 1) = (j : Int) + 1 := by rw [IntKind.wrap_i64]; omega
        have wr0 : IntKind.i64.wrap (j : Int) = (j : Int) := by rw [IntKind.wrap_i64]; omega
        obtain ⟨t, ht⟩ : ∃ t, T[j]? = some t := ⟨_, List.getElem?_eq_getElem (by rw [HN.out]; exact hlt)⟩
        have B := HB.out
        obtain ⟨k0, k1, k2, k3⟩ := C1.out j t ht
        obtain ⟨m0, m1, m2, m3⟩ := C2.out j t ht
        rw [← B.cell (p := ⟨g, _, none⟩) hg] at k0 k1 k2 k3
        rw [← B.cell (p := ⟨g2, _, none⟩) hg2] at m0 m1 m2 m3
        go_wp2_with fail
        go_quiet (fail)
        go_wp2_with fail
        have BB := tx_below_drewN B nq
        go_roundw
        case rel => exact ⟨j + 1, by go_num, by omega, Lib.hid BB⟩
        case measure => simp [intOf]; omega
      · have j2 : ¬ (j : Int) < (n : Int) := by omega
        go_wp2_with fail
        go_ret
        exact ⟨rfl, HB.out⟩
theorem below_then {w w1 w2 : World} (h : Below w.heap.size w w1) (h2 : Below w1.heap.size w1 w2) : Below w.heap.size w w2 := h.trans (h2.mono h.size)
theorem Toks.none (w : World) (B : Nat) : Toks w B (.slice none 0 0) [] := ⟨rfl, .inl ⟨rfl, rfl⟩⟩
theorem stok_ok (s : ByteArray) (T : List Tok) (h : tokR s = .ok T) (w : World) : Calls Try.prog 9 #[.string s] w fun e w' => (∃ v, e = .returned (.tuple #[v, .int .i64 0, .int .i64 0]) ∧ Hid (Toks w' w.heap.size v T)) ∧ Hid (Below w.heap.size w w') := by
  refine (stokens_any s w).mono fun e w' ⟨h1, h2⟩ => ?_
  rw [h] at h1
  obtain ⟨v, hv, ht⟩ := h1
  exact ⟨⟨v, hv, Lib.hid ht⟩, Lib.hid h2⟩
theorem rtok_ok (s : ByteArray) (T : List Tok) (h : tokR s = .ok T) (w : World) : Calls Try.prog 10 #[.string s] w fun e w' => (∃ v, e = .returned (.tuple #[v, .int .i64 0, .int .i64 0]) ∧ Hid (Toks w' w.heap.size v T)) ∧ Hid (Below w.heap.size w w') := by
  refine (rtokens_any s w).mono fun e w' ⟨h1, h2⟩ => ?_
  rw [h] at h1
  obtain ⟨v, hv, ht⟩ := h1
  exact ⟨⟨v, hv, Lib.hid ht⟩, Lib.hid h2⟩
theorem stok_er (s : ByteArray) (x : Int) (k : Nat) (h : tokR s = .err x k) (w : World) : Calls Try.prog 9 #[.string s] w fun e w' => e = .returned (.tuple #[.slice none 0 0, .int .i64 x, .int .i64 k]) ∧ Hid (Below w.heap.size w w') := by
  refine (stokens_any s w).mono fun e w' ⟨h1, h2⟩ => ?_
  rw [h] at h1
  exact ⟨h1, Lib.hid h2⟩
theorem rtok_er (s : ByteArray) (x : Int) (k : Nat) (h : tokR s = .err x k) (w : World) : Calls Try.prog 10 #[.string s] w fun e w' => e = .returned (.tuple #[.slice none 0 0, .int .i64 x, .int .i64 k]) ∧ Hid (Below w.heap.size w w') := by
  refine (rtokens_any s w).mono fun e w' ⟨h1, h2⟩ => ?_
  rw [h] at h1
  exact ⟨h1, Lib.hid h2⟩
set_option maxHeartbeats 4000000 in
theorem law_reads (s : ByteArray) (w : World) : Calls Try.prog 3 #[.string s] w fun e w' => e = .returned (.bool true) ∧ Below w.heap.size w w' := by
  obtain ⟨r, hr⟩ : ∃ r, tokR s = r := ⟨_, rfl⟩
  cases r with
  | ok T =>
    have HR := Lib.hid hr
    clear hr
    go_enter Try.func3, Try.ntmps3
    go_wp2_with (first | (go_at_call 9; refine (stok_ok s T HR.out _).mono ?_; rintro e w1 ⟨⟨v1, rfl, T1⟩, B1⟩) | (go_at_call 10; refine (rtok_ok s T HR.out _).mono ?_; rintro e w2 ⟨⟨v2, rfl, T2⟩, B2⟩) | (go_at_call 11; refine (same_any T _ _ _ (T1.out.rd.below B2.out) T2.out.rd).mono ?_; rintro e w3 ⟨rfl, hb3⟩) | (go_at_call 12; refine (awake_any _).mono ?_; rintro e w5 ⟨rfl, hb5⟩))
    go_ret
    exact ⟨rfl, below_then (below_then (below_then B1.out B2.out) hb3) hb5⟩
  | err x k =>
    have HR := Lib.hid hr
    clear hr
    go_enter Try.func3, Try.ntmps3
    go_wp2_with (first | (go_at_call 9; refine (stok_er s x k HR.out _).mono ?_; rintro e w1 ⟨rfl, B1⟩) | (go_at_call 10; refine (rtok_er s x k HR.out _).mono ?_; rintro e w2 ⟨rfl, B2⟩) | (go_at_call 11; refine (same_any [] _ _ _ (Toks.none _ 0).rd (Toks.none _ 0).rd).mono ?_; rintro e w3 ⟨rfl, hb3⟩) | (go_at_call 12; refine (awake_any _).mono ?_; rintro e w5 ⟨rfl, hb5⟩))
    go_ret
    exact ⟨rfl, below_then (below_then (below_then B1.out B2.out) hb3) hb5⟩
end Go.Proofs.Ytbioflajonafdaa
