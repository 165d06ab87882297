/- walks: uniq.Check, both; awake -/
import Derived.Test.YtoohbgjfhchnmaaDoorQy
namespace Go.Proofs.YtoohbgjfhchnmaaDoor
open Go.RowKit Go.Maps
open Lcl
def chkV (F B D : Int) : Int := if F < 0 ∨ B < 0 ∨ D < 0 then 2 else 0
theorem ucheck_any (F B D : Int) (cnt fold rep sg : Bool) (w : World) : Calls Tryd.prog 21 #[spv F B D cnt fold rep sg] w fun e w' => e = .returned (.int .i64 (chkV F B D)) ∧ Below w.heap.size w w' := by
  have q : (w.alloc (.cells (spc F B D cnt fold rep sg) 23)).heap[w.heap.size]? = some (.cells (spc F B D cnt fold rep sg) 23 (0, 0)) := heap_alloc_new _ _
  obtain ⟨a0, a1, a2, a3, a4, a5, a6⟩ := spc_cells q
  clear q
  have bb : Below w.heap.size w (w.alloc (.cells (spc F B D cnt fold rep sg) 23)) := (Below.refl _ _).alloc (Nat.le_refl _) _
  obtain ⟨x, hx⟩ : ∃ x, chkV F B D = x := ⟨_, rfl⟩
  rw [hx]
  unfold chkV at hx
  rcases Decidable.em (F < 0) with h1 | h1
  · rw [if_pos (.inl h1)] at hx
    subst hx
    have k1 : decide (F < 0) = true := decide_eq_true h1
    clear h1
    go_enter Tryd.func21, Tryd.ntmps21
    go_wp2
    go_ret
    exact ⟨rfl, bb⟩
  · have k1 : decide (F < 0) = false := decide_eq_false h1
    rcases Decidable.em (B < 0) with h2 | h2
    · rw [if_pos (.inr (.inl h2))] at hx
      subst hx
      have k2 : decide (B < 0) = true := decide_eq_true h2
      clear h1 h2
      go_enter Tryd.func21, Tryd.ntmps21
      go_wp2
      go_ret
      exact ⟨rfl, bb⟩
    · have k2 : decide (B < 0) = false := decide_eq_false h2
      rcases Decidable.em (D < 0) with h3 | h3
      · rw [if_pos (.inr (.inr h3))] at hx
        subst hx
        have k3 : decide (D < 0) = true := decide_eq_true h3
        clear h1 h2 h3
        go_enter Tryd.func21, Tryd.ntmps21
        go_wp2
        go_ret
        exact ⟨rfl, bb⟩
      · rw [if_neg (by rintro (h | h | h) <;> contradiction)] at hx
        subst hx
        have k3 : decide (D < 0) = false := decide_eq_false h3
        clear h1 h2 h3
        go_enter Tryd.func21, Tryd.ntmps21
        go_wp2
        go_ret
        exact ⟨rfl, bb⟩
theorem rucheck_any (F B D : Int) (cnt fold rep sg : Bool) (w : World) : Calls Tryd.prog 22 #[spv F B D cnt fold rep sg] w fun e w' => e = .returned (.int .i64 (chkV F B D)) ∧ Below w.heap.size w w' := by
  have q : (w.alloc (.cells (spc F B D cnt fold rep sg) 23)).heap[w.heap.size]? = some (.cells (spc F B D cnt fold rep sg) 23 (0, 0)) := heap_alloc_new _ _
  obtain ⟨a0, a1, a2, a3, a4, a5, a6⟩ := spc_cells q
  clear q
  have bb : Below w.heap.size w (w.alloc (.cells (spc F B D cnt fold rep sg) 23)) := (Below.refl _ _).alloc (Nat.le_refl _) _
  obtain ⟨x, hx⟩ : ∃ x, chkV F B D = x := ⟨_, rfl⟩
  rw [hx]
  unfold chkV at hx
  rcases Decidable.em (F < 0) with h1 | h1
  · rw [if_pos (.inl h1)] at hx
    subst hx
    have k1 : decide (F < 0) = true := decide_eq_true h1
    clear h1
    go_enter Tryd.func22, Tryd.ntmps22
    go_wp2
    go_ret
    exact ⟨rfl, bb⟩
  · have k1 : decide (F < 0) = false := decide_eq_false h1
    rcases Decidable.em (B < 0) with h2 | h2
    · rw [if_pos (.inr (.inl h2))] at hx
      subst hx
      have k2 : decide (B < 0) = true := decide_eq_true h2
      clear h1 h2
      go_enter Tryd.func22, Tryd.ntmps22
      go_wp2
      go_ret
      exact ⟨rfl, bb⟩
    · have k2 : decide (B < 0) = false := decide_eq_false h2
      rcases Decidable.em (D < 0) with h3 | h3
      · rw [if_pos (.inr (.inr h3))] at hx
        subst hx
        have k3 : decide (D < 0) = true := decide_eq_true h3
        clear h1 h2 h3
        go_enter Tryd.func22, Tryd.ntmps22
        go_wp2
        go_ret
        exact ⟨rfl, bb⟩
      · rw [if_neg (by rintro (h | h | h) <;> contradiction)] at hx
        subst hx
        have k3 : decide (D < 0) = false := decide_eq_false h3
        clear h1 h2 h3
        go_enter Tryd.func22, Tryd.ntmps22
        go_wp2
        go_ret
        exact ⟨rfl, bb⟩
abbrev cA : Cfg := ⟨0, 0, 0, true, false, false, false, ⟨#[112, 111, 115, 105, 120]⟩, ⟨(ltab 256).toArray⟩, ⟨(utab 256).toArray⟩, wtab 256, [], []⟩
def lA : List ByteArray := [⟨#[97]⟩, ⟨#[97]⟩, ⟨#[98]⟩, ⟨#[97]⟩]
theorem linesA : linesM cA lA = [⟨#[50, 32, 97]⟩, ⟨#[49, 32, 98]⟩, ⟨#[49, 32, 97]⟩] := by kernel_rfl
theorem okA : cA.Ok := ⟨by decide, by decide, by decide, by decide, by rw [wtab_len]; decide, by decide, by decide⟩
theorem cells4 {w : World} {g : Nat} {a b c d : Value} {T : TypeId} (h : w.heap[g]? = some (.cells #[a, b, c, d] T (0, 0))) :
    w.cell? ⟨g, 0, none⟩ = some a ∧ w.cell? ⟨g, 1, none⟩ = some b ∧ w.cell? ⟨g, 2, none⟩ = some c ∧ w.cell? ⟨g, 3, none⟩ = some d := by
  refine ⟨?_, ?_, ?_, ?_⟩ <;> simp [World.cell?, h]
theorem rowsA (w : World) : RowsAt (w.alloc (.cells #[.string ⟨#[97]⟩, .string ⟨#[97]⟩, .string ⟨#[98]⟩, .string ⟨#[97]⟩] 9)) (.slice (some ⟨w.heap.size, 0, none⟩) 4 4) 1 (strs lA) := by
  have q : (w.alloc (.cells #[.string ⟨#[97]⟩, .string ⟨#[97]⟩, .string ⟨#[98]⟩, .string ⟨#[97]⟩] 9)).heap[w.heap.size]? = some (.cells #[.string ⟨#[97]⟩, .string ⟨#[97]⟩, .string ⟨#[98]⟩, .string ⟨#[97]⟩] 9 (0, 0)) := heap_alloc_new _ _
  obtain ⟨q0, q1, q2, q3⟩ := cells4 q
  refine ⟨_, 4, rfl, by decide, by decide, .inr ⟨w.heap.size, 0, rfl, by rw [World.size_alloc]; omega, ?_⟩⟩
  intro j x hx i y hy
  match j, hx with
  | 0, hx => cases hx; match i, hy with | 0, hy => cases hy; exact q0
  | 1, hx => cases hx; match i, hy with | 0, hy => cases hy; exact q1
  | 2, hx => cases hx; match i, hy with | 0, hy => cases hy; exact q2
  | 3, hx => cases hx; match i, hy with | 0, hy => cases hy; exact q3
theorem rowsA3 {w : World} {v : Value} (h : RowsAt w v 1 (strs [⟨#[50, 32, 97]⟩, ⟨#[49, 32, 98]⟩, ⟨#[49, 32, 97]⟩])) : ∃ g o cap, v = .slice (some ⟨g, o, none⟩) 3 cap ∧ 3 ≤ cap ∧ cap ≤ maxLen ∧ w.cell? ⟨g, o, none⟩ = some (.string ⟨#[50, 32, 97]⟩) ∧ w.cell? ⟨g, o + 1, none⟩ = some (.string ⟨#[49, 32, 98]⟩) ∧ w.cell? ⟨g, o + 2, none⟩ = some (.string ⟨#[49, 32, 97]⟩) := by
  obtain ⟨g, o, cap, rfl, h1, h2, -, hc⟩ := h.cons (by decide)
  exact ⟨g, o, cap, rfl, h1, h2, hc 0 _ rfl 0 _ rfl, hc 1 _ rfl 0 _ rfl, hc 2 _ rfl 0 _ rfl⟩
theorem lines_awake (w : World) (g cap : Nat) (hL : LocAt w (.slice (some ⟨g, 0, none⟩) 256 cap) (.slice none 0 0) (.slice none 0 0) (wtab 256) [] []) (ht : Tab w) :
    Calls Tryd.prog 10 #[spv 0 0 0 true false false false, lval ⟨#[112, 111, 115, 105, 120]⟩ (.slice (some ⟨g, 0, none⟩) 256 cap) ⟨(ltab 256).toArray⟩ ⟨(utab 256).toArray⟩ (.slice none 0 0) (.slice none 0 0), .slice (some ⟨w.heap.size, 0, none⟩) 4 4] (w.alloc (.cells #[.string ⟨#[97]⟩, .string ⟨#[97]⟩, .string ⟨#[98]⟩, .string ⟨#[97]⟩] 9)) fun e w' => ∃ g o cap, e = .returned (.slice (some ⟨g, o, none⟩) 3 cap) ∧ 3 ≤ cap ∧ cap ≤ maxLen ∧ w'.cell? ⟨g, o, none⟩ = some (.string ⟨#[50, 32, 97]⟩) ∧ w'.cell? ⟨g, o + 1, none⟩ = some (.string ⟨#[49, 32, 98]⟩) ∧ w'.cell? ⟨g, o + 2, none⟩ = some (.string ⟨#[49, 32, 97]⟩) ∧ Hid (Below w.heap.size w w') := by
  have b1 : Below w.heap.size w (w.alloc (.cells #[.string ⟨#[97]⟩, .string ⟨#[97]⟩, .string ⟨#[98]⟩, .string ⟨#[97]⟩] 9)) := (Below.refl _ _).alloc (Nat.le_refl _) _
  refine (lines_any cA okA _ _ _ _ lA _ (hL.below b1) (by intro _ _ h; cases h) (by intro _ _ h; cases h; rfl) (by intro _ _ h; cases h; rfl) (tab_below ht b1) (rowsA w) (by decide) (by decide)).mono ?_
  intro e w' hr
  obtain ⟨v, rfl, h1, h2⟩ := linesr_is hr
  have h3 := h1.out
  rw [linesA] at h3
  obtain ⟨g, o, cap, rfl, q1, q2, q3, q4, q5⟩ := rowsA3 h3
  exact ⟨g, o, cap, rfl, q1, q2, q3, q4, q5, Lib.hid (b1.trans (h2.out.mono b1.size))⟩
set_option maxRecDepth 100000 in
theorem awake_any (w : World) (ht : Tab w) : Calls Tryd.prog 12 #[] w fun e w' => e = .returned (.bool true) ∧ Below w.heap.size w w' := by
  have HT := Lib.hid ht
  clear ht
  go_enter Tryd.func12, Tryd.ntmps12
  go_wp2_with fail
  refine (rdefault_is w).mono ?_
  rintro e w1 ⟨g, cap, rfl, LD, hb1, GF⟩
  go_wp2_with fail
  refine (lines_awake w1 g cap LD.out (tab_below HT.out hb1.out)).mono ?_
  rintro e w2 ⟨g2, o2, cap2, rfl, hc1, hc2, c0, c1, c2, hb2⟩
  have B2 := Lib.hid (hb1.out.trans (hb2.out.mono hb1.out.size))
  go_wp2_with fail
  refine (ucheck_any 0 0 (-1) false false false false _).mono ?_
  rintro e w3 ⟨rfl, hb3⟩
  have B3 := Lib.hid (B2.out.trans (hb3.mono B2.out.size))
  have ec : chkV 0 0 (-1) = 2 := by decide
  rw [ec]
  go_wp2_with fail
  go_ret
  exact ⟨rfl, B3.out⟩
end Go.Proofs.YtoohbgjfhchnmaaDoor
