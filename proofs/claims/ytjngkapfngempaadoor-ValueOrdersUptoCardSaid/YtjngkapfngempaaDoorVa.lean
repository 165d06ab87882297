/- walks: values -/
import Derived.Test.YtjngkapfngempaaDoorWq
import Derived.Test.YtjngkapfngempaaDoorVplain
import Derived.Deep.RegionHeld3
namespace Go.Proofs.YtjngkapfngempaaDoor
open Go.RowKit
open Dcm Byt Vl
theorem vnear_any (d : Int) (w : World) :
    Calls Tryd.prog 28 #[.int .i64 d] w fun e w' => e = .returned (.int .i64 (near d)) ∧ w = w' := by
  go_enter Tryd.func28, Tryd.ntmps28
  go_wp2
  all_goals go_ret
  all_goals exact ⟨ret_int (by unfold near; omega), rfl⟩
theorem rvnear_any (d : Int) (w : World) :
    Calls Tryd.prog 29 #[.int .i64 d] w fun e w' => e = .returned (.int .i64 (near d)) ∧ w = w' := by
  go_enter Tryd.func29, Tryd.ntmps29
  go_wp2
  all_goals go_ret
  all_goals exact ⟨ret_int (by unfold near; omega), rfl⟩
theorem below_step {w w1 : World} {o : Obj} (hb : Below (w.alloc o).heap.size (w.alloc o) w1) : Below w.heap.size w w1 :=
  ((Below.refl w.heap.size w).alloc (Nat.le_refl _) o).trans (hb.mono ((Below.refl w.heap.size w).alloc (Nat.le_refl _) o).size)
theorem below_two {w w1 w2 : World} (h1 : Below w.heap.size w w1) (h2 : Below w1.heap.size w1 w2) : Below w.heap.size w w2 := h1.trans (h2.mono h1.size)
theorem tab_alloc {w : World} {o : Obj} (h : Tab w) : Tab (w.alloc o) := Joins.tab_stays gPow h ((Below.refl w.heap.size w).alloc (Nat.le_refl _) o) (Nat.le_refl _)
theorem tab_below {w w' : World} (h : Tab w) (hb : Below w.heap.size w w') : Tab w' := Joins.tab_stays gPow h hb (Nat.le_refl _)
theorem own_block {w w' : World} {xs : Array Value} {T : TypeId} (hb : Below (w.alloc (.cells xs T)).heap.size (w.alloc (.cells xs T)) w') : w'.heap[w.heap.size]? = some (.cells xs T (0, 0)) := by
  have h := heap_alloc_new w (.cells xs T)
  have hlt : w.heap.size < (w.alloc (.cells xs T)).heap.size := (Array.getElem?_eq_some_iff.1 h).1
  rw [hb.block _ hlt]; exact h
theorem own_cells {w w' : World} {x y z : Value} {T : TypeId} (hb : Below (w.alloc (.cells #[x, y, z] T)).heap.size (w.alloc (.cells #[x, y, z] T)) w') :
    w'.frozen? ⟨w.heap.size, 0, none⟩ = false ∧ w'.frozen? ⟨w.heap.size, 1, none⟩ = false ∧ w'.frozen? ⟨w.heap.size, 2, none⟩ = false ∧
      w'.cell? ⟨w.heap.size, 0, none⟩ = some x ∧ w'.cell? ⟨w.heap.size, 1, none⟩ = some y ∧ w'.cell? ⟨w.heap.size, 2, none⟩ = some z := by
  have h := own_block hb
  refine ⟨?_, ?_, ?_, ?_, ?_, ?_⟩
  all_goals simp [World.cell?, World.frozen?, h]
theorem three_set {w' : World} {n : Nat} {x y z : Value} (a b c : Value) (c0 : w'.cell? ⟨n, 0, none⟩ = some x) (c1 : w'.cell? ⟨n, 1, none⟩ = some y) (c2 : w'.cell? ⟨n, 2, none⟩ = some z) :
    (((w'.setCell ⟨n, 0, none⟩ a).setCell ⟨n, 1, none⟩ b).setCell ⟨n, 2, none⟩ c).cell? ⟨n, 0, none⟩ = some a ∧
      (((w'.setCell ⟨n, 0, none⟩ a).setCell ⟨n, 1, none⟩ b).setCell ⟨n, 2, none⟩ c).cell? ⟨n, 1, none⟩ = some b ∧
      (((w'.setCell ⟨n, 0, none⟩ a).setCell ⟨n, 1, none⟩ b).setCell ⟨n, 2, none⟩ c).cell? ⟨n, 2, none⟩ = some c := by
  have n01 : (⟨n, 0, none⟩ : Addr) ≠ ⟨n, 1, none⟩ := by simp
  have n02 : (⟨n, 0, none⟩ : Addr) ≠ ⟨n, 2, none⟩ := by simp
  have n12 : (⟨n, 1, none⟩ : Addr) ≠ ⟨n, 2, none⟩ := by simp
  refine ⟨?_, ?_, ?_⟩
  · rw [World.cell?_setCell_other _ _ _ _ n02.symm, World.cell?_setCell_other _ _ _ _ n01.symm]; exact World.cell?_setCell_same _ _ _ c0
  · rw [World.cell?_setCell_other _ _ _ _ n12.symm]; exact World.cell?_setCell_same _ _ _ (u := y) (by rw [World.cell?_setCell_other _ _ _ _ n01]; exact c1)
  · exact World.cell?_setCell_same _ _ _ (u := z) (by rw [World.cell?_setCell_other _ _ _ _ n12, World.cell?_setCell_other _ _ _ _ n02]; exact c2)
theorem below_sets {B n : Nat} {w w' : World} (h : Below B w w') (hn : B ≤ n) (a b c : Value) : Below B w (((w'.setCell ⟨n, 0, none⟩ a).setCell ⟨n, 1, none⟩ b).setCell ⟨n, 2, none⟩ c) :=
  ((h.setCell hn a).setCell hn b).setCell hn c
theorem par3 {w w' : World} {a0 a1 a2 b0 b1 b2 c0 c1 c2 : Value} {T : TypeId}
    (hb : Below (((w.alloc (.cells #[a0, a1, a2] T)).alloc (.cells #[b0, b1, b2] T)).alloc (.cells #[c0, c1, c2] T)).heap.size (((w.alloc (.cells #[a0, a1, a2] T)).alloc (.cells #[b0, b1, b2] T)).alloc (.cells #[c0, c1, c2] T)) w') :
    w'.cell? ⟨w.heap.size, 0, none⟩ = some a0 ∧ w'.cell? ⟨w.heap.size, 1, none⟩ = some a1 ∧ w'.cell? ⟨w.heap.size, 2, none⟩ = some a2 ∧
    w'.cell? ⟨w.heap.size + 1, 0, none⟩ = some b0 ∧ w'.cell? ⟨w.heap.size + 1, 1, none⟩ = some b1 ∧ w'.cell? ⟨w.heap.size + 1, 2, none⟩ = some b2 ∧
    w'.cell? ⟨w.heap.size + 1 + 1, 0, none⟩ = some c0 ∧ w'.cell? ⟨w.heap.size + 1 + 1, 1, none⟩ = some c1 ∧ w'.cell? ⟨w.heap.size + 1 + 1, 2, none⟩ = some c2 ∧
    w'.frozen? ⟨w.heap.size + 1 + 1, 0, none⟩ = false ∧ w'.frozen? ⟨w.heap.size + 1 + 1, 1, none⟩ = false ∧ w'.frozen? ⟨w.heap.size + 1 + 1, 2, none⟩ = false := by
  have s1 : (w.alloc (.cells #[a0, a1, a2] T)).heap.size = w.heap.size + 1 := World.size_alloc _ _
  have s2 : ((w.alloc (.cells #[a0, a1, a2] T)).alloc (.cells #[b0, b1, b2] T)).heap.size = w.heap.size + 1 + 1 := by rw [World.size_alloc, s1]
  have s3 : (((w.alloc (.cells #[a0, a1, a2] T)).alloc (.cells #[b0, b1, b2] T)).alloc (.cells #[c0, c1, c2] T)).heap.size = w.heap.size + 1 + 1 + 1 := by rw [World.size_alloc, s2]
  have h0 : w'.heap[w.heap.size]? = some (.cells #[a0, a1, a2] T (0, 0)) := by
    rw [hb.block _ (by omega), Below.heap_alloc _ _ _ (by omega), Below.heap_alloc _ _ _ (by omega)]; exact heap_alloc_new _ _
  have h1 : w'.heap[w.heap.size + 1]? = some (.cells #[b0, b1, b2] T (0, 0)) := by
    rw [hb.block _ (by omega), Below.heap_alloc _ _ _ (by omega)]
    have := heap_alloc_new (w.alloc (.cells #[a0, a1, a2] T)) (.cells #[b0, b1, b2] T)
    rw [s1] at this; exact this
  have h2 : w'.heap[w.heap.size + 1 + 1]? = some (.cells #[c0, c1, c2] T (0, 0)) := by
    rw [hb.block _ (by omega)]
    have := heap_alloc_new ((w.alloc (.cells #[a0, a1, a2] T)).alloc (.cells #[b0, b1, b2] T)) (.cells #[c0, c1, c2] T)
    rw [s2] at this; exact this
  refine ⟨?_, ?_, ?_, ?_, ?_, ?_, ?_, ?_, ?_, ?_, ?_, ?_⟩
  all_goals simp [World.cell?, World.frozen?, h0, h1, h2]
theorem below_three {w w1 : World} {o1 o2 o3 : Obj} (hb : Below (((w.alloc o1).alloc o2).alloc o3).heap.size (((w.alloc o1).alloc o2).alloc o3) w1) : Below w.heap.size w w1 :=
  below_step (below_step (below_step hb))
abbrev vval (k n : Int) (s : ByteArray) : Value := .agg #[.int .i64 k, .int .i64 n, .string s]
theorem keep3 {w w' : World} {k1 n1 k2 n2 : Int} {s1 s2 : ByteArray} (h : Below (((w.alloc (.cells #[.int .i64 k1, .int .i64 n1, .string s1] 24)).alloc (.cells #[.int .i64 k2, .int .i64 n2, .string s2] 24)).alloc (.cells #[.int .i64 0, .int .i64 0, .string ⟨#[]⟩] 24)).heap.size (((w.alloc (.cells #[.int .i64 k1, .int .i64 n1, .string s1] 24)).alloc (.cells #[.int .i64 k2, .int .i64 n2, .string s2] 24)).alloc (.cells #[.int .i64 0, .int .i64 0, .string ⟨#[]⟩] 24)) w') :
    Below (((w.alloc (.cells #[.int .i64 k1, .int .i64 n1, .string s1] 24)).alloc (.cells #[.int .i64 k2, .int .i64 n2, .string s2] 24)).alloc (.cells #[.int .i64 0, .int .i64 0, .string ⟨#[]⟩] 24)).heap.size (((w.alloc (.cells #[.int .i64 k1, .int .i64 n1, .string s1] 24)).alloc (.cells #[.int .i64 k2, .int .i64 n2, .string s2] 24)).alloc (.cells #[.int .i64 0, .int .i64 0, .string ⟨#[]⟩] 24)) w' ∧ w'.cell? ⟨w.heap.size, 0, none⟩ = some (.int .i64 k1) ∧ w'.cell? ⟨w.heap.size, 1, none⟩ = some (.int .i64 n1) ∧ w'.cell? ⟨w.heap.size, 2, none⟩ = some (.string s1) ∧ w'.cell? ⟨w.heap.size + 1, 0, none⟩ = some (.int .i64 k2) ∧ w'.cell? ⟨w.heap.size + 1, 1, none⟩ = some (.int .i64 n2) ∧ w'.cell? ⟨w.heap.size + 1, 2, none⟩ = some (.string s2) := by
  obtain ⟨a0, a1, a2, b0, b1, b2, _⟩ := par3 h
  exact ⟨h, a0, a1, a2, b0, b1, b2⟩
theorem vnumber_any (k n : Int) (s : ByteArray) (w : World) (hs : s.size ≤ 9223372036854775807) :
    Calls Tryd.prog 9 #[vval k n s] w fun e w' => e = .returned (.int .i64 (numV k n s.data.toList)) ∧ Below w.heap.size w w' := by
  have S := Lib.hid hs; clear hs
  by_cases h2 : k = 2
  · subst h2
    go_enter Tryd.func9, Tryd.ntmps9
    go_wp2_with (first
      | (go_at_call 27; refine (prefix_any _ _ S.out).mono ?_; rintro e w' ⟨rfl, rfl⟩))
    go_ret
    exact ⟨rfl, (Below.refl _ _).alloc (Nat.le_refl _) _⟩
  · by_cases h1 : k = 1
    · subst h1
      go_enter Tryd.func9, Tryd.ntmps9
      go_wp2_with (first
        | (go_at_call 28; refine (vnear_any _ _).mono ?_; rintro e w' ⟨rfl, rfl⟩))
      go_ret
      exact ⟨rfl, (Below.refl _ _).alloc (Nat.le_refl _) _⟩
    · by_cases h3 : k = 3
      · subst h3
        go_enter Tryd.func9, Tryd.ntmps9
        go_wp2_with (first
          | (go_at_call 28; refine (vnear_any _ _).mono ?_; rintro e w' ⟨rfl, rfl⟩))
        go_ret
        exact ⟨rfl, (Below.refl _ _).alloc (Nat.le_refl _) _⟩
      · have E := Lib.hid (num_0 k n s.data.toList h1 h2 h3)
        have t1 : (k == 1) = false := by rw [beq_eq_false_iff_ne]; exact h1
        have t2 : (k == 2) = false := by rw [beq_eq_false_iff_ne]; exact h2
        have t3 : (k == 3) = false := by rw [beq_eq_false_iff_ne]; exact h3
        clear h1 h2 h3
        go_enter Tryd.func9, Tryd.ntmps9
        go_wp2
        go_ret
        exact ⟨by rw [E.out]; rfl, (Below.refl _ _).alloc (Nat.le_refl _) _⟩
theorem rvnumber_any (k n : Int) (s : ByteArray) (w : World) (hs : s.size ≤ 9223372036854775807) :
    Calls Tryd.prog 10 #[vval k n s] w fun e w' => e = .returned (.int .i64 (numV k n s.data.toList)) ∧ Below w.heap.size w w' := by
  have S := Lib.hid hs; clear hs
  by_cases h2 : k = 2
  · subst h2
    go_enter Tryd.func10, Tryd.ntmps10
    go_wp2_with (first
      | (go_at_call 30; refine (rprefix_any _ _ S.out).mono ?_; rintro e w' ⟨rfl, rfl⟩))
    go_ret
    exact ⟨rfl, (Below.refl _ _).alloc (Nat.le_refl _) _⟩
  · by_cases h1 : k = 1
    · subst h1
      go_enter Tryd.func10, Tryd.ntmps10
      go_wp2_with (first
        | (go_at_call 29; refine (rvnear_any _ _).mono ?_; rintro e w' ⟨rfl, rfl⟩))
      go_ret
      exact ⟨rfl, (Below.refl _ _).alloc (Nat.le_refl _) _⟩
    · by_cases h3 : k = 3
      · subst h3
        go_enter Tryd.func10, Tryd.ntmps10
        go_wp2_with (first
          | (go_at_call 29; refine (rvnear_any _ _).mono ?_; rintro e w' ⟨rfl, rfl⟩))
        go_ret
        exact ⟨rfl, (Below.refl _ _).alloc (Nat.le_refl _) _⟩
      · have E := Lib.hid (num_0 k n s.data.toList h1 h2 h3)
        have t1 : (k == 1) = false := by rw [beq_eq_false_iff_ne]; exact h1
        have t2 : (k == 2) = false := by rw [beq_eq_false_iff_ne]; exact h2
        have t3 : (k == 3) = false := by rw [beq_eq_false_iff_ne]; exact h3
        clear h1 h2 h3
        go_enter Tryd.func10, Tryd.ntmps10
        go_wp2
        go_ret
        exact ⟨by rw [E.out]; rfl, (Below.refl _ _).alloc (Nat.le_refl _) _⟩
end Go.Proofs.YtjngkapfngempaaDoor
