/- walks: the line of a hunk (written by gen_vde.py) -/
import Derived.Test.YtnkpigibjicmaaaDoorVdd
import Derived.Test.YtnkpigibjicmaaaDoorVcc
namespace Go.Proofs.YtnkpigibjicmaaaDoor
open Go.RowKit Go.Maps
open Pt
/-- the line of a hunk for a line with its line feed -/
def lineD (op : Int) (s : ByteArray) : DL := if s.data.toList.getLast? = some 10 then (op, s.extract 0 (s.size - 1), false) else (op, s, true)
theorem last_byte {s : ByteArray} {k : Nat} (h : s.size = k + 1) : s.data.toList.getLast? = some s.data[k]! := by
  have h2 : k < s.data.size := by show k < s.size; omega
  rw [List.getLast?_eq_getElem?, show s.data.toList.length - 1 = k from by rw [Array.length_toList]; show s.size - 1 = k; omega, getElem!_pos s.data k h2]
  simp
set_option maxRecDepth 100000 in
set_option maxHeartbeats 2000000 in
theorem line_any (op : Int) (s : ByteArray) (w : World) (hs : s.size ≤ 1048576) :
    Calls Tryd.prog 65 #[.int .i64 op, .string s] w fun e w' => e = .returned (.agg (rowD (lineD op s)).toArray) ∧ Hid (Below w.heap.size w w') := by
  have RD : ∀ x y z, ((w.alloc (.cells #[x, y, z] 59)).cell? ⟨w.heap.size, 0, none⟩ = some x ∧ (w.alloc (.cells #[x, y, z] 59)).cell? ⟨w.heap.size, 1, none⟩ = some y ∧ (w.alloc (.cells #[x, y, z] 59)).cell? ⟨w.heap.size, 2, none⟩ = some z) := fun x y z => ⟨blk_cellx (heap_alloc_new w _) 0 _ rfl, blk_cellx (heap_alloc_new w _) 1 _ rfl, blk_cellx (heap_alloc_new w _) 2 _ rfl⟩
  have HR := Lib.hid RD
  clear RD
  rcases Nat.eq_zero_or_pos s.size with h0 | h0
  · have E : Hid (lineD op s = (op, s, true)) := Lib.hid (by unfold lineD; rw [show s.data.toList = [] from List.eq_nil_of_length_eq_zero (by rw [Array.length_toList]; exact h0)]; rfl)
    go_enter Tryd.func65, Tryd.ntmps65
    go_wp2_with fail
    have r0 := HR.out (.int .i64 op) (.string s) (.bool true)
    obtain ⟨r0, r1, r2⟩ := r0
    refine bodyPost_ret (v := .agg #[.int .i64 op, .string s, .bool true]) (by simp [results, Tryd.results65, go_sem, r0, r1, r2]) rfl ⟨by rw [E.out], Lib.hid ((Below.refl _ _).alloc (Nat.le_refl _) _)⟩
  · obtain ⟨k, hk⟩ : ∃ k, s.size = k + 1 := ⟨s.size - 1, by omega⟩
    have hkl : k < s.size := by omega
    have hl := last_byte hk
    rw [show s.data[k]! = s[k] from getElem!_pos s.data k hkl] at hl
    by_cases h10 : s[k] = 10
    · have E : Hid (lineD op s = (op, s.extract 0 k, false)) := Lib.hid (by unfold lineD; rw [if_pos (by rw [hl, h10]), hk]; rfl)
      have e1 : ((s[k].toNat : Int) == 10) = true := by rw [h10]; rfl
      clear hl h10 h0
      go_enter Tryd.func65, Tryd.ntmps65
      go_wp2_with fail
      have r0 := HR.out (.int .i64 op) (.string (s.extract 0 k)) (.bool false)
      obtain ⟨r0, r1, r2⟩ := r0
      refine bodyPost_ret (v := .agg #[.int .i64 op, .string (s.extract 0 k), .bool false]) (by simp [results, Tryd.results65, go_sem, r0, r1, r2]) rfl ⟨by rw [E.out], Lib.hid ((Below.refl _ _).alloc (Nat.le_refl _) _)⟩
    · have E : Hid (lineD op s = (op, s, true)) := Lib.hid (by unfold lineD; rw [if_neg (by rw [hl]; intro h; exact h10 (Option.some.inj h))])
      have e1 : ((s[k].toNat : Int) == 10) = false := by
        rw [beq_eq_false_iff_ne]; intro h; exact h10 (UInt8.toNat_inj.1 (by have : (10 : UInt8).toNat = 10 := rfl; omega))
      clear hl h10 h0
      go_enter Tryd.func65, Tryd.ntmps65
      go_wp2_with fail
      have r0 := HR.out (.int .i64 op) (.string s) (.bool true)
      obtain ⟨r0, r1, r2⟩ := r0
      refine bodyPost_ret (v := .agg #[.int .i64 op, .string s, .bool true]) (by simp [results, Tryd.results65, go_sem, r0, r1, r2]) rfl ⟨by rw [E.out], Lib.hid ((Below.refl _ _).alloc (Nat.le_refl _) _)⟩
end Go.Proofs.YtnkpigibjicmaaaDoor
