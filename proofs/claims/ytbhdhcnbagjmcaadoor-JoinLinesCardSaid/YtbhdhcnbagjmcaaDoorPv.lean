/- walks: awake (written by gen_pv.py) -/
import Derived.Test.YtbhdhcnbagjmcaaDoorPt
import Derived.Test.YtbhdhcnbagjmcaaDoorPu
namespace Go.Proofs.YtbhdhcnbagjmcaaDoor
open Go.RowKit Go.Maps
open Jn Lcl
def awA : List ByteArray := [⟨#[97, 32, 49]⟩, ⟨#[98, 32, 50]⟩, ⟨#[98, 32, 51]⟩]
def awB : List ByteArray := [⟨#[98, 32, 120]⟩, ⟨#[99, 32, 121]⟩]
def awR : List ByteArray := [⟨#[97, 32, 49]⟩, ⟨#[98, 32, 50, 32, 120]⟩, ⟨#[98, 32, 51, 32, 120]⟩]
def awF : List ByteArray := [⟨#[97]⟩, ⟨#[]⟩, ⟨#[98]⟩]
def awU : List ByteArray := [⟨#[98]⟩, ⟨#[97]⟩]
def awP : Sp := ⟨1, 1, -1, true, false, true, [], []⟩
def awZ : Sp := ⟨0, 0, 0, false, false, false, [], []⟩
theorem aw_join : (joinL awP cmpD (awA.map (·.data.toList)) (awB.map (·.data.toList))).map bA = awR := by kernel_rfl
theorem aw_chk : chkJ awP = 0 := by decide
theorem aw_chz : chkJ awZ = 2 := by decide
theorem aw_fields : (fieldsL 58 [97, 58, 58, 98]).map bA = awF := by kernel_rfl
theorem aw_uns : unsL (-1) 1 (awU.map (·.data.toList)) = 1 := by kernel_rfl
theorem same_eq (v1 v2 : Value) (L : List ByteArray) (w : World) (h1 : Strs w v1 L) (h2 : Strs w v2 L) : Calls Tryd.prog 8 #[v1, v2] w fun e w' => e = .returned (.bool true) ∧ Hid (Below w.heap.size w w') := by
  have h := same_any v1 v2 L L w h1 h2
  rw [decide_eq_true rfl] at h
  exact h.mono fun _ _ ⟨e, hb⟩ => ⟨e, Lib.hid hb⟩
theorem rows_nil2 (w : World) : RowsAt w (.slice none 0 0) 2 [] := ⟨none, 0, rfl, Nat.le_refl _, by unfold maxLen; omega, .inl rfl⟩
theorem awjoin_any (va vb vl : Value) (m : Int) (w : World) (hm : w.cell? ⟨0, 0, none⟩ = some (.int .i64 m)) (hl : DLoc w vl) (hA : Strs w va awA) (hC : Strs w vb awB) :
    Calls Tryd.prog 18 #[vl, .agg #[.int .i64 1, .int .i64 1, .int .i64 (-1), .bool true, .bool false, .bool true, .string ⟨#[]⟩, .slice none 0 0], va, vb] w fun e w' => ∃ v, e = .returned v ∧ Hid (Strs w' v awR) ∧ Hid (Below w.heap.size w w') := by
  have h := join_any awP awA awB va vb vl 1 1 (-1) m true false true ⟨#[]⟩ none 0 0 w rfl hm hl (rows_nil2 w) rfl hA hC (by decide) (by decide) (by decide) (by decide) (by decide) (by decide)
  rw [if_pos aw_chk, aw_join] at h
  exact h
theorem awfields_any (m : Int) (w : World) (hm : w.cell? ⟨0, 0, none⟩ = some (.int .i64 m)) :
    Calls Tryd.prog 9 #[.string ⟨#[97, 58, 58, 98]⟩, .int .i64 58] w fun e w' => ∃ v, e = .returned v ∧ Hid (Strs w' v awF) ∧ Hid (Below w.heap.size w w') := by
  refine (fields_any ⟨#[97, 58, 58, 98]⟩ 58 m w hm (by decide)).mono ?_
  rintro e w' ⟨v, rfl, h1, h2⟩
  have h3 : Strs w' v ((fieldsL 58 [97, 58, 58, 98]).map bA) := h1.out.1
  rw [aw_fields] at h3
  exact ⟨v, rfl, Lib.hid h3, h2⟩
theorem awchk_any (w : World) : Calls Tryd.prog 15 #[.agg #[.int .i64 1, .int .i64 1, .int .i64 (-1), .bool true, .bool false, .bool true, .string ⟨#[]⟩, .slice none 0 0]] w fun e w' => e = .returned (.int .i64 0) ∧ Hid (Below w.heap.size w w') :=
  jcheck_any awP 1 1 (-1) true false true ⟨#[]⟩ none 0 0 w rfl (rows_nil2 w) rfl (by decide) (Lib.hid aw_chk)
theorem awchz_any (w : World) : Calls Tryd.prog 15 #[.agg #[.int .i64 0, .int .i64 0, .int .i64 0, .bool false, .bool false, .bool false, .string ⟨#[]⟩, .slice none 0 0]] w fun e w' => e = .returned (.int .i64 2) ∧ Hid (Below w.heap.size w w') :=
  jcheck_any awZ 0 0 0 false false false ⟨#[]⟩ none 0 0 w rfl (rows_nil2 w) rfl (by decide) (Lib.hid aw_chz)
theorem awuns_any (v vl : Value) (m : Int) (w : World) (hm : w.cell? ⟨0, 0, none⟩ = some (.int .i64 m)) (hv : Strs w v awU) (hl : DLoc w vl) :
    Calls Tryd.prog 11 #[vl, v, .int .i64 1, .int .i64 (-1)] w fun e w' => e = .returned (.int .i64 1) ∧ Hid (Below w.heap.size w w') := by
  have h := unsorted_any awU v vl 1 (-1) m w hm hv hl (by decide)
  rw [aw_uns] at h
  exact h
theorem strs_lit {w : World} {cs : Array Value} (L : List ByteArray) {n : Nat} (hc : cs = (L.map Value.string).toArray) (hl : L.length ≤ maxLen) (hn : L.length = n) : Strs (w.alloc (.cells cs 9)) (.slice (some ⟨w.heap.size, 0, none⟩) n n) L := by
  subst hc hn
  exact Strs.block (heap_alloc_new w _) hl
set_option maxRecDepth 100000 in
set_option maxHeartbeats 4000000 in
theorem awake_any (m : Int) (w : World) (hm : w.cell? ⟨0, 0, none⟩ = some (.int .i64 m)) : Calls Tryd.prog 14 #[] w fun e w' => e = .returned (.bool true) ∧ Hid (Below w.heap.size w w') := by
  have s1 : (w.alloc (.cells #[.string ⟨#[97, 32, 49]⟩, .string ⟨#[98, 32, 50]⟩, .string ⟨#[98, 32, 51]⟩] 9)).heap.size = w.heap.size + 1 := World.size_alloc _ _
  have s2 : ((w.alloc (.cells #[.string ⟨#[97, 32, 49]⟩, .string ⟨#[98, 32, 50]⟩, .string ⟨#[98, 32, 51]⟩] 9)).alloc (.cells #[.string ⟨#[98, 32, 120]⟩, .string ⟨#[99, 32, 121]⟩] 9)).heap.size = w.heap.size + 1 + 1 := by rw [World.size_alloc, s1]
  have BA : Below w.heap.size w (w.alloc (.cells #[.string ⟨#[97, 32, 49]⟩, .string ⟨#[98, 32, 50]⟩, .string ⟨#[98, 32, 51]⟩] 9)) := (Below.refl _ _).alloc (Nat.le_refl _) _
  have B1 : Below (w.alloc (.cells #[.string ⟨#[97, 32, 49]⟩, .string ⟨#[98, 32, 50]⟩, .string ⟨#[98, 32, 51]⟩] 9)).heap.size (w.alloc (.cells #[.string ⟨#[97, 32, 49]⟩, .string ⟨#[98, 32, 50]⟩, .string ⟨#[98, 32, 51]⟩] 9)) (((w.alloc (.cells #[.string ⟨#[97, 32, 49]⟩, .string ⟨#[98, 32, 50]⟩, .string ⟨#[98, 32, 51]⟩] 9)).alloc (.cells #[.string ⟨#[98, 32, 120]⟩, .string ⟨#[99, 32, 121]⟩] 9)).alloc (.cells #[.int .i64 1, .int .i64 1, .int .i64 (-1), .bool true, .bool false, .bool true, .string ⟨#[]⟩, .slice none 0 0] 36)) := ((Below.refl _ _).alloc (Nat.le_refl _) _).alloc (by rw [World.size_alloc]; omega) _
  have B2 : Below ((w.alloc (.cells #[.string ⟨#[97, 32, 49]⟩, .string ⟨#[98, 32, 50]⟩, .string ⟨#[98, 32, 51]⟩] 9)).alloc (.cells #[.string ⟨#[98, 32, 120]⟩, .string ⟨#[99, 32, 121]⟩] 9)).heap.size ((w.alloc (.cells #[.string ⟨#[97, 32, 49]⟩, .string ⟨#[98, 32, 50]⟩, .string ⟨#[98, 32, 51]⟩] 9)).alloc (.cells #[.string ⟨#[98, 32, 120]⟩, .string ⟨#[99, 32, 121]⟩] 9)) (((w.alloc (.cells #[.string ⟨#[97, 32, 49]⟩, .string ⟨#[98, 32, 50]⟩, .string ⟨#[98, 32, 51]⟩] 9)).alloc (.cells #[.string ⟨#[98, 32, 120]⟩, .string ⟨#[99, 32, 121]⟩] 9)).alloc (.cells #[.int .i64 1, .int .i64 1, .int .i64 (-1), .bool true, .bool false, .bool true, .string ⟨#[]⟩, .slice none 0 0] 36)) := (Below.refl _ _).alloc (Nat.le_refl _) _
  have BW : Hid (Below w.heap.size w (((w.alloc (.cells #[.string ⟨#[97, 32, 49]⟩, .string ⟨#[98, 32, 50]⟩, .string ⟨#[98, 32, 51]⟩] 9)).alloc (.cells #[.string ⟨#[98, 32, 120]⟩, .string ⟨#[99, 32, 121]⟩] 9)).alloc (.cells #[.int .i64 1, .int .i64 1, .int .i64 (-1), .bool true, .bool false, .bool true, .string ⟨#[]⟩, .slice none 0 0] 36))) := Lib.hid (BA.trans (B1.mono BA.size))
  have SA : Strs (((w.alloc (.cells #[.string ⟨#[97, 32, 49]⟩, .string ⟨#[98, 32, 50]⟩, .string ⟨#[98, 32, 51]⟩] 9)).alloc (.cells #[.string ⟨#[98, 32, 120]⟩, .string ⟨#[99, 32, 121]⟩] 9)).alloc (.cells #[.int .i64 1, .int .i64 1, .int .i64 (-1), .bool true, .bool false, .bool true, .string ⟨#[]⟩, .slice none 0 0] 36)) (.slice (some ⟨w.heap.size, 0, none⟩) 3 3) awA := Strs.below (strs_lit (w := w) awA rfl (by decide) (by decide)) B1
  have SB : Strs (((w.alloc (.cells #[.string ⟨#[97, 32, 49]⟩, .string ⟨#[98, 32, 50]⟩, .string ⟨#[98, 32, 51]⟩] 9)).alloc (.cells #[.string ⟨#[98, 32, 120]⟩, .string ⟨#[99, 32, 121]⟩] 9)).alloc (.cells #[.int .i64 1, .int .i64 1, .int .i64 (-1), .bool true, .bool false, .bool true, .string ⟨#[]⟩, .slice none 0 0] 36)) (.slice (some ⟨w.heap.size + 1, 0, none⟩) 2 2) awB := by
    have h := Strs.below (strs_lit (w := (w.alloc (.cells #[.string ⟨#[97, 32, 49]⟩, .string ⟨#[98, 32, 50]⟩, .string ⟨#[98, 32, 51]⟩] 9))) (n := 2) awB rfl (by decide) (by decide)) B2
    rw [s1] at h; exact h
  have N3 := heap_alloc_new ((w.alloc (.cells #[.string ⟨#[97, 32, 49]⟩, .string ⟨#[98, 32, 50]⟩, .string ⟨#[98, 32, 51]⟩] 9)).alloc (.cells #[.string ⟨#[98, 32, 120]⟩, .string ⟨#[99, 32, 121]⟩] 9)) (.cells #[.int .i64 1, .int .i64 1, .int .i64 (-1), .bool true, .bool false, .bool true, .string ⟨#[]⟩, .slice none 0 0] 36)
  rw [s2] at N3
  have HSA := Lib.hid SA
  have HSB := Lib.hid SB
  have HN3 := Lib.hid N3
  have HM := Lib.hid (kp BW.out hm)
  clear s1 s2 BA B1 B2 SA SB N3 hm
  have e0 : (((w.alloc (.cells #[.string ⟨#[97, 32, 49]⟩, .string ⟨#[98, 32, 50]⟩, .string ⟨#[98, 32, 51]⟩] 9)).alloc (.cells #[.string ⟨#[98, 32, 120]⟩, .string ⟨#[99, 32, 121]⟩] 9)).alloc (.cells #[.int .i64 1, .int .i64 1, .int .i64 (-1), .bool true, .bool false, .bool true, .string ⟨#[]⟩, .slice none 0 0] 36)).cell? ⟨w.heap.size + 1 + 1, 0, none⟩ = some (.int .i64 1) := blk_cellx HN3.out 0 _ rfl
  have e1 : (((w.alloc (.cells #[.string ⟨#[97, 32, 49]⟩, .string ⟨#[98, 32, 50]⟩, .string ⟨#[98, 32, 51]⟩] 9)).alloc (.cells #[.string ⟨#[98, 32, 120]⟩, .string ⟨#[99, 32, 121]⟩] 9)).alloc (.cells #[.int .i64 1, .int .i64 1, .int .i64 (-1), .bool true, .bool false, .bool true, .string ⟨#[]⟩, .slice none 0 0] 36)).cell? ⟨w.heap.size + 1 + 1, 1, none⟩ = some (.int .i64 1) := blk_cellx HN3.out 1 _ rfl
  have e2 : (((w.alloc (.cells #[.string ⟨#[97, 32, 49]⟩, .string ⟨#[98, 32, 50]⟩, .string ⟨#[98, 32, 51]⟩] 9)).alloc (.cells #[.string ⟨#[98, 32, 120]⟩, .string ⟨#[99, 32, 121]⟩] 9)).alloc (.cells #[.int .i64 1, .int .i64 1, .int .i64 (-1), .bool true, .bool false, .bool true, .string ⟨#[]⟩, .slice none 0 0] 36)).cell? ⟨w.heap.size + 1 + 1, 2, none⟩ = some (.int .i64 (-1)) := blk_cellx HN3.out 2 _ rfl
  have e3 : (((w.alloc (.cells #[.string ⟨#[97, 32, 49]⟩, .string ⟨#[98, 32, 50]⟩, .string ⟨#[98, 32, 51]⟩] 9)).alloc (.cells #[.string ⟨#[98, 32, 120]⟩, .string ⟨#[99, 32, 121]⟩] 9)).alloc (.cells #[.int .i64 1, .int .i64 1, .int .i64 (-1), .bool true, .bool false, .bool true, .string ⟨#[]⟩, .slice none 0 0] 36)).cell? ⟨w.heap.size + 1 + 1, 3, none⟩ = some (.bool true) := blk_cellx HN3.out 3 _ rfl
  have e4 : (((w.alloc (.cells #[.string ⟨#[97, 32, 49]⟩, .string ⟨#[98, 32, 50]⟩, .string ⟨#[98, 32, 51]⟩] 9)).alloc (.cells #[.string ⟨#[98, 32, 120]⟩, .string ⟨#[99, 32, 121]⟩] 9)).alloc (.cells #[.int .i64 1, .int .i64 1, .int .i64 (-1), .bool true, .bool false, .bool true, .string ⟨#[]⟩, .slice none 0 0] 36)).cell? ⟨w.heap.size + 1 + 1, 4, none⟩ = some (.bool false) := blk_cellx HN3.out 4 _ rfl
  have e5 : (((w.alloc (.cells #[.string ⟨#[97, 32, 49]⟩, .string ⟨#[98, 32, 50]⟩, .string ⟨#[98, 32, 51]⟩] 9)).alloc (.cells #[.string ⟨#[98, 32, 120]⟩, .string ⟨#[99, 32, 121]⟩] 9)).alloc (.cells #[.int .i64 1, .int .i64 1, .int .i64 (-1), .bool true, .bool false, .bool true, .string ⟨#[]⟩, .slice none 0 0] 36)).cell? ⟨w.heap.size + 1 + 1, 5, none⟩ = some (.bool true) := blk_cellx HN3.out 5 _ rfl
  have e6 : (((w.alloc (.cells #[.string ⟨#[97, 32, 49]⟩, .string ⟨#[98, 32, 50]⟩, .string ⟨#[98, 32, 51]⟩] 9)).alloc (.cells #[.string ⟨#[98, 32, 120]⟩, .string ⟨#[99, 32, 121]⟩] 9)).alloc (.cells #[.int .i64 1, .int .i64 1, .int .i64 (-1), .bool true, .bool false, .bool true, .string ⟨#[]⟩, .slice none 0 0] 36)).cell? ⟨w.heap.size + 1 + 1, 6, none⟩ = some (.string ⟨#[]⟩) := blk_cellx HN3.out 6 _ rfl
  have e7 : (((w.alloc (.cells #[.string ⟨#[97, 32, 49]⟩, .string ⟨#[98, 32, 50]⟩, .string ⟨#[98, 32, 51]⟩] 9)).alloc (.cells #[.string ⟨#[98, 32, 120]⟩, .string ⟨#[99, 32, 121]⟩] 9)).alloc (.cells #[.int .i64 1, .int .i64 1, .int .i64 (-1), .bool true, .bool false, .bool true, .string ⟨#[]⟩, .slice none 0 0] 36)).cell? ⟨w.heap.size + 1 + 1, 7, none⟩ = some (.slice none 0 0) := blk_cellx HN3.out 7 _ rfl
  have S0 := keep8 (Below.refl (((w.alloc (.cells #[.string ⟨#[97, 32, 49]⟩, .string ⟨#[98, 32, 50]⟩, .string ⟨#[98, 32, 51]⟩] 9)).alloc (.cells #[.string ⟨#[98, 32, 120]⟩, .string ⟨#[99, 32, 121]⟩] 9)).alloc (.cells #[.int .i64 1, .int .i64 1, .int .i64 (-1), .bool true, .bool false, .bool true, .string ⟨#[]⟩, .slice none 0 0] 36)).heap.size (((w.alloc (.cells #[.string ⟨#[97, 32, 49]⟩, .string ⟨#[98, 32, 50]⟩, .string ⟨#[98, 32, 51]⟩] 9)).alloc (.cells #[.string ⟨#[98, 32, 120]⟩, .string ⟨#[99, 32, 121]⟩] 9)).alloc (.cells #[.int .i64 1, .int .i64 1, .int .i64 (-1), .bool true, .bool false, .bool true, .string ⟨#[]⟩, .slice none 0 0] 36))).drew e0 e1 e2 e3 e4 e5 e6 e7
  go_enter Tryd.func14, Tryd.ntmps14
  go_wp2_with fail
  go_region_held3 (fun w' => Below (((w.alloc (.cells #[.string ⟨#[97, 32, 49]⟩, .string ⟨#[98, 32, 50]⟩, .string ⟨#[98, 32, 51]⟩] 9)).alloc (.cells #[.string ⟨#[98, 32, 120]⟩, .string ⟨#[99, 32, 121]⟩] 9)).alloc (.cells #[.int .i64 1, .int .i64 1, .int .i64 (-1), .bool true, .bool false, .bool true, .string ⟨#[]⟩, .slice none 0 0] 36)).heap.size (((w.alloc (.cells #[.string ⟨#[97, 32, 49]⟩, .string ⟨#[98, 32, 50]⟩, .string ⟨#[98, 32, 51]⟩] 9)).alloc (.cells #[.string ⟨#[98, 32, 120]⟩, .string ⟨#[99, 32, 121]⟩] 9)).alloc (.cells #[.int .i64 1, .int .i64 1, .int .i64 (-1), .bool true, .bool false, .bool true, .string ⟨#[]⟩, .slice none 0 0] 36)) w' ∧ w'.cell? ⟨w.heap.size + 1 + 1, 0, none⟩ = some (.int .i64 1) ∧ w'.cell? ⟨w.heap.size + 1 + 1, 1, none⟩ = some (.int .i64 1) ∧ w'.cell? ⟨w.heap.size + 1 + 1, 2, none⟩ = some (.int .i64 (-1)) ∧ w'.cell? ⟨w.heap.size + 1 + 1, 3, none⟩ = some (.bool true) ∧ w'.cell? ⟨w.heap.size + 1 + 1, 4, none⟩ = some (.bool false) ∧ w'.cell? ⟨w.heap.size + 1 + 1, 5, none⟩ = some (.bool true) ∧ w'.cell? ⟨w.heap.size + 1 + 1, 6, none⟩ = some (.string ⟨#[]⟩) ∧ w'.cell? ⟨w.heap.size + 1 + 1, 7, none⟩ = some (.slice none 0 0)) (first | exact S0)
    (first
      | (go_at_call 12; (with_reducible refine (ddefault_any _).mono ?_); rintro _ w1 ⟨vl, rfl, DL, B1⟩; have S0 := keep8 (S0.1.trans (B1.out.mono S0.1.size)) e0 e1 e2 e3 e4 e5 e6 e7; have Y1 := Lib.hid S0.1)
      | (go_at_call 18; (with_reducible refine (awjoin_any _ _ vl m _ (kp S0.1 HM.out) DL.out (Strs.below HSA.out S0.1) (Strs.below HSB.out S0.1)).mono ?_); rintro _ w2 ⟨v2, rfl, J2, B2⟩; have S0 := keep8 (S0.1.trans (B2.out.mono S0.1.size)) e0 e1 e2 e3 e4 e5 e6 e7; have Y2 := Lib.hid S0.1))
  clear S0
  go_wp2_with (first
    | (go_at_call 9; (with_reducible refine (awfields_any m _ (kp Y2.out HM.out)).mono ?_); rintro _ w3 ⟨v3, rfl, J3, B3⟩; have Y3 := Lib.hid (Y2.out.trans (B3.out.mono Y2.out.size)); have L3 := Lib.hid ((Below.refl w3.heap.size w3).alloc (Nat.le_refl _) (.cells #[.string ⟨#[97, 32, 49]⟩, .string ⟨#[98, 32, 50, 32, 120]⟩, .string ⟨#[98, 32, 51, 32, 120]⟩] 9)); have K3 := Lib.hid (Strs.below (Strs.below J2.out B3.out) L3.out))
    | (go_at_call 8; (first
        | ((with_reducible refine (same_eq _ _ awR _ K3.out (strs_lit (w := w3) awR rfl (by decide) (by decide))).mono ?_); rintro _ w4 ⟨rfl, B4⟩; have M4 := Lib.hid (L3.out.trans (B4.out.mono L3.out.size)); have Y4 := Lib.hid (Y3.out.trans (M4.out.mono Y3.out.size)); have L4 := Lib.hid ((Below.refl w4.heap.size w4).alloc (Nat.le_refl _) (.cells #[.string ⟨#[97]⟩, .string ⟨#[]⟩, .string ⟨#[98]⟩] 9)); have K4 := Lib.hid (Strs.below (Strs.below J3.out M4.out) L4.out))
        | ((with_reducible refine (same_eq _ _ awF _ K4.out (strs_lit (w := w4) awF rfl (by decide) (by decide))).mono ?_); rintro _ w5 ⟨rfl, B5⟩; have Y5 := Lib.hid (Y4.out.trans ((L4.out.trans (B5.out.mono L4.out.size)).mono Y4.out.size)); have f0 := kp Y5.out e0; have f1 := kp Y5.out e1; have f2 := kp Y5.out e2; have f3 := kp Y5.out e3; have f4 := kp Y5.out e4; have f5 := kp Y5.out e5; have f6 := kp Y5.out e6; have f7 := kp Y5.out e7)))
    | (go_at_call 15; (first
        | ((with_reducible refine (awchk_any _).mono ?_); rintro _ w6 ⟨rfl, B6⟩; have Y6 := Lib.hid (Y5.out.trans (B6.out.mono Y5.out.size)))
        | ((with_reducible refine (awchz_any _).mono ?_); rintro _ w7 ⟨rfl, B7⟩; have Y7 := Lib.hid (Y6.out.trans (B7.out.mono Y6.out.size)))))
    | (go_at_call 12; (with_reducible refine (ddefault_any _).mono ?_); rintro _ w8 ⟨vl8, rfl, D8, B8⟩; have Y8 := Lib.hid (Y7.out.trans (B8.out.mono Y7.out.size)); have L8 := Lib.hid ((Below.refl w8.heap.size w8).alloc (Nat.le_refl _) (.cells #[.string ⟨#[98]⟩, .string ⟨#[97]⟩] 9)); have Y8b := Lib.hid (Y8.out.trans (L8.out.mono Y8.out.size)))
    | (go_at_call 11; (with_reducible refine (awuns_any _ _ m _ (kp Y8b.out HM.out) (strs_lit (w := w8) awU rfl (by decide) (by decide)) (D8.out.below L8.out)).mono ?_); rintro _ w9 ⟨rfl, B9⟩; have Y9 := Lib.hid (Y8b.out.trans (B9.out.mono Y8b.out.size))))
  go_ret
  exact ⟨rfl, Lib.hid (BW.out.trans (Y9.out.mono BW.out.size))⟩
end Go.Proofs.YtbhdhcnbagjmcaaDoor
