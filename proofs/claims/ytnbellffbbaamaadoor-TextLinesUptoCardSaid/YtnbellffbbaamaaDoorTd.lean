/- walks: awake, and the law on positions -/
import Derived.Test.YtnbellffbbaamaaDoorTc
import Derived.Laws.BytesArg
import Derived.Lib.SmallJoins
namespace Go.Proofs.YtnbellffbbaamaaDoor
open Go.RowKit
open Tx
theorem lit_count : Lib.countB ⟨#[97, 10, 10, 98]⟩ ⟨#[10]⟩ = 2 := by kernel_rfl
theorem lit_split : Lib.splitB ⟨#[10]⟩ 0 2 ⟨#[97, 10, 10, 98]⟩ = [⟨#[97]⟩, ⟨#[]⟩, ⟨#[98]⟩] := by kernel_rfl
theorem split_lit (m : Int) (w : World) (hm : w.cell? ⟨0, 0, none⟩ = some (.int .i64 m)) :
    Calls Tryd.prog 28 #[.string ⟨#[97, 10, 10, 98]⟩, .string ⟨#[10]⟩] w fun e w' => e = .returned (.slice (some ⟨w.heap.size, 0, none⟩) 3 3) ∧ w' = w.alloc (.cells #[.string ⟨#[97]⟩, .string ⟨#[]⟩, .string ⟨#[98]⟩] 9) := by
  have h := Tryd.strings_Split ⟨#[97, 10, 10, 98]⟩ ⟨#[10]⟩ m w (by show 4 < 4294967281; omega) hm (by show 1 ≤ 1; omega)
  rw [lit_count, lit_split] at h
  exact h
set_option maxRecDepth 100000 in
theorem lines_lit (m : Int) (w : World) (hm : w.cell? ⟨0, 0, none⟩ = some (.int .i64 m)) :
    Calls Tryd.prog 14 #[.string ⟨#[97, 10, 10, 98]⟩] w fun e w' => e = .returned (.tuple #[.slice (some ⟨w.heap.size, 0, none⟩) 3 3, .bool false]) ∧ w' = w.alloc (.cells #[.string ⟨#[97]⟩, .string ⟨#[]⟩, .string ⟨#[98]⟩] 9) := by
  have H := Lib.hid hm; clear hm
  go_enter Tryd.func14, Tryd.ntmps14
  go_wp2_with (go_at_call 28; refine (split_lit m _ H.out).mono ?_; rintro e w' ⟨rfl, rfl⟩)
  go_ret2
  exact ⟨rfl, rfl⟩
theorem join_three (a b c sep : ByteArray) (bk : Nat) (w : World) (c0 : w.cell? ⟨bk, 0, none⟩ = some (.string a)) (c1 : w.cell? ⟨bk, 1, none⟩ = some (.string b)) (c2 : w.cell? ⟨bk, 2, none⟩ = some (.string c)) (hbk : bk < w.heap.size) (r : ByteArray)
    (hr : Lib.join [a.data.toList, b.data.toList, c.data.toList] sep.data.toList = r.data.toList) (hl : r.data.toList.length ≤ 140737488355328) :
    Calls Tryd.prog 27 #[.slice (some ⟨bk, 0, none⟩) 3 3, .string sep] w fun e w' => e = .returned (.string r) ∧ Below w.heap.size w w' := by
  have h := Tryd.strings_Join bk 0 3 [a, b, c] sep w (by
    intro j x hj
    match j, hj with
    | 0, hj => simp at hj; subst hj; exact c0
    | 1, hj => simp at hj; subst hj; exact c1
    | 2, hj => simp at hj; subst hj; exact c2) hbk (by show 3 ≤ 140737488355328; omega) (by show 3 ≤ 3; omega) (by show (Lib.join [a.data.toList, b.data.toList, c.data.toList] sep.data.toList).length ≤ 140737488355328; rw [hr]; exact hl)
  have e : (⟨(Lib.join ([a, b, c].map (·.data.toList)) sep.data.toList).toArray⟩ : ByteArray) = r := by
    show (⟨(Lib.join [a.data.toList, b.data.toList, c.data.toList] sep.data.toList).toArray⟩ : ByteArray) = r
    rw [hr]
  rw [e] at h
  exact h
theorem lit_join : Lib.join [(ByteArray.mk #[97]).data.toList, (ByteArray.mk #[]).data.toList, (ByteArray.mk #[98]).data.toList] (ByteArray.mk #[10]).data.toList = (ByteArray.mk #[97, 10, 10, 98]).data.toList := by kernel_rfl
set_option maxRecDepth 100000 in
theorem join_lit (bk : Nat) (w : World) (c0 : w.cell? ⟨bk, 0, none⟩ = some (.string ⟨#[97]⟩)) (c1 : w.cell? ⟨bk, 1, none⟩ = some (.string ⟨#[]⟩)) (c2 : w.cell? ⟨bk, 2, none⟩ = some (.string ⟨#[98]⟩)) (hbk : bk < w.heap.size) :
    Calls Tryd.prog 11 #[.slice (some ⟨bk, 0, none⟩) 3 3, .bool true] w fun e w' => e = .returned (.string ⟨#[97, 10, 10, 98, 10]⟩) ∧ Below w.heap.size w w' := by
  have C := Lib.hid (And.intro c0 (And.intro c1 c2)); clear c0 c1 c2
  have B := Lib.hid hbk; clear hbk
  go_enter Tryd.func11, Tryd.ntmps11
  go_wp2_with (go_at_call 27; refine (join_three ⟨#[97]⟩ ⟨#[]⟩ ⟨#[98]⟩ ⟨#[10]⟩ bk _ C.out.1 C.out.2.1 C.out.2.2 B.out ⟨#[97, 10, 10, 98]⟩ lit_join (by show 4 ≤ 140737488355328; omega)).mono ?_; rintro e w' ⟨rfl, hb⟩)
  go_ret
  exact ⟨rfl, hb⟩
theorem lit_unesc : unesc [97, 92, 49, 48, 49, 57] = .ok [97, 65, 57] := by kernel_rfl
theorem unescape_lit (w : World) :
    Calls Tryd.prog 20 #[.string ⟨#[97, 92, 49, 48, 49, 57]⟩] w fun e w' => e = .returned (.tuple #[.string ⟨#[97, 65, 57]⟩, .int .i64 0, .int .i64 0]) ∧ Below w.heap.size w w' := by
  have h := unescape_any ⟨#[97, 92, 49, 48, 49, 57]⟩ w (by show 6 ≤ 140737488351232; omega)
  have e : unesc (ByteArray.mk #[97, 92, 49, 48, 49, 57]).data.toList = .ok [97, 65, 57] := lit_unesc
  rw [e] at h; exact h
theorem position_lit (w : World) :
    Calls Tryd.prog 17 #[.string ⟨#[97, 98, 10, 99]⟩, .int .i64 3] w fun e w' => e = .returned (vpos 2 1) ∧ Below w.heap.size w w' := by
  have h := position_any ⟨#[97, 98, 10, 99]⟩ 3 w (by show 4 ≤ 140737488351232; omega)
  have e1 : lineAt ⟨#[97, 98, 10, 99]⟩ 3 = 2 := by kernel_rfl
  have e2 : colAt ⟨#[97, 98, 10, 99]⟩ 3 = 1 := by kernel_rfl
  rw [e1, e2] at h; exact h
theorem conv_one (c : Int) (W : World) : (convert 41 9 (.slice (some ⟨W.heap.size, 0, none⟩) 1 1)).run Tryd.prog (W.alloc (.cells #[.int .u8 c] 5)) = .ok (.string (strOfNums [c])) (W.alloc (.cells #[.int .u8 c] 5)) :=
  run_convert_bytes_arg (W.alloc (.cells #[.int .u8 c] 5)) 41 5 Tryd.underlying41 Tryd.underlying5 W.heap.size 0 1 1 [c] rfl (fun i hi => by
    obtain rfl : i = 0 := by omega
    exact cell_one_new _ _ _ 0 _ rfl) 9 Tryd.underlying9
theorem own3 {w w' : World} {x y z : Value} {T : TypeId} (hb : Below (w.alloc (.cells #[x, y, z] T)).heap.size (w.alloc (.cells #[x, y, z] T)) w') :
    w'.cell? ⟨w.heap.size, 0, none⟩ = some x ∧ w'.cell? ⟨w.heap.size, 1, none⟩ = some y ∧ w'.cell? ⟨w.heap.size, 2, none⟩ = some z ∧ w.heap.size < w'.heap.size := by
  have h1 := heap_alloc_new w (.cells #[x, y, z] T)
  have hlt : w.heap.size < (w.alloc (.cells #[x, y, z] T)).heap.size := (Array.getElem?_eq_some_iff.1 h1).1
  have h : w'.heap[w.heap.size]? = some (.cells #[x, y, z] T (0, 0)) := by rw [hb.block _ hlt]; exact h1
  refine ⟨?_, ?_, ?_, Nat.lt_of_lt_of_le hlt hb.size⟩
  all_goals simp [World.cell?, h]
theorem lit_92 : strOfNums [92] = ⟨#[92]⟩ := by kernel_rfl
theorem lit_cat : (ByteArray.mk #[97] ++ ByteArray.mk #[92]) ++ ByteArray.mk #[49, 48, 49, 57] = ByteArray.mk #[97, 92, 49, 48, 49, 57] := by kernel_rfl
theorem unescape_cat (w : World) :
    Calls Tryd.prog 20 #[.string ((ByteArray.mk #[97] ++ ByteArray.mk #[92]) ++ ByteArray.mk #[49, 48, 49, 57])] w fun e w' => e = .returned (.tuple #[.string ⟨#[97, 65, 57]⟩, .int .i64 0, .int .i64 0]) ∧ Below w.heap.size w w' := by
  rw [lit_cat]; exact unescape_lit w
set_option maxHeartbeats 2000000 in
set_option maxRecDepth 100000 in
theorem awake_any (m : Int) (w : World) (hm : w.cell? ⟨0, 0, none⟩ = some (.int .i64 m)) :
    Calls Tryd.prog 13 #[] w fun e w' => e = .returned (.bool true) ∧ Below w.heap.size w w' := by
  have H := Lib.hid hm; clear hm
  have CV := conv_one 92 (w.alloc (.cells #[.string ⟨#[97]⟩, .string ⟨#[]⟩, .string ⟨#[98]⟩] 9))
  rw [lit_92] at CV
  simp only [World.size_alloc] at CV
  go_enter Tryd.func13, Tryd.ntmps13
  go_wp2_with (first
    | (go_at_call 14; refine (lines_lit m _ H.out).mono ?_; rintro e w' ⟨rfl, rfl⟩)
    | (go_at_call 20; (first | refine (unescape_cat _).mono ?_ | refine (unescape_lit _).mono ?_); rintro e w2 ⟨rfl, hb2⟩; obtain ⟨c0, c1, c2, lt2⟩ := own3 (below_step hb2))
    | (go_at_call 11; refine (join_lit w.heap.size _ c0 c1 c2 lt2).mono ?_; rintro e w3 ⟨rfl, hb3⟩)
    | (go_at_call 17; refine (position_lit _).mono ?_; rintro e w4 ⟨rfl, hb4⟩))
  go_ret
  exact ⟨rfl, below_step (below_step (hb2.trans ((hb3.trans (hb4.mono hb3.size)).mono hb2.size)))⟩
theorem max_below {m : Int} {w w' : World} (hm : w.cell? ⟨0, 0, none⟩ = some (.int .i64 m)) (hb : Below w.heap.size w w') : w'.cell? ⟨0, 0, none⟩ = some (.int .i64 m) := by
  have hlt : 0 < w.heap.size := by
    apply Decidable.byContradiction
    intro hn
    have h0 : w.heap[(0 : Nat)]? = none := Array.getElem?_eq_none (by omega)
    simp [World.cell?, h0] at hm
  exact (hb.cell (p := ⟨0, 0, none⟩) hlt).trans hm
set_option maxHeartbeats 2000000 in
theorem law_positions (s : ByteArray) (a m : Int) (w : World) (hm : w.cell? ⟨0, 0, none⟩ = some (.int .i64 m)) (hs : s.size ≤ 140737488351232) :
    Calls Tryd.prog 5 #[.string s, .int .i64 a] w fun e w' => e = .returned (.bool true) ∧ Below w.heap.size w w' := by
  have H := Lib.hid hm; clear hm
  have S := Lib.hid hs; clear hs
  go_enter Tryd.func5, Tryd.ntmps5
  go_wp2_with (first
    | (go_at_call 17; refine (position_any s a _ S.out).mono ?_; rintro e w1 ⟨rfl, hb1⟩)
    | (go_at_call 18; refine (rposition_any s a _ S.out).mono ?_; rintro e w2 ⟨rfl, hb2⟩)
    | (go_at_call 13; refine (awake_any m _ (max_below (max_below H.out hb1) hb2)).mono ?_; rintro e w3 ⟨rfl, hb3⟩))
  go_ret
  exact ⟨rfl, hb1.trans ((hb2.trans (hb3.mono hb2.size)).mono hb1.size)⟩
end Go.Proofs.YtnbellffbbaamaaDoor
