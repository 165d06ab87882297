/- walks: the reference's reader: its state; fail, read, is (written by gen_ke.py) -/
import Derived.Test.YtlhagpfpcdedpaaDoorKd
import Derived.Test.YtlhagpfpcdedpaaDoorDetg
import Derived.Deep.RegionLaw
namespace Go.Proofs.YtlhagpfpcdedpaaDoor
open Go.RowKit
open Shp
/-- the reader in block p -/
def RY (p : Nat) (s : ByteArray) (k : Int) (tx : ByteArray) (mk : Bool) (ta af er po : Int) (w : World) : Prop :=
  w.heap[p]? = some (.cells #[.string s, .int .i64 k, .string tx, .bool mk, .int .i64 ta, .int .i64 af, .int .i64 er, .int .i64 po] 58 (0, 0))
section
variable {p : Nat} {s : ByteArray} {k : Int} {tx : ByteArray} {mk : Bool} {ta af er po : Int} {w w' : World}
theorem RY.lt (h : RY p s k tx mk ta af er po w) : p < w.heap.size := (Array.getElem?_eq_some_iff.1 h).1
theorem RY.cells (h : RY p s k tx mk ta af er po w) :
    w.cell? ⟨p, 0, none⟩ = some (.string s) ∧ w.cell? ⟨p, 1, none⟩ = some (.int .i64 k) ∧ w.cell? ⟨p, 2, none⟩ = some (.string tx) ∧ w.cell? ⟨p, 3, none⟩ = some (.bool mk) ∧ w.cell? ⟨p, 4, none⟩ = some (.int .i64 ta) ∧ w.cell? ⟨p, 5, none⟩ = some (.int .i64 af) ∧ w.cell? ⟨p, 6, none⟩ = some (.int .i64 er) ∧ w.cell? ⟨p, 7, none⟩ = some (.int .i64 po) :=
  ⟨blk_cell h 0, blk_cell h 1, blk_cell h 2, blk_cell h 3, blk_cell h 4, blk_cell h 5, blk_cell h 6, blk_cell h 7⟩
theorem RY.fr (h : RY p s k tx mk ta af er po w) (i : Nat) : w.frozen? ⟨p, i, none⟩ = false := blk_frozen h i
theorem RY.keep (h : RY p s k tx mk ta af er po w) (hb : w'.heap[p]? = w.heap[p]?) : RY p s k tx mk ta af er po w' := by unfold RY at *; rw [hb]; exact h
theorem RY.below (h : RY p s k tx mk ta af er po w) (hb : Below w.heap.size w w') : RY p s k tx mk ta af er po w' := h.keep (hb.block p h.lt)
theorem RY.set1 (h : RY p s k tx mk ta af er po w) (x : Int) : RY p s x tx mk ta af er po (w.setCell ⟨p, 1, none⟩ (.int .i64 x)) := by unfold RY at *; rw [set_at h]; rfl
theorem RY.set2 (h : RY p s k tx mk ta af er po w) (x : ByteArray) : RY p s k x mk ta af er po (w.setCell ⟨p, 2, none⟩ (.string x)) := by unfold RY at *; rw [set_at h]; rfl
theorem RY.set3 (h : RY p s k tx mk ta af er po w) (x : Bool) : RY p s k tx x ta af er po (w.setCell ⟨p, 3, none⟩ (.bool x)) := by unfold RY at *; rw [set_at h]; rfl
theorem RY.set4 (h : RY p s k tx mk ta af er po w) (x : Int) : RY p s k tx mk x af er po (w.setCell ⟨p, 4, none⟩ (.int .i64 x)) := by unfold RY at *; rw [set_at h]; rfl
theorem RY.set5 (h : RY p s k tx mk ta af er po w) (x : Int) : RY p s k tx mk ta x er po (w.setCell ⟨p, 5, none⟩ (.int .i64 x)) := by unfold RY at *; rw [set_at h]; rfl
theorem RY.set6 (h : RY p s k tx mk ta af er po w) (x : Int) : RY p s k tx mk ta af x po (w.setCell ⟨p, 6, none⟩ (.int .i64 x)) := by unfold RY at *; rw [set_at h]; rfl
theorem RY.set7 (h : RY p s k tx mk ta af er po w) (x : Int) : RY p s k tx mk ta af er x (w.setCell ⟨p, 7, none⟩ (.int .i64 x)) := by unfold RY at *; rw [set_at h]; rfl
end
/-- the state in memory -/
def StN (p : Nat) (s : ByteArray) (w : World) : St → Prop
  | .run t a => RY p s (t.k : Nat) ⟨t.t.toArray⟩ t.b (t.a : Nat) (a : Nat) 0 0 w
  | .bad e q => ∃ k tx b ta af, RY p s k tx b ta af e q w
/-- a reader in a state -/
def RM (p : Nat) (s : ByteArray) (w : World) (x : St) : Prop := StN p s w x ∧ WfS s x
theorem RM.same {p : Nat} {s : ByteArray} {w w' : World} {x : St} (h : RM p s w x) (e : w'.heap[p]? = w.heap[p]?) : RM p s w' x := by
  refine ⟨?_, h.2⟩
  have h1 := h.1
  cases x with
  | run t a => exact RY.keep h1 e
  | bad er q => obtain ⟨k, tx, b, ta, af, h⟩ := h1; exact ⟨k, tx, b, ta, af, h.keep e⟩
theorem RM.sameW {p : Nat} {s : ByteArray} {w w' : World} {x : St} (h : RM p s w x) (e : SameW w w') : RM p s w' x := h.same (by rw [e.1])
/-- what Next returns makes the state -/
theorem bcell {W w1 : World} (hb : Below W.heap.size W w1) : (∀ b o, b < W.heap.size → w1.cell? ⟨b, o, none⟩ = W.cell? ⟨b, o, none⟩) ∧ (∀ b o, b < W.heap.size → w1.frozen? ⟨b, o, none⟩ = W.frozen? ⟨b, o, none⟩) :=
  ⟨fun b o h => hb.cell (p := ⟨b, o, none⟩) h, fun b o h => hb.frozen (p := ⟨b, o, none⟩) h⟩
theorem han {w : World} {o : Obj} {n : Nat} (h : n = w.heap.size) : (w.alloc o).heap[n]? = some o := by subst h; exact heap_alloc_new w o
theorem hao {w : World} {o v : Obj} {n : Nat} (h : w.heap[n]? = some v) : (w.alloc o).heap[n]? = some v := (heap_alloc_old _ _ (Array.getElem?_eq_some_iff.1 h).1).trans h
theorem hab {W w1 : World} {v : Obj} {n : Nat} (B : Below W.heap.size W w1) (h : W.heap[n]? = some v) : w1.heap[n]? = some v := (B.block n (Array.getElem?_eq_some_iff.1 h).1).trans h
theorem bel_alloc {w X : World} {o : Obj} (h : Below w.heap.size w X) : Below w.heap.size w (X.alloc o) := h.alloc h.size o
theorem bel_call {w W w1 : World} (B : Below W.heap.size W w1) (h : Below w.heap.size w W) : Below w.heap.size w w1 := h.trans (B.mono h.size)
/-- behind 't, after, f := Next(..)': where the three variables lie -/
def ReadC (x : St) (w : World) (t2 t3 t4 : Value) (w' : World) : Prop := ∃ (b2 b4 : Nat) (q0 : Int) (q1 : ByteArray) (q2 : Bool) (q3 af er po : Int), t2 = .pointer (some ⟨b2, 0, none⟩) ∧ t3 = .int .i64 af ∧ t4 = .pointer (some ⟨b4, 0, none⟩) ∧ Hid (NxR x #[.int .i64 q0, .string q1, .bool q2, .int .i64 q3] af er po) ∧
  Hid (w'.heap[b2]? = some (.cells #[.int .i64 q0, .string q1, .bool q2, .int .i64 q3] 54 (0, 0))) ∧ Hid (w'.heap[b4]? = some (.cells #[.int .i64 er, .int .i64 po] 56 (0, 0))) ∧ Hid (Below w.heap.size w w') ∧ w.heap.size ≤ b2 ∧ w.heap.size ≤ b4
theorem read_mk {x : St} {w W : World} {b2 b4 : Nat} {q0 : Int} {q1 : ByteArray} {q2 : Bool} {q3 af er po : Int} (NR : NxR x #[.int .i64 q0, .string q1, .bool q2, .int .i64 q3] af er po) (h2 : W.heap[b2]? = some (.cells #[.int .i64 0, .string ⟨#[]⟩, .bool false, .int .i64 0] 54 (0, 0))) (h4 : W.heap[b4]? = some (.cells #[.int .i64 0, .int .i64 0] 56 (0, 0)))
    (B : Below w.heap.size w W) (l2 : w.heap.size ≤ b2) (l4 : w.heap.size ≤ b4) :
    ReadC x w (.pointer (some ⟨b2, 0, none⟩)) (.int .i64 af) (.pointer (some ⟨b4, 0, none⟩)) (((resW b2 W (.int .i64 q0) (.string q1) (.bool q2) (.int .i64 q3)).setCell ⟨b4, 0, none⟩ (.int .i64 er)).setCell ⟨b4, 1, none⟩ (.int .i64 po)) := by
  have hne : b2 ≠ b4 := fun e => by subst e; rw [h2] at h4; cases h4
  have hr : (resW b2 W (.int .i64 q0) (.string q1) (.bool q2) (.int .i64 q3)).heap[b2]? = some (.cells #[.int .i64 q0, .string q1, .bool q2, .int .i64 q3] 54 (0, 0)) := set_at (set_at (set_at (set_at h2)))
  have hf : (resW b2 W (.int .i64 q0) (.string q1) (.bool q2) (.int .i64 q3)).heap[b4]? = some (.cells #[.int .i64 0, .int .i64 0] 56 (0, 0)) := (resW_other (Ne.symm hne)).trans h4
  exact ⟨b2, b4, q0, q1, q2, q3, af, er, po, rfl, rfl, rfl, Lib.hid NR, Lib.hid ((set_other hne).trans ((set_other hne).trans hr)), Lib.hid (set_at (set_at hf)), Lib.hid ((((((B.setCell l2 _).setCell l2 _).setCell l2 _).setCell l2 _).setCell l4 _).setCell l4 _), l2, l4⟩
theorem ty_ne {w : World} {b : Nat} {A B : Array Value} {T1 T2 : TypeId} {z : Nat × Nat} (h1 : w.heap[b]? = some (.cells A T1 z)) (h2 : w.heap[b]? = some (.cells B T2 z)) (hne : T1 ≠ T2) : False := by
  rw [h1] at h2
  injection h2 with h2
  injection h2 with _ h2
  exact hne h2
section
variable {w wx : World} {u : Nat → Value} {d : Nat → Bool} {q0 : Int} {q1 : ByteArray} {q2 : Bool} {q3 er po : Int}
/-- on the way through read's region: what holds of the world and of the two new blocks -/
def ReadS (w : World) (q0 : Int) (q1 : ByteArray) (q2 : Bool) (q3 er po : Int) : (Nat → Value) → (Nat → Bool) → World → Prop := (fun u d w' => Below w.heap.size w w' ∧ (d 15 = true → d 13 = true) ∧ (d 17 = true → d 14 = true) ∧ (d 13 = true → ∃ b2, u 0 = .pointer (some ⟨b2, 0, none⟩) ∧ w.heap.size ≤ b2 ∧ w'.heap[b2]? = some (.cells (cond (d 15) #[.int .i64 q0, .string q1, .bool q2, .int .i64 q3] #[.int .i64 0, .string ⟨#[]⟩, .bool false, .int .i64 0]) 54 (0, 0))) ∧ (d 14 = true → ∃ b4, u 2 = .pointer (some ⟨b4, 0, none⟩) ∧ w.heap.size ≤ b4 ∧ w'.heap[b4]? = some (.cells (cond (d 17) #[.int .i64 er, .int .i64 po] #[.int .i64 0, .int .i64 0]) 56 (0, 0))))
theorem rs_call {w1 : World} {v : Value} (h : ReadS w q0 q1 q2 q3 er po u d wx) (B : Below wx.heap.size wx w1) : ReadS w q0 q1 q2 q3 er po (updV u 18 v) (upd d 8) w1 := by
  obtain ⟨h1, h2, h3, h4, h5⟩ := h
  refine ⟨h1.trans (B.mono h1.size), h2, h3, fun e => ?_, fun e => ?_⟩
  · obtain ⟨b, e1, e2, e3⟩ := h4 e; exact ⟨b, e1, e2, hab B e3⟩
  · obtain ⟨b, e1, e2, e3⟩ := h5 e; exact ⟨b, e1, e2, hab B e3⟩
theorem rs_a2 (h : ReadS w q0 q1 q2 q3 er po u d wx) (hd : d 13 = false) : ReadS w q0 q1 q2 q3 er po (updV u 0 (.pointer (some ⟨wx.heap.size, 0, none⟩))) (upd d 13) (wx.alloc (.cells #[.int .i64 0, .string ⟨#[]⟩, .bool false, .int .i64 0] 54)) := by
  obtain ⟨h1, h2, h3, h4, h5⟩ := h
  have d15 : d 15 = false := by cases e : d 15 with
    | false => rfl
    | true => rw [h2 e] at hd; cases hd
  refine ⟨bel_alloc h1, fun _ => rfl, h3, fun _ => ⟨wx.heap.size, rfl, h1.size, ?_⟩, fun e => ?_⟩
  · rw [show upd d 13 15 = d 15 from rfl, d15]; exact heap_alloc_new wx _
  · obtain ⟨b, e1, e2, e3⟩ := h5 e; exact ⟨b, e1, e2, hao e3⟩
theorem rs_a4 (h : ReadS w q0 q1 q2 q3 er po u d wx) (hd : d 14 = false) : ReadS w q0 q1 q2 q3 er po (updV u 2 (.pointer (some ⟨wx.heap.size, 0, none⟩))) (upd d 14) (wx.alloc (.cells #[.int .i64 0, .int .i64 0] 56)) := by
  obtain ⟨h1, h2, h3, h4, h5⟩ := h
  have d17 : d 17 = false := by cases e : d 17 with
    | false => rfl
    | true => rw [h3 e] at hd; cases hd
  refine ⟨bel_alloc h1, h2, fun _ => rfl, fun e => ?_, fun _ => ⟨wx.heap.size, rfl, h1.size, ?_⟩⟩
  · obtain ⟨b, e1, e2, e3⟩ := h4 e; exact ⟨b, e1, e2, hao e3⟩
  · rw [show upd d 14 17 = d 17 from rfl, d17]; exact heap_alloc_new wx _
theorem rs_s2 {b2 : Nat} (h : ReadS w q0 q1 q2 q3 er po u d wx) (_hd : d 15 = false) (l2 : w.heap.size ≤ b2) (hb : wx.heap[b2]? = some (.cells #[.int .i64 0, .string ⟨#[]⟩, .bool false, .int .i64 0] 54 (0, 0))) (hu : u 0 = .pointer (some ⟨b2, 0, none⟩)) (h13 : d 13 = true := by assumption) :
    ReadS w q0 q1 q2 q3 er po u (upd d 15) (resW b2 wx (.int .i64 q0) (.string q1) (.bool q2) (.int .i64 q3)) := by
  obtain ⟨h1, h2, h3, h4, h5⟩ := h
  refine ⟨(((h1.setCell l2 _).setCell l2 _).setCell l2 _).setCell l2 _, fun _ => h13, h3, fun _ => ⟨b2, hu, l2, set_at (set_at (set_at (set_at hb)))⟩, fun e => ?_⟩
  obtain ⟨b, e1, e2, e3⟩ := h5 e
  refine ⟨b, e1, e2, (resW_other (fun e => ?_)).trans e3⟩
  subst e; exact ty_ne hb e3 (by decide)
theorem rs_s4 {b4 : Nat} (h : ReadS w q0 q1 q2 q3 er po u d wx) (_hd : d 17 = false) (l4 : w.heap.size ≤ b4) (hb : wx.heap[b4]? = some (.cells #[.int .i64 0, .int .i64 0] 56 (0, 0))) (hu : u 2 = .pointer (some ⟨b4, 0, none⟩)) (h14 : d 14 = true := by assumption) :
    ReadS w q0 q1 q2 q3 er po u (upd d 17) ((wx.setCell ⟨b4, 0, none⟩ (.int .i64 er)).setCell ⟨b4, 1, none⟩ (.int .i64 po)) := by
  obtain ⟨h1, h2, h3, h4, h5⟩ := h
  refine ⟨(h1.setCell l4 _).setCell l4 _, h2, fun _ => h14, fun e => ?_, fun _ => ⟨b4, hu, l4, set_at (set_at hb)⟩⟩
  obtain ⟨b, e1, e2, e3⟩ := h4 e
  refine ⟨b, e1, e2, ((set_other (fun e => ?_)).trans (set_other (fun e => ?_))).trans e3⟩ <;> (subst e; exact ty_ne hb e3 (by decide))
end
theorem gr_st {p : Nat} {w w' : World} {j : Nat} {u : Value} (h : Gr p w w') : Gr p w (w'.setCell ⟨p, j, none⟩ u) := gr_trans h (gr_set _ _ _ _)
theorem lt11 (n : Nat) : n < n + 1 + 1 := by omega
theorem StN.of {p : Nat} {s : ByteArray} {w : World} {x : St} {k : Int} {t : ByteArray} {b : Bool} {a af er po : Int} (h : NxR x #[.int .i64 k, .string t, .bool b, .int .i64 a] af er po) (r : RY p s k t b a af er po w) : StN p s w x := by
  cases x with
  | run t' a' =>
    obtain ⟨e, rfl, rfl, rfl⟩ := h
    simp only [Array.mk.injEq, List.cons.injEq, Value.int.injEq, Value.string.injEq, Value.bool.injEq, true_and, and_true] at e
    obtain ⟨rfl, rfl, rfl, rfl⟩ := e
    exact r
  | bad e q =>
    obtain ⟨-, rfl, rfl⟩ := h
    exact ⟨_, _, _, _, _, r⟩
set_option maxHeartbeats 1000000 in
theorem rfail_run (p : Nat) (s : ByteArray) (k : Int) (tx : ByteArray) (mk : Bool) (ta af po e1 : Int) (w : World) (h : RY p s k tx mk ta af 0 po w) :
    Calls Tryd.prog 27 #[.pointer (some ⟨p, 0, none⟩), .int .i64 e1] w fun e w' => e = .returned (.tuple #[]) ∧ Hid (RY p s k tx mk ta af e1 ta w') ∧ Hid (Gr p w w') := by
  obtain ⟨-, -, -, -, c4, -, c6, c7⟩ := h.cells
  have f6 := h.fr 6
  have f7 := h.fr 7
  have H := Lib.hid h
  clear h
  go_enter Tryd.func27, Tryd.ntmps27
  go_wp2_with fail
  go_end0
  exact ⟨rfl, Lib.hid ((H.out.set6 e1).set7 ta), Lib.hid (gr_trans (gr_set _ _ _ _) (gr_set _ _ _ _))⟩
theorem rfail_bad (p : Nat) (s : ByteArray) (k : Int) (tx : ByteArray) (mk : Bool) (ta af er po e1 : Int) (w : World) (h : RY p s k tx mk ta af er po w) (he : er ≠ 0) :
    Calls Tryd.prog 27 #[.pointer (some ⟨p, 0, none⟩), .int .i64 e1] w fun e w' => e = .returned (.tuple #[]) ∧ w = w' := by
  obtain ⟨-, -, -, -, -, -, c6, -⟩ := h.cells
  have t : (er == 0) = false := by rw [beq_eq_false_iff_ne]; exact he
  clear h he
  go_enter Tryd.func27, Tryd.ntmps27
  go_wp2_with fail
  go_end0
  exact ⟨rfl, rfl⟩
set_option maxHeartbeats 2000000 in
theorem ris_any (p : Nat) (s : ByteArray) (k : Int) (tx : ByteArray) (mk : Bool) (ta af er po : Int) (o : ByteArray) (w : World) (h : RY p s k tx mk ta af er po w) :
    Calls Tryd.prog 50 #[.pointer (some ⟨p, 0, none⟩), .string o] w fun e w' => e = .returned (.bool (decide (er = 0) && decide (k = 2) && (tx.toList == o.toList))) ∧ SameW w w' := by
  obtain ⟨-, c1, c2, -, -, -, c6, -⟩ := h.cells
  clear h
  by_cases he : er = 0
  · subst he
    by_cases hk : k = 2
    · subst hk
      go_enter Tryd.func50, Tryd.ntmps50
      go_wp2_with (fail)
      repeat (go_region; go_wp2_with (fail))
      go_ret
      exact ⟨rfl, rfl, rfl, rfl, rfl⟩
    · have t : (k == 2) = false := by rw [beq_eq_false_iff_ne]; exact hk
      have t2 : Hid (decide (k = 2) = false) := Lib.hid (decide_eq_false hk)
      clear hk
      go_enter Tryd.func50, Tryd.ntmps50
      go_wp2_with (fail)
      repeat (go_region; go_wp2_with (fail))
      go_ret
      exact ⟨by rw [t2.out]; rfl, rfl, rfl, rfl, rfl⟩
  · have t : (er == 0) = false := by rw [beq_eq_false_iff_ne]; exact he
    have t2 : Hid (decide (er = 0) = false) := Lib.hid (decide_eq_false he)
    clear he
    go_enter Tryd.func50, Tryd.ntmps50
    go_wp2_with (fail)
    repeat (go_region; go_wp2_with (fail))
    go_ret
    exact ⟨by rw [t2.out]; rfl, rfl, rfl, rfl, rfl⟩
theorem rread_bad (p : Nat) (s : ByteArray) (k : Int) (tx : ByteArray) (mk : Bool) (ta af er po : Int) (w : World) (h : RY p s k tx mk ta af er po w) (he : er ≠ 0) :
    Calls Tryd.prog 24 #[.pointer (some ⟨p, 0, none⟩)] w fun e w' => e = .returned (.tuple #[]) ∧ w = w' := by
  obtain ⟨-, -, -, -, -, -, c6, -⟩ := h.cells
  have t : (er == 0) = false := by rw [beq_eq_false_iff_ne]; exact he
  clear h he
  go_enter Tryd.func24, Tryd.ntmps24
  go_wp2_with fail
  go_end0
  exact ⟨rfl, rfl⟩
set_option maxRecDepth 100000 in
set_option maxHeartbeats 8000000 in
theorem rread_run (p : Nat) (s : ByteArray) (k : Int) (tx : ByteArray) (mk : Bool) (ta : Int) (a : Nat) (po : Int) (w : World) (h : RY p s k tx mk ta a 0 po w) (hs : s.size ≤ 8192) (ha : a ≤ s.size) :
    Calls Tryd.prog 24 #[.pointer (some ⟨p, 0, none⟩)] w fun e w' => e = .returned (.tuple #[]) ∧ Hid (StN p s w' (nx s a)) ∧ Hid (Gr p w w') := by
  obtain ⟨c0, c1, c2, c3, c4, c5, c6, c7⟩ := h.cells
  have H := Lib.hid h
  clear h
  go_enter Tryd.func24, Tryd.ntmps24
  have PL := H.out.lt
  obtain ⟨q0, q1, q2, q3, af, er, pq, hv, NR⟩ := nextV_is s a
  have NV := Lib.hid hv
  have NR := Lib.hid NR
  clear hv
  go_wp2_with fail
  refine wp_region_inv (DetG (ReadS w q0 q1 q2 q3 er pq) 2 22 (fun kk => ([13, 16, 14, 1003, 1004, 1005, 1006, 1007, 1008, 9, 0, 1, 2, 3, 4, 5, 6, 7, 8, 10, 11, 12] : List Nat).getD kk 0) (fun kk => ([false, true, false, false, false, false, false, false, false, true, true, true, true, true, true, true, true, true, true, true, true, true] : List Bool).getD kk false) (fun kk => ([undef, .int .i64 af, undef, undef, undef, undef, undef, undef, undef, .tuple #[.agg #[.int .i64 q0, .string q1, .bool q2, .int .i64 q3], .int .i64 af, .agg #[.int .i64 er, .int .i64 pq]], .pointer (some ⟨p, 0, none⟩), .pointer (some ⟨p, 0, none⟩), .pointer (some ⟨p, 0, none⟩), .string s, .pointer (some ⟨p, 0, none⟩), .pointer (some ⟨p, 0, none⟩), .pointer (some ⟨p, 5, none⟩), .int .i64 (a : Int), .tuple #[.agg #[.int .i64 q0, .string q1, .bool q2, .int .i64 q3], .int .i64 af, .agg #[.int .i64 er, .int .i64 pq]], .agg #[.int .i64 q0, .string q1, .bool q2, .int .i64 q3], .int .i64 af, .agg #[.int .i64 er, .int .i64 pq]] : List Value).getD kk undef)) (by kernel_rfl) (by kernel_rfl) ?_ ?_ ?_
  · exact DetG.start (fun u => ⟨(Below.refl _ _).drew, (fun h => by cases h), (fun h => by cases h), (fun h => by cases h), (fun h => by cases h)⟩) (Nat.le_of_ble_eq_true rfl) (by decide)
  · refine StepsL.cons 1 rfl ?_ ?_
    · intro d ac wx hI hd hdep K hK
      have f0 : ac.tmps[0]? = some (.pointer (some ⟨p, 0, none⟩)) := hI.other 0 (by decide)
      have h0 := eval_slot f0
      go_simp
      exact hK.out _ _ (hI.put 10 (by decide) (by decide) _ rfl _ (fun _ => rfl) (fun _ h => h))
    refine StepsL.cons 2 rfl ?_ ?_
    · intro d ac wx hI hd hdep K hK
      have f12 : ac.tmps[12]? = some (.pointer (some ⟨p, 0, none⟩)) := hI.slot 10 (by decide) rfl (hdep ⟨0, .data⟩ (by simp) (by rfl))
      have h12 := eval_slot f12
      go_simp
      exact hK.out _ _ (hI.put 11 (by decide) (by decide) _ rfl _ (fun _ => rfl) (fun _ h => h))
    refine StepsL.cons 3 rfl ?_ ?_
    · intro d ac wx hI hd hdep K hK
      have f13 : ac.tmps[13]? = some (.pointer (some ⟨p, 0, none⟩)) := hI.slot 11 (by decide) rfl (hdep ⟨1, .data⟩ (by simp) (by rfl))
      have h13 := eval_slot f13
      go_simp
      exact hK.out _ _ (hI.put 12 (by decide) (by decide) _ rfl _ (fun _ => rfl) (fun _ h => h))
    refine StepsL.cons 4 rfl ?_ ?_
    · intro d ac wx hI hd hdep K hK
      have f14 : ac.tmps[14]? = some (.pointer (some ⟨p, 0, none⟩)) := hI.slot 12 (by decide) rfl (hdep ⟨2, .data⟩ (by simp) (by rfl))
      have h14 := eval_slot f14
      obtain ⟨uu, hSS, -⟩ := hI.get
      have c0 := (hSS.1.cell (p := ⟨p, 0, none⟩) PL).trans c0
      go_simp
      exact hK.out _ _ (hI.put 13 (by decide) (by decide) _ rfl _ (fun _ => rfl) (fun _ h => h))
    refine StepsL.cons 5 rfl ?_ ?_
    · intro d ac wx hI hd hdep K hK
      have f0 : ac.tmps[0]? = some (.pointer (some ⟨p, 0, none⟩)) := hI.other 0 (by decide)
      have h0 := eval_slot f0
      go_simp
      exact hK.out _ _ (hI.put 14 (by decide) (by decide) _ rfl _ (fun _ => rfl) (fun _ h => h))
    refine StepsL.cons 6 rfl ?_ ?_
    · intro d ac wx hI hd hdep K hK
      have f16 : ac.tmps[16]? = some (.pointer (some ⟨p, 0, none⟩)) := hI.slot 14 (by decide) rfl (hdep ⟨4, .data⟩ (by simp) (by rfl))
      have h16 := eval_slot f16
      go_simp
      exact hK.out _ _ (hI.put 15 (by decide) (by decide) _ rfl _ (fun _ => rfl) (fun _ h => h))
    refine StepsL.cons 7 rfl ?_ ?_
    · intro d ac wx hI hd hdep K hK
      have f17 : ac.tmps[17]? = some (.pointer (some ⟨p, 0, none⟩)) := hI.slot 15 (by decide) rfl (hdep ⟨5, .data⟩ (by simp) (by rfl))
      have h17 := eval_slot f17
      go_simp
      exact hK.out _ _ (hI.put 16 (by decide) (by decide) _ rfl _ (fun _ => rfl) (fun _ h => h))
    refine StepsL.cons 8 rfl ?_ ?_
    · intro d ac wx hI hd hdep K hK
      have f18 : ac.tmps[18]? = some (.pointer (some ⟨p, 5, none⟩)) := hI.slot 16 (by decide) rfl (hdep ⟨6, .data⟩ (by simp) (by rfl))
      have h18 := eval_slot f18
      obtain ⟨uu, hSS, -⟩ := hI.get
      have c5 := (hSS.1.cell (p := ⟨p, 5, none⟩) PL).trans c5
      go_simp
      exact hK.out _ _ (hI.put 17 (by decide) (by decide) _ rfl _ (fun _ => rfl) (fun _ h => h))
    refine StepsL.cons 9 rfl ?_ ?_
    · intro d ac wx hI hd hdep K hK
      have f15 : ac.tmps[15]? = some (.string s) := hI.slot 13 (by decide) rfl (hdep ⟨3, .data⟩ (by simp) (by rfl))
      have h15 := eval_slot f15
      have f19 : ac.tmps[19]? = some (.int .i64 (a : Int)) := hI.slot 17 (by decide) rfl (hdep ⟨7, .data⟩ (by simp) (by rfl))
      have h19 := eval_slot f19
      go_simp
      go_at_call 49
      refine (rnext_any s a _ hs ha).mono ?_
      rw [NV.out]
      rintro _ w1 ⟨rfl, B1⟩
      go_wp2_with fail
      exact hK.out _ _ (hI.put 18 (by decide) (by decide) _ rfl _ (fun _ => rfl) (fun u h => rs_call h B1.out))
    refine StepsL.cons 10 rfl ?_ ?_
    · intro d ac wx hI hd hdep K hK
      have f20 : ac.tmps[20]? = some (.tuple #[.agg #[.int .i64 q0, .string q1, .bool q2, .int .i64 q3], .int .i64 af, .agg #[.int .i64 er, .int .i64 pq]]) := hI.slot 18 (by decide) rfl (hdep ⟨8, .data⟩ (by simp) (by rfl))
      have h20 := eval_slot f20
      go_simp
      exact hK.out _ _ (hI.put 9 (by decide) (by decide) _ rfl _ (fun _ => rfl) (fun _ h => h))
    refine StepsL.cons 11 rfl ?_ ?_
    · intro d ac wx hI hd hdep K hK
      have f11 : ac.tmps[11]? = some (.tuple #[.agg #[.int .i64 q0, .string q1, .bool q2, .int .i64 q3], .int .i64 af, .agg #[.int .i64 er, .int .i64 pq]]) := hI.slot 9 (by decide) rfl (hdep ⟨9, .data⟩ (by simp) (by rfl))
      have h11 := eval_slot f11
      go_simp
      exact hK.out _ _ (hI.put 19 (by decide) (by decide) _ rfl _ (fun _ => rfl) (fun _ h => h))
    refine StepsL.cons 12 rfl ?_ ?_
    · intro d ac wx hI hd hdep K hK
      have f11 : ac.tmps[11]? = some (.tuple #[.agg #[.int .i64 q0, .string q1, .bool q2, .int .i64 q3], .int .i64 af, .agg #[.int .i64 er, .int .i64 pq]]) := hI.slot 9 (by decide) rfl (hdep ⟨9, .data⟩ (by simp) (by rfl))
      have h11 := eval_slot f11
      go_simp
      exact hK.out _ _ (hI.put 20 (by decide) (by decide) _ rfl _ (fun _ => rfl) (fun _ h => h))
    refine StepsL.cons 13 rfl ?_ ?_
    · intro d ac wx hI hd hdep K hK
      have f11 : ac.tmps[11]? = some (.tuple #[.agg #[.int .i64 q0, .string q1, .bool q2, .int .i64 q3], .int .i64 af, .agg #[.int .i64 er, .int .i64 pq]]) := hI.slot 9 (by decide) rfl (hdep ⟨9, .data⟩ (by simp) (by rfl))
      have h11 := eval_slot f11
      go_simp
      exact hK.out _ _ (hI.put 21 (by decide) (by decide) _ rfl _ (fun _ => rfl) (fun _ h => h))
    refine StepsL.cons 14 rfl ?_ ?_
    · intro d ac wx hI hd hdep K hK
      go_simp
      exact hK.out _ _ (hI.put 0 (by decide) (by decide) _ rfl _ (fun h => by cases h) (fun u h => rs_a2 h hd))
    refine StepsL.cons 15 rfl ?_ ?_
    · intro d ac wx hI hd hdep K hK
      go_simp
      exact hK.out _ _ (hI.put 2 (by decide) (by decide) _ rfl _ (fun h => by cases h) (fun u h => rs_a4 h hd))
    refine StepsL.cons 16 rfl ?_ ?_
    · intro d ac wx hI hd hdep K hK
      have f21 : ac.tmps[21]? = some (.agg #[.int .i64 q0, .string q1, .bool q2, .int .i64 q3]) := hI.slot 19 (by decide) rfl (hdep ⟨10, .data⟩ (by simp) (by rfl))
      have h21 := eval_slot f21
      have h13 : d 13 = true := hdep ⟨13, .data⟩ (by simp) (by rfl)
      obtain ⟨uu, hSS, hs2⟩ := hI.get
      obtain ⟨b2, e2, l2, hb2⟩ := hSS.2.2.2.1 (hdep ⟨13, .data⟩ (by simp) (by rfl))
      rw [hd] at hb2
      have f2 : ac.tmps[2]? = some (.pointer (some ⟨b2, 0, none⟩)) := (hs2 0 (by decide)).trans (by rw [e2])
      have h2 := eval_slot f2
      have k0 := blk_cell hb2 0
      have k1 := blk_cell hb2 1
      have k2 := blk_cell hb2 2
      have k3 := blk_cell hb2 3
      have g0 := blk_frozen hb2 0
      have g1 := blk_frozen hb2 1
      have g2 := blk_frozen hb2 2
      have g3 := blk_frozen hb2 3
      simp only [cond_false, List.getElem?_toArray, List.getElem?_cons_zero, List.getElem?_cons_succ] at k0 k1 k2 k3
      go_simp
      exact hK.out _ _ (hI.keepu 15 (by decide) 0 (by decide) f2 (fun u e h => rs_s2 h hd l2 hb2 e))
    refine StepsL.cons 17 rfl ?_ ?_
    · intro d ac wx hI hd hdep K hK
      have f22 : ac.tmps[22]? = some (.int .i64 af) := hI.slot 20 (by decide) rfl (hdep ⟨11, .data⟩ (by simp) (by rfl))
      have h22 := eval_slot f22
      go_simp
      exact hK.out _ _ (hI.put 1 (by decide) (by decide) _ rfl _ (fun _ => rfl) (fun _ h => h))
    refine StepsL.cons 18 rfl ?_ ?_
    · intro d ac wx hI hd hdep K hK
      have f23 : ac.tmps[23]? = some (.agg #[.int .i64 er, .int .i64 pq]) := hI.slot 21 (by decide) rfl (hdep ⟨12, .data⟩ (by simp) (by rfl))
      have h23 := eval_slot f23
      have h14 : d 14 = true := hdep ⟨14, .data⟩ (by simp) (by rfl)
      obtain ⟨uu, hSS, hs2⟩ := hI.get
      obtain ⟨b4, e4, l4, hb4⟩ := hSS.2.2.2.2 (hdep ⟨14, .data⟩ (by simp) (by rfl))
      rw [hd] at hb4
      have f4 : ac.tmps[4]? = some (.pointer (some ⟨b4, 0, none⟩)) := (hs2 2 (by decide)).trans (by rw [e4])
      have h4 := eval_slot f4
      have k0 := blk_cell hb4 0
      have k1 := blk_cell hb4 1
      have g0 := blk_frozen hb4 0
      have g1 := blk_frozen hb4 1
      simp only [cond_false, List.getElem?_toArray, List.getElem?_cons_zero, List.getElem?_cons_succ] at k0 k1
      go_simp
      exact hK.out _ _ (hI.keepu 17 (by decide) 2 (by decide) f4 (fun u e h => rs_s4 h hd l4 hb4 e))
    exact StepsL.nil
  · intro d ac wy hI hall
    obtain ⟨u, rfl, hS, hv⟩ := hI.done hall
    obtain ⟨BL, -, -, x2, x4⟩ := hS
    obtain ⟨b2, e2, l2, hb2⟩ := x2 (hall _)
    obtain ⟨b4, e4, l4, hb4⟩ := x4 (hall _)
    have n2 : p ≠ b2 := by omega
    have n4 : p ≠ b4 := by omega
    have n2s := n2.symm
    have n4s := n4.symm
    rw [hall 15] at hb2
    rw [hall 17] at hb4
    have e3 : u 1 = .int .i64 af := hv 1 (by decide) rfl
    simp only [putR, Act.put, List.setIfInBounds_toArray, List.set_cons_zero, List.set_cons_succ, Nat.reduceAdd]
    rw [e2, e4, e3]
    have k0 := blk_cell hb2 0
    have k1 := blk_cell hb2 1
    have k2 := blk_cell hb2 2
    have k3 := blk_cell hb2 3
    have m0 := blk_cell hb4 0
    have m1 := blk_cell hb4 1
    simp only [cond_true, List.getElem?_toArray, List.getElem?_cons_zero, List.getElem?_cons_succ] at k0 k1 k2 k3 m0 m1
    have L := Lib.hid (H.out.below BL)
    have GB0 := Lib.hid (gr_below (p := p) BL)
    clear l2 l4 hb2 hb4 x2 x4 BL hv hall hI e2 e4 e3
    obtain ⟨c0, c1, c2, c3, c4, c5, c6, c7⟩ := L.out.cells
    have f1 := L.out.fr 1
    have f2 := L.out.fr 2
    have f3 := L.out.fr 3
    have f4 := L.out.fr 4
    have f5 := L.out.fr 5
    have f6 := L.out.fr 6
    have f7 := L.out.fr 7
    go_wp2_with fail
    go_end0
    exact ⟨rfl, Lib.hid (StN.of NR.out (((((((L.out.set1 q0).set2 q1).set3 q2).set4 q3).set5 af).set6 er).set7 pq)), Lib.hid (gr_st (gr_st (gr_st (gr_st (gr_st (gr_st (gr_st GB0.out)))))))⟩
end Go.Proofs.YtlhagpfpcdedpaaDoor
