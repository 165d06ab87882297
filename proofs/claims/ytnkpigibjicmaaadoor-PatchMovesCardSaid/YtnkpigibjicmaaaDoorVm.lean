/- walks: equal patches are the same; few (written by gen_vm.py) -/
import Derived.Test.YtnkpigibjicmaaaDoorVl
namespace Go.Proofs.YtnkpigibjicmaaaDoor
open Go.RowKit Go.Maps
open Pt
set_option maxRecDepth 100000 in
set_option maxHeartbeats 4000000 in
theorem samepatch_eq (old new : ByteArray) (L M : List HV) (u v : Value) (w : World) (hu : HksAt w u L) (hv : HksAt w v M) (he : L.map (·.1) = M.map (·.1)) (hs : smallH L) :
    Calls Tryd.prog 22 #[.agg #[.string old, .string new, u], .agg #[.string old, .string new, v]] w fun e w' => e = .returned (.bool true) ∧ Hid (Below w.heap.size w w') := by
  obtain ⟨n, hn⟩ : ∃ n, L.length = n := ⟨_, rfl⟩
  have hm : M.length = n := by have := congrArg List.length he; simp at this; omega
  have CS := Lib.hid (fun W (hb : Below w.heap.size w W) => samehunks_eq L M u v W (hu.below hb) (hv.below hb) he hs)
  obtain ⟨ua, uc, rfl, -, -, -⟩ := hu.rows.sl (n := n) (by rw [List.length_map]; exact hn)
  obtain ⟨xa, xc, rfl, -, -, -⟩ := hv.rows.sl (n := n) (by rw [List.length_map]; exact hm)
  have s1 : (w.alloc (.cells #[.string old, .string new, .slice ua n uc] 24)).heap.size = w.heap.size + 1 := World.size_alloc _ _
  have B0 : Hid (Below w.heap.size w ((w.alloc (.cells #[.string old, .string new, .slice ua n uc] 24)).alloc (.cells #[.string old, .string new, .slice xa n xc] 24))) := Lib.hid (((Below.refl _ _).alloc (Nat.le_refl _) _).alloc (by rw [s1]; omega) _)
  have n1 := (Below.heap_alloc (w.alloc (.cells #[.string old, .string new, .slice ua n uc] 24)) (.cells #[.string old, .string new, .slice xa n xc] 24) w.heap.size (by rw [s1]; omega)).trans (heap_alloc_new w (.cells #[.string old, .string new, .slice ua n uc] 24))
  have n2 := heap_alloc_new (w.alloc (.cells #[.string old, .string new, .slice ua n uc] 24)) (.cells #[.string old, .string new, .slice xa n xc] 24)
  rw [s1] at n2
  have y0 := blk_cellx n1 0 _ rfl
  have y1 := blk_cellx n1 1 _ rfl
  have y2 := blk_cellx n1 2 _ rfl
  have z0 := blk_cellx n2 0 _ rfl
  have z1 := blk_cellx n2 1 _ rfl
  have z2 := blk_cellx n2 2 _ rfl
  clear hu hv he hs hn hm n1 n2 s1
  go_enter Tryd.func22, Tryd.ntmps22
  go_wp2_with (go_at_call 14; refine (CS.out _ B0.out).mono ?_; rintro _ w3 ⟨rfl, B3⟩)
  go_ret
  exact ⟨rfl, Lib.hid (B0.out.trans (B3.out.mono B0.out.size))⟩
/-- few hunks, few lines, short texts -/
def fewLB (l : List DL) : Bool := decide (l.length ≤ 20) && l.all fun x => decide (x.2.1.size ≤ 40)
def fewPB (L : List HV) : Bool := decide (L.length ≤ 8) && L.all fun p => fewLB p.1.ls
theorem few_small {L : List HV} (h : fewPB L = true) : smallH L ∧ smallR L := by
  unfold fewPB at h
  rw [Bool.and_eq_true, List.all_eq_true] at h
  have h1 := of_decide_eq_true h.1
  refine ⟨⟨by omega, fun p hp => ?_⟩, ⟨by omega, fun p hp => ?_⟩⟩
  · have := h.2 p hp
    unfold fewLB at this
    rw [Bool.and_eq_true, List.all_eq_true] at this
    have h2 := of_decide_eq_true this.1
    exact ⟨by omega, fun x hx => by have := of_decide_eq_true (this.2 x hx); omega⟩
  · have := h.2 p hp
    unfold fewLB at this
    rw [Bool.and_eq_true] at this
    have h2 := of_decide_eq_true this.1
    omega
theorem few_no {L : List HV} {j : Nat} {x : HV} (hx : L[j]? = some x) (h : fewLB x.1.ls = false) : fewPB L = false := by
  unfold fewPB
  rw [show (L.all fun p => fewLB p.1.ls) = false from List.all_eq_false.2 ⟨x, List.mem_of_getElem? hx, by rw [h]; decide⟩, Bool.and_false]
end Go.Proofs.YtnkpigibjicmaaaDoor
