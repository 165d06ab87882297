/- plain: sorted lists, the three lists line by line -/
import Derived.Test.YtbhdhcnbagjmcaaDoorPA
import Derived.Test.YtbhdhcnbagjmcaaDoorPf
namespace Go.Proofs.YtbhdhcnbagjmcaaDoor
open Jn Lcl
theorem uns_srt (sep n : Int) : ∀ (l : List (List UInt8)) (i : Nat), unsF sep n i l = -1 → Srt cmpD (keyL sep n) l
  | [], _, _ => List.Pairwise.nil
  | [x], _, _ => List.pairwise_singleton _ _
  | x :: y :: r, i, h => by
    rw [unsF_two] at h
    by_cases hc : 0 < cmpD (keyL sep n x) (keyL sep n y)
    · rw [if_pos hc] at h; omega
    · rw [if_neg hc] at h
      have ih := uns_srt sep n (y :: r) (i + 1) h
      refine List.pairwise_cons.2 ⟨fun z hz => ?_, ih⟩
      rcases List.mem_cons.1 hz with rfl | hz
      · omega
      · exact (cmpD_trans (by omega) ((List.pairwise_cons.1 ih).1 z hz)).1
theorem unsL_vals (sep n : Int) : ∀ (l : List (List UInt8)) (i : Nat), unsF sep n i l < 0 → unsF sep n i l = -1
  | [], _, _ => rfl
  | [x], _, _ => rfl
  | x :: y :: r, i, h => by
    rw [unsF_two] at h ⊢
    by_cases hc : 0 < cmpD (keyL sep n x) (keyL sep n y)
    · rw [if_pos hc] at h; omega
    · rw [if_neg hc] at h ⊢; exact unsL_vals sep n (y :: r) (i + 1) h
theorem allP_snoc (p : Sp) (a c : List (List UInt8)) (x : List UInt8) : allP p (a ++ [x]) c = allP p a c ++ (c.filter fun y => eqK p x y).map fun y => putL p (some x) (some y) := by
  unfold allP; rw [List.flatMap_append]; simp
theorem allL_snoc (p : Sp) (a c : List (List UInt8)) (x : List UInt8) : allL p (a ++ [x]) c = allL p a c ++ if c.all (fun y => !eqK p x y) then [putL p (some x) none] else [] := by
  unfold allL
  rw [List.filter_append, List.map_append]
  congr 1
  by_cases h : (c.all fun y => !eqK p x y) = true
  · rw [if_pos h, List.filter_cons_of_pos (p := fun x => c.all fun y => !eqK p x y) h]; rfl
  · rw [if_neg h, List.filter_cons_of_neg (p := fun x => c.all fun y => !eqK p x y) h]; rfl
theorem allR_snoc (p : Sp) (a c : List (List UInt8)) (y : List UInt8) : allR p a (c ++ [y]) = allR p a c ++ if a.all (fun x => !eqK p x y) then [putL p none (some y)] else [] := by
  unfold allR
  rw [List.filter_append, List.map_append]
  congr 1
  by_cases h : (a.all fun x => !eqK p x y) = true
  · rw [if_pos h, List.filter_cons_of_pos (p := fun y => a.all fun x => !eqK p x y) h]; rfl
  · rw [if_neg h, List.filter_cons_of_neg (p := fun y => a.all fun x => !eqK p x y) h]; rfl
theorem fl_snoc (p : Sp) (c : List (List UInt8)) (x y : List UInt8) : ((c ++ [y]).filter fun y => eqK p x y).map (fun y => putL p (some x) (some y)) = ((c.filter fun y => eqK p x y).map fun y => putL p (some x) (some y)) ++ if eqK p x y then [putL p (some x) (some y)] else [] := by
  rw [List.filter_append, List.map_append]
  congr 1
  by_cases h : eqK p x y = true
  · rw [List.filter_cons_of_pos h, if_pos h]; rfl
  · rw [List.filter_cons_of_neg h, if_neg h]; rfl
theorem al_snoc (p : Sp) (c : List (List UInt8)) (x y : List UInt8) : (c ++ [y]).all (fun y => !eqK p x y) = (c.all (fun y => !eqK p x y) && !eqK p x y) := by simp
theorem ar_snoc (p : Sp) (a : List (List UInt8)) (x y : List UInt8) : (a ++ [x]).all (fun x => !eqK p x y) = (a.all (fun x => !eqK p x y) && !eqK p x y) := by simp
end Go.Proofs.YtbhdhcnbagjmcaaDoor
