/- a region whose order is drawn, by an invariant: what holds of the operations that have come up, of the frame and of the world; each operation is shown once -/
import Derived.Deep.RegionHeld3
import Derived.WalkKit
import Derived.Lib.Hide
namespace Go.Proofs.YtlhagpfpcdedpaaDoor
open Go.RowKit
/-- operation i has come up too -/
def upd (d : Nat → Bool) (i : Nat) : Nat → Bool := fun j => j == i || d j
theorem upd_self (d : Nat → Bool) (i : Nat) : upd d i i = true := by simp [upd]
theorem upd_ne (d : Nat → Bool) {i j : Nat} (h : (j == i) = false) : upd d i j = d j := by simp [upd, h]
/-- what is to be shown of one operation -/
def StepOk (P : Program) (ops : Array Oper) (Q : Exit → Act → World → Prop) (I : (Nat → Bool) → Act → World → Prop) (i : Nat) (o : Oper) : Prop :=
  ∀ (d : Nat → Bool) (a : Act) (w : World), I d a w → d i = false → (∀ e ∈ o.after.toList, Region.binds .any e = true → d e.on = true) →
    ∀ K' : Act → World → Prop, Shut (∀ a w, I (upd d i) a w → K' a w) → if Region.wanted o (yielded ops a.tmps) = true then Oper.wp P o a w K' Q else K' (a.put o.dst undef) w
/-- the operations from number k on -/
def StepsOk (P : Program) (ops : Array Oper) (Q : Exit → Act → World → Prop) (I : (Nat → Bool) → Act → World → Prop) (k : Nat) : Prop :=
  ∀ i o, k ≤ i → ops[i]? = some o → StepOk P ops Q I i o
theorem StepsOk.cons {P : Program} {ops : Array Oper} {Q : Exit → Act → World → Prop} {I : (Nat → Bool) → Act → World → Prop} {k : Nat} {o : Oper} (ho : ops[k]? = some o)
    (h : StepOk P ops Q I k o) (hs : StepsOk P ops Q I (k + 1)) : StepsOk P ops Q I k := fun i o' hi ho' => by
  by_cases e : i = k
  · subst e
    obtain rfl : o = o' := Option.some.inj (ho.symm.trans ho')
    exact h
  · exact hs i o' (by omega) ho'
theorem StepsOk.nil {P : Program} {ops : Array Oper} {Q : Exit → Act → World → Prop} {I : (Nat → Bool) → Act → World → Prop} {k : Nat} (h : ops.size ≤ k) : StepsOk P ops Q I k := fun i o hi ho => by
  have := (Array.getElem?_eq_some_iff.1 ho).1
  omega
theorem getD_in {L : Array Bool} {j : Nat} (b : Bool) (h : j < L.size) : L.getD j b = L[j] := by unfold Array.getD; rw [dif_pos h]; rfl
theorem getD_out {L : Array Bool} {j : Nat} (b : Bool) (h : L.size ≤ j) : L.getD j b = b := by unfold Array.getD; rw [dif_neg (by omega)]
theorem getD_upd (L : Array Bool) (i : Nat) : (fun j => (L.setIfInBounds i true).getD j true) = upd (fun j => L.getD j true) i := by
  funext j
  unfold upd
  by_cases e : j = i
  · subst e
    simp only [beq_self_eq_true, Bool.true_or]
    rcases Nat.lt_or_ge j L.size with h | h
    · rw [getD_in _ (by simpa using h)]; simp
    · exact getD_out _ (by simpa using h)
  · have e' : (j == i) = false := by simpa using e
    rw [e', Bool.false_or]
    exact getD_set_ne true (Ne.symm e)
theorem ready_none {md : Region.Mode} {ops : Array Oper} {L : Array Bool} (hon : ∀ (i : Nat) (o : Oper), ops[i]? = some o → ∀ e ∈ o.after.toList, Region.binds md e = true → e.on < i) (hsz : L.size = ops.size) (h : Region.ready md ops L = []) : ∀ i, L.getD i true = true := by
  intro i
  induction i using Nat.strongRecOn with
  | _ i ih =>
    rcases Nat.lt_or_ge i ops.size with hi | hi
    · cases hL : L.getD i true with
      | true => rfl
      | false =>
        have : i ∈ Region.ready md ops L := mem_ready.2 ⟨hL, ops[i], by simp [hi], fun e he hbd => by
          have h1 := hon i ops[i] (by simp [hi]) e (by simpa using he) hbd
          have h2 := ih e.on h1
          have h3 : e.on < L.size := by omega
          rw [getD_in _ h3] at h2 ⊢; exact h2⟩
        rw [h] at this
        cases this
    · exact getD_out _ (by omega)
theorem wpAny_inv {P : Program} {ops : Array Oper} {Q : Exit → Act → World → Prop} (I : (Nat → Bool) → Act → World → Prop) (hon : ∀ (i : Nat) (o : Oper), ops[i]? = some o → ∀ e ∈ o.after.toList, Region.binds .any e = true → e.on < i)
    (step : StepsOk P ops Q I 0) (fin : ∀ d a w, I d a w → (∀ i, d i = true) → Q .normal a w) :
    ∀ (fuel : Nat) (L : Array Bool) (a : Act) (w : World), L.size = ops.size → L.toList.count false ≤ fuel → I (fun j => L.getD j true) a w → wpAny P .any ops Q fuel L a w := by
  intro fuel
  induction fuel with
  | zero =>
    intro L a w hsz hc hI
    have hall : ∀ i, L.getD i true = true := by
      intro i
      rcases Nat.lt_or_ge i L.size with h | h
      · have h0 : L.toList.count false = 0 := by omega
        have h1 := List.count_eq_zero.1 h0
        cases hv : L[i] with
        | true => rw [getD_in _ h, hv]
        | false => exact absurd (by rw [← hv]; simp) h1
      · exact getD_out _ h
    have hr : Region.ready .any ops L = [] := by
      rw [List.eq_nil_iff_forall_not_mem]
      intro i hi
      have := (mem_ready.1 hi).1
      rw [hall i] at this
      cases this
    exact ⟨hr, fin _ a w hI hall⟩
  | succ fuel ih =>
    intro L a w hsz hc hI
    refine ⟨fun hr => fin _ a w hI (ready_none hon hsz hr), fun i hi => ?_⟩
    obtain ⟨h0, o, ho, hd⟩ := mem_ready.1 hi
    refine wpOp_step ho (fun K' hK => ?_)
    refine step i o (Nat.zero_le _) ho _ a w hI h0 (fun e he hb => ?_) K' (fun a' w' hI' => ?_)
    · have h1 := hd e (by simpa using he) hb
      show L.getD e.on true = true
      rcases Nat.lt_or_ge e.on L.size with h | h
      · rw [getD_in _ h] at h1 ⊢; exact h1
      · exact getD_out _ h
    · refine hK a' w' (ih _ a' w' (by simp [hsz]) ?_ (by rw [getD_upd]; exact hI'))
      have hlt : i < L.size := by rw [hsz]; exact (Array.getElem?_eq_some_iff.1 ho).1
      have hv : L[i] = false := by rw [getD_in _ hlt] at h0; exact h0
      have hlt' : i < L.toList.length := by simpa using hlt
      have hv' : L.toList[i] = false := by simpa using hv
      rw [Array.toList_setIfInBounds, List.count_set hlt']
      rw [hv', if_pos (by rfl), if_neg (by decide)]
      have : 0 < L.toList.count false := List.count_pos_iff.2 (by rw [← hv']; exact List.getElem_mem _)
      omega
theorem not_yet {n k : Nat} (hk : decide (k < n) = true) {p : Prop} (h : (!decide (k < n)) = true) : p := by rw [hk] at h; cases h
/-- the operations of a list, the first one of number k -/
def StepsL (P : Program) (ops : Array Oper) (Q : Exit → Act → World → Prop) (I : (Nat → Bool) → Act → World → Prop) (k : Nat) (l : List Oper) : Prop :=
  ∀ j o, l[j]? = some o → StepOk P ops Q I (k + j) o
theorem StepsL.cons {P : Program} {ops : Array Oper} {Q : Exit → Act → World → Prop} {I : (Nat → Bool) → Act → World → Prop} {k : Nat} (k' : Nat) {o : Oper} {l : List Oper} (hk : k' = k + 1)
    (h : StepOk P ops Q I k o) (hs : StepsL P ops Q I k' l) : StepsL P ops Q I k (o :: l) := by
  subst hk
  intro j o' ho
  cases j with
  | zero =>
    obtain rfl : o = o' := by simpa using ho
    exact h
  | succ j =>
    have := hs j o' (by simpa using ho)
    rw [show k + 1 + j = k + (j + 1) by omega] at this
    exact this
theorem StepsL.nil {P : Program} {ops : Array Oper} {Q : Exit → Act → World → Prop} {I : (Nat → Bool) → Act → World → Prop} {k : Nat} : StepsL P ops Q I k [] := fun j o ho => by simp at ho
theorem StepsL.all {P : Program} {ops : Array Oper} {Q : Exit → Act → World → Prop} {I : (Nat → Bool) → Act → World → Prop} (h : StepsL P ops Q I 0 ops.toList) : StepsOk P ops Q I 0 := fun i o _ ho => by
  have := h i o (by simpa using ho)
  rw [Nat.zero_add] at this
  exact this
theorem wp_region_inv {P : Program} {l : List Oper} {Q : Exit → Act → World → Prop} {id : Nat} {a : Act} {w : World} (I : Act → (Nat → Bool) → Act → World → Prop) (hm : P.follows .mixedOrders = true)
    (hon : (List.range l.length).all (fun i => ((l[i]?).map (fun o => o.after.toList.all (fun e => !Region.binds .any e || e.on < i))).getD true) = true)
    (start : I a (fun j => !decide (j < l.length)) a w.drew) (step : StepsL P l.toArray Q (I a) 0 l) (fin : ∀ d a' w', I a d a' w' → (∀ i, d i = true) → Q .normal a' w') : (Code.region id l.toArray true).wp P Q a w := by
  refine wp_region_any hm (wpAny_inv (I a) ?_ (StepsL.all step) fin _ _ _ _ (by simp) (by simp) ?_)
  · intro i o ho e he hbd
    have ho' : l[i]? = some o := by simpa using ho
    have hlt := (List.getElem?_eq_some_iff.1 ho').1
    have h := List.all_eq_true.1 hon i (by simp [hlt])
    rw [ho'] at h
    simp only [Option.map_some, Option.getD_some] at h
    have h' := List.all_eq_true.1 h e (by simpa using he)
    rw [hbd] at h'
    simpa using h'
  · have e : (fun j => (Array.replicate l.toArray.size false).getD j true) = fun j => !decide (j < l.length) := by
      funext j
      rcases Nat.lt_or_ge j l.length with h | h
      · rw [getD_in _ (by simpa using h)]; simp [h]
      · rw [getD_out _ (by simpa using h)]; simp [Nat.not_lt.2 h]
    rw [e]
    exact start
end Go.Proofs.YtlhagpfpcdedpaaDoor
