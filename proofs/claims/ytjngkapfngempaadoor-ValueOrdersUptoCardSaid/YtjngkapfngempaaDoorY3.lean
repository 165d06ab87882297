/- plain mathematics and texts of one kind, joined in one file (merge.py) -/
import Derived.Deep.RegionHeld3
import Derived.WalkKit
import Derived.Lib.Hide
import Derived.Test.YtjngkapfngempaaDoorY1
import Derived.Test.YtjngkapfngempaaDoorCb
import Derived.Deep.CutRange
import Derived.Test.YtjngkapfngempaaDoorQj
import Derived.Deep.Slices
import Derived.Deep.Fields
import Derived.ChangeSame
import Derived.Lib.SmallJoins
import Derived.SizedLaws
/- a region whose order is drawn, by an invariant: what holds of the operations that have come up, of the frame and of the world; each operation is shown once -/
namespace Go.Proofs.YtjngkapfngempaaDoor
open Go.RowKit
/-- operation i has come up too -/
def upd (d : Nat → Bool) (i : Nat) : Nat → Bool := fun j => j == i || d j
theorem upd_self (d : Nat → Bool) (i : Nat) : upd d i i = true := by simp [upd]
theorem upd_ne (d : Nat → Bool) {i j : Nat} (h : (j == i) = false) : upd d i j = d j := by simp [upd, h]
/-- what is to be shown of one operation -/
def StepOk (P : Program) (ops : Array Oper) (Q : Exit → Act → World → Prop) (I : (Nat → Bool) → Act → World → Prop) (i : Nat) (o : Oper) : Prop :=
  ∀ (d : Nat → Bool) (a : Act) (w : World), I d a w → d i = false → (∀ e ∈ o.after.toList, Region.binds .any e = true → d e.on = true) →
    ∀ K' : Act → World → Prop, Shut (∀ a w, I (upd d i) a w → K' a w) → if Region.wanted o (yielded ops a.tmps) = true then Oper.wp P o a w K' Q else K' (a.put o.dst undef) w
/-- the operations from number k on -/
def StepsOk (P : Program) (ops : Array Oper) (Q : Exit → Act → World → Prop) (I : (Nat → Bool) → Act → World → Prop) (k : Nat) : Prop :=
  ∀ i o, k ≤ i → ops[i]? = some o → StepOk P ops Q I i o
theorem StepsOk.cons {P : Program} {ops : Array Oper} {Q : Exit → Act → World → Prop} {I : (Nat → Bool) → Act → World → Prop} {k : Nat} {o : Oper} (ho : ops[k]? = some o)
    (h : StepOk P ops Q I k o) (hs : StepsOk P ops Q I (k + 1)) : StepsOk P ops Q I k := fun i o' hi ho' => by
  by_cases e : i = k
  · subst e
    obtain rfl : o = o' := Option.some.inj (ho.symm.trans ho')
    exact h
  · exact hs i o' (by omega) ho'
theorem StepsOk.nil {P : Program} {ops : Array Oper} {Q : Exit → Act → World → Prop} {I : (Nat → Bool) → Act → World → Prop} {k : Nat} (h : ops.size ≤ k) : StepsOk P ops Q I k := fun i o hi ho => by
  have := (Array.getElem?_eq_some_iff.1 ho).1
  omega
theorem getD_in {L : Array Bool} {j : Nat} (b : Bool) (h : j < L.size) : L.getD j b = L[j] := by unfold Array.getD; rw [dif_pos h]; rfl
theorem getD_out {L : Array Bool} {j : Nat} (b : Bool) (h : L.size ≤ j) : L.getD j b = b := by unfold Array.getD; rw [dif_neg (by omega)]
theorem getD_upd (L : Array Bool) (i : Nat) : (fun j => (L.setIfInBounds i true).getD j true) = upd (fun j => L.getD j true) i := by
  funext j
  unfold upd
  by_cases e : j = i
  · subst e
    simp only [beq_self_eq_true, Bool.true_or]
    rcases Nat.lt_or_ge j L.size with h | h
    · rw [getD_in _ (by simpa using h)]; simp
    · exact getD_out _ (by simpa using h)
  · have e' : (j == i) = false := by simpa using e
    rw [e', Bool.false_or]
    exact getD_set_ne true (Ne.symm e)
theorem ready_none {md : Region.Mode} {ops : Array Oper} {L : Array Bool} (hon : ∀ (i : Nat) (o : Oper), ops[i]? = some o → ∀ e ∈ o.after.toList, Region.binds md e = true → e.on < i) (hsz : L.size = ops.size) (h : Region.ready md ops L = []) : ∀ i, L.getD i true = true := by
  intro i
  induction i using Nat.strongRecOn with
  | _ i ih =>
    rcases Nat.lt_or_ge i ops.size with hi | hi
    · cases hL : L.getD i true with
      | true => rfl
      | false =>
        have : i ∈ Region.ready md ops L := mem_ready.2 ⟨hL, ops[i], by simp [hi], fun e he hbd => by
          have h1 := hon i ops[i] (by simp [hi]) e (by simpa using he) hbd
          have h2 := ih e.on h1
          have h3 : e.on < L.size := by omega
          rw [getD_in _ h3] at h2 ⊢; exact h2⟩
        rw [h] at this
        cases this
    · exact getD_out _ (by omega)
theorem wpAny_inv {P : Program} {ops : Array Oper} {Q : Exit → Act → World → Prop} (I : (Nat → Bool) → Act → World → Prop) (hon : ∀ (i : Nat) (o : Oper), ops[i]? = some o → ∀ e ∈ o.after.toList, Region.binds .any e = true → e.on < i)
    (step : StepsOk P ops Q I 0) (fin : ∀ d a w, I d a w → (∀ i, d i = true) → Q .normal a w) :
    ∀ (fuel : Nat) (L : Array Bool) (a : Act) (w : World), L.size = ops.size → L.toList.count false ≤ fuel → I (fun j => L.getD j true) a w → wpAny P .any ops Q fuel L a w := by
  intro fuel
  induction fuel with
  | zero =>
    intro L a w hsz hc hI
    have hall : ∀ i, L.getD i true = true := by
      intro i
      rcases Nat.lt_or_ge i L.size with h | h
      · have h0 : L.toList.count false = 0 := by omega
        have h1 := List.count_eq_zero.1 h0
        cases hv : L[i] with
        | true => rw [getD_in _ h, hv]
        | false => exact absurd (by rw [← hv]; simp) h1
      · exact getD_out _ h
    have hr : Region.ready .any ops L = [] := by
      rw [List.eq_nil_iff_forall_not_mem]
      intro i hi
      have := (mem_ready.1 hi).1
      rw [hall i] at this
      cases this
    exact ⟨hr, fin _ a w hI hall⟩
  | succ fuel ih =>
    intro L a w hsz hc hI
    refine ⟨fun hr => fin _ a w hI (ready_none hon hsz hr), fun i hi => ?_⟩
    obtain ⟨h0, o, ho, hd⟩ := mem_ready.1 hi
    refine wpOp_step ho (fun K' hK => ?_)
    refine step i o (Nat.zero_le _) ho _ a w hI h0 (fun e he hb => ?_) K' (fun a' w' hI' => ?_)
    · have h1 := hd e (by simpa using he) hb
      show L.getD e.on true = true
      rcases Nat.lt_or_ge e.on L.size with h | h
      · rw [getD_in _ h] at h1 ⊢; exact h1
      · exact getD_out _ h
    · refine hK a' w' (ih _ a' w' (by simp [hsz]) ?_ (by rw [getD_upd]; exact hI'))
      have hlt : i < L.size := by rw [hsz]; exact (Array.getElem?_eq_some_iff.1 ho).1
      have hv : L[i] = false := by rw [getD_in _ hlt] at h0; exact h0
      have hlt' : i < L.toList.length := by simpa using hlt
      have hv' : L.toList[i] = false := by simpa using hv
      rw [Array.toList_setIfInBounds, List.count_set hlt']
      rw [hv', if_pos (by rfl), if_neg (by decide)]
      have : 0 < L.toList.count false := List.count_pos_iff.2 (by rw [← hv']; exact List.getElem_mem _)
      omega
theorem not_yet {n k : Nat} (hk : decide (k < n) = true) {p : Prop} (h : (!decide (k < n)) = true) : p := by rw [hk] at h; cases h
/-- the operations of a list, the first one of number k -/
def StepsL (P : Program) (ops : Array Oper) (Q : Exit → Act → World → Prop) (I : (Nat → Bool) → Act → World → Prop) (k : Nat) (l : List Oper) : Prop :=
  ∀ j o, l[j]? = some o → StepOk P ops Q I (k + j) o
theorem StepsL.cons {P : Program} {ops : Array Oper} {Q : Exit → Act → World → Prop} {I : (Nat → Bool) → Act → World → Prop} {k : Nat} (k' : Nat) {o : Oper} {l : List Oper} (hk : k' = k + 1)
    (h : StepOk P ops Q I k o) (hs : StepsL P ops Q I k' l) : StepsL P ops Q I k (o :: l) := by
  subst hk
  intro j o' ho
  cases j with
  | zero =>
    obtain rfl : o = o' := by simpa using ho
    exact h
  | succ j =>
    have := hs j o' (by simpa using ho)
    rw [show k + 1 + j = k + (j + 1) by omega] at this
    exact this
theorem StepsL.nil {P : Program} {ops : Array Oper} {Q : Exit → Act → World → Prop} {I : (Nat → Bool) → Act → World → Prop} {k : Nat} : StepsL P ops Q I k [] := fun j o ho => by simp at ho
theorem StepsL.all {P : Program} {ops : Array Oper} {Q : Exit → Act → World → Prop} {I : (Nat → Bool) → Act → World → Prop} (h : StepsL P ops Q I 0 ops.toList) : StepsOk P ops Q I 0 := fun i o _ ho => by
  have := h i o (by simpa using ho)
  rw [Nat.zero_add] at this
  exact this
theorem wp_region_inv {P : Program} {l : List Oper} {Q : Exit → Act → World → Prop} {id : Nat} {a : Act} {w : World} (I : Act → (Nat → Bool) → Act → World → Prop) (hm : P.follows .mixedOrders = true)
    (hon : (List.range l.length).all (fun i => ((l[i]?).map (fun o => o.after.toList.all (fun e => !Region.binds .any e || e.on < i))).getD true) = true)
    (start : I a (fun j => !decide (j < l.length)) a w.drew) (step : StepsL P l.toArray Q (I a) 0 l) (fin : ∀ d a' w', I a d a' w' → (∀ i, d i = true) → Q .normal a' w') : (Code.region id l.toArray true).wp P Q a w := by
  refine wp_region_any hm (wpAny_inv (I a) ?_ (StepsL.all step) fin _ _ _ _ (by simp) (by simp) ?_)
  · intro i o ho e he hbd
    have ho' : l[i]? = some o := by simpa using ho
    have hlt := (List.getElem?_eq_some_iff.1 ho').1
    have h := List.all_eq_true.1 hon i (by simp [hlt])
    rw [ho'] at h
    simp only [Option.map_some, Option.getD_some] at h
    have h' := List.all_eq_true.1 h e (by simpa using he)
    rw [hbd] at h'
    simpa using h'
  · have e : (fun j => (Array.replicate l.toArray.size false).getD j true) = fun j => !decide (j < l.length) := by
      funext j
      rcases Nat.lt_or_ge j l.length with h | h
      · rw [getD_in _ (by simpa using h)]; simp [h]
      · rw [getD_out _ (by simpa using h)]; simp [Nat.not_lt.2 h]
    rw [e]
    exact start
end Go.Proofs.YtjngkapfngempaaDoor
/- a region whose order is drawn, whose operations write neighbouring slots and give each a value that is known ahead: each operation is shown once -/
namespace Go.Proofs.YtjngkapfngempaaDoor
open Go.RowKit
/-- the frame with u 0, u 1 .. in the n slots from b on -/
def putR (a : Act) (b : Nat) (u : Nat → Value) : Nat → Act
  | 0 => a
  | n + 1 => (putR a b u n).put (some (b + n)) (u n)
theorem put_tmps (a : Act) (j : Nat) (v : Value) : (a.put (some j) v).tmps = a.tmps.setIfInBounds j v := rfl
theorem put_defers (a : Act) (j : Nat) (v : Value) : (a.put (some j) v).defers = a.defers := rfl
theorem putR_size (a : Act) (b : Nat) (u : Nat → Value) : ∀ n, (putR a b u n).tmps.size = a.tmps.size
  | 0 => rfl
  | n + 1 => by rw [putR, put_tmps, Array.size_setIfInBounds, putR_size a b u n]
theorem putR_defers (a : Act) (b : Nat) (u : Nat → Value) : ∀ n, (putR a b u n).defers = a.defers
  | 0 => rfl
  | n + 1 => by rw [putR, put_defers, putR_defers a b u n]
theorem putR_at (a : Act) (b : Nat) (u : Nat → Value) : ∀ n, b + n ≤ a.tmps.size → ∀ j, (putR a b u n).tmps[j]? = if b ≤ j ∧ j < b + n then some (u (j - b)) else a.tmps[j]?
  | 0, _, j => by rw [if_neg (by omega)]; rfl
  | n + 1, h, j => by
    rw [putR, put_tmps, Array.getElem?_setIfInBounds, putR_size, putR_at a b u n (by omega) j]
    by_cases e : b + n = j
    · subst e
      rw [if_pos rfl, if_pos (by omega), if_pos (by omega), Nat.add_sub_cancel_left]
    · rw [if_neg e]
      by_cases e2 : b ≤ j ∧ j < b + n
      · rw [if_pos e2, if_pos (by omega)]
      · rw [if_neg e2, if_neg (by omega)]
theorem act_ext {a a' : Act} (h : a.tmps = a'.tmps) (h2 : a.defers = a'.defers) : a = a' := by
  cases a; cases a'; simp only at h h2; subst h h2; rfl
def updV (u : Nat → Value) (i : Nat) (v : Value) : Nat → Value := fun j => if j = i then v else u j
theorem putR_put (a : Act) (b n : Nat) (u : Nat → Value) (i : Nat) (v : Value) (hi : i < n) (h : b + n ≤ a.tmps.size) : (putR a b u n).put (some (b + i)) v = putR a b (updV u i v) n := by
  refine act_ext (Array.ext_getElem? fun j => ?_) (by rw [put_defers, putR_defers, putR_defers])
  rw [put_tmps, Array.getElem?_setIfInBounds, putR_size, putR_at a b u n h, putR_at a b _ n h]
  by_cases e : b + i = j
  · subst e
    rw [if_pos rfl, if_pos (by omega), if_pos (by omega), Nat.add_sub_cancel_left]
    simp [updV]
  · rw [if_neg e]
    by_cases e2 : b ≤ j ∧ j < b + n
    · rw [if_pos e2, if_pos e2]
      simp [updV, show ¬ j - b = i by omega]
    · rw [if_neg e2, if_neg e2]
theorem putR_self (a : Act) (b n : Nat) (h : b + n ≤ a.tmps.size) : a = putR a b (fun i => a.tmps.getD (b + i) undef) n := by
  refine act_ext (Array.ext_getElem? fun j => ?_) (by rw [putR_defers])
  rw [putR_at a b _ n h]
  split
  · rename_i e
    have hj : j < a.tmps.size := by omega
    rw [show b + (j - b) = j by omega, Array.getD_eq_getD_getElem?, Array.getElem?_eq_getElem hj]; rfl
  · rfl
/-- what holds on the way: the world is one of S, the slots of the operations that have come up hold their values -/
def DetI (S : World → Prop) (b n : Nat) (val : Nat → Value) (a0 : Act) (d : Nat → Bool) (a : Act) (w : World) : Prop :=
  S w ∧ b + n ≤ a0.tmps.size ∧ ∃ u, a = putR a0 b u n ∧ ∀ i, i < n → d i = true → u i = val i
section
variable {S : World → Prop} {b n : Nat} {val : Nat → Value} {a0 a : Act} {d : Nat → Bool} {w w' : World}
theorem DetI.start (h : S w) (hs : b + n ≤ a0.tmps.size) : DetI S b n val a0 (fun j => !decide (j < n)) a0 w :=
  ⟨h, hs, _, putR_self a0 b n hs, fun i hi hd => by simp [hi] at hd⟩
theorem DetI.slot (h : DetI S b n val a0 d a w) (i : Nat) (hi : i < n) (hd : d i = true) : a.tmps[b + i]? = some (val i) := by
  obtain ⟨_, hs, u, rfl, hu⟩ := h
  rw [putR_at a0 b u n hs, if_pos (by omega), Nat.add_sub_cancel_left, hu i hi hd]
theorem DetI.other (h : DetI S b n val a0 d a w) (j : Nat) (hj : j < b) : a.tmps[j]? = a0.tmps[j]? := by
  obtain ⟨_, hs, u, rfl, _⟩ := h
  rw [putR_at a0 b u n hs, if_neg (by omega)]
theorem DetI.put (h : DetI S b n val a0 d a w) (i : Nat) (hi : i < n) (k : Nat) (hk : k = b + i) (v : Value) (hv : v = val i) (hw : S w') : DetI S b n val a0 (upd d i) (a.put (some k) v) w' := by
  obtain ⟨_, hs, u, rfl, hu⟩ := h
  subst hk hv
  refine ⟨hw, hs, _, putR_put a0 b n u i _ hi hs, fun j hj hd => ?_⟩
  unfold updV
  by_cases e : j = i
  · rw [if_pos e, e]
  · rw [if_neg e]
    exact hu j hj (by rw [upd_ne d (by simpa using e)] at hd; exact hd)
theorem DetI.done (h : DetI S b n val a0 d a w) (hd : ∀ i, d i = true) : S w ∧ a = putR a0 b val n := by
  obtain ⟨hw, hs, u, rfl, hu⟩ := h
  refine ⟨hw, act_ext (Array.ext_getElem? fun j => ?_) (by rw [putR_defers, putR_defers])⟩
  rw [putR_at a0 b u n hs, putR_at a0 b val n hs]
  split
  · rename_i e
    rw [hu (j - b) (by omega) (hd _)]
  · rfl
end
theorem eval_slot {a : Act} {k : Nat} {v : Value} (h : a.tmps[k]? = some v) : a.tmps.getD k undef = v := by
  rw [Array.getD_eq_getD_getElem?, h]; rfl
end Go.Proofs.YtjngkapfngempaaDoor
/- walks: comparison of values, the program's -/
namespace Go.Proofs.YtjngkapfngempaaDoor
open Go.RowKit
open Dcm Byt Vl Lcl
theorem fmt_len (d : Int) : (fmtL d).length ≤ 100 := by
  have h1 := near_lo d
  have h2 := near_hi d
  have h3 := dec_size ((near d).natAbs / 10000) (by omega)
  have h4 : (trimZ (low 4 ((near d).natAbs % 10000))).length ≤ 4 := by
    unfold trimZ
    have := (List.dropWhile_sublist (fun c : UInt8 => c == 48) (l := (low 4 ((near d).natAbs % 10000)).reverse)).length_le
    rw [List.length_reverse] at this ⊢
    rw [low_length] at this; exact this
  unfold fmtL
  simp only [List.length_append]
  split <;> split <;> simp only [List.length_cons, List.length_nil] <;> omega
theorem text_size (k n : Int) (s : ByteArray) (hs : s.size ≤ 1048576) : (textB k n s).size ≤ 1048576 := by
  unfold textB
  split
  · have := fmt_len (near n)
    show (fmtL (near n)).length ≤ 1048576; omega
  · split
    · exact hs
    · show 0 ≤ 1048576; omega
theorem cmp3_swap (x y : Int) : cmp3 y x = - cmp3 x y := by unfold cmp3; split <;> split <;> (try split) <;> omega
theorem cmp3_self (x : Int) : cmp3 x x = 0 := by unfold cmp3; rw [if_neg (by omega), if_neg (by omega)]
theorem cmp3_vals (x y : Int) : cmp3 x y = -1 ∨ cmp3 x y = 0 ∨ cmp3 x y = 1 := by unfold cmp3; split <;> (try split) <;> omega
theorem cmp3_trans (x y z : Int) (h1 : cmp3 x y ≤ 0) (h2 : cmp3 y z ≤ 0) : cmp3 x z ≤ 0 ∧ (cmp3 x z = 0 → cmp3 x y = 0 ∧ cmp3 y z = 0) := by
  have a : x ≤ y := by unfold cmp3 at h1; split at h1 <;> (try split at h1) <;> omega
  have b : y ≤ z := by unfold cmp3 at h2; split at h2 <;> (try split at h2) <;> omega
  refine ⟨?_, fun h => ?_⟩
  · unfold cmp3; split <;> (try split) <;> omega
  · have e : x = y ∧ y = z := by unfold cmp3 at h; split at h <;> (try split at h) <;> omega
    obtain ⟨rfl, rfl⟩ := e
    exact ⟨cmp3_self _, cmp3_self _⟩
/-- the comparison of two values -/
def valC (n : ByteArray) (W : List Int) (lo up : ByteArray) (C : List Cl) (E : List El) (k1 n1 : Int) (s1 : ByteArray) (k2 n2 : Int) (s2 : ByteArray) : Int :=
  if k1 ≠ 2 ∧ k2 ≠ 2 then cmp3 (numV k1 n1 s1.data.toList) (numV k2 n2 s2.data.toList) else locC n W lo up C E (textB k1 n1 s1) (textB k2 n2 s2)
theorem valC_num {n : ByteArray} {W : List Int} {lo up : ByteArray} {C : List Cl} {E : List El} {k1 n1 : Int} {s1 : ByteArray} {k2 n2 : Int} {s2 : ByteArray} (h : k1 ≠ 2 ∧ k2 ≠ 2) : valC n W lo up C E k1 n1 s1 k2 n2 s2 = cmp3 (numV k1 n1 s1.data.toList) (numV k2 n2 s2.data.toList) := if_pos h
theorem valC_txt {n : ByteArray} {W : List Int} {lo up : ByteArray} {C : List Cl} {E : List El} {k1 n1 : Int} {s1 : ByteArray} {k2 n2 : Int} {s2 : ByteArray} (h : k1 = 2 ∨ k2 = 2) : valC n W lo up C E k1 n1 s1 k2 n2 s2 = locC n W lo up C E (textB k1 n1 s1) (textB k2 n2 s2) := if_neg (fun h' => h.elim h'.1 h'.2)
theorem valC_swap (n : ByteArray) (W : List Int) (lo up : ByteArray) (C : List Cl) (E : List El) (k1 n1 : Int) (s1 : ByteArray) (k2 n2 : Int) (s2 : ByteArray) : valC n W lo up C E k2 n2 s2 k1 n1 s1 = - valC n W lo up C E k1 n1 s1 k2 n2 s2 := by
  by_cases h : k1 ≠ 2 ∧ k2 ≠ 2
  · rw [valC_num h, valC_num h.symm]; exact cmp3_swap _ _
  · rw [valC_txt (by omega), valC_txt (by omega)]; exact cmpS_swap _ _ _ _
theorem locC_self (n : ByteArray) (W : List Int) (lo up : ByteArray) (C : List Cl) (E : List El) (a : ByteArray) : locC n W lo up C E a a = 0 := cmpS_refl _ _ _
theorem keepV {w w' : World} {n lo up : ByteArray} {v1 v4 v5 : Value} {k1 n1 k2 n2 : Int} {s1 s2 : ByteArray} (h : Below (((w.alloc (.cells #[.string n, v1, .string lo, .string up, v4, v5] 41)).alloc (.cells #[.int .i64 k1, .int .i64 n1, .string s1] 24)).alloc (.cells #[.int .i64 k2, .int .i64 n2, .string s2] 24)).heap.size (((w.alloc (.cells #[.string n, v1, .string lo, .string up, v4, v5] 41)).alloc (.cells #[.int .i64 k1, .int .i64 n1, .string s1] 24)).alloc (.cells #[.int .i64 k2, .int .i64 n2, .string s2] 24)) w') : Below (((w.alloc (.cells #[.string n, v1, .string lo, .string up, v4, v5] 41)).alloc (.cells #[.int .i64 k1, .int .i64 n1, .string s1] 24)).alloc (.cells #[.int .i64 k2, .int .i64 n2, .string s2] 24)).heap.size (((w.alloc (.cells #[.string n, v1, .string lo, .string up, v4, v5] 41)).alloc (.cells #[.int .i64 k1, .int .i64 n1, .string s1] 24)).alloc (.cells #[.int .i64 k2, .int .i64 n2, .string s2] 24)) w' ∧ w'.cell? ⟨w.heap.size, 0, none⟩ = some (.string n) ∧ w'.cell? ⟨w.heap.size, 1, none⟩ = some v1 ∧ w'.cell? ⟨w.heap.size, 2, none⟩ = some (.string lo) ∧ w'.cell? ⟨w.heap.size, 3, none⟩ = some (.string up) ∧ w'.cell? ⟨w.heap.size, 4, none⟩ = some v4 ∧ w'.cell? ⟨w.heap.size, 5, none⟩ = some v5 ∧ w'.cell? ⟨w.heap.size + 1, 0, none⟩ = some (.int .i64 k1) ∧ w'.cell? ⟨w.heap.size + 1, 1, none⟩ = some (.int .i64 n1) ∧ w'.cell? ⟨w.heap.size + 1, 2, none⟩ = some (.string s1) ∧ w'.cell? ⟨w.heap.size + 1 + 1, 0, none⟩ = some (.int .i64 k2) ∧ w'.cell? ⟨w.heap.size + 1 + 1, 1, none⟩ = some (.int .i64 n2) ∧ w'.cell? ⟨w.heap.size + 1 + 1, 2, none⟩ = some (.string s2) := by
  obtain ⟨-, c0, c1, c2, d0, d1, d2⟩ := keepC h
  have q : w'.heap[w.heap.size]? = some (.cells #[.string n, v1, .string lo, .string up, v4, v5] 41 (0, 0)) := by
    rw [h.block _ (by simp only [World.size_alloc]; omega), Below.heap_alloc _ _ _ (by simp only [World.size_alloc]; omega), Below.heap_alloc _ _ _ (by simp only [World.size_alloc]; omega)]
    exact heap_alloc_new _ _
  obtain ⟨b0, b1, b2, b3, b4, b5⟩ := lrow_cells q
  exact ⟨h, b0, b1, b2, b3, b4, b5, c0, c1, c2, d0, d1, d2⟩
theorem compare_is (n : ByteArray) (v1 : Value) (lo up : ByteArray) (v4 v5 : Value) (W : List Int) (C : List Cl) (E : List El) (a b : ByteArray) (c : Int) (w : World) (hc : Hid (locC n W lo up C E a b = c)) (hL : LocAt w v1 v4 v5 W C E) (hn : n.size ≤ 9223372036854775807) (ha : a.size ≤ 1048576) (hb : b.size ≤ 1048576) :
    Calls Tryd.prog 25 #[.agg #[.string n, v1, .string lo, .string up, v4, v5], .string a, .string b] w (CmpR c w) := by
  rw [← hc.out]; exact compare_any n v1 lo up v4 v5 W C E a b w hL hn ha hb
set_option maxHeartbeats 8000000 in
theorem vcompare_txt (n lo up : ByteArray) (v1 v4 v5 : Value) (W : List Int) (C : List Cl) (E : List El) (k1 n1 k2 n2 c : Int) (s1 s2 t1 t2 : ByteArray) (w : World) (hL : LocAt w v1 v4 v5 W C E) (hn : n.size ≤ 9223372036854775807) (ht : Tab w) (h : k1 = 2 ∨ k2 = 2) (z1 : t1.size ≤ 1048576) (z2 : t2.size ≤ 1048576)
    (x1 : textB k1 n1 s1 = t1) (x2 : textB k2 n2 s2 = t2) (hc : locC n W lo up C E t1 t2 = c) :
    Calls Tryd.prog 23 #[.agg #[.string n, v1, .string lo, .string up, v4, v5], .agg #[.int .i64 k1, .int .i64 n1, .string s1], .agg #[.int .i64 k2, .int .i64 n2, .string s2]] w (CmpR c w) := by
  have LO := Lib.hid hL
  have T := Lib.hid ht
  have ZN := Lib.hid hn
  have Z1 := Lib.hid z1
  have Z2 := Lib.hid z2
  have X1 := Lib.hid x1
  have X2 := Lib.hid x2
  have HC := Lib.hid hc
  clear hL ht hn z1 z2 x1 x2 hc
  by_cases hk : (k1 = k2 ∧ n1 = n2) ∧ s1 = s2
  · obtain ⟨⟨rfl, rfl⟩, rfl⟩ := hk
    obtain rfl : k1 = 2 := by omega
    obtain rfl : t1 = t2 := by rw [← X1.out, ← X2.out]
    have e : c = 0 := by rw [← HC.out]; exact locC_self n W lo up C E t1
    have E0 := Lib.hid e
    have KB : Hid (decide ((1 : Int) ≤ 2 ∧ (2 : Int) ≤ 3) = true) := Lib.hid (by decide)
    have S0 := keepC (w := w) (o := .cells #[.string n, v1, .string lo, .string up, v4, v5] 41) (k1 := 2) (n1 := n1) (k2 := 2) (n2 := n1) (s1 := s1) (s2 := s1) ((Below.refl _ _))
    clear e h
    go_enter Tryd.func23, Tryd.ntmps23
    go_wp2_with (first | (go_at_call 43; refine (known_any 2 n1 s1 true _ KB).mono ?_; rintro e w1 ⟨rfl, hb1⟩))
    go_ret
    exact cmpr_mk E0.out.symm (below_three hb1)
  · have hc : (k1 ≠ k2) ∨ (k1 = k2 ∧ n1 ≠ n2) ∨ ((k1 = k2 ∧ n1 = n2) ∧ s1.toList ≠ s2.toList) := by
      by_cases e1 : k1 = k2
      · by_cases e2 : n1 = n2
        · refine .inr (.inr ⟨⟨e1, e2⟩, fun e3 => hk ⟨⟨e1, e2⟩, ?_⟩⟩)
          rcases s1 with ⟨⟨l1⟩⟩; rcases s2 with ⟨⟨l2⟩⟩
          rw [Lib.toList_data, Lib.toList_data] at e3
          exact congrArg (fun l => ByteArray.mk ⟨l⟩) e3
        · exact .inr (.inl ⟨e1, e2⟩)
      · exact .inl e1
    clear hk
    rcases hc with hc | ⟨rfl, hc⟩ | ⟨⟨rfl, rfl⟩, hc⟩
    · by_cases h2 : k1 = 2
      · subst h2
        clear h
        have S0 := keepV (w := w) (n := n) (lo := lo) (up := up) (v1 := v1) (v4 := v4) (v5 := v5) (k1 := 2) (n1 := n1) (k2 := k2) (n2 := n2) (s1 := s1) (s2 := s2) ((Below.refl _ _).drew)
        have C0 := keepV (w := w) (n := n) (lo := lo) (up := up) (v1 := v1) (v4 := v4) (v5 := v5) (k1 := 2) (n1 := n1) (k2 := k2) (n2 := n2) (s1 := s1) (s2 := s2) (Below.refl _ _)
        obtain ⟨-, -, -, -, -, -, -, c0, c1, c2, d0, d1, d2⟩ := C0
        go_enter Tryd.func23, Tryd.ntmps23
        go_wp2_with fail
        clear c0 c1 c2 d0 d1 d2
        go_region_held3 (fun w' => Below (((w.alloc (.cells #[.string n, v1, .string lo, .string up, v4, v5] 41)).alloc (.cells #[.int .i64 2, .int .i64 n1, .string s1] 24)).alloc (.cells #[.int .i64 k2, .int .i64 n2, .string s2] 24)).heap.size (((w.alloc (.cells #[.string n, v1, .string lo, .string up, v4, v5] 41)).alloc (.cells #[.int .i64 2, .int .i64 n1, .string s1] 24)).alloc (.cells #[.int .i64 k2, .int .i64 n2, .string s2] 24)) w' ∧ w'.cell? ⟨w.heap.size, 0, none⟩ = some (.string n) ∧ w'.cell? ⟨w.heap.size, 1, none⟩ = some v1 ∧ w'.cell? ⟨w.heap.size, 2, none⟩ = some (.string lo) ∧ w'.cell? ⟨w.heap.size, 3, none⟩ = some (.string up) ∧ w'.cell? ⟨w.heap.size, 4, none⟩ = some v4 ∧ w'.cell? ⟨w.heap.size, 5, none⟩ = some v5 ∧ w'.cell? ⟨w.heap.size + 1, 0, none⟩ = some (.int .i64 2) ∧ w'.cell? ⟨w.heap.size + 1, 1, none⟩ = some (.int .i64 n1) ∧ w'.cell? ⟨w.heap.size + 1, 2, none⟩ = some (.string s1) ∧ w'.cell? ⟨w.heap.size + 1 + 1, 0, none⟩ = some (.int .i64 k2) ∧ w'.cell? ⟨w.heap.size + 1 + 1, 1, none⟩ = some (.int .i64 n2) ∧ w'.cell? ⟨w.heap.size + 1 + 1, 2, none⟩ = some (.string s2)) (first | exact S0)
          (first
            | (go_at_call 11; (with_reducible refine (text_at 2 n1 s1 t1 _ (tab_below T.out (below_three S0.1)) X1.out).mono ?_); rintro e w' ⟨rfl, hb⟩; have S0 := keepV (S0.1.trans (hb.mono S0.1.size)))
            | (go_at_call 11; (with_reducible refine (text_at k2 n2 s2 t2 _ (tab_below T.out (below_three S0.1)) X2.out).mono ?_); rintro e w' ⟨rfl, hb⟩; have S0 := keepV (S0.1.trans (hb.mono S0.1.size)))
            | (go_at_call 25; (with_reducible refine (compare_is n v1 lo up v4 v5 W C E t1 t2 c _ HC (LO.out.below (below_three S0.1)) ZN.out Z1.out Z2.out).mono ?_); rintro e w' ⟨rfl, hb⟩; have S0 := keepV (S0.1.trans (hb.mono S0.1.size))))
        go_wp2_with fail
        go_ret
        exact cmpr_mk rfl (below_three S0.1)
      · obtain rfl : k2 = 2 := by omega
        have tk : (k1 != 2) = true := by rw [bne_iff_ne]; exact h2
        clear h h2
        have S0 := keepV (w := w) (n := n) (lo := lo) (up := up) (v1 := v1) (v4 := v4) (v5 := v5) (k1 := k1) (n1 := n1) (k2 := 2) (n2 := n2) (s1 := s1) (s2 := s2) ((Below.refl _ _).drew)
        have C0 := keepV (w := w) (n := n) (lo := lo) (up := up) (v1 := v1) (v4 := v4) (v5 := v5) (k1 := k1) (n1 := n1) (k2 := 2) (n2 := n2) (s1 := s1) (s2 := s2) (Below.refl _ _)
        obtain ⟨-, -, -, -, -, -, -, c0, c1, c2, d0, d1, d2⟩ := C0
        go_enter Tryd.func23, Tryd.ntmps23
        go_wp2_with fail
        clear c0 c1 c2 d0 d1 d2
        go_region_held3 (fun w' => Below (((w.alloc (.cells #[.string n, v1, .string lo, .string up, v4, v5] 41)).alloc (.cells #[.int .i64 k1, .int .i64 n1, .string s1] 24)).alloc (.cells #[.int .i64 2, .int .i64 n2, .string s2] 24)).heap.size (((w.alloc (.cells #[.string n, v1, .string lo, .string up, v4, v5] 41)).alloc (.cells #[.int .i64 k1, .int .i64 n1, .string s1] 24)).alloc (.cells #[.int .i64 2, .int .i64 n2, .string s2] 24)) w' ∧ w'.cell? ⟨w.heap.size, 0, none⟩ = some (.string n) ∧ w'.cell? ⟨w.heap.size, 1, none⟩ = some v1 ∧ w'.cell? ⟨w.heap.size, 2, none⟩ = some (.string lo) ∧ w'.cell? ⟨w.heap.size, 3, none⟩ = some (.string up) ∧ w'.cell? ⟨w.heap.size, 4, none⟩ = some v4 ∧ w'.cell? ⟨w.heap.size, 5, none⟩ = some v5 ∧ w'.cell? ⟨w.heap.size + 1, 0, none⟩ = some (.int .i64 k1) ∧ w'.cell? ⟨w.heap.size + 1, 1, none⟩ = some (.int .i64 n1) ∧ w'.cell? ⟨w.heap.size + 1, 2, none⟩ = some (.string s1) ∧ w'.cell? ⟨w.heap.size + 1 + 1, 0, none⟩ = some (.int .i64 2) ∧ w'.cell? ⟨w.heap.size + 1 + 1, 1, none⟩ = some (.int .i64 n2) ∧ w'.cell? ⟨w.heap.size + 1 + 1, 2, none⟩ = some (.string s2)) (first | exact S0)
          (first
            | (go_at_call 11; (with_reducible refine (text_at k1 n1 s1 t1 _ (tab_below T.out (below_three S0.1)) X1.out).mono ?_); rintro e w' ⟨rfl, hb⟩; have S0 := keepV (S0.1.trans (hb.mono S0.1.size)))
            | (go_at_call 11; (with_reducible refine (text_at 2 n2 s2 t2 _ (tab_below T.out (below_three S0.1)) X2.out).mono ?_); rintro e w' ⟨rfl, hb⟩; have S0 := keepV (S0.1.trans (hb.mono S0.1.size)))
            | (go_at_call 25; (with_reducible refine (compare_is n v1 lo up v4 v5 W C E t1 t2 c _ HC (LO.out.below (below_three S0.1)) ZN.out Z1.out Z2.out).mono ?_); rintro e w' ⟨rfl, hb⟩; have S0 := keepV (S0.1.trans (hb.mono S0.1.size))))
        go_wp2_with fail
        go_ret
        exact cmpr_mk rfl (below_three S0.1)
    · obtain rfl : k1 = 2 := by omega
      clear h
      have S0 := keepV (w := w) (n := n) (lo := lo) (up := up) (v1 := v1) (v4 := v4) (v5 := v5) (k1 := 2) (n1 := n1) (k2 := 2) (n2 := n2) (s1 := s1) (s2 := s2) ((Below.refl _ _).drew)
      have C0 := keepV (w := w) (n := n) (lo := lo) (up := up) (v1 := v1) (v4 := v4) (v5 := v5) (k1 := 2) (n1 := n1) (k2 := 2) (n2 := n2) (s1 := s1) (s2 := s2) (Below.refl _ _)
      obtain ⟨-, -, -, -, -, -, -, c0, c1, c2, d0, d1, d2⟩ := C0
      go_enter Tryd.func23, Tryd.ntmps23
      go_wp2_with fail
      clear c0 c1 c2 d0 d1 d2
      go_region_held3 (fun w' => Below (((w.alloc (.cells #[.string n, v1, .string lo, .string up, v4, v5] 41)).alloc (.cells #[.int .i64 2, .int .i64 n1, .string s1] 24)).alloc (.cells #[.int .i64 2, .int .i64 n2, .string s2] 24)).heap.size (((w.alloc (.cells #[.string n, v1, .string lo, .string up, v4, v5] 41)).alloc (.cells #[.int .i64 2, .int .i64 n1, .string s1] 24)).alloc (.cells #[.int .i64 2, .int .i64 n2, .string s2] 24)) w' ∧ w'.cell? ⟨w.heap.size, 0, none⟩ = some (.string n) ∧ w'.cell? ⟨w.heap.size, 1, none⟩ = some v1 ∧ w'.cell? ⟨w.heap.size, 2, none⟩ = some (.string lo) ∧ w'.cell? ⟨w.heap.size, 3, none⟩ = some (.string up) ∧ w'.cell? ⟨w.heap.size, 4, none⟩ = some v4 ∧ w'.cell? ⟨w.heap.size, 5, none⟩ = some v5 ∧ w'.cell? ⟨w.heap.size + 1, 0, none⟩ = some (.int .i64 2) ∧ w'.cell? ⟨w.heap.size + 1, 1, none⟩ = some (.int .i64 n1) ∧ w'.cell? ⟨w.heap.size + 1, 2, none⟩ = some (.string s1) ∧ w'.cell? ⟨w.heap.size + 1 + 1, 0, none⟩ = some (.int .i64 2) ∧ w'.cell? ⟨w.heap.size + 1 + 1, 1, none⟩ = some (.int .i64 n2) ∧ w'.cell? ⟨w.heap.size + 1 + 1, 2, none⟩ = some (.string s2)) (first | exact S0)
        (first
          | (go_at_call 11; (with_reducible refine (text_at 2 n1 s1 t1 _ (tab_below T.out (below_three S0.1)) X1.out).mono ?_); rintro e w' ⟨rfl, hb⟩; have S0 := keepV (S0.1.trans (hb.mono S0.1.size)))
          | (go_at_call 11; (with_reducible refine (text_at 2 n2 s2 t2 _ (tab_below T.out (below_three S0.1)) X2.out).mono ?_); rintro e w' ⟨rfl, hb⟩; have S0 := keepV (S0.1.trans (hb.mono S0.1.size)))
          | (go_at_call 25; (with_reducible refine (compare_is n v1 lo up v4 v5 W C E t1 t2 c _ HC (LO.out.below (below_three S0.1)) ZN.out Z1.out Z2.out).mono ?_); rintro e w' ⟨rfl, hb⟩; have S0 := keepV (S0.1.trans (hb.mono S0.1.size))))
      go_wp2_with fail
      go_ret
      exact cmpr_mk rfl (below_three S0.1)
    · obtain rfl : k1 = 2 := by omega
      clear h
      have S0 := keepV (w := w) (n := n) (lo := lo) (up := up) (v1 := v1) (v4 := v4) (v5 := v5) (k1 := 2) (n1 := n1) (k2 := 2) (n2 := n1) (s1 := s1) (s2 := s2) ((Below.refl _ _).drew)
      have C0 := keepV (w := w) (n := n) (lo := lo) (up := up) (v1 := v1) (v4 := v4) (v5 := v5) (k1 := 2) (n1 := n1) (k2 := 2) (n2 := n1) (s1 := s1) (s2 := s2) (Below.refl _ _)
      obtain ⟨-, -, -, -, -, -, -, c0, c1, c2, d0, d1, d2⟩ := C0
      go_enter Tryd.func23, Tryd.ntmps23
      go_wp2_with fail
      clear c0 c1 c2 d0 d1 d2
      go_region_held3 (fun w' => Below (((w.alloc (.cells #[.string n, v1, .string lo, .string up, v4, v5] 41)).alloc (.cells #[.int .i64 2, .int .i64 n1, .string s1] 24)).alloc (.cells #[.int .i64 2, .int .i64 n1, .string s2] 24)).heap.size (((w.alloc (.cells #[.string n, v1, .string lo, .string up, v4, v5] 41)).alloc (.cells #[.int .i64 2, .int .i64 n1, .string s1] 24)).alloc (.cells #[.int .i64 2, .int .i64 n1, .string s2] 24)) w' ∧ w'.cell? ⟨w.heap.size, 0, none⟩ = some (.string n) ∧ w'.cell? ⟨w.heap.size, 1, none⟩ = some v1 ∧ w'.cell? ⟨w.heap.size, 2, none⟩ = some (.string lo) ∧ w'.cell? ⟨w.heap.size, 3, none⟩ = some (.string up) ∧ w'.cell? ⟨w.heap.size, 4, none⟩ = some v4 ∧ w'.cell? ⟨w.heap.size, 5, none⟩ = some v5 ∧ w'.cell? ⟨w.heap.size + 1, 0, none⟩ = some (.int .i64 2) ∧ w'.cell? ⟨w.heap.size + 1, 1, none⟩ = some (.int .i64 n1) ∧ w'.cell? ⟨w.heap.size + 1, 2, none⟩ = some (.string s1) ∧ w'.cell? ⟨w.heap.size + 1 + 1, 0, none⟩ = some (.int .i64 2) ∧ w'.cell? ⟨w.heap.size + 1 + 1, 1, none⟩ = some (.int .i64 n1) ∧ w'.cell? ⟨w.heap.size + 1 + 1, 2, none⟩ = some (.string s2)) (first | exact S0)
        (first
          | (go_at_call 11; (with_reducible refine (text_at 2 n1 s1 t1 _ (tab_below T.out (below_three S0.1)) X1.out).mono ?_); rintro e w' ⟨rfl, hb⟩; have S0 := keepV (S0.1.trans (hb.mono S0.1.size)))
          | (go_at_call 11; (with_reducible refine (text_at 2 n1 s2 t2 _ (tab_below T.out (below_three S0.1)) X2.out).mono ?_); rintro e w' ⟨rfl, hb⟩; have S0 := keepV (S0.1.trans (hb.mono S0.1.size)))
          | (go_at_call 25; (with_reducible refine (compare_is n v1 lo up v4 v5 W C E t1 t2 c _ HC (LO.out.below (below_three S0.1)) ZN.out Z1.out Z2.out).mono ?_); rintro e w' ⟨rfl, hb⟩; have S0 := keepV (S0.1.trans (hb.mono S0.1.size))))
      go_wp2_with fail
      go_ret
      exact cmpr_mk rfl (below_three S0.1)
theorem vcompare_any (n lo up : ByteArray) (v1 v4 v5 : Value) (W : List Int) (C : List Cl) (E : List El) (k1 n1 k2 n2 : Int) (s1 s2 : ByteArray) (w : World) (hL : LocAt w v1 v4 v5 W C E) (hn : n.size ≤ 9223372036854775807) (ht : Tab w) (z1 : s1.size ≤ 1048576) (z2 : s2.size ≤ 1048576) :
    Calls Tryd.prog 23 #[.agg #[.string n, v1, .string lo, .string up, v4, v5], .agg #[.int .i64 k1, .int .i64 n1, .string s1], .agg #[.int .i64 k2, .int .i64 n2, .string s2]] w (CmpR (valC n W lo up C E k1 n1 s1 k2 n2 s2) w) := by
  by_cases h : k1 ≠ 2 ∧ k2 ≠ 2
  · rw [valC_num h]
    exact vcompare_num n lo up v1 v4 v5 k1 n1 k2 n2 _ _ s1 s2 w h.1 h.2 (by omega) (by omega) (Lib.hid rfl) (Lib.hid rfl)
  · exact vcompare_txt n lo up v1 v4 v5 W C E k1 n1 k2 n2 _ s1 s2 _ _ w hL hn ht (by omega) (text_size k1 n1 s1 z1) (text_size k2 n2 s2 z2) rfl rfl (valC_txt (by omega)).symm
end Go.Proofs.YtjngkapfngempaaDoor
/- walks: the law ValueOrders -/
namespace Go.Proofs.YtjngkapfngempaaDoor
open Go.RowKit
open Dcm Byt Vl Lcl
theorem vtext_b (k n : Int) (s : ByteArray) (b : Bool) (w : World) (hb : Hid ((k == 2) = b)) :
    Calls Tryd.prog 24 #[.agg #[.int .i64 k, .int .i64 n, .string s]] w fun e w' => e = .returned (.bool b) ∧ Below w.heap.size w w' := by
  have t := hb.out
  clear hb
  go_enter Tryd.func24, Tryd.ntmps24
  go_wp2
  go_ret
  exact ⟨rfl, qbelow_step (Below.refl _ _)⟩
theorem below_four {w w1 : World} {o1 o2 o3 o4 : Obj} (hb : Below ((((w.alloc o1).alloc o2).alloc o3).alloc o4).heap.size ((((w.alloc o1).alloc o2).alloc o3).alloc o4) w1) : Below w.heap.size w w1 := qbelow_step (below_three hb)
theorem val_cells {w : World} {g : Nat} {k n : Int} {s : ByteArray} {T : TypeId} (h : w.heap[g]? = some (.cells #[.int .i64 k, .int .i64 n, .string s] T (0, 0))) : w.cell? ⟨g, 0, none⟩ = some (.int .i64 k) ∧ w.cell? ⟨g, 1, none⟩ = some (.int .i64 n) ∧ w.cell? ⟨g, 2, none⟩ = some (.string s) := by
  refine ⟨?_, ?_, ?_⟩ <;> simp [World.cell?, h]
theorem keepO {w w' : World} {n lo up : ByteArray} {v1 v4 v5 : Value} {k1 n1 k2 n2 k3 n3 : Int} {s1 s2 s3 : ByteArray} (h : Below ((((w.alloc (.cells #[.string n, v1, .string lo, .string up, v4, v5] 41)).alloc (.cells #[.int .i64 k1, .int .i64 n1, .string s1] 24)).alloc (.cells #[.int .i64 k2, .int .i64 n2, .string s2] 24)).alloc (.cells #[.int .i64 k3, .int .i64 n3, .string s3] 24)).heap.size ((((w.alloc (.cells #[.string n, v1, .string lo, .string up, v4, v5] 41)).alloc (.cells #[.int .i64 k1, .int .i64 n1, .string s1] 24)).alloc (.cells #[.int .i64 k2, .int .i64 n2, .string s2] 24)).alloc (.cells #[.int .i64 k3, .int .i64 n3, .string s3] 24)) w') : Below ((((w.alloc (.cells #[.string n, v1, .string lo, .string up, v4, v5] 41)).alloc (.cells #[.int .i64 k1, .int .i64 n1, .string s1] 24)).alloc (.cells #[.int .i64 k2, .int .i64 n2, .string s2] 24)).alloc (.cells #[.int .i64 k3, .int .i64 n3, .string s3] 24)).heap.size ((((w.alloc (.cells #[.string n, v1, .string lo, .string up, v4, v5] 41)).alloc (.cells #[.int .i64 k1, .int .i64 n1, .string s1] 24)).alloc (.cells #[.int .i64 k2, .int .i64 n2, .string s2] 24)).alloc (.cells #[.int .i64 k3, .int .i64 n3, .string s3] 24)) w' ∧ w'.cell? ⟨w.heap.size, 0, none⟩ = some (.string n) ∧ w'.cell? ⟨w.heap.size, 1, none⟩ = some v1 ∧ w'.cell? ⟨w.heap.size, 2, none⟩ = some (.string lo) ∧ w'.cell? ⟨w.heap.size, 3, none⟩ = some (.string up) ∧ w'.cell? ⟨w.heap.size, 4, none⟩ = some v4 ∧ w'.cell? ⟨w.heap.size, 5, none⟩ = some v5 ∧ w'.cell? ⟨w.heap.size + 1, 0, none⟩ = some (.int .i64 k1) ∧ w'.cell? ⟨w.heap.size + 1, 1, none⟩ = some (.int .i64 n1) ∧ w'.cell? ⟨w.heap.size + 1, 2, none⟩ = some (.string s1) ∧ w'.cell? ⟨w.heap.size + 1 + 1, 0, none⟩ = some (.int .i64 k2) ∧ w'.cell? ⟨w.heap.size + 1 + 1, 1, none⟩ = some (.int .i64 n2) ∧ w'.cell? ⟨w.heap.size + 1 + 1, 2, none⟩ = some (.string s2) ∧ w'.cell? ⟨w.heap.size + 1 + 1 + 1, 0, none⟩ = some (.int .i64 k3) ∧ w'.cell? ⟨w.heap.size + 1 + 1 + 1, 1, none⟩ = some (.int .i64 n3) ∧ w'.cell? ⟨w.heap.size + 1 + 1 + 1, 2, none⟩ = some (.string s3) := by
  have q0 : w'.heap[w.heap.size]? = some (.cells #[.string n, v1, .string lo, .string up, v4, v5] 41 (0, 0)) := by
    rw [h.block _ (by simp only [World.size_alloc]; omega), Below.heap_alloc _ _ _ (by simp only [World.size_alloc]; omega), Below.heap_alloc _ _ _ (by simp only [World.size_alloc]; omega), Below.heap_alloc _ _ _ (by simp only [World.size_alloc]; omega)]
    exact heap_alloc_new _ _
  have q1 : w'.heap[w.heap.size + 1]? = some (.cells #[.int .i64 k1, .int .i64 n1, .string s1] 24 (0, 0)) := by
    rw [h.block _ (by simp only [World.size_alloc]; omega), Below.heap_alloc _ _ _ (by simp only [World.size_alloc]; omega), Below.heap_alloc _ _ _ (by simp only [World.size_alloc]; omega)]
    have := heap_alloc_new (w.alloc (.cells #[.string n, v1, .string lo, .string up, v4, v5] 41)) (.cells #[.int .i64 k1, .int .i64 n1, .string s1] 24)
    rw [World.size_alloc] at this; exact this
  have q2 : w'.heap[w.heap.size + 1 + 1]? = some (.cells #[.int .i64 k2, .int .i64 n2, .string s2] 24 (0, 0)) := by
    rw [h.block _ (by simp only [World.size_alloc]; omega), Below.heap_alloc _ _ _ (by simp only [World.size_alloc]; omega)]
    have := heap_alloc_new ((w.alloc (.cells #[.string n, v1, .string lo, .string up, v4, v5] 41)).alloc (.cells #[.int .i64 k1, .int .i64 n1, .string s1] 24)) (.cells #[.int .i64 k2, .int .i64 n2, .string s2] 24)
    rw [World.size_alloc, World.size_alloc] at this; exact this
  have q3 : w'.heap[w.heap.size + 1 + 1 + 1]? = some (.cells #[.int .i64 k3, .int .i64 n3, .string s3] 24 (0, 0)) := by
    rw [h.block _ (by simp only [World.size_alloc]; omega)]
    have := heap_alloc_new (((w.alloc (.cells #[.string n, v1, .string lo, .string up, v4, v5] 41)).alloc (.cells #[.int .i64 k1, .int .i64 n1, .string s1] 24)).alloc (.cells #[.int .i64 k2, .int .i64 n2, .string s2] 24)) (.cells #[.int .i64 k3, .int .i64 n3, .string s3] 24)
    rw [World.size_alloc, World.size_alloc, World.size_alloc] at this; exact this
  obtain ⟨b0, b1, b2, b3, b4, b5⟩ := lrow_cells q0
  obtain ⟨c0, c1, c2⟩ := val_cells q1
  obtain ⟨d0, d1, d2⟩ := val_cells q2
  obtain ⟨e0, e1, e2⟩ := val_cells q3
  exact ⟨h, b0, b1, b2, b3, b4, b5, c0, c1, c2, d0, d1, d2, e0, e1, e2⟩
theorem vcompare_is (n lo up : ByteArray) (v1 v4 v5 : Value) (W : List Int) (C : List Cl) (E : List El) (k1 n1 k2 n2 c : Int) (s1 s2 : ByteArray) (w : World) (hc : Hid (valC n W lo up C E k1 n1 s1 k2 n2 s2 = c)) (hL : LocAt w v1 v4 v5 W C E) (hn : n.size ≤ 9223372036854775807) (ht : Tab w) (z1 : s1.size ≤ 1048576) (z2 : s2.size ≤ 1048576) :
    Calls Tryd.prog 23 #[.agg #[.string n, v1, .string lo, .string up, v4, v5], .agg #[.int .i64 k1, .int .i64 n1, .string s1], .agg #[.int .i64 k2, .int .i64 n2, .string s2]] w (CmpR c w) := by
  rw [← hc.out]; exact vcompare_any n lo up v1 v4 v5 W C E k1 n1 k2 n2 s1 s2 w hL hn ht z1 z2
theorem valC_trans (n : ByteArray) (W : List Int) (lo up : ByteArray) (C : List Cl) (E : List El) (k1 n1 k2 n2 k3 n3 : Int) (s1 s2 s3 : ByteArray) (h1 : (k1 == 2) = (k2 == 2)) (h2 : (k2 == 2) = (k3 == 2)) (x : valC n W lo up C E k1 n1 s1 k2 n2 s2 ≤ 0) (y : valC n W lo up C E k2 n2 s2 k3 n3 s3 ≤ 0) :
    valC n W lo up C E k1 n1 s1 k3 n3 s3 ≤ 0 ∧ (valC n W lo up C E k1 n1 s1 k3 n3 s3 = 0 → valC n W lo up C E k1 n1 s1 k2 n2 s2 = 0 ∧ valC n W lo up C E k2 n2 s2 k3 n3 s3 = 0) := by
  by_cases e : k1 = 2
  · have e2 : k2 = 2 := by rw [e] at h1; simpa using h1.symm
    have e3 : k3 = 2 := by rw [e2] at h2; simpa using h2.symm
    rw [valC_txt (.inl e)] at x ⊢
    rw [valC_txt (.inl e2)] at y ⊢
    rw [valC_txt (.inl e)]
    exact cmpS_trans _ _ _ _ _ x y
  · have e2 : k2 ≠ 2 := by
      intro h; rw [h] at h1; exact e (by simpa using h1)
    have e3 : k3 ≠ 2 := by
      intro h; rw [h] at h2; exact e2 (by simpa using h2)
    rw [valC_num ⟨e, e2⟩] at x ⊢
    rw [valC_num ⟨e2, e3⟩] at y ⊢
    rw [valC_num ⟨e, e3⟩]
    exact cmp3_trans _ _ _ x y
theorem cmp3_lt (x y : Int) : decide (cmp3 x y < 0) = decide (x < y) := by unfold cmp3; split <;> (try split) <;> simp <;> omega
theorem cmp3_gt (x y : Int) : decide (0 < cmp3 x y) = decide (y < x) := by unfold cmp3; split <;> (try split) <;> simp <;> omega
set_option maxRecDepth 100000 in
set_option maxHeartbeats 16000000 in
theorem law_orders (n lo up : ByteArray) (v1 v4 v5 : Value) (W : List Int) (C : List Cl) (E : List El) (k1 n1 k2 n2 k3 n3 : Int) (s1 s2 s3 : ByteArray) (w : World) (hL : LocAt w v1 v4 v5 W C E) (hn : n.size ≤ 9223372036854775807) (ht : Tab w) (z1 : s1.size ≤ 1048576) (z2 : s2.size ≤ 1048576) (z3 : s3.size ≤ 1048576) :
    Calls Tryd.prog 7 #[.agg #[.string n, v1, .string lo, .string up, v4, v5], .agg #[.int .i64 k1, .int .i64 n1, .string s1], .agg #[.int .i64 k2, .int .i64 n2, .string s2], .agg #[.int .i64 k3, .int .i64 n3, .string s3]] w fun e w' => e = .returned (.bool true) ∧ Below w.heap.size w w' := by
  have LO := Lib.hid hL
  have T := Lib.hid ht
  have ZN := Lib.hid hn
  have Z1 := Lib.hid z1
  have Z2 := Lib.hid z2
  have Z3 := Lib.hid z3
  have hvt := valC_trans n W lo up C E k1 n1 k2 n2 k3 n3 s1 s2 s3
  obtain ⟨X, hX⟩ : ∃ X, valC n W lo up C E k1 n1 s1 k2 n2 s2 = X := ⟨_, rfl⟩
  obtain ⟨Y, hY⟩ : ∃ Y, valC n W lo up C E k2 n2 s2 k3 n3 s3 = Y := ⟨_, rfl⟩
  obtain ⟨Z, hZ⟩ : ∃ Z, valC n W lo up C E k1 n1 s1 k3 n3 s3 = Z := ⟨_, rfl⟩
  obtain ⟨ta, hta⟩ : ∃ b, (k1 == 2) = b := ⟨_, rfl⟩
  obtain ⟨tb, htb⟩ : ∃ b, (k2 == 2) = b := ⟨_, rfl⟩
  obtain ⟨tc, htc⟩ : ∃ b, (k3 == 2) = b := ⟨_, rfl⟩
  rw [hX, hY, hZ, hta, htb, htc] at hvt
  have HX := Lib.hid hX
  have HY := Lib.hid hY
  have HZ := Lib.hid hZ
  have HVT := Lib.hid hvt
  have TA := Lib.hid hta
  have TB := Lib.hid htb
  have TC := Lib.hid htc
  clear hL hn ht z1 z2 z3 hvt hX hY hZ hta htb htc
  have S0 := keepO (w := w) (n := n) (lo := lo) (up := up) (v1 := v1) (v4 := v4) (v5 := v5) (k1 := k1) (n1 := n1) (k2 := k2) (n2 := n2) (k3 := k3) (n3 := n3) (s1 := s1) (s2 := s2) (s3 := s3) ((Below.refl _ _).drew)
  go_enter Tryd.func7, Tryd.ntmps7
  go_wp2_with fail
  go_region_held3 (fun w' => Below ((((w.alloc (.cells #[.string n, v1, .string lo, .string up, v4, v5] 41)).alloc (.cells #[.int .i64 k1, .int .i64 n1, .string s1] 24)).alloc (.cells #[.int .i64 k2, .int .i64 n2, .string s2] 24)).alloc (.cells #[.int .i64 k3, .int .i64 n3, .string s3] 24)).heap.size ((((w.alloc (.cells #[.string n, v1, .string lo, .string up, v4, v5] 41)).alloc (.cells #[.int .i64 k1, .int .i64 n1, .string s1] 24)).alloc (.cells #[.int .i64 k2, .int .i64 n2, .string s2] 24)).alloc (.cells #[.int .i64 k3, .int .i64 n3, .string s3] 24)) w' ∧ w'.cell? ⟨w.heap.size, 0, none⟩ = some (.string n) ∧ w'.cell? ⟨w.heap.size, 1, none⟩ = some v1 ∧ w'.cell? ⟨w.heap.size, 2, none⟩ = some (.string lo) ∧ w'.cell? ⟨w.heap.size, 3, none⟩ = some (.string up) ∧ w'.cell? ⟨w.heap.size, 4, none⟩ = some v4 ∧ w'.cell? ⟨w.heap.size, 5, none⟩ = some v5 ∧ w'.cell? ⟨w.heap.size + 1, 0, none⟩ = some (.int .i64 k1) ∧ w'.cell? ⟨w.heap.size + 1, 1, none⟩ = some (.int .i64 n1) ∧ w'.cell? ⟨w.heap.size + 1, 2, none⟩ = some (.string s1) ∧ w'.cell? ⟨w.heap.size + 1 + 1, 0, none⟩ = some (.int .i64 k2) ∧ w'.cell? ⟨w.heap.size + 1 + 1, 1, none⟩ = some (.int .i64 n2) ∧ w'.cell? ⟨w.heap.size + 1 + 1, 2, none⟩ = some (.string s2) ∧ w'.cell? ⟨w.heap.size + 1 + 1 + 1, 0, none⟩ = some (.int .i64 k3) ∧ w'.cell? ⟨w.heap.size + 1 + 1 + 1, 1, none⟩ = some (.int .i64 n3) ∧ w'.cell? ⟨w.heap.size + 1 + 1 + 1, 2, none⟩ = some (.string s3)) (first | exact S0)
    (first
      | (go_at_call 23; (with_reducible refine (vcompare_is n lo up v1 v4 v5 W C E k1 n1 k2 n2 X s1 s2 _ HX (LO.out.below (below_four S0.1)) ZN.out (tab_below T.out (below_four S0.1)) Z1.out Z2.out).mono ?_); rintro e w' ⟨rfl, hb⟩; have S0 := keepO (S0.1.trans (hb.mono S0.1.size)))
      | (go_at_call 23; (with_reducible refine (vcompare_is n lo up v1 v4 v5 W C E k2 n2 k3 n3 Y s2 s3 _ HY (LO.out.below (below_four S0.1)) ZN.out (tab_below T.out (below_four S0.1)) Z2.out Z3.out).mono ?_); rintro e w' ⟨rfl, hb⟩; have S0 := keepO (S0.1.trans (hb.mono S0.1.size)))
      | (go_at_call 23; (with_reducible refine (vcompare_is n lo up v1 v4 v5 W C E k1 n1 k3 n3 Z s1 s3 _ HZ (LO.out.below (below_four S0.1)) ZN.out (tab_below T.out (below_four S0.1)) Z1.out Z3.out).mono ?_); rintro e w' ⟨rfl, hb⟩; have S0 := keepO (S0.1.trans (hb.mono S0.1.size))))
  have SB := Lib.hid S0.1
  clear S0
  go_upto_region 2 with (fail)
  go_cut [61] from 26 to 61 (fun u w' => u = .bool false ∧ Hid (Below ((((w.alloc (.cells #[.string n, v1, .string lo, .string up, v4, v5] 41)).alloc (.cells #[.int .i64 k1, .int .i64 n1, .string s1] 24)).alloc (.cells #[.int .i64 k2, .int .i64 n2, .string s2] 24)).alloc (.cells #[.int .i64 k3, .int .i64 n3, .string s3] 24)).heap.size ((((w.alloc (.cells #[.string n, v1, .string lo, .string up, v4, v5] 41)).alloc (.cells #[.int .i64 k1, .int .i64 n1, .string s1] 24)).alloc (.cells #[.int .i64 k2, .int .i64 n2, .string s2] 24)).alloc (.cells #[.int .i64 k3, .int .i64 n3, .string s3] 24)) w'))
  case first =>
    have S0 := keepO (SB.out.drew)
    have HV := HVT.out
    have ways : (ta == tb) = false ∨ ((ta == tb) = true ∧ (tb == tc) = false) ∨ ((ta == tb) = true ∧ (tb == tc) = true ∧ decide (X ≤ 0) = false) ∨ ((ta == tb) = true ∧ (tb == tc) = true ∧ decide (X ≤ 0) = true ∧ decide (Y ≤ 0) = false) ∨ ((ta == tb) = true ∧ (tb == tc) = true ∧ decide (X ≤ 0) = true ∧ decide (Y ≤ 0) = true ∧ decide (0 < Z) = false ∧ (Z == 0) = false) ∨ ((ta == tb) = true ∧ (tb == tc) = true ∧ decide (X ≤ 0) = true ∧ decide (Y ≤ 0) = true ∧ decide (0 < Z) = false ∧ (Z == 0) = true ∧ decide (X < 0) = false ∧ decide (Y < 0) = false) := by
      by_cases a1 : ta = tb
      · by_cases a2 : tb = tc
        · by_cases a3 : X ≤ 0
          · by_cases a4 : Y ≤ 0
            · obtain ⟨a5, a6⟩ := HV a1 a2 a3 a4
              by_cases a7 : Z = 0
              · obtain ⟨a8, a9⟩ := a6 a7
                exact .inr (.inr (.inr (.inr (.inr ⟨by simp [a1], by simp [a2], by simp [a3], by simp [a4], by simp [a7], by simp [a7], by simp [a8], by simp [a9]⟩))))
              · exact .inr (.inr (.inr (.inr (.inl ⟨by simp [a1], by simp [a2], by simp [a3], by simp [a4], by simp; omega, by simpa using a7⟩))))
            · exact .inr (.inr (.inr (.inl ⟨by simp [a1], by simp [a2], by simp [a3], by simpa using a4⟩)))
          · exact .inr (.inr (.inl ⟨by simp [a1], by simp [a2], by simpa using a3⟩))
        · exact .inr (.inl ⟨by simp [a1], by simpa using a2⟩)
      · exact .inl (by simpa using a1)
    clear HV HVT S0
    rcases ways with q1 | ⟨q1, q2⟩ | ⟨q1, q2, q3⟩ | ⟨q1, q2, q3, q4⟩ | ⟨q1, q2, q3, q4, q5, q6⟩ | ⟨q1, q2, q3, q4, q5, q6, q7, q8⟩
    · refine wp_region_inv (DetI (fun w' => Below ((((w.alloc (.cells #[.string n, v1, .string lo, .string up, v4, v5] 41)).alloc (.cells #[.int .i64 k1, .int .i64 n1, .string s1] 24)).alloc (.cells #[.int .i64 k2, .int .i64 n2, .string s2] 24)).alloc (.cells #[.int .i64 k3, .int .i64 n3, .string s3] 24)).heap.size ((((w.alloc (.cells #[.string n, v1, .string lo, .string up, v4, v5] 41)).alloc (.cells #[.int .i64 k1, .int .i64 n1, .string s1] 24)).alloc (.cells #[.int .i64 k2, .int .i64 n2, .string s2] 24)).alloc (.cells #[.int .i64 k3, .int .i64 n3, .string s3] 24)) w') 26 36 (fun i => ([.agg #[.int .i64 k1, .int .i64 n1, .string s1], .bool ta, .agg #[.int .i64 k2, .int .i64 n2, .string s2], .bool tb, .bool false, .bool false, undef, undef, undef, undef, undef, .bool false, .bool false, undef, undef, .bool false, .bool false, undef, undef, .bool false, .bool false, undef, undef, undef, undef, undef, undef, undef, undef, undef, undef, undef, undef, undef, undef, .bool false] : List Value).getD i undef)) (by kernel_rfl) (by kernel_rfl) ?_ ?_ ?_
      · exact DetI.start SB.out.drew (by show 26 + 36 ≤ 100; decide)
      · refine StepsL.cons 1 rfl ?_ ?_
        · intro d a w' hI hd hdep K hK
          have f5 : a.tmps[5]? = some (.pointer (some ⟨w.heap.size + 1, 0, none⟩)) := hI.other 5 (by decide)
          have h5 := eval_slot f5
          obtain ⟨-, b0, b1, b2, b3, b4, b5, c0, c1, c2, d0, d1, d2, e0, e1, e2⟩ := keepO hI.1
          go_simp
          exact hK.out _ _ (hI.put 0 (by decide) _ rfl _ rfl hI.1)
        refine StepsL.cons 2 rfl ?_ ?_
        · intro d a w' hI hd hdep K hK
          have f26 : a.tmps[26]? = some (.agg #[.int .i64 k1, .int .i64 n1, .string s1]) := hI.slot 0 (by decide) (hdep ⟨0, .data⟩ (by simp) (by rfl))
          have h26 := eval_slot f26
          go_simp
          go_at_call 24
          refine (vtext_b k1 n1 s1 ta _ TA).mono ?_
          rintro e w2 ⟨rfl, hb⟩
          go_wp2_with fail
          exact hK.out _ _ (hI.put 1 (by decide) _ rfl _ rfl (hI.1.trans (hb.mono hI.1.size)))
        refine StepsL.cons 3 rfl ?_ ?_
        · intro d a w' hI hd hdep K hK
          have f6 : a.tmps[6]? = some (.pointer (some ⟨w.heap.size + 1 + 1, 0, none⟩)) := hI.other 6 (by decide)
          have h6 := eval_slot f6
          obtain ⟨-, b0, b1, b2, b3, b4, b5, c0, c1, c2, d0, d1, d2, e0, e1, e2⟩ := keepO hI.1
          go_simp
          exact hK.out _ _ (hI.put 2 (by decide) _ rfl _ rfl hI.1)
        refine StepsL.cons 4 rfl ?_ ?_
        · intro d a w' hI hd hdep K hK
          have f28 : a.tmps[28]? = some (.agg #[.int .i64 k2, .int .i64 n2, .string s2]) := hI.slot 2 (by decide) (hdep ⟨2, .data⟩ (by simp) (by rfl))
          have h28 := eval_slot f28
          go_simp
          go_at_call 24
          refine (vtext_b k2 n2 s2 tb _ TB).mono ?_
          rintro e w2 ⟨rfl, hb⟩
          go_wp2_with fail
          exact hK.out _ _ (hI.put 3 (by decide) _ rfl _ rfl (hI.1.trans (hb.mono hI.1.size)))
        refine StepsL.cons 5 rfl ?_ ?_
        · intro d a w' hI hd hdep K hK
          have f27 : a.tmps[27]? = some (.bool ta) := hI.slot 1 (by decide) (hdep ⟨1, .data⟩ (by simp) (by rfl))
          have h27 := eval_slot f27
          have f29 : a.tmps[29]? = some (.bool tb) := hI.slot 3 (by decide) (hdep ⟨3, .data⟩ (by simp) (by rfl))
          have h29 := eval_slot f29
          go_simp
          exact hK.out _ _ (hI.put 4 (by decide) _ rfl _ rfl hI.1)
        refine StepsL.cons 6 rfl ?_ ?_
        · intro d a w' hI hd hdep K hK
          have f30 : a.tmps[30]? = some (.bool false) := hI.slot 4 (by decide) (hdep ⟨4, .data⟩ (by simp) (by rfl))
          have h30 := eval_slot f30
          go_simp
          exact hK.out _ _ (hI.put 5 (by decide) _ rfl _ rfl hI.1)
        refine StepsL.cons 7 rfl ?_ ?_
        · intro d a w' hI hd hdep K hK
          have f31 : a.tmps[31]? = some (.bool false) := hI.slot 5 (by decide) (hdep ⟨5, .guard⟩ (by simp) (by rfl))
          have h31 := eval_slot f31
          go_simp
          exact hK.out _ _ (hI.put 6 (by decide) _ rfl _ rfl hI.1)
        refine StepsL.cons 8 rfl ?_ ?_
        · intro d a w' hI hd hdep K hK
          have f31 : a.tmps[31]? = some (.bool false) := hI.slot 5 (by decide) (hdep ⟨5, .guard⟩ (by simp) (by rfl))
          have h31 := eval_slot f31
          go_simp
          exact hK.out _ _ (hI.put 7 (by decide) _ rfl _ rfl hI.1)
        refine StepsL.cons 9 rfl ?_ ?_
        · intro d a w' hI hd hdep K hK
          have f31 : a.tmps[31]? = some (.bool false) := hI.slot 5 (by decide) (hdep ⟨5, .guard⟩ (by simp) (by rfl))
          have h31 := eval_slot f31
          go_simp
          exact hK.out _ _ (hI.put 8 (by decide) _ rfl _ rfl hI.1)
        refine StepsL.cons 10 rfl ?_ ?_
        · intro d a w' hI hd hdep K hK
          have f31 : a.tmps[31]? = some (.bool false) := hI.slot 5 (by decide) (hdep ⟨5, .guard⟩ (by simp) (by rfl))
          have h31 := eval_slot f31
          go_simp
          exact hK.out _ _ (hI.put 9 (by decide) _ rfl _ rfl hI.1)
        refine StepsL.cons 11 rfl ?_ ?_
        · intro d a w' hI hd hdep K hK
          have f31 : a.tmps[31]? = some (.bool false) := hI.slot 5 (by decide) (hdep ⟨5, .guard⟩ (by simp) (by rfl))
          have h31 := eval_slot f31
          go_simp
          exact hK.out _ _ (hI.put 10 (by decide) _ rfl _ rfl hI.1)
        refine StepsL.cons 12 rfl ?_ ?_
        · intro d a w' hI hd hdep K hK
          have f31 : a.tmps[31]? = some (.bool false) := hI.slot 5 (by decide) (hdep ⟨5, .data⟩ (by simp) (by rfl))
          have h31 := eval_slot f31
          have f36 : a.tmps[36]? = some (undef) := hI.slot 10 (by decide) (hdep ⟨10, .data⟩ (by simp) (by rfl))
          have h36 := eval_slot f36
          go_simp
          exact hK.out _ _ (hI.put 11 (by decide) _ rfl _ rfl hI.1)
        refine StepsL.cons 13 rfl ?_ ?_
        · intro d a w' hI hd hdep K hK
          have f37 : a.tmps[37]? = some (.bool false) := hI.slot 11 (by decide) (hdep ⟨11, .data⟩ (by simp) (by rfl))
          have h37 := eval_slot f37
          go_simp
          exact hK.out _ _ (hI.put 12 (by decide) _ rfl _ rfl hI.1)
        refine StepsL.cons 14 rfl ?_ ?_
        · intro d a w' hI hd hdep K hK
          have f38 : a.tmps[38]? = some (.bool false) := hI.slot 12 (by decide) (hdep ⟨12, .guard⟩ (by simp) (by rfl))
          have h38 := eval_slot f38
          go_simp
          exact hK.out _ _ (hI.put 13 (by decide) _ rfl _ rfl hI.1)
        refine StepsL.cons 15 rfl ?_ ?_
        · intro d a w' hI hd hdep K hK
          have f38 : a.tmps[38]? = some (.bool false) := hI.slot 12 (by decide) (hdep ⟨12, .guard⟩ (by simp) (by rfl))
          have h38 := eval_slot f38
          go_simp
          exact hK.out _ _ (hI.put 14 (by decide) _ rfl _ rfl hI.1)
        refine StepsL.cons 16 rfl ?_ ?_
        · intro d a w' hI hd hdep K hK
          have f38 : a.tmps[38]? = some (.bool false) := hI.slot 12 (by decide) (hdep ⟨12, .data⟩ (by simp) (by rfl))
          have h38 := eval_slot f38
          have f40 : a.tmps[40]? = some (undef) := hI.slot 14 (by decide) (hdep ⟨14, .data⟩ (by simp) (by rfl))
          have h40 := eval_slot f40
          go_simp
          exact hK.out _ _ (hI.put 15 (by decide) _ rfl _ rfl hI.1)
        refine StepsL.cons 17 rfl ?_ ?_
        · intro d a w' hI hd hdep K hK
          have f41 : a.tmps[41]? = some (.bool false) := hI.slot 15 (by decide) (hdep ⟨15, .data⟩ (by simp) (by rfl))
          have h41 := eval_slot f41
          go_simp
          exact hK.out _ _ (hI.put 16 (by decide) _ rfl _ rfl hI.1)
        refine StepsL.cons 18 rfl ?_ ?_
        · intro d a w' hI hd hdep K hK
          have f42 : a.tmps[42]? = some (.bool false) := hI.slot 16 (by decide) (hdep ⟨16, .guard⟩ (by simp) (by rfl))
          have h42 := eval_slot f42
          go_simp
          exact hK.out _ _ (hI.put 17 (by decide) _ rfl _ rfl hI.1)
        refine StepsL.cons 19 rfl ?_ ?_
        · intro d a w' hI hd hdep K hK
          have f42 : a.tmps[42]? = some (.bool false) := hI.slot 16 (by decide) (hdep ⟨16, .guard⟩ (by simp) (by rfl))
          have h42 := eval_slot f42
          go_simp
          exact hK.out _ _ (hI.put 18 (by decide) _ rfl _ rfl hI.1)
        refine StepsL.cons 20 rfl ?_ ?_
        · intro d a w' hI hd hdep K hK
          have f42 : a.tmps[42]? = some (.bool false) := hI.slot 16 (by decide) (hdep ⟨16, .data⟩ (by simp) (by rfl))
          have h42 := eval_slot f42
          have f44 : a.tmps[44]? = some (undef) := hI.slot 18 (by decide) (hdep ⟨18, .data⟩ (by simp) (by rfl))
          have h44 := eval_slot f44
          go_simp
          exact hK.out _ _ (hI.put 19 (by decide) _ rfl _ rfl hI.1)
        refine StepsL.cons 21 rfl ?_ ?_
        · intro d a w' hI hd hdep K hK
          have f45 : a.tmps[45]? = some (.bool false) := hI.slot 19 (by decide) (hdep ⟨19, .data⟩ (by simp) (by rfl))
          have h45 := eval_slot f45
          go_simp
          exact hK.out _ _ (hI.put 20 (by decide) _ rfl _ rfl hI.1)
        refine StepsL.cons 22 rfl ?_ ?_
        · intro d a w' hI hd hdep K hK
          have f46 : a.tmps[46]? = some (.bool false) := hI.slot 20 (by decide) (hdep ⟨20, .guard⟩ (by simp) (by rfl))
          have h46 := eval_slot f46
          go_simp
          exact hK.out _ _ (hI.put 21 (by decide) _ rfl _ rfl hI.1)
        refine StepsL.cons 23 rfl ?_ ?_
        · intro d a w' hI hd hdep K hK
          have f46 : a.tmps[46]? = some (.bool false) := hI.slot 20 (by decide) (hdep ⟨20, .guard⟩ (by simp) (by rfl))
          have h46 := eval_slot f46
          go_simp
          exact hK.out _ _ (hI.put 22 (by decide) _ rfl _ rfl hI.1)
        refine StepsL.cons 24 rfl ?_ ?_
        · intro d a w' hI hd hdep K hK
          have f46 : a.tmps[46]? = some (.bool false) := hI.slot 20 (by decide) (hdep ⟨20, .guard⟩ (by simp) (by rfl))
          have h46 := eval_slot f46
          go_simp
          exact hK.out _ _ (hI.put 23 (by decide) _ rfl _ rfl hI.1)
        refine StepsL.cons 25 rfl ?_ ?_
        · intro d a w' hI hd hdep K hK
          have f49 : a.tmps[49]? = some (undef) := hI.slot 23 (by decide) (hdep ⟨23, .guard⟩ (by simp) (by rfl))
          have h49 := eval_slot f49
          go_simp
          exact hK.out _ _ (hI.put 24 (by decide) _ rfl _ rfl hI.1)
        refine StepsL.cons 26 rfl ?_ ?_
        · intro d a w' hI hd hdep K hK
          have f49 : a.tmps[49]? = some (undef) := hI.slot 23 (by decide) (hdep ⟨23, .guard⟩ (by simp) (by rfl))
          have h49 := eval_slot f49
          go_simp
          exact hK.out _ _ (hI.put 25 (by decide) _ rfl _ rfl hI.1)
        refine StepsL.cons 27 rfl ?_ ?_
        · intro d a w' hI hd hdep K hK
          have f49 : a.tmps[49]? = some (undef) := hI.slot 23 (by decide) (hdep ⟨23, .guard⟩ (by simp) (by rfl))
          have h49 := eval_slot f49
          go_simp
          exact hK.out _ _ (hI.put 26 (by decide) _ rfl _ rfl hI.1)
        refine StepsL.cons 28 rfl ?_ ?_
        · intro d a w' hI hd hdep K hK
          have f52 : a.tmps[52]? = some (undef) := hI.slot 26 (by decide) (hdep ⟨26, .guard⟩ (by simp) (by rfl))
          have h52 := eval_slot f52
          go_simp
          exact hK.out _ _ (hI.put 27 (by decide) _ rfl _ rfl hI.1)
        refine StepsL.cons 29 rfl ?_ ?_
        · intro d a w' hI hd hdep K hK
          have f52 : a.tmps[52]? = some (undef) := hI.slot 26 (by decide) (hdep ⟨26, .guard⟩ (by simp) (by rfl))
          have h52 := eval_slot f52
          go_simp
          exact hK.out _ _ (hI.put 28 (by decide) _ rfl _ rfl hI.1)
        refine StepsL.cons 30 rfl ?_ ?_
        · intro d a w' hI hd hdep K hK
          have f52 : a.tmps[52]? = some (undef) := hI.slot 26 (by decide) (hdep ⟨26, .guard⟩ (by simp) (by rfl))
          have h52 := eval_slot f52
          go_simp
          exact hK.out _ _ (hI.put 29 (by decide) _ rfl _ rfl hI.1)
        refine StepsL.cons 31 rfl ?_ ?_
        · intro d a w' hI hd hdep K hK
          have f55 : a.tmps[55]? = some (undef) := hI.slot 29 (by decide) (hdep ⟨29, .guard⟩ (by simp) (by rfl))
          have h55 := eval_slot f55
          go_simp
          exact hK.out _ _ (hI.put 30 (by decide) _ rfl _ rfl hI.1)
        refine StepsL.cons 32 rfl ?_ ?_
        · intro d a w' hI hd hdep K hK
          have f55 : a.tmps[55]? = some (undef) := hI.slot 29 (by decide) (hdep ⟨29, .guard⟩ (by simp) (by rfl))
          have h55 := eval_slot f55
          go_simp
          exact hK.out _ _ (hI.put 31 (by decide) _ rfl _ rfl hI.1)
        refine StepsL.cons 33 rfl ?_ ?_
        · intro d a w' hI hd hdep K hK
          have f52 : a.tmps[52]? = some (undef) := hI.slot 26 (by decide) (hdep ⟨26, .guard⟩ (by simp) (by rfl))
          have h52 := eval_slot f52
          go_simp
          exact hK.out _ _ (hI.put 32 (by decide) _ rfl _ rfl hI.1)
        refine StepsL.cons 34 rfl ?_ ?_
        · intro d a w' hI hd hdep K hK
          have f49 : a.tmps[49]? = some (undef) := hI.slot 23 (by decide) (hdep ⟨23, .guard⟩ (by simp) (by rfl))
          have h49 := eval_slot f49
          go_simp
          exact hK.out _ _ (hI.put 33 (by decide) _ rfl _ rfl hI.1)
        refine StepsL.cons 35 rfl ?_ ?_
        · intro d a w' hI hd hdep K hK
          have f46 : a.tmps[46]? = some (.bool false) := hI.slot 20 (by decide) (hdep ⟨20, .guard⟩ (by simp) (by rfl))
          have h46 := eval_slot f46
          go_simp
          exact hK.out _ _ (hI.put 34 (by decide) _ rfl _ rfl hI.1)
        refine StepsL.cons 36 rfl ?_ ?_
        · intro d a w' hI hd hdep K hK
          have f46 : a.tmps[46]? = some (.bool false) := hI.slot 20 (by decide) (hdep ⟨20, .data⟩ (by simp) (by rfl))
          have h46 := eval_slot f46
          have f60 : a.tmps[60]? = some (undef) := hI.slot 34 (by decide) (hdep ⟨34, .data⟩ (by simp) (by rfl))
          have h60 := eval_slot f60
          go_simp
          exact hK.out _ _ (hI.put 35 (by decide) _ rfl _ rfl hI.1)
        exact StepsL.nil
      · intro d a w2 hI hall
        obtain ⟨SB2, rfl⟩ := hI.done hall
        simp only [putR, Act.put, List.setIfInBounds_toArray, List.set_cons_zero, List.set_cons_succ, Nat.reduceAdd]
        go_wp2_with fail
        go_meet
        case rel => exact ⟨rfl, Lib.hid SB2⟩
    · refine wp_region_inv (DetI (fun w' => Below ((((w.alloc (.cells #[.string n, v1, .string lo, .string up, v4, v5] 41)).alloc (.cells #[.int .i64 k1, .int .i64 n1, .string s1] 24)).alloc (.cells #[.int .i64 k2, .int .i64 n2, .string s2] 24)).alloc (.cells #[.int .i64 k3, .int .i64 n3, .string s3] 24)).heap.size ((((w.alloc (.cells #[.string n, v1, .string lo, .string up, v4, v5] 41)).alloc (.cells #[.int .i64 k1, .int .i64 n1, .string s1] 24)).alloc (.cells #[.int .i64 k2, .int .i64 n2, .string s2] 24)).alloc (.cells #[.int .i64 k3, .int .i64 n3, .string s3] 24)) w') 26 36 (fun i => ([.agg #[.int .i64 k1, .int .i64 n1, .string s1], .bool ta, .agg #[.int .i64 k2, .int .i64 n2, .string s2], .bool tb, .bool true, .bool true, .agg #[.int .i64 k2, .int .i64 n2, .string s2], .bool tb, .agg #[.int .i64 k3, .int .i64 n3, .string s3], .bool tc, .bool false, .bool false, .bool false, undef, undef, .bool false, .bool false, undef, undef, .bool false, .bool false, undef, undef, undef, undef, undef, undef, undef, undef, undef, undef, undef, undef, undef, undef, .bool false] : List Value).getD i undef)) (by kernel_rfl) (by kernel_rfl) ?_ ?_ ?_
      · exact DetI.start SB.out.drew (by show 26 + 36 ≤ 100; decide)
      · refine StepsL.cons 1 rfl ?_ ?_
        · intro d a w' hI hd hdep K hK
          have f5 : a.tmps[5]? = some (.pointer (some ⟨w.heap.size + 1, 0, none⟩)) := hI.other 5 (by decide)
          have h5 := eval_slot f5
          obtain ⟨-, b0, b1, b2, b3, b4, b5, c0, c1, c2, d0, d1, d2, e0, e1, e2⟩ := keepO hI.1
          go_simp
          exact hK.out _ _ (hI.put 0 (by decide) _ rfl _ rfl hI.1)
        refine StepsL.cons 2 rfl ?_ ?_
        · intro d a w' hI hd hdep K hK
          have f26 : a.tmps[26]? = some (.agg #[.int .i64 k1, .int .i64 n1, .string s1]) := hI.slot 0 (by decide) (hdep ⟨0, .data⟩ (by simp) (by rfl))
          have h26 := eval_slot f26
          go_simp
          go_at_call 24
          refine (vtext_b k1 n1 s1 ta _ TA).mono ?_
          rintro e w2 ⟨rfl, hb⟩
          go_wp2_with fail
          exact hK.out _ _ (hI.put 1 (by decide) _ rfl _ rfl (hI.1.trans (hb.mono hI.1.size)))
        refine StepsL.cons 3 rfl ?_ ?_
        · intro d a w' hI hd hdep K hK
          have f6 : a.tmps[6]? = some (.pointer (some ⟨w.heap.size + 1 + 1, 0, none⟩)) := hI.other 6 (by decide)
          have h6 := eval_slot f6
          obtain ⟨-, b0, b1, b2, b3, b4, b5, c0, c1, c2, d0, d1, d2, e0, e1, e2⟩ := keepO hI.1
          go_simp
          exact hK.out _ _ (hI.put 2 (by decide) _ rfl _ rfl hI.1)
        refine StepsL.cons 4 rfl ?_ ?_
        · intro d a w' hI hd hdep K hK
          have f28 : a.tmps[28]? = some (.agg #[.int .i64 k2, .int .i64 n2, .string s2]) := hI.slot 2 (by decide) (hdep ⟨2, .data⟩ (by simp) (by rfl))
          have h28 := eval_slot f28
          go_simp
          go_at_call 24
          refine (vtext_b k2 n2 s2 tb _ TB).mono ?_
          rintro e w2 ⟨rfl, hb⟩
          go_wp2_with fail
          exact hK.out _ _ (hI.put 3 (by decide) _ rfl _ rfl (hI.1.trans (hb.mono hI.1.size)))
        refine StepsL.cons 5 rfl ?_ ?_
        · intro d a w' hI hd hdep K hK
          have f27 : a.tmps[27]? = some (.bool ta) := hI.slot 1 (by decide) (hdep ⟨1, .data⟩ (by simp) (by rfl))
          have h27 := eval_slot f27
          have f29 : a.tmps[29]? = some (.bool tb) := hI.slot 3 (by decide) (hdep ⟨3, .data⟩ (by simp) (by rfl))
          have h29 := eval_slot f29
          go_simp
          exact hK.out _ _ (hI.put 4 (by decide) _ rfl _ rfl hI.1)
        refine StepsL.cons 6 rfl ?_ ?_
        · intro d a w' hI hd hdep K hK
          have f30 : a.tmps[30]? = some (.bool true) := hI.slot 4 (by decide) (hdep ⟨4, .data⟩ (by simp) (by rfl))
          have h30 := eval_slot f30
          go_simp
          exact hK.out _ _ (hI.put 5 (by decide) _ rfl _ rfl hI.1)
        refine StepsL.cons 7 rfl ?_ ?_
        · intro d a w' hI hd hdep K hK
          have f31 : a.tmps[31]? = some (.bool true) := hI.slot 5 (by decide) (hdep ⟨5, .guard⟩ (by simp) (by rfl))
          have h31 := eval_slot f31
          have f6 : a.tmps[6]? = some (.pointer (some ⟨w.heap.size + 1 + 1, 0, none⟩)) := hI.other 6 (by decide)
          have h6 := eval_slot f6
          obtain ⟨-, b0, b1, b2, b3, b4, b5, c0, c1, c2, d0, d1, d2, e0, e1, e2⟩ := keepO hI.1
          go_simp
          exact hK.out _ _ (hI.put 6 (by decide) _ rfl _ rfl hI.1)
        refine StepsL.cons 8 rfl ?_ ?_
        · intro d a w' hI hd hdep K hK
          have f31 : a.tmps[31]? = some (.bool true) := hI.slot 5 (by decide) (hdep ⟨5, .guard⟩ (by simp) (by rfl))
          have h31 := eval_slot f31
          have f32 : a.tmps[32]? = some (.agg #[.int .i64 k2, .int .i64 n2, .string s2]) := hI.slot 6 (by decide) (hdep ⟨6, .data⟩ (by simp) (by rfl))
          have h32 := eval_slot f32
          go_simp
          go_at_call 24
          refine (vtext_b k2 n2 s2 tb _ TB).mono ?_
          rintro e w2 ⟨rfl, hb⟩
          go_wp2_with fail
          exact hK.out _ _ (hI.put 7 (by decide) _ rfl _ rfl (hI.1.trans (hb.mono hI.1.size)))
        refine StepsL.cons 9 rfl ?_ ?_
        · intro d a w' hI hd hdep K hK
          have f31 : a.tmps[31]? = some (.bool true) := hI.slot 5 (by decide) (hdep ⟨5, .guard⟩ (by simp) (by rfl))
          have h31 := eval_slot f31
          have f7 : a.tmps[7]? = some (.pointer (some ⟨w.heap.size + 1 + 1 + 1, 0, none⟩)) := hI.other 7 (by decide)
          have h7 := eval_slot f7
          obtain ⟨-, b0, b1, b2, b3, b4, b5, c0, c1, c2, d0, d1, d2, e0, e1, e2⟩ := keepO hI.1
          go_simp
          exact hK.out _ _ (hI.put 8 (by decide) _ rfl _ rfl hI.1)
        refine StepsL.cons 10 rfl ?_ ?_
        · intro d a w' hI hd hdep K hK
          have f31 : a.tmps[31]? = some (.bool true) := hI.slot 5 (by decide) (hdep ⟨5, .guard⟩ (by simp) (by rfl))
          have h31 := eval_slot f31
          have f34 : a.tmps[34]? = some (.agg #[.int .i64 k3, .int .i64 n3, .string s3]) := hI.slot 8 (by decide) (hdep ⟨8, .data⟩ (by simp) (by rfl))
          have h34 := eval_slot f34
          go_simp
          go_at_call 24
          refine (vtext_b k3 n3 s3 tc _ TC).mono ?_
          rintro e w2 ⟨rfl, hb⟩
          go_wp2_with fail
          exact hK.out _ _ (hI.put 9 (by decide) _ rfl _ rfl (hI.1.trans (hb.mono hI.1.size)))
        refine StepsL.cons 11 rfl ?_ ?_
        · intro d a w' hI hd hdep K hK
          have f31 : a.tmps[31]? = some (.bool true) := hI.slot 5 (by decide) (hdep ⟨5, .guard⟩ (by simp) (by rfl))
          have h31 := eval_slot f31
          have f33 : a.tmps[33]? = some (.bool tb) := hI.slot 7 (by decide) (hdep ⟨7, .data⟩ (by simp) (by rfl))
          have h33 := eval_slot f33
          have f35 : a.tmps[35]? = some (.bool tc) := hI.slot 9 (by decide) (hdep ⟨9, .data⟩ (by simp) (by rfl))
          have h35 := eval_slot f35
          go_simp
          exact hK.out _ _ (hI.put 10 (by decide) _ rfl _ rfl hI.1)
        refine StepsL.cons 12 rfl ?_ ?_
        · intro d a w' hI hd hdep K hK
          have f31 : a.tmps[31]? = some (.bool true) := hI.slot 5 (by decide) (hdep ⟨5, .data⟩ (by simp) (by rfl))
          have h31 := eval_slot f31
          have f36 : a.tmps[36]? = some (.bool false) := hI.slot 10 (by decide) (hdep ⟨10, .data⟩ (by simp) (by rfl))
          have h36 := eval_slot f36
          go_simp
          exact hK.out _ _ (hI.put 11 (by decide) _ rfl _ rfl hI.1)
        refine StepsL.cons 13 rfl ?_ ?_
        · intro d a w' hI hd hdep K hK
          have f37 : a.tmps[37]? = some (.bool false) := hI.slot 11 (by decide) (hdep ⟨11, .data⟩ (by simp) (by rfl))
          have h37 := eval_slot f37
          go_simp
          exact hK.out _ _ (hI.put 12 (by decide) _ rfl _ rfl hI.1)
        refine StepsL.cons 14 rfl ?_ ?_
        · intro d a w' hI hd hdep K hK
          have f38 : a.tmps[38]? = some (.bool false) := hI.slot 12 (by decide) (hdep ⟨12, .guard⟩ (by simp) (by rfl))
          have h38 := eval_slot f38
          go_simp
          exact hK.out _ _ (hI.put 13 (by decide) _ rfl _ rfl hI.1)
        refine StepsL.cons 15 rfl ?_ ?_
        · intro d a w' hI hd hdep K hK
          have f38 : a.tmps[38]? = some (.bool false) := hI.slot 12 (by decide) (hdep ⟨12, .guard⟩ (by simp) (by rfl))
          have h38 := eval_slot f38
          go_simp
          exact hK.out _ _ (hI.put 14 (by decide) _ rfl _ rfl hI.1)
        refine StepsL.cons 16 rfl ?_ ?_
        · intro d a w' hI hd hdep K hK
          have f38 : a.tmps[38]? = some (.bool false) := hI.slot 12 (by decide) (hdep ⟨12, .data⟩ (by simp) (by rfl))
          have h38 := eval_slot f38
          have f40 : a.tmps[40]? = some (undef) := hI.slot 14 (by decide) (hdep ⟨14, .data⟩ (by simp) (by rfl))
          have h40 := eval_slot f40
          go_simp
          exact hK.out _ _ (hI.put 15 (by decide) _ rfl _ rfl hI.1)
        refine StepsL.cons 17 rfl ?_ ?_
        · intro d a w' hI hd hdep K hK
          have f41 : a.tmps[41]? = some (.bool false) := hI.slot 15 (by decide) (hdep ⟨15, .data⟩ (by simp) (by rfl))
          have h41 := eval_slot f41
          go_simp
          exact hK.out _ _ (hI.put 16 (by decide) _ rfl _ rfl hI.1)
        refine StepsL.cons 18 rfl ?_ ?_
        · intro d a w' hI hd hdep K hK
          have f42 : a.tmps[42]? = some (.bool false) := hI.slot 16 (by decide) (hdep ⟨16, .guard⟩ (by simp) (by rfl))
          have h42 := eval_slot f42
          go_simp
          exact hK.out _ _ (hI.put 17 (by decide) _ rfl _ rfl hI.1)
        refine StepsL.cons 19 rfl ?_ ?_
        · intro d a w' hI hd hdep K hK
          have f42 : a.tmps[42]? = some (.bool false) := hI.slot 16 (by decide) (hdep ⟨16, .guard⟩ (by simp) (by rfl))
          have h42 := eval_slot f42
          go_simp
          exact hK.out _ _ (hI.put 18 (by decide) _ rfl _ rfl hI.1)
        refine StepsL.cons 20 rfl ?_ ?_
        · intro d a w' hI hd hdep K hK
          have f42 : a.tmps[42]? = some (.bool false) := hI.slot 16 (by decide) (hdep ⟨16, .data⟩ (by simp) (by rfl))
          have h42 := eval_slot f42
          have f44 : a.tmps[44]? = some (undef) := hI.slot 18 (by decide) (hdep ⟨18, .data⟩ (by simp) (by rfl))
          have h44 := eval_slot f44
          go_simp
          exact hK.out _ _ (hI.put 19 (by decide) _ rfl _ rfl hI.1)
        refine StepsL.cons 21 rfl ?_ ?_
        · intro d a w' hI hd hdep K hK
          have f45 : a.tmps[45]? = some (.bool false) := hI.slot 19 (by decide) (hdep ⟨19, .data⟩ (by simp) (by rfl))
          have h45 := eval_slot f45
          go_simp
          exact hK.out _ _ (hI.put 20 (by decide) _ rfl _ rfl hI.1)
        refine StepsL.cons 22 rfl ?_ ?_
        · intro d a w' hI hd hdep K hK
          have f46 : a.tmps[46]? = some (.bool false) := hI.slot 20 (by decide) (hdep ⟨20, .guard⟩ (by simp) (by rfl))
          have h46 := eval_slot f46
          go_simp
          exact hK.out _ _ (hI.put 21 (by decide) _ rfl _ rfl hI.1)
        refine StepsL.cons 23 rfl ?_ ?_
        · intro d a w' hI hd hdep K hK
          have f46 : a.tmps[46]? = some (.bool false) := hI.slot 20 (by decide) (hdep ⟨20, .guard⟩ (by simp) (by rfl))
          have h46 := eval_slot f46
          go_simp
          exact hK.out _ _ (hI.put 22 (by decide) _ rfl _ rfl hI.1)
        refine StepsL.cons 24 rfl ?_ ?_
        · intro d a w' hI hd hdep K hK
          have f46 : a.tmps[46]? = some (.bool false) := hI.slot 20 (by decide) (hdep ⟨20, .guard⟩ (by simp) (by rfl))
          have h46 := eval_slot f46
          go_simp
          exact hK.out _ _ (hI.put 23 (by decide) _ rfl _ rfl hI.1)
        refine StepsL.cons 25 rfl ?_ ?_
        · intro d a w' hI hd hdep K hK
          have f49 : a.tmps[49]? = some (undef) := hI.slot 23 (by decide) (hdep ⟨23, .guard⟩ (by simp) (by rfl))
          have h49 := eval_slot f49
          go_simp
          exact hK.out _ _ (hI.put 24 (by decide) _ rfl _ rfl hI.1)
        refine StepsL.cons 26 rfl ?_ ?_
        · intro d a w' hI hd hdep K hK
          have f49 : a.tmps[49]? = some (undef) := hI.slot 23 (by decide) (hdep ⟨23, .guard⟩ (by simp) (by rfl))
          have h49 := eval_slot f49
          go_simp
          exact hK.out _ _ (hI.put 25 (by decide) _ rfl _ rfl hI.1)
        refine StepsL.cons 27 rfl ?_ ?_
        · intro d a w' hI hd hdep K hK
          have f49 : a.tmps[49]? = some (undef) := hI.slot 23 (by decide) (hdep ⟨23, .guard⟩ (by simp) (by rfl))
          have h49 := eval_slot f49
          go_simp
          exact hK.out _ _ (hI.put 26 (by decide) _ rfl _ rfl hI.1)
        refine StepsL.cons 28 rfl ?_ ?_
        · intro d a w' hI hd hdep K hK
          have f52 : a.tmps[52]? = some (undef) := hI.slot 26 (by decide) (hdep ⟨26, .guard⟩ (by simp) (by rfl))
          have h52 := eval_slot f52
          go_simp
          exact hK.out _ _ (hI.put 27 (by decide) _ rfl _ rfl hI.1)
        refine StepsL.cons 29 rfl ?_ ?_
        · intro d a w' hI hd hdep K hK
          have f52 : a.tmps[52]? = some (undef) := hI.slot 26 (by decide) (hdep ⟨26, .guard⟩ (by simp) (by rfl))
          have h52 := eval_slot f52
          go_simp
          exact hK.out _ _ (hI.put 28 (by decide) _ rfl _ rfl hI.1)
        refine StepsL.cons 30 rfl ?_ ?_
        · intro d a w' hI hd hdep K hK
          have f52 : a.tmps[52]? = some (undef) := hI.slot 26 (by decide) (hdep ⟨26, .guard⟩ (by simp) (by rfl))
          have h52 := eval_slot f52
          go_simp
          exact hK.out _ _ (hI.put 29 (by decide) _ rfl _ rfl hI.1)
        refine StepsL.cons 31 rfl ?_ ?_
        · intro d a w' hI hd hdep K hK
          have f55 : a.tmps[55]? = some (undef) := hI.slot 29 (by decide) (hdep ⟨29, .guard⟩ (by simp) (by rfl))
          have h55 := eval_slot f55
          go_simp
          exact hK.out _ _ (hI.put 30 (by decide) _ rfl _ rfl hI.1)
        refine StepsL.cons 32 rfl ?_ ?_
        · intro d a w' hI hd hdep K hK
          have f55 : a.tmps[55]? = some (undef) := hI.slot 29 (by decide) (hdep ⟨29, .guard⟩ (by simp) (by rfl))
          have h55 := eval_slot f55
          go_simp
          exact hK.out _ _ (hI.put 31 (by decide) _ rfl _ rfl hI.1)
        refine StepsL.cons 33 rfl ?_ ?_
        · intro d a w' hI hd hdep K hK
          have f52 : a.tmps[52]? = some (undef) := hI.slot 26 (by decide) (hdep ⟨26, .guard⟩ (by simp) (by rfl))
          have h52 := eval_slot f52
          go_simp
          exact hK.out _ _ (hI.put 32 (by decide) _ rfl _ rfl hI.1)
        refine StepsL.cons 34 rfl ?_ ?_
        · intro d a w' hI hd hdep K hK
          have f49 : a.tmps[49]? = some (undef) := hI.slot 23 (by decide) (hdep ⟨23, .guard⟩ (by simp) (by rfl))
          have h49 := eval_slot f49
          go_simp
          exact hK.out _ _ (hI.put 33 (by decide) _ rfl _ rfl hI.1)
        refine StepsL.cons 35 rfl ?_ ?_
        · intro d a w' hI hd hdep K hK
          have f46 : a.tmps[46]? = some (.bool false) := hI.slot 20 (by decide) (hdep ⟨20, .guard⟩ (by simp) (by rfl))
          have h46 := eval_slot f46
          go_simp
          exact hK.out _ _ (hI.put 34 (by decide) _ rfl _ rfl hI.1)
        refine StepsL.cons 36 rfl ?_ ?_
        · intro d a w' hI hd hdep K hK
          have f46 : a.tmps[46]? = some (.bool false) := hI.slot 20 (by decide) (hdep ⟨20, .data⟩ (by simp) (by rfl))
          have h46 := eval_slot f46
          have f60 : a.tmps[60]? = some (undef) := hI.slot 34 (by decide) (hdep ⟨34, .data⟩ (by simp) (by rfl))
          have h60 := eval_slot f60
          go_simp
          exact hK.out _ _ (hI.put 35 (by decide) _ rfl _ rfl hI.1)
        exact StepsL.nil
      · intro d a w2 hI hall
        obtain ⟨SB2, rfl⟩ := hI.done hall
        simp only [putR, Act.put, List.setIfInBounds_toArray, List.set_cons_zero, List.set_cons_succ, Nat.reduceAdd]
        go_wp2_with fail
        go_meet
        case rel => exact ⟨rfl, Lib.hid SB2⟩
    · refine wp_region_inv (DetI (fun w' => Below ((((w.alloc (.cells #[.string n, v1, .string lo, .string up, v4, v5] 41)).alloc (.cells #[.int .i64 k1, .int .i64 n1, .string s1] 24)).alloc (.cells #[.int .i64 k2, .int .i64 n2, .string s2] 24)).alloc (.cells #[.int .i64 k3, .int .i64 n3, .string s3] 24)).heap.size ((((w.alloc (.cells #[.string n, v1, .string lo, .string up, v4, v5] 41)).alloc (.cells #[.int .i64 k1, .int .i64 n1, .string s1] 24)).alloc (.cells #[.int .i64 k2, .int .i64 n2, .string s2] 24)).alloc (.cells #[.int .i64 k3, .int .i64 n3, .string s3] 24)) w') 26 36 (fun i => ([.agg #[.int .i64 k1, .int .i64 n1, .string s1], .bool ta, .agg #[.int .i64 k2, .int .i64 n2, .string s2], .bool tb, .bool true, .bool true, .agg #[.int .i64 k2, .int .i64 n2, .string s2], .bool tb, .agg #[.int .i64 k3, .int .i64 n3, .string s3], .bool tc, .bool true, .bool true, .bool true, .int .i64 X, .bool false, .bool false, .bool false, undef, undef, .bool false, .bool false, undef, undef, undef, undef, undef, undef, undef, undef, undef, undef, undef, undef, undef, undef, .bool false] : List Value).getD i undef)) (by kernel_rfl) (by kernel_rfl) ?_ ?_ ?_
      · exact DetI.start SB.out.drew (by show 26 + 36 ≤ 100; decide)
      · refine StepsL.cons 1 rfl ?_ ?_
        · intro d a w' hI hd hdep K hK
          have f5 : a.tmps[5]? = some (.pointer (some ⟨w.heap.size + 1, 0, none⟩)) := hI.other 5 (by decide)
          have h5 := eval_slot f5
          obtain ⟨-, b0, b1, b2, b3, b4, b5, c0, c1, c2, d0, d1, d2, e0, e1, e2⟩ := keepO hI.1
          go_simp
          exact hK.out _ _ (hI.put 0 (by decide) _ rfl _ rfl hI.1)
        refine StepsL.cons 2 rfl ?_ ?_
        · intro d a w' hI hd hdep K hK
          have f26 : a.tmps[26]? = some (.agg #[.int .i64 k1, .int .i64 n1, .string s1]) := hI.slot 0 (by decide) (hdep ⟨0, .data⟩ (by simp) (by rfl))
          have h26 := eval_slot f26
          go_simp
          go_at_call 24
          refine (vtext_b k1 n1 s1 ta _ TA).mono ?_
          rintro e w2 ⟨rfl, hb⟩
          go_wp2_with fail
          exact hK.out _ _ (hI.put 1 (by decide) _ rfl _ rfl (hI.1.trans (hb.mono hI.1.size)))
        refine StepsL.cons 3 rfl ?_ ?_
        · intro d a w' hI hd hdep K hK
          have f6 : a.tmps[6]? = some (.pointer (some ⟨w.heap.size + 1 + 1, 0, none⟩)) := hI.other 6 (by decide)
          have h6 := eval_slot f6
          obtain ⟨-, b0, b1, b2, b3, b4, b5, c0, c1, c2, d0, d1, d2, e0, e1, e2⟩ := keepO hI.1
          go_simp
          exact hK.out _ _ (hI.put 2 (by decide) _ rfl _ rfl hI.1)
        refine StepsL.cons 4 rfl ?_ ?_
        · intro d a w' hI hd hdep K hK
          have f28 : a.tmps[28]? = some (.agg #[.int .i64 k2, .int .i64 n2, .string s2]) := hI.slot 2 (by decide) (hdep ⟨2, .data⟩ (by simp) (by rfl))
          have h28 := eval_slot f28
          go_simp
          go_at_call 24
          refine (vtext_b k2 n2 s2 tb _ TB).mono ?_
          rintro e w2 ⟨rfl, hb⟩
          go_wp2_with fail
          exact hK.out _ _ (hI.put 3 (by decide) _ rfl _ rfl (hI.1.trans (hb.mono hI.1.size)))
        refine StepsL.cons 5 rfl ?_ ?_
        · intro d a w' hI hd hdep K hK
          have f27 : a.tmps[27]? = some (.bool ta) := hI.slot 1 (by decide) (hdep ⟨1, .data⟩ (by simp) (by rfl))
          have h27 := eval_slot f27
          have f29 : a.tmps[29]? = some (.bool tb) := hI.slot 3 (by decide) (hdep ⟨3, .data⟩ (by simp) (by rfl))
          have h29 := eval_slot f29
          go_simp
          exact hK.out _ _ (hI.put 4 (by decide) _ rfl _ rfl hI.1)
        refine StepsL.cons 6 rfl ?_ ?_
        · intro d a w' hI hd hdep K hK
          have f30 : a.tmps[30]? = some (.bool true) := hI.slot 4 (by decide) (hdep ⟨4, .data⟩ (by simp) (by rfl))
          have h30 := eval_slot f30
          go_simp
          exact hK.out _ _ (hI.put 5 (by decide) _ rfl _ rfl hI.1)
        refine StepsL.cons 7 rfl ?_ ?_
        · intro d a w' hI hd hdep K hK
          have f31 : a.tmps[31]? = some (.bool true) := hI.slot 5 (by decide) (hdep ⟨5, .guard⟩ (by simp) (by rfl))
          have h31 := eval_slot f31
          have f6 : a.tmps[6]? = some (.pointer (some ⟨w.heap.size + 1 + 1, 0, none⟩)) := hI.other 6 (by decide)
          have h6 := eval_slot f6
          obtain ⟨-, b0, b1, b2, b3, b4, b5, c0, c1, c2, d0, d1, d2, e0, e1, e2⟩ := keepO hI.1
          go_simp
          exact hK.out _ _ (hI.put 6 (by decide) _ rfl _ rfl hI.1)
        refine StepsL.cons 8 rfl ?_ ?_
        · intro d a w' hI hd hdep K hK
          have f31 : a.tmps[31]? = some (.bool true) := hI.slot 5 (by decide) (hdep ⟨5, .guard⟩ (by simp) (by rfl))
          have h31 := eval_slot f31
          have f32 : a.tmps[32]? = some (.agg #[.int .i64 k2, .int .i64 n2, .string s2]) := hI.slot 6 (by decide) (hdep ⟨6, .data⟩ (by simp) (by rfl))
          have h32 := eval_slot f32
          go_simp
          go_at_call 24
          refine (vtext_b k2 n2 s2 tb _ TB).mono ?_
          rintro e w2 ⟨rfl, hb⟩
          go_wp2_with fail
          exact hK.out _ _ (hI.put 7 (by decide) _ rfl _ rfl (hI.1.trans (hb.mono hI.1.size)))
        refine StepsL.cons 9 rfl ?_ ?_
        · intro d a w' hI hd hdep K hK
          have f31 : a.tmps[31]? = some (.bool true) := hI.slot 5 (by decide) (hdep ⟨5, .guard⟩ (by simp) (by rfl))
          have h31 := eval_slot f31
          have f7 : a.tmps[7]? = some (.pointer (some ⟨w.heap.size + 1 + 1 + 1, 0, none⟩)) := hI.other 7 (by decide)
          have h7 := eval_slot f7
          obtain ⟨-, b0, b1, b2, b3, b4, b5, c0, c1, c2, d0, d1, d2, e0, e1, e2⟩ := keepO hI.1
          go_simp
          exact hK.out _ _ (hI.put 8 (by decide) _ rfl _ rfl hI.1)
        refine StepsL.cons 10 rfl ?_ ?_
        · intro d a w' hI hd hdep K hK
          have f31 : a.tmps[31]? = some (.bool true) := hI.slot 5 (by decide) (hdep ⟨5, .guard⟩ (by simp) (by rfl))
          have h31 := eval_slot f31
          have f34 : a.tmps[34]? = some (.agg #[.int .i64 k3, .int .i64 n3, .string s3]) := hI.slot 8 (by decide) (hdep ⟨8, .data⟩ (by simp) (by rfl))
          have h34 := eval_slot f34
          go_simp
          go_at_call 24
          refine (vtext_b k3 n3 s3 tc _ TC).mono ?_
          rintro e w2 ⟨rfl, hb⟩
          go_wp2_with fail
          exact hK.out _ _ (hI.put 9 (by decide) _ rfl _ rfl (hI.1.trans (hb.mono hI.1.size)))
        refine StepsL.cons 11 rfl ?_ ?_
        · intro d a w' hI hd hdep K hK
          have f31 : a.tmps[31]? = some (.bool true) := hI.slot 5 (by decide) (hdep ⟨5, .guard⟩ (by simp) (by rfl))
          have h31 := eval_slot f31
          have f33 : a.tmps[33]? = some (.bool tb) := hI.slot 7 (by decide) (hdep ⟨7, .data⟩ (by simp) (by rfl))
          have h33 := eval_slot f33
          have f35 : a.tmps[35]? = some (.bool tc) := hI.slot 9 (by decide) (hdep ⟨9, .data⟩ (by simp) (by rfl))
          have h35 := eval_slot f35
          go_simp
          exact hK.out _ _ (hI.put 10 (by decide) _ rfl _ rfl hI.1)
        refine StepsL.cons 12 rfl ?_ ?_
        · intro d a w' hI hd hdep K hK
          have f31 : a.tmps[31]? = some (.bool true) := hI.slot 5 (by decide) (hdep ⟨5, .data⟩ (by simp) (by rfl))
          have h31 := eval_slot f31
          have f36 : a.tmps[36]? = some (.bool true) := hI.slot 10 (by decide) (hdep ⟨10, .data⟩ (by simp) (by rfl))
          have h36 := eval_slot f36
          go_simp
          exact hK.out _ _ (hI.put 11 (by decide) _ rfl _ rfl hI.1)
        refine StepsL.cons 13 rfl ?_ ?_
        · intro d a w' hI hd hdep K hK
          have f37 : a.tmps[37]? = some (.bool true) := hI.slot 11 (by decide) (hdep ⟨11, .data⟩ (by simp) (by rfl))
          have h37 := eval_slot f37
          go_simp
          exact hK.out _ _ (hI.put 12 (by decide) _ rfl _ rfl hI.1)
        refine StepsL.cons 14 rfl ?_ ?_
        · intro d a w' hI hd hdep K hK
          have f38 : a.tmps[38]? = some (.bool true) := hI.slot 12 (by decide) (hdep ⟨12, .guard⟩ (by simp) (by rfl))
          have h38 := eval_slot f38
          have f9 : a.tmps[9]? = some (.int .i64 X) := hI.other 9 (by decide)
          have h9 := eval_slot f9
          go_simp
          exact hK.out _ _ (hI.put 13 (by decide) _ rfl _ rfl hI.1)
        refine StepsL.cons 15 rfl ?_ ?_
        · intro d a w' hI hd hdep K hK
          have f38 : a.tmps[38]? = some (.bool true) := hI.slot 12 (by decide) (hdep ⟨12, .guard⟩ (by simp) (by rfl))
          have h38 := eval_slot f38
          have f39 : a.tmps[39]? = some (.int .i64 X) := hI.slot 13 (by decide) (hdep ⟨13, .data⟩ (by simp) (by rfl))
          have h39 := eval_slot f39
          go_simp
          exact hK.out _ _ (hI.put 14 (by decide) _ rfl _ rfl hI.1)
        refine StepsL.cons 16 rfl ?_ ?_
        · intro d a w' hI hd hdep K hK
          have f38 : a.tmps[38]? = some (.bool true) := hI.slot 12 (by decide) (hdep ⟨12, .data⟩ (by simp) (by rfl))
          have h38 := eval_slot f38
          have f40 : a.tmps[40]? = some (.bool false) := hI.slot 14 (by decide) (hdep ⟨14, .data⟩ (by simp) (by rfl))
          have h40 := eval_slot f40
          go_simp
          exact hK.out _ _ (hI.put 15 (by decide) _ rfl _ rfl hI.1)
        refine StepsL.cons 17 rfl ?_ ?_
        · intro d a w' hI hd hdep K hK
          have f41 : a.tmps[41]? = some (.bool false) := hI.slot 15 (by decide) (hdep ⟨15, .data⟩ (by simp) (by rfl))
          have h41 := eval_slot f41
          go_simp
          exact hK.out _ _ (hI.put 16 (by decide) _ rfl _ rfl hI.1)
        refine StepsL.cons 18 rfl ?_ ?_
        · intro d a w' hI hd hdep K hK
          have f42 : a.tmps[42]? = some (.bool false) := hI.slot 16 (by decide) (hdep ⟨16, .guard⟩ (by simp) (by rfl))
          have h42 := eval_slot f42
          go_simp
          exact hK.out _ _ (hI.put 17 (by decide) _ rfl _ rfl hI.1)
        refine StepsL.cons 19 rfl ?_ ?_
        · intro d a w' hI hd hdep K hK
          have f42 : a.tmps[42]? = some (.bool false) := hI.slot 16 (by decide) (hdep ⟨16, .guard⟩ (by simp) (by rfl))
          have h42 := eval_slot f42
          go_simp
          exact hK.out _ _ (hI.put 18 (by decide) _ rfl _ rfl hI.1)
        refine StepsL.cons 20 rfl ?_ ?_
        · intro d a w' hI hd hdep K hK
          have f42 : a.tmps[42]? = some (.bool false) := hI.slot 16 (by decide) (hdep ⟨16, .data⟩ (by simp) (by rfl))
          have h42 := eval_slot f42
          have f44 : a.tmps[44]? = some (undef) := hI.slot 18 (by decide) (hdep ⟨18, .data⟩ (by simp) (by rfl))
          have h44 := eval_slot f44
          go_simp
          exact hK.out _ _ (hI.put 19 (by decide) _ rfl _ rfl hI.1)
        refine StepsL.cons 21 rfl ?_ ?_
        · intro d a w' hI hd hdep K hK
          have f45 : a.tmps[45]? = some (.bool false) := hI.slot 19 (by decide) (hdep ⟨19, .data⟩ (by simp) (by rfl))
          have h45 := eval_slot f45
          go_simp
          exact hK.out _ _ (hI.put 20 (by decide) _ rfl _ rfl hI.1)
        refine StepsL.cons 22 rfl ?_ ?_
        · intro d a w' hI hd hdep K hK
          have f46 : a.tmps[46]? = some (.bool false) := hI.slot 20 (by decide) (hdep ⟨20, .guard⟩ (by simp) (by rfl))
          have h46 := eval_slot f46
          go_simp
          exact hK.out _ _ (hI.put 21 (by decide) _ rfl _ rfl hI.1)
        refine StepsL.cons 23 rfl ?_ ?_
        · intro d a w' hI hd hdep K hK
          have f46 : a.tmps[46]? = some (.bool false) := hI.slot 20 (by decide) (hdep ⟨20, .guard⟩ (by simp) (by rfl))
          have h46 := eval_slot f46
          go_simp
          exact hK.out _ _ (hI.put 22 (by decide) _ rfl _ rfl hI.1)
        refine StepsL.cons 24 rfl ?_ ?_
        · intro d a w' hI hd hdep K hK
          have f46 : a.tmps[46]? = some (.bool false) := hI.slot 20 (by decide) (hdep ⟨20, .guard⟩ (by simp) (by rfl))
          have h46 := eval_slot f46
          go_simp
          exact hK.out _ _ (hI.put 23 (by decide) _ rfl _ rfl hI.1)
        refine StepsL.cons 25 rfl ?_ ?_
        · intro d a w' hI hd hdep K hK
          have f49 : a.tmps[49]? = some (undef) := hI.slot 23 (by decide) (hdep ⟨23, .guard⟩ (by simp) (by rfl))
          have h49 := eval_slot f49
          go_simp
          exact hK.out _ _ (hI.put 24 (by decide) _ rfl _ rfl hI.1)
        refine StepsL.cons 26 rfl ?_ ?_
        · intro d a w' hI hd hdep K hK
          have f49 : a.tmps[49]? = some (undef) := hI.slot 23 (by decide) (hdep ⟨23, .guard⟩ (by simp) (by rfl))
          have h49 := eval_slot f49
          go_simp
          exact hK.out _ _ (hI.put 25 (by decide) _ rfl _ rfl hI.1)
        refine StepsL.cons 27 rfl ?_ ?_
        · intro d a w' hI hd hdep K hK
          have f49 : a.tmps[49]? = some (undef) := hI.slot 23 (by decide) (hdep ⟨23, .guard⟩ (by simp) (by rfl))
          have h49 := eval_slot f49
          go_simp
          exact hK.out _ _ (hI.put 26 (by decide) _ rfl _ rfl hI.1)
        refine StepsL.cons 28 rfl ?_ ?_
        · intro d a w' hI hd hdep K hK
          have f52 : a.tmps[52]? = some (undef) := hI.slot 26 (by decide) (hdep ⟨26, .guard⟩ (by simp) (by rfl))
          have h52 := eval_slot f52
          go_simp
          exact hK.out _ _ (hI.put 27 (by decide) _ rfl _ rfl hI.1)
        refine StepsL.cons 29 rfl ?_ ?_
        · intro d a w' hI hd hdep K hK
          have f52 : a.tmps[52]? = some (undef) := hI.slot 26 (by decide) (hdep ⟨26, .guard⟩ (by simp) (by rfl))
          have h52 := eval_slot f52
          go_simp
          exact hK.out _ _ (hI.put 28 (by decide) _ rfl _ rfl hI.1)
        refine StepsL.cons 30 rfl ?_ ?_
        · intro d a w' hI hd hdep K hK
          have f52 : a.tmps[52]? = some (undef) := hI.slot 26 (by decide) (hdep ⟨26, .guard⟩ (by simp) (by rfl))
          have h52 := eval_slot f52
          go_simp
          exact hK.out _ _ (hI.put 29 (by decide) _ rfl _ rfl hI.1)
        refine StepsL.cons 31 rfl ?_ ?_
        · intro d a w' hI hd hdep K hK
          have f55 : a.tmps[55]? = some (undef) := hI.slot 29 (by decide) (hdep ⟨29, .guard⟩ (by simp) (by rfl))
          have h55 := eval_slot f55
          go_simp
          exact hK.out _ _ (hI.put 30 (by decide) _ rfl _ rfl hI.1)
        refine StepsL.cons 32 rfl ?_ ?_
        · intro d a w' hI hd hdep K hK
          have f55 : a.tmps[55]? = some (undef) := hI.slot 29 (by decide) (hdep ⟨29, .guard⟩ (by simp) (by rfl))
          have h55 := eval_slot f55
          go_simp
          exact hK.out _ _ (hI.put 31 (by decide) _ rfl _ rfl hI.1)
        refine StepsL.cons 33 rfl ?_ ?_
        · intro d a w' hI hd hdep K hK
          have f52 : a.tmps[52]? = some (undef) := hI.slot 26 (by decide) (hdep ⟨26, .guard⟩ (by simp) (by rfl))
          have h52 := eval_slot f52
          go_simp
          exact hK.out _ _ (hI.put 32 (by decide) _ rfl _ rfl hI.1)
        refine StepsL.cons 34 rfl ?_ ?_
        · intro d a w' hI hd hdep K hK
          have f49 : a.tmps[49]? = some (undef) := hI.slot 23 (by decide) (hdep ⟨23, .guard⟩ (by simp) (by rfl))
          have h49 := eval_slot f49
          go_simp
          exact hK.out _ _ (hI.put 33 (by decide) _ rfl _ rfl hI.1)
        refine StepsL.cons 35 rfl ?_ ?_
        · intro d a w' hI hd hdep K hK
          have f46 : a.tmps[46]? = some (.bool false) := hI.slot 20 (by decide) (hdep ⟨20, .guard⟩ (by simp) (by rfl))
          have h46 := eval_slot f46
          go_simp
          exact hK.out _ _ (hI.put 34 (by decide) _ rfl _ rfl hI.1)
        refine StepsL.cons 36 rfl ?_ ?_
        · intro d a w' hI hd hdep K hK
          have f46 : a.tmps[46]? = some (.bool false) := hI.slot 20 (by decide) (hdep ⟨20, .data⟩ (by simp) (by rfl))
          have h46 := eval_slot f46
          have f60 : a.tmps[60]? = some (undef) := hI.slot 34 (by decide) (hdep ⟨34, .data⟩ (by simp) (by rfl))
          have h60 := eval_slot f60
          go_simp
          exact hK.out _ _ (hI.put 35 (by decide) _ rfl _ rfl hI.1)
        exact StepsL.nil
      · intro d a w2 hI hall
        obtain ⟨SB2, rfl⟩ := hI.done hall
        simp only [putR, Act.put, List.setIfInBounds_toArray, List.set_cons_zero, List.set_cons_succ, Nat.reduceAdd]
        go_wp2_with fail
        go_meet
        case rel => exact ⟨rfl, Lib.hid SB2⟩
    · refine wp_region_inv (DetI (fun w' => Below ((((w.alloc (.cells #[.string n, v1, .string lo, .string up, v4, v5] 41)).alloc (.cells #[.int .i64 k1, .int .i64 n1, .string s1] 24)).alloc (.cells #[.int .i64 k2, .int .i64 n2, .string s2] 24)).alloc (.cells #[.int .i64 k3, .int .i64 n3, .string s3] 24)).heap.size ((((w.alloc (.cells #[.string n, v1, .string lo, .string up, v4, v5] 41)).alloc (.cells #[.int .i64 k1, .int .i64 n1, .string s1] 24)).alloc (.cells #[.int .i64 k2, .int .i64 n2, .string s2] 24)).alloc (.cells #[.int .i64 k3, .int .i64 n3, .string s3] 24)) w') 26 36 (fun i => ([.agg #[.int .i64 k1, .int .i64 n1, .string s1], .bool ta, .agg #[.int .i64 k2, .int .i64 n2, .string s2], .bool tb, .bool true, .bool true, .agg #[.int .i64 k2, .int .i64 n2, .string s2], .bool tb, .agg #[.int .i64 k3, .int .i64 n3, .string s3], .bool tc, .bool true, .bool true, .bool true, .int .i64 X, .bool true, .bool true, .bool true, .int .i64 Y, .bool false, .bool false, .bool false, undef, undef, undef, undef, undef, undef, undef, undef, undef, undef, undef, undef, undef, undef, .bool false] : List Value).getD i undef)) (by kernel_rfl) (by kernel_rfl) ?_ ?_ ?_
      · exact DetI.start SB.out.drew (by show 26 + 36 ≤ 100; decide)
      · refine StepsL.cons 1 rfl ?_ ?_
        · intro d a w' hI hd hdep K hK
          have f5 : a.tmps[5]? = some (.pointer (some ⟨w.heap.size + 1, 0, none⟩)) := hI.other 5 (by decide)
          have h5 := eval_slot f5
          obtain ⟨-, b0, b1, b2, b3, b4, b5, c0, c1, c2, d0, d1, d2, e0, e1, e2⟩ := keepO hI.1
          go_simp
          exact hK.out _ _ (hI.put 0 (by decide) _ rfl _ rfl hI.1)
        refine StepsL.cons 2 rfl ?_ ?_
        · intro d a w' hI hd hdep K hK
          have f26 : a.tmps[26]? = some (.agg #[.int .i64 k1, .int .i64 n1, .string s1]) := hI.slot 0 (by decide) (hdep ⟨0, .data⟩ (by simp) (by rfl))
          have h26 := eval_slot f26
          go_simp
          go_at_call 24
          refine (vtext_b k1 n1 s1 ta _ TA).mono ?_
          rintro e w2 ⟨rfl, hb⟩
          go_wp2_with fail
          exact hK.out _ _ (hI.put 1 (by decide) _ rfl _ rfl (hI.1.trans (hb.mono hI.1.size)))
        refine StepsL.cons 3 rfl ?_ ?_
        · intro d a w' hI hd hdep K hK
          have f6 : a.tmps[6]? = some (.pointer (some ⟨w.heap.size + 1 + 1, 0, none⟩)) := hI.other 6 (by decide)
          have h6 := eval_slot f6
          obtain ⟨-, b0, b1, b2, b3, b4, b5, c0, c1, c2, d0, d1, d2, e0, e1, e2⟩ := keepO hI.1
          go_simp
          exact hK.out _ _ (hI.put 2 (by decide) _ rfl _ rfl hI.1)
        refine StepsL.cons 4 rfl ?_ ?_
        · intro d a w' hI hd hdep K hK
          have f28 : a.tmps[28]? = some (.agg #[.int .i64 k2, .int .i64 n2, .string s2]) := hI.slot 2 (by decide) (hdep ⟨2, .data⟩ (by simp) (by rfl))
          have h28 := eval_slot f28
          go_simp
          go_at_call 24
          refine (vtext_b k2 n2 s2 tb _ TB).mono ?_
          rintro e w2 ⟨rfl, hb⟩
          go_wp2_with fail
          exact hK.out _ _ (hI.put 3 (by decide) _ rfl _ rfl (hI.1.trans (hb.mono hI.1.size)))
        refine StepsL.cons 5 rfl ?_ ?_
        · intro d a w' hI hd hdep K hK
          have f27 : a.tmps[27]? = some (.bool ta) := hI.slot 1 (by decide) (hdep ⟨1, .data⟩ (by simp) (by rfl))
          have h27 := eval_slot f27
          have f29 : a.tmps[29]? = some (.bool tb) := hI.slot 3 (by decide) (hdep ⟨3, .data⟩ (by simp) (by rfl))
          have h29 := eval_slot f29
          go_simp
          exact hK.out _ _ (hI.put 4 (by decide) _ rfl _ rfl hI.1)
        refine StepsL.cons 6 rfl ?_ ?_
        · intro d a w' hI hd hdep K hK
          have f30 : a.tmps[30]? = some (.bool true) := hI.slot 4 (by decide) (hdep ⟨4, .data⟩ (by simp) (by rfl))
          have h30 := eval_slot f30
          go_simp
          exact hK.out _ _ (hI.put 5 (by decide) _ rfl _ rfl hI.1)
        refine StepsL.cons 7 rfl ?_ ?_
        · intro d a w' hI hd hdep K hK
          have f31 : a.tmps[31]? = some (.bool true) := hI.slot 5 (by decide) (hdep ⟨5, .guard⟩ (by simp) (by rfl))
          have h31 := eval_slot f31
          have f6 : a.tmps[6]? = some (.pointer (some ⟨w.heap.size + 1 + 1, 0, none⟩)) := hI.other 6 (by decide)
          have h6 := eval_slot f6
          obtain ⟨-, b0, b1, b2, b3, b4, b5, c0, c1, c2, d0, d1, d2, e0, e1, e2⟩ := keepO hI.1
          go_simp
          exact hK.out _ _ (hI.put 6 (by decide) _ rfl _ rfl hI.1)
        refine StepsL.cons 8 rfl ?_ ?_
        · intro d a w' hI hd hdep K hK
          have f31 : a.tmps[31]? = some (.bool true) := hI.slot 5 (by decide) (hdep ⟨5, .guard⟩ (by simp) (by rfl))
          have h31 := eval_slot f31
          have f32 : a.tmps[32]? = some (.agg #[.int .i64 k2, .int .i64 n2, .string s2]) := hI.slot 6 (by decide) (hdep ⟨6, .data⟩ (by simp) (by rfl))
          have h32 := eval_slot f32
          go_simp
          go_at_call 24
          refine (vtext_b k2 n2 s2 tb _ TB).mono ?_
          rintro e w2 ⟨rfl, hb⟩
          go_wp2_with fail
          exact hK.out _ _ (hI.put 7 (by decide) _ rfl _ rfl (hI.1.trans (hb.mono hI.1.size)))
        refine StepsL.cons 9 rfl ?_ ?_
        · intro d a w' hI hd hdep K hK
          have f31 : a.tmps[31]? = some (.bool true) := hI.slot 5 (by decide) (hdep ⟨5, .guard⟩ (by simp) (by rfl))
          have h31 := eval_slot f31
          have f7 : a.tmps[7]? = some (.pointer (some ⟨w.heap.size + 1 + 1 + 1, 0, none⟩)) := hI.other 7 (by decide)
          have h7 := eval_slot f7
          obtain ⟨-, b0, b1, b2, b3, b4, b5, c0, c1, c2, d0, d1, d2, e0, e1, e2⟩ := keepO hI.1
          go_simp
          exact hK.out _ _ (hI.put 8 (by decide) _ rfl _ rfl hI.1)
        refine StepsL.cons 10 rfl ?_ ?_
        · intro d a w' hI hd hdep K hK
          have f31 : a.tmps[31]? = some (.bool true) := hI.slot 5 (by decide) (hdep ⟨5, .guard⟩ (by simp) (by rfl))
          have h31 := eval_slot f31
          have f34 : a.tmps[34]? = some (.agg #[.int .i64 k3, .int .i64 n3, .string s3]) := hI.slot 8 (by decide) (hdep ⟨8, .data⟩ (by simp) (by rfl))
          have h34 := eval_slot f34
          go_simp
          go_at_call 24
          refine (vtext_b k3 n3 s3 tc _ TC).mono ?_
          rintro e w2 ⟨rfl, hb⟩
          go_wp2_with fail
          exact hK.out _ _ (hI.put 9 (by decide) _ rfl _ rfl (hI.1.trans (hb.mono hI.1.size)))
        refine StepsL.cons 11 rfl ?_ ?_
        · intro d a w' hI hd hdep K hK
          have f31 : a.tmps[31]? = some (.bool true) := hI.slot 5 (by decide) (hdep ⟨5, .guard⟩ (by simp) (by rfl))
          have h31 := eval_slot f31
          have f33 : a.tmps[33]? = some (.bool tb) := hI.slot 7 (by decide) (hdep ⟨7, .data⟩ (by simp) (by rfl))
          have h33 := eval_slot f33
          have f35 : a.tmps[35]? = some (.bool tc) := hI.slot 9 (by decide) (hdep ⟨9, .data⟩ (by simp) (by rfl))
          have h35 := eval_slot f35
          go_simp
          exact hK.out _ _ (hI.put 10 (by decide) _ rfl _ rfl hI.1)
        refine StepsL.cons 12 rfl ?_ ?_
        · intro d a w' hI hd hdep K hK
          have f31 : a.tmps[31]? = some (.bool true) := hI.slot 5 (by decide) (hdep ⟨5, .data⟩ (by simp) (by rfl))
          have h31 := eval_slot f31
          have f36 : a.tmps[36]? = some (.bool true) := hI.slot 10 (by decide) (hdep ⟨10, .data⟩ (by simp) (by rfl))
          have h36 := eval_slot f36
          go_simp
          exact hK.out _ _ (hI.put 11 (by decide) _ rfl _ rfl hI.1)
        refine StepsL.cons 13 rfl ?_ ?_
        · intro d a w' hI hd hdep K hK
          have f37 : a.tmps[37]? = some (.bool true) := hI.slot 11 (by decide) (hdep ⟨11, .data⟩ (by simp) (by rfl))
          have h37 := eval_slot f37
          go_simp
          exact hK.out _ _ (hI.put 12 (by decide) _ rfl _ rfl hI.1)
        refine StepsL.cons 14 rfl ?_ ?_
        · intro d a w' hI hd hdep K hK
          have f38 : a.tmps[38]? = some (.bool true) := hI.slot 12 (by decide) (hdep ⟨12, .guard⟩ (by simp) (by rfl))
          have h38 := eval_slot f38
          have f9 : a.tmps[9]? = some (.int .i64 X) := hI.other 9 (by decide)
          have h9 := eval_slot f9
          go_simp
          exact hK.out _ _ (hI.put 13 (by decide) _ rfl _ rfl hI.1)
        refine StepsL.cons 15 rfl ?_ ?_
        · intro d a w' hI hd hdep K hK
          have f38 : a.tmps[38]? = some (.bool true) := hI.slot 12 (by decide) (hdep ⟨12, .guard⟩ (by simp) (by rfl))
          have h38 := eval_slot f38
          have f39 : a.tmps[39]? = some (.int .i64 X) := hI.slot 13 (by decide) (hdep ⟨13, .data⟩ (by simp) (by rfl))
          have h39 := eval_slot f39
          go_simp
          exact hK.out _ _ (hI.put 14 (by decide) _ rfl _ rfl hI.1)
        refine StepsL.cons 16 rfl ?_ ?_
        · intro d a w' hI hd hdep K hK
          have f38 : a.tmps[38]? = some (.bool true) := hI.slot 12 (by decide) (hdep ⟨12, .data⟩ (by simp) (by rfl))
          have h38 := eval_slot f38
          have f40 : a.tmps[40]? = some (.bool true) := hI.slot 14 (by decide) (hdep ⟨14, .data⟩ (by simp) (by rfl))
          have h40 := eval_slot f40
          go_simp
          exact hK.out _ _ (hI.put 15 (by decide) _ rfl _ rfl hI.1)
        refine StepsL.cons 17 rfl ?_ ?_
        · intro d a w' hI hd hdep K hK
          have f41 : a.tmps[41]? = some (.bool true) := hI.slot 15 (by decide) (hdep ⟨15, .data⟩ (by simp) (by rfl))
          have h41 := eval_slot f41
          go_simp
          exact hK.out _ _ (hI.put 16 (by decide) _ rfl _ rfl hI.1)
        refine StepsL.cons 18 rfl ?_ ?_
        · intro d a w' hI hd hdep K hK
          have f42 : a.tmps[42]? = some (.bool true) := hI.slot 16 (by decide) (hdep ⟨16, .guard⟩ (by simp) (by rfl))
          have h42 := eval_slot f42
          have f10 : a.tmps[10]? = some (.int .i64 Y) := hI.other 10 (by decide)
          have h10 := eval_slot f10
          go_simp
          exact hK.out _ _ (hI.put 17 (by decide) _ rfl _ rfl hI.1)
        refine StepsL.cons 19 rfl ?_ ?_
        · intro d a w' hI hd hdep K hK
          have f42 : a.tmps[42]? = some (.bool true) := hI.slot 16 (by decide) (hdep ⟨16, .guard⟩ (by simp) (by rfl))
          have h42 := eval_slot f42
          have f43 : a.tmps[43]? = some (.int .i64 Y) := hI.slot 17 (by decide) (hdep ⟨17, .data⟩ (by simp) (by rfl))
          have h43 := eval_slot f43
          go_simp
          exact hK.out _ _ (hI.put 18 (by decide) _ rfl _ rfl hI.1)
        refine StepsL.cons 20 rfl ?_ ?_
        · intro d a w' hI hd hdep K hK
          have f42 : a.tmps[42]? = some (.bool true) := hI.slot 16 (by decide) (hdep ⟨16, .data⟩ (by simp) (by rfl))
          have h42 := eval_slot f42
          have f44 : a.tmps[44]? = some (.bool false) := hI.slot 18 (by decide) (hdep ⟨18, .data⟩ (by simp) (by rfl))
          have h44 := eval_slot f44
          go_simp
          exact hK.out _ _ (hI.put 19 (by decide) _ rfl _ rfl hI.1)
        refine StepsL.cons 21 rfl ?_ ?_
        · intro d a w' hI hd hdep K hK
          have f45 : a.tmps[45]? = some (.bool false) := hI.slot 19 (by decide) (hdep ⟨19, .data⟩ (by simp) (by rfl))
          have h45 := eval_slot f45
          go_simp
          exact hK.out _ _ (hI.put 20 (by decide) _ rfl _ rfl hI.1)
        refine StepsL.cons 22 rfl ?_ ?_
        · intro d a w' hI hd hdep K hK
          have f46 : a.tmps[46]? = some (.bool false) := hI.slot 20 (by decide) (hdep ⟨20, .guard⟩ (by simp) (by rfl))
          have h46 := eval_slot f46
          go_simp
          exact hK.out _ _ (hI.put 21 (by decide) _ rfl _ rfl hI.1)
        refine StepsL.cons 23 rfl ?_ ?_
        · intro d a w' hI hd hdep K hK
          have f46 : a.tmps[46]? = some (.bool false) := hI.slot 20 (by decide) (hdep ⟨20, .guard⟩ (by simp) (by rfl))
          have h46 := eval_slot f46
          go_simp
          exact hK.out _ _ (hI.put 22 (by decide) _ rfl _ rfl hI.1)
        refine StepsL.cons 24 rfl ?_ ?_
        · intro d a w' hI hd hdep K hK
          have f46 : a.tmps[46]? = some (.bool false) := hI.slot 20 (by decide) (hdep ⟨20, .guard⟩ (by simp) (by rfl))
          have h46 := eval_slot f46
          go_simp
          exact hK.out _ _ (hI.put 23 (by decide) _ rfl _ rfl hI.1)
        refine StepsL.cons 25 rfl ?_ ?_
        · intro d a w' hI hd hdep K hK
          have f49 : a.tmps[49]? = some (undef) := hI.slot 23 (by decide) (hdep ⟨23, .guard⟩ (by simp) (by rfl))
          have h49 := eval_slot f49
          go_simp
          exact hK.out _ _ (hI.put 24 (by decide) _ rfl _ rfl hI.1)
        refine StepsL.cons 26 rfl ?_ ?_
        · intro d a w' hI hd hdep K hK
          have f49 : a.tmps[49]? = some (undef) := hI.slot 23 (by decide) (hdep ⟨23, .guard⟩ (by simp) (by rfl))
          have h49 := eval_slot f49
          go_simp
          exact hK.out _ _ (hI.put 25 (by decide) _ rfl _ rfl hI.1)
        refine StepsL.cons 27 rfl ?_ ?_
        · intro d a w' hI hd hdep K hK
          have f49 : a.tmps[49]? = some (undef) := hI.slot 23 (by decide) (hdep ⟨23, .guard⟩ (by simp) (by rfl))
          have h49 := eval_slot f49
          go_simp
          exact hK.out _ _ (hI.put 26 (by decide) _ rfl _ rfl hI.1)
        refine StepsL.cons 28 rfl ?_ ?_
        · intro d a w' hI hd hdep K hK
          have f52 : a.tmps[52]? = some (undef) := hI.slot 26 (by decide) (hdep ⟨26, .guard⟩ (by simp) (by rfl))
          have h52 := eval_slot f52
          go_simp
          exact hK.out _ _ (hI.put 27 (by decide) _ rfl _ rfl hI.1)
        refine StepsL.cons 29 rfl ?_ ?_
        · intro d a w' hI hd hdep K hK
          have f52 : a.tmps[52]? = some (undef) := hI.slot 26 (by decide) (hdep ⟨26, .guard⟩ (by simp) (by rfl))
          have h52 := eval_slot f52
          go_simp
          exact hK.out _ _ (hI.put 28 (by decide) _ rfl _ rfl hI.1)
        refine StepsL.cons 30 rfl ?_ ?_
        · intro d a w' hI hd hdep K hK
          have f52 : a.tmps[52]? = some (undef) := hI.slot 26 (by decide) (hdep ⟨26, .guard⟩ (by simp) (by rfl))
          have h52 := eval_slot f52
          go_simp
          exact hK.out _ _ (hI.put 29 (by decide) _ rfl _ rfl hI.1)
        refine StepsL.cons 31 rfl ?_ ?_
        · intro d a w' hI hd hdep K hK
          have f55 : a.tmps[55]? = some (undef) := hI.slot 29 (by decide) (hdep ⟨29, .guard⟩ (by simp) (by rfl))
          have h55 := eval_slot f55
          go_simp
          exact hK.out _ _ (hI.put 30 (by decide) _ rfl _ rfl hI.1)
        refine StepsL.cons 32 rfl ?_ ?_
        · intro d a w' hI hd hdep K hK
          have f55 : a.tmps[55]? = some (undef) := hI.slot 29 (by decide) (hdep ⟨29, .guard⟩ (by simp) (by rfl))
          have h55 := eval_slot f55
          go_simp
          exact hK.out _ _ (hI.put 31 (by decide) _ rfl _ rfl hI.1)
        refine StepsL.cons 33 rfl ?_ ?_
        · intro d a w' hI hd hdep K hK
          have f52 : a.tmps[52]? = some (undef) := hI.slot 26 (by decide) (hdep ⟨26, .guard⟩ (by simp) (by rfl))
          have h52 := eval_slot f52
          go_simp
          exact hK.out _ _ (hI.put 32 (by decide) _ rfl _ rfl hI.1)
        refine StepsL.cons 34 rfl ?_ ?_
        · intro d a w' hI hd hdep K hK
          have f49 : a.tmps[49]? = some (undef) := hI.slot 23 (by decide) (hdep ⟨23, .guard⟩ (by simp) (by rfl))
          have h49 := eval_slot f49
          go_simp
          exact hK.out _ _ (hI.put 33 (by decide) _ rfl _ rfl hI.1)
        refine StepsL.cons 35 rfl ?_ ?_
        · intro d a w' hI hd hdep K hK
          have f46 : a.tmps[46]? = some (.bool false) := hI.slot 20 (by decide) (hdep ⟨20, .guard⟩ (by simp) (by rfl))
          have h46 := eval_slot f46
          go_simp
          exact hK.out _ _ (hI.put 34 (by decide) _ rfl _ rfl hI.1)
        refine StepsL.cons 36 rfl ?_ ?_
        · intro d a w' hI hd hdep K hK
          have f46 : a.tmps[46]? = some (.bool false) := hI.slot 20 (by decide) (hdep ⟨20, .data⟩ (by simp) (by rfl))
          have h46 := eval_slot f46
          have f60 : a.tmps[60]? = some (undef) := hI.slot 34 (by decide) (hdep ⟨34, .data⟩ (by simp) (by rfl))
          have h60 := eval_slot f60
          go_simp
          exact hK.out _ _ (hI.put 35 (by decide) _ rfl _ rfl hI.1)
        exact StepsL.nil
      · intro d a w2 hI hall
        obtain ⟨SB2, rfl⟩ := hI.done hall
        simp only [putR, Act.put, List.setIfInBounds_toArray, List.set_cons_zero, List.set_cons_succ, Nat.reduceAdd]
        go_wp2_with fail
        go_meet
        case rel => exact ⟨rfl, Lib.hid SB2⟩
    · refine wp_region_inv (DetI (fun w' => Below ((((w.alloc (.cells #[.string n, v1, .string lo, .string up, v4, v5] 41)).alloc (.cells #[.int .i64 k1, .int .i64 n1, .string s1] 24)).alloc (.cells #[.int .i64 k2, .int .i64 n2, .string s2] 24)).alloc (.cells #[.int .i64 k3, .int .i64 n3, .string s3] 24)).heap.size ((((w.alloc (.cells #[.string n, v1, .string lo, .string up, v4, v5] 41)).alloc (.cells #[.int .i64 k1, .int .i64 n1, .string s1] 24)).alloc (.cells #[.int .i64 k2, .int .i64 n2, .string s2] 24)).alloc (.cells #[.int .i64 k3, .int .i64 n3, .string s3] 24)) w') 26 36 (fun i => ([.agg #[.int .i64 k1, .int .i64 n1, .string s1], .bool ta, .agg #[.int .i64 k2, .int .i64 n2, .string s2], .bool tb, .bool true, .bool true, .agg #[.int .i64 k2, .int .i64 n2, .string s2], .bool tb, .agg #[.int .i64 k3, .int .i64 n3, .string s3], .bool tc, .bool true, .bool true, .bool true, .int .i64 X, .bool true, .bool true, .bool true, .int .i64 Y, .bool true, .bool true, .bool true, .int .i64 Z, .bool false, .bool false, .int .i64 Z, .bool false, .bool false, undef, undef, undef, undef, undef, undef, .bool false, .bool false, .bool false] : List Value).getD i undef)) (by kernel_rfl) (by kernel_rfl) ?_ ?_ ?_
      · exact DetI.start SB.out.drew (by show 26 + 36 ≤ 100; decide)
      · refine StepsL.cons 1 rfl ?_ ?_
        · intro d a w' hI hd hdep K hK
          have f5 : a.tmps[5]? = some (.pointer (some ⟨w.heap.size + 1, 0, none⟩)) := hI.other 5 (by decide)
          have h5 := eval_slot f5
          obtain ⟨-, b0, b1, b2, b3, b4, b5, c0, c1, c2, d0, d1, d2, e0, e1, e2⟩ := keepO hI.1
          go_simp
          exact hK.out _ _ (hI.put 0 (by decide) _ rfl _ rfl hI.1)
        refine StepsL.cons 2 rfl ?_ ?_
        · intro d a w' hI hd hdep K hK
          have f26 : a.tmps[26]? = some (.agg #[.int .i64 k1, .int .i64 n1, .string s1]) := hI.slot 0 (by decide) (hdep ⟨0, .data⟩ (by simp) (by rfl))
          have h26 := eval_slot f26
          go_simp
          go_at_call 24
          refine (vtext_b k1 n1 s1 ta _ TA).mono ?_
          rintro e w2 ⟨rfl, hb⟩
          go_wp2_with fail
          exact hK.out _ _ (hI.put 1 (by decide) _ rfl _ rfl (hI.1.trans (hb.mono hI.1.size)))
        refine StepsL.cons 3 rfl ?_ ?_
        · intro d a w' hI hd hdep K hK
          have f6 : a.tmps[6]? = some (.pointer (some ⟨w.heap.size + 1 + 1, 0, none⟩)) := hI.other 6 (by decide)
          have h6 := eval_slot f6
          obtain ⟨-, b0, b1, b2, b3, b4, b5, c0, c1, c2, d0, d1, d2, e0, e1, e2⟩ := keepO hI.1
          go_simp
          exact hK.out _ _ (hI.put 2 (by decide) _ rfl _ rfl hI.1)
        refine StepsL.cons 4 rfl ?_ ?_
        · intro d a w' hI hd hdep K hK
          have f28 : a.tmps[28]? = some (.agg #[.int .i64 k2, .int .i64 n2, .string s2]) := hI.slot 2 (by decide) (hdep ⟨2, .data⟩ (by simp) (by rfl))
          have h28 := eval_slot f28
          go_simp
          go_at_call 24
          refine (vtext_b k2 n2 s2 tb _ TB).mono ?_
          rintro e w2 ⟨rfl, hb⟩
          go_wp2_with fail
          exact hK.out _ _ (hI.put 3 (by decide) _ rfl _ rfl (hI.1.trans (hb.mono hI.1.size)))
        refine StepsL.cons 5 rfl ?_ ?_
        · intro d a w' hI hd hdep K hK
          have f27 : a.tmps[27]? = some (.bool ta) := hI.slot 1 (by decide) (hdep ⟨1, .data⟩ (by simp) (by rfl))
          have h27 := eval_slot f27
          have f29 : a.tmps[29]? = some (.bool tb) := hI.slot 3 (by decide) (hdep ⟨3, .data⟩ (by simp) (by rfl))
          have h29 := eval_slot f29
          go_simp
          exact hK.out _ _ (hI.put 4 (by decide) _ rfl _ rfl hI.1)
        refine StepsL.cons 6 rfl ?_ ?_
        · intro d a w' hI hd hdep K hK
          have f30 : a.tmps[30]? = some (.bool true) := hI.slot 4 (by decide) (hdep ⟨4, .data⟩ (by simp) (by rfl))
          have h30 := eval_slot f30
          go_simp
          exact hK.out _ _ (hI.put 5 (by decide) _ rfl _ rfl hI.1)
        refine StepsL.cons 7 rfl ?_ ?_
        · intro d a w' hI hd hdep K hK
          have f31 : a.tmps[31]? = some (.bool true) := hI.slot 5 (by decide) (hdep ⟨5, .guard⟩ (by simp) (by rfl))
          have h31 := eval_slot f31
          have f6 : a.tmps[6]? = some (.pointer (some ⟨w.heap.size + 1 + 1, 0, none⟩)) := hI.other 6 (by decide)
          have h6 := eval_slot f6
          obtain ⟨-, b0, b1, b2, b3, b4, b5, c0, c1, c2, d0, d1, d2, e0, e1, e2⟩ := keepO hI.1
          go_simp
          exact hK.out _ _ (hI.put 6 (by decide) _ rfl _ rfl hI.1)
        refine StepsL.cons 8 rfl ?_ ?_
        · intro d a w' hI hd hdep K hK
          have f31 : a.tmps[31]? = some (.bool true) := hI.slot 5 (by decide) (hdep ⟨5, .guard⟩ (by simp) (by rfl))
          have h31 := eval_slot f31
          have f32 : a.tmps[32]? = some (.agg #[.int .i64 k2, .int .i64 n2, .string s2]) := hI.slot 6 (by decide) (hdep ⟨6, .data⟩ (by simp) (by rfl))
          have h32 := eval_slot f32
          go_simp
          go_at_call 24
          refine (vtext_b k2 n2 s2 tb _ TB).mono ?_
          rintro e w2 ⟨rfl, hb⟩
          go_wp2_with fail
          exact hK.out _ _ (hI.put 7 (by decide) _ rfl _ rfl (hI.1.trans (hb.mono hI.1.size)))
        refine StepsL.cons 9 rfl ?_ ?_
        · intro d a w' hI hd hdep K hK
          have f31 : a.tmps[31]? = some (.bool true) := hI.slot 5 (by decide) (hdep ⟨5, .guard⟩ (by simp) (by rfl))
          have h31 := eval_slot f31
          have f7 : a.tmps[7]? = some (.pointer (some ⟨w.heap.size + 1 + 1 + 1, 0, none⟩)) := hI.other 7 (by decide)
          have h7 := eval_slot f7
          obtain ⟨-, b0, b1, b2, b3, b4, b5, c0, c1, c2, d0, d1, d2, e0, e1, e2⟩ := keepO hI.1
          go_simp
          exact hK.out _ _ (hI.put 8 (by decide) _ rfl _ rfl hI.1)
        refine StepsL.cons 10 rfl ?_ ?_
        · intro d a w' hI hd hdep K hK
          have f31 : a.tmps[31]? = some (.bool true) := hI.slot 5 (by decide) (hdep ⟨5, .guard⟩ (by simp) (by rfl))
          have h31 := eval_slot f31
          have f34 : a.tmps[34]? = some (.agg #[.int .i64 k3, .int .i64 n3, .string s3]) := hI.slot 8 (by decide) (hdep ⟨8, .data⟩ (by simp) (by rfl))
          have h34 := eval_slot f34
          go_simp
          go_at_call 24
          refine (vtext_b k3 n3 s3 tc _ TC).mono ?_
          rintro e w2 ⟨rfl, hb⟩
          go_wp2_with fail
          exact hK.out _ _ (hI.put 9 (by decide) _ rfl _ rfl (hI.1.trans (hb.mono hI.1.size)))
        refine StepsL.cons 11 rfl ?_ ?_
        · intro d a w' hI hd hdep K hK
          have f31 : a.tmps[31]? = some (.bool true) := hI.slot 5 (by decide) (hdep ⟨5, .guard⟩ (by simp) (by rfl))
          have h31 := eval_slot f31
          have f33 : a.tmps[33]? = some (.bool tb) := hI.slot 7 (by decide) (hdep ⟨7, .data⟩ (by simp) (by rfl))
          have h33 := eval_slot f33
          have f35 : a.tmps[35]? = some (.bool tc) := hI.slot 9 (by decide) (hdep ⟨9, .data⟩ (by simp) (by rfl))
          have h35 := eval_slot f35
          go_simp
          exact hK.out _ _ (hI.put 10 (by decide) _ rfl _ rfl hI.1)
        refine StepsL.cons 12 rfl ?_ ?_
        · intro d a w' hI hd hdep K hK
          have f31 : a.tmps[31]? = some (.bool true) := hI.slot 5 (by decide) (hdep ⟨5, .data⟩ (by simp) (by rfl))
          have h31 := eval_slot f31
          have f36 : a.tmps[36]? = some (.bool true) := hI.slot 10 (by decide) (hdep ⟨10, .data⟩ (by simp) (by rfl))
          have h36 := eval_slot f36
          go_simp
          exact hK.out _ _ (hI.put 11 (by decide) _ rfl _ rfl hI.1)
        refine StepsL.cons 13 rfl ?_ ?_
        · intro d a w' hI hd hdep K hK
          have f37 : a.tmps[37]? = some (.bool true) := hI.slot 11 (by decide) (hdep ⟨11, .data⟩ (by simp) (by rfl))
          have h37 := eval_slot f37
          go_simp
          exact hK.out _ _ (hI.put 12 (by decide) _ rfl _ rfl hI.1)
        refine StepsL.cons 14 rfl ?_ ?_
        · intro d a w' hI hd hdep K hK
          have f38 : a.tmps[38]? = some (.bool true) := hI.slot 12 (by decide) (hdep ⟨12, .guard⟩ (by simp) (by rfl))
          have h38 := eval_slot f38
          have f9 : a.tmps[9]? = some (.int .i64 X) := hI.other 9 (by decide)
          have h9 := eval_slot f9
          go_simp
          exact hK.out _ _ (hI.put 13 (by decide) _ rfl _ rfl hI.1)
        refine StepsL.cons 15 rfl ?_ ?_
        · intro d a w' hI hd hdep K hK
          have f38 : a.tmps[38]? = some (.bool true) := hI.slot 12 (by decide) (hdep ⟨12, .guard⟩ (by simp) (by rfl))
          have h38 := eval_slot f38
          have f39 : a.tmps[39]? = some (.int .i64 X) := hI.slot 13 (by decide) (hdep ⟨13, .data⟩ (by simp) (by rfl))
          have h39 := eval_slot f39
          go_simp
          exact hK.out _ _ (hI.put 14 (by decide) _ rfl _ rfl hI.1)
        refine StepsL.cons 16 rfl ?_ ?_
        · intro d a w' hI hd hdep K hK
          have f38 : a.tmps[38]? = some (.bool true) := hI.slot 12 (by decide) (hdep ⟨12, .data⟩ (by simp) (by rfl))
          have h38 := eval_slot f38
          have f40 : a.tmps[40]? = some (.bool true) := hI.slot 14 (by decide) (hdep ⟨14, .data⟩ (by simp) (by rfl))
          have h40 := eval_slot f40
          go_simp
          exact hK.out _ _ (hI.put 15 (by decide) _ rfl _ rfl hI.1)
        refine StepsL.cons 17 rfl ?_ ?_
        · intro d a w' hI hd hdep K hK
          have f41 : a.tmps[41]? = some (.bool true) := hI.slot 15 (by decide) (hdep ⟨15, .data⟩ (by simp) (by rfl))
          have h41 := eval_slot f41
          go_simp
          exact hK.out _ _ (hI.put 16 (by decide) _ rfl _ rfl hI.1)
        refine StepsL.cons 18 rfl ?_ ?_
        · intro d a w' hI hd hdep K hK
          have f42 : a.tmps[42]? = some (.bool true) := hI.slot 16 (by decide) (hdep ⟨16, .guard⟩ (by simp) (by rfl))
          have h42 := eval_slot f42
          have f10 : a.tmps[10]? = some (.int .i64 Y) := hI.other 10 (by decide)
          have h10 := eval_slot f10
          go_simp
          exact hK.out _ _ (hI.put 17 (by decide) _ rfl _ rfl hI.1)
        refine StepsL.cons 19 rfl ?_ ?_
        · intro d a w' hI hd hdep K hK
          have f42 : a.tmps[42]? = some (.bool true) := hI.slot 16 (by decide) (hdep ⟨16, .guard⟩ (by simp) (by rfl))
          have h42 := eval_slot f42
          have f43 : a.tmps[43]? = some (.int .i64 Y) := hI.slot 17 (by decide) (hdep ⟨17, .data⟩ (by simp) (by rfl))
          have h43 := eval_slot f43
          go_simp
          exact hK.out _ _ (hI.put 18 (by decide) _ rfl _ rfl hI.1)
        refine StepsL.cons 20 rfl ?_ ?_
        · intro d a w' hI hd hdep K hK
          have f42 : a.tmps[42]? = some (.bool true) := hI.slot 16 (by decide) (hdep ⟨16, .data⟩ (by simp) (by rfl))
          have h42 := eval_slot f42
          have f44 : a.tmps[44]? = some (.bool true) := hI.slot 18 (by decide) (hdep ⟨18, .data⟩ (by simp) (by rfl))
          have h44 := eval_slot f44
          go_simp
          exact hK.out _ _ (hI.put 19 (by decide) _ rfl _ rfl hI.1)
        refine StepsL.cons 21 rfl ?_ ?_
        · intro d a w' hI hd hdep K hK
          have f45 : a.tmps[45]? = some (.bool true) := hI.slot 19 (by decide) (hdep ⟨19, .data⟩ (by simp) (by rfl))
          have h45 := eval_slot f45
          go_simp
          exact hK.out _ _ (hI.put 20 (by decide) _ rfl _ rfl hI.1)
        refine StepsL.cons 22 rfl ?_ ?_
        · intro d a w' hI hd hdep K hK
          have f46 : a.tmps[46]? = some (.bool true) := hI.slot 20 (by decide) (hdep ⟨20, .guard⟩ (by simp) (by rfl))
          have h46 := eval_slot f46
          have f11 : a.tmps[11]? = some (.int .i64 Z) := hI.other 11 (by decide)
          have h11 := eval_slot f11
          go_simp
          exact hK.out _ _ (hI.put 21 (by decide) _ rfl _ rfl hI.1)
        refine StepsL.cons 23 rfl ?_ ?_
        · intro d a w' hI hd hdep K hK
          have f46 : a.tmps[46]? = some (.bool true) := hI.slot 20 (by decide) (hdep ⟨20, .guard⟩ (by simp) (by rfl))
          have h46 := eval_slot f46
          have f47 : a.tmps[47]? = some (.int .i64 Z) := hI.slot 21 (by decide) (hdep ⟨21, .data⟩ (by simp) (by rfl))
          have h47 := eval_slot f47
          go_simp
          exact hK.out _ _ (hI.put 22 (by decide) _ rfl _ rfl hI.1)
        refine StepsL.cons 24 rfl ?_ ?_
        · intro d a w' hI hd hdep K hK
          have f46 : a.tmps[46]? = some (.bool true) := hI.slot 20 (by decide) (hdep ⟨20, .guard⟩ (by simp) (by rfl))
          have h46 := eval_slot f46
          have f48 : a.tmps[48]? = some (.bool false) := hI.slot 22 (by decide) (hdep ⟨22, .data⟩ (by simp) (by rfl))
          have h48 := eval_slot f48
          go_simp
          exact hK.out _ _ (hI.put 23 (by decide) _ rfl _ rfl hI.1)
        refine StepsL.cons 25 rfl ?_ ?_
        · intro d a w' hI hd hdep K hK
          have f49 : a.tmps[49]? = some (.bool false) := hI.slot 23 (by decide) (hdep ⟨23, .guard⟩ (by simp) (by rfl))
          have h49 := eval_slot f49
          have f11 : a.tmps[11]? = some (.int .i64 Z) := hI.other 11 (by decide)
          have h11 := eval_slot f11
          go_simp
          exact hK.out _ _ (hI.put 24 (by decide) _ rfl _ rfl hI.1)
        refine StepsL.cons 26 rfl ?_ ?_
        · intro d a w' hI hd hdep K hK
          have f49 : a.tmps[49]? = some (.bool false) := hI.slot 23 (by decide) (hdep ⟨23, .guard⟩ (by simp) (by rfl))
          have h49 := eval_slot f49
          have f50 : a.tmps[50]? = some (.int .i64 Z) := hI.slot 24 (by decide) (hdep ⟨24, .data⟩ (by simp) (by rfl))
          have h50 := eval_slot f50
          go_simp
          exact hK.out _ _ (hI.put 25 (by decide) _ rfl _ rfl hI.1)
        refine StepsL.cons 27 rfl ?_ ?_
        · intro d a w' hI hd hdep K hK
          have f49 : a.tmps[49]? = some (.bool false) := hI.slot 23 (by decide) (hdep ⟨23, .guard⟩ (by simp) (by rfl))
          have h49 := eval_slot f49
          have f51 : a.tmps[51]? = some (.bool false) := hI.slot 25 (by decide) (hdep ⟨25, .data⟩ (by simp) (by rfl))
          have h51 := eval_slot f51
          go_simp
          exact hK.out _ _ (hI.put 26 (by decide) _ rfl _ rfl hI.1)
        refine StepsL.cons 28 rfl ?_ ?_
        · intro d a w' hI hd hdep K hK
          have f52 : a.tmps[52]? = some (.bool false) := hI.slot 26 (by decide) (hdep ⟨26, .guard⟩ (by simp) (by rfl))
          have h52 := eval_slot f52
          go_simp
          exact hK.out _ _ (hI.put 27 (by decide) _ rfl _ rfl hI.1)
        refine StepsL.cons 29 rfl ?_ ?_
        · intro d a w' hI hd hdep K hK
          have f52 : a.tmps[52]? = some (.bool false) := hI.slot 26 (by decide) (hdep ⟨26, .guard⟩ (by simp) (by rfl))
          have h52 := eval_slot f52
          go_simp
          exact hK.out _ _ (hI.put 28 (by decide) _ rfl _ rfl hI.1)
        refine StepsL.cons 30 rfl ?_ ?_
        · intro d a w' hI hd hdep K hK
          have f52 : a.tmps[52]? = some (.bool false) := hI.slot 26 (by decide) (hdep ⟨26, .guard⟩ (by simp) (by rfl))
          have h52 := eval_slot f52
          go_simp
          exact hK.out _ _ (hI.put 29 (by decide) _ rfl _ rfl hI.1)
        refine StepsL.cons 31 rfl ?_ ?_
        · intro d a w' hI hd hdep K hK
          have f55 : a.tmps[55]? = some (undef) := hI.slot 29 (by decide) (hdep ⟨29, .guard⟩ (by simp) (by rfl))
          have h55 := eval_slot f55
          go_simp
          exact hK.out _ _ (hI.put 30 (by decide) _ rfl _ rfl hI.1)
        refine StepsL.cons 32 rfl ?_ ?_
        · intro d a w' hI hd hdep K hK
          have f55 : a.tmps[55]? = some (undef) := hI.slot 29 (by decide) (hdep ⟨29, .guard⟩ (by simp) (by rfl))
          have h55 := eval_slot f55
          go_simp
          exact hK.out _ _ (hI.put 31 (by decide) _ rfl _ rfl hI.1)
        refine StepsL.cons 33 rfl ?_ ?_
        · intro d a w' hI hd hdep K hK
          have f52 : a.tmps[52]? = some (.bool false) := hI.slot 26 (by decide) (hdep ⟨26, .guard⟩ (by simp) (by rfl))
          have h52 := eval_slot f52
          go_simp
          exact hK.out _ _ (hI.put 32 (by decide) _ rfl _ rfl hI.1)
        refine StepsL.cons 34 rfl ?_ ?_
        · intro d a w' hI hd hdep K hK
          have f49 : a.tmps[49]? = some (.bool false) := hI.slot 23 (by decide) (hdep ⟨23, .guard⟩ (by simp) (by rfl))
          have h49 := eval_slot f49
          have f52 : a.tmps[52]? = some (.bool false) := hI.slot 26 (by decide) (hdep ⟨26, .data⟩ (by simp) (by rfl))
          have h52 := eval_slot f52
          have f58 : a.tmps[58]? = some (undef) := hI.slot 32 (by decide) (hdep ⟨32, .data⟩ (by simp) (by rfl))
          have h58 := eval_slot f58
          go_simp
          exact hK.out _ _ (hI.put 33 (by decide) _ rfl _ rfl hI.1)
        refine StepsL.cons 35 rfl ?_ ?_
        · intro d a w' hI hd hdep K hK
          have f46 : a.tmps[46]? = some (.bool true) := hI.slot 20 (by decide) (hdep ⟨20, .guard⟩ (by simp) (by rfl))
          have h46 := eval_slot f46
          have f49 : a.tmps[49]? = some (.bool false) := hI.slot 23 (by decide) (hdep ⟨23, .data⟩ (by simp) (by rfl))
          have h49 := eval_slot f49
          have f59 : a.tmps[59]? = some (.bool false) := hI.slot 33 (by decide) (hdep ⟨33, .data⟩ (by simp) (by rfl))
          have h59 := eval_slot f59
          go_simp
          exact hK.out _ _ (hI.put 34 (by decide) _ rfl _ rfl hI.1)
        refine StepsL.cons 36 rfl ?_ ?_
        · intro d a w' hI hd hdep K hK
          have f46 : a.tmps[46]? = some (.bool true) := hI.slot 20 (by decide) (hdep ⟨20, .data⟩ (by simp) (by rfl))
          have h46 := eval_slot f46
          have f60 : a.tmps[60]? = some (.bool false) := hI.slot 34 (by decide) (hdep ⟨34, .data⟩ (by simp) (by rfl))
          have h60 := eval_slot f60
          go_simp
          exact hK.out _ _ (hI.put 35 (by decide) _ rfl _ rfl hI.1)
        exact StepsL.nil
      · intro d a w2 hI hall
        obtain ⟨SB2, rfl⟩ := hI.done hall
        simp only [putR, Act.put, List.setIfInBounds_toArray, List.set_cons_zero, List.set_cons_succ, Nat.reduceAdd]
        go_wp2_with fail
        go_meet
        case rel => exact ⟨rfl, Lib.hid SB2⟩
    · refine wp_region_inv (DetI (fun w' => Below ((((w.alloc (.cells #[.string n, v1, .string lo, .string up, v4, v5] 41)).alloc (.cells #[.int .i64 k1, .int .i64 n1, .string s1] 24)).alloc (.cells #[.int .i64 k2, .int .i64 n2, .string s2] 24)).alloc (.cells #[.int .i64 k3, .int .i64 n3, .string s3] 24)).heap.size ((((w.alloc (.cells #[.string n, v1, .string lo, .string up, v4, v5] 41)).alloc (.cells #[.int .i64 k1, .int .i64 n1, .string s1] 24)).alloc (.cells #[.int .i64 k2, .int .i64 n2, .string s2] 24)).alloc (.cells #[.int .i64 k3, .int .i64 n3, .string s3] 24)) w') 26 36 (fun i => ([.agg #[.int .i64 k1, .int .i64 n1, .string s1], .bool ta, .agg #[.int .i64 k2, .int .i64 n2, .string s2], .bool tb, .bool true, .bool true, .agg #[.int .i64 k2, .int .i64 n2, .string s2], .bool tb, .agg #[.int .i64 k3, .int .i64 n3, .string s3], .bool tc, .bool true, .bool true, .bool true, .int .i64 X, .bool true, .bool true, .bool true, .int .i64 Y, .bool true, .bool true, .bool true, .int .i64 Z, .bool false, .bool false, .int .i64 Z, .bool true, .bool true, .int .i64 X, .bool false, .bool false, .int .i64 Y, .bool false, .bool false, .bool false, .bool false, .bool false] : List Value).getD i undef)) (by kernel_rfl) (by kernel_rfl) ?_ ?_ ?_
      · exact DetI.start SB.out.drew (by show 26 + 36 ≤ 100; decide)
      · refine StepsL.cons 1 rfl ?_ ?_
        · intro d a w' hI hd hdep K hK
          have f5 : a.tmps[5]? = some (.pointer (some ⟨w.heap.size + 1, 0, none⟩)) := hI.other 5 (by decide)
          have h5 := eval_slot f5
          obtain ⟨-, b0, b1, b2, b3, b4, b5, c0, c1, c2, d0, d1, d2, e0, e1, e2⟩ := keepO hI.1
          go_simp
          exact hK.out _ _ (hI.put 0 (by decide) _ rfl _ rfl hI.1)
        refine StepsL.cons 2 rfl ?_ ?_
        · intro d a w' hI hd hdep K hK
          have f26 : a.tmps[26]? = some (.agg #[.int .i64 k1, .int .i64 n1, .string s1]) := hI.slot 0 (by decide) (hdep ⟨0, .data⟩ (by simp) (by rfl))
          have h26 := eval_slot f26
          go_simp
          go_at_call 24
          refine (vtext_b k1 n1 s1 ta _ TA).mono ?_
          rintro e w2 ⟨rfl, hb⟩
          go_wp2_with fail
          exact hK.out _ _ (hI.put 1 (by decide) _ rfl _ rfl (hI.1.trans (hb.mono hI.1.size)))
        refine StepsL.cons 3 rfl ?_ ?_
        · intro d a w' hI hd hdep K hK
          have f6 : a.tmps[6]? = some (.pointer (some ⟨w.heap.size + 1 + 1, 0, none⟩)) := hI.other 6 (by decide)
          have h6 := eval_slot f6
          obtain ⟨-, b0, b1, b2, b3, b4, b5, c0, c1, c2, d0, d1, d2, e0, e1, e2⟩ := keepO hI.1
          go_simp
          exact hK.out _ _ (hI.put 2 (by decide) _ rfl _ rfl hI.1)
        refine StepsL.cons 4 rfl ?_ ?_
        · intro d a w' hI hd hdep K hK
          have f28 : a.tmps[28]? = some (.agg #[.int .i64 k2, .int .i64 n2, .string s2]) := hI.slot 2 (by decide) (hdep ⟨2, .data⟩ (by simp) (by rfl))
          have h28 := eval_slot f28
          go_simp
          go_at_call 24
          refine (vtext_b k2 n2 s2 tb _ TB).mono ?_
          rintro e w2 ⟨rfl, hb⟩
          go_wp2_with fail
          exact hK.out _ _ (hI.put 3 (by decide) _ rfl _ rfl (hI.1.trans (hb.mono hI.1.size)))
        refine StepsL.cons 5 rfl ?_ ?_
        · intro d a w' hI hd hdep K hK
          have f27 : a.tmps[27]? = some (.bool ta) := hI.slot 1 (by decide) (hdep ⟨1, .data⟩ (by simp) (by rfl))
          have h27 := eval_slot f27
          have f29 : a.tmps[29]? = some (.bool tb) := hI.slot 3 (by decide) (hdep ⟨3, .data⟩ (by simp) (by rfl))
          have h29 := eval_slot f29
          go_simp
          exact hK.out _ _ (hI.put 4 (by decide) _ rfl _ rfl hI.1)
        refine StepsL.cons 6 rfl ?_ ?_
        · intro d a w' hI hd hdep K hK
          have f30 : a.tmps[30]? = some (.bool true) := hI.slot 4 (by decide) (hdep ⟨4, .data⟩ (by simp) (by rfl))
          have h30 := eval_slot f30
          go_simp
          exact hK.out _ _ (hI.put 5 (by decide) _ rfl _ rfl hI.1)
        refine StepsL.cons 7 rfl ?_ ?_
        · intro d a w' hI hd hdep K hK
          have f31 : a.tmps[31]? = some (.bool true) := hI.slot 5 (by decide) (hdep ⟨5, .guard⟩ (by simp) (by rfl))
          have h31 := eval_slot f31
          have f6 : a.tmps[6]? = some (.pointer (some ⟨w.heap.size + 1 + 1, 0, none⟩)) := hI.other 6 (by decide)
          have h6 := eval_slot f6
          obtain ⟨-, b0, b1, b2, b3, b4, b5, c0, c1, c2, d0, d1, d2, e0, e1, e2⟩ := keepO hI.1
          go_simp
          exact hK.out _ _ (hI.put 6 (by decide) _ rfl _ rfl hI.1)
        refine StepsL.cons 8 rfl ?_ ?_
        · intro d a w' hI hd hdep K hK
          have f31 : a.tmps[31]? = some (.bool true) := hI.slot 5 (by decide) (hdep ⟨5, .guard⟩ (by simp) (by rfl))
          have h31 := eval_slot f31
          have f32 : a.tmps[32]? = some (.agg #[.int .i64 k2, .int .i64 n2, .string s2]) := hI.slot 6 (by decide) (hdep ⟨6, .data⟩ (by simp) (by rfl))
          have h32 := eval_slot f32
          go_simp
          go_at_call 24
          refine (vtext_b k2 n2 s2 tb _ TB).mono ?_
          rintro e w2 ⟨rfl, hb⟩
          go_wp2_with fail
          exact hK.out _ _ (hI.put 7 (by decide) _ rfl _ rfl (hI.1.trans (hb.mono hI.1.size)))
        refine StepsL.cons 9 rfl ?_ ?_
        · intro d a w' hI hd hdep K hK
          have f31 : a.tmps[31]? = some (.bool true) := hI.slot 5 (by decide) (hdep ⟨5, .guard⟩ (by simp) (by rfl))
          have h31 := eval_slot f31
          have f7 : a.tmps[7]? = some (.pointer (some ⟨w.heap.size + 1 + 1 + 1, 0, none⟩)) := hI.other 7 (by decide)
          have h7 := eval_slot f7
          obtain ⟨-, b0, b1, b2, b3, b4, b5, c0, c1, c2, d0, d1, d2, e0, e1, e2⟩ := keepO hI.1
          go_simp
          exact hK.out _ _ (hI.put 8 (by decide) _ rfl _ rfl hI.1)
        refine StepsL.cons 10 rfl ?_ ?_
        · intro d a w' hI hd hdep K hK
          have f31 : a.tmps[31]? = some (.bool true) := hI.slot 5 (by decide) (hdep ⟨5, .guard⟩ (by simp) (by rfl))
          have h31 := eval_slot f31
          have f34 : a.tmps[34]? = some (.agg #[.int .i64 k3, .int .i64 n3, .string s3]) := hI.slot 8 (by decide) (hdep ⟨8, .data⟩ (by simp) (by rfl))
          have h34 := eval_slot f34
          go_simp
          go_at_call 24
          refine (vtext_b k3 n3 s3 tc _ TC).mono ?_
          rintro e w2 ⟨rfl, hb⟩
          go_wp2_with fail
          exact hK.out _ _ (hI.put 9 (by decide) _ rfl _ rfl (hI.1.trans (hb.mono hI.1.size)))
        refine StepsL.cons 11 rfl ?_ ?_
        · intro d a w' hI hd hdep K hK
          have f31 : a.tmps[31]? = some (.bool true) := hI.slot 5 (by decide) (hdep ⟨5, .guard⟩ (by simp) (by rfl))
          have h31 := eval_slot f31
          have f33 : a.tmps[33]? = some (.bool tb) := hI.slot 7 (by decide) (hdep ⟨7, .data⟩ (by simp) (by rfl))
          have h33 := eval_slot f33
          have f35 : a.tmps[35]? = some (.bool tc) := hI.slot 9 (by decide) (hdep ⟨9, .data⟩ (by simp) (by rfl))
          have h35 := eval_slot f35
          go_simp
          exact hK.out _ _ (hI.put 10 (by decide) _ rfl _ rfl hI.1)
        refine StepsL.cons 12 rfl ?_ ?_
        · intro d a w' hI hd hdep K hK
          have f31 : a.tmps[31]? = some (.bool true) := hI.slot 5 (by decide) (hdep ⟨5, .data⟩ (by simp) (by rfl))
          have h31 := eval_slot f31
          have f36 : a.tmps[36]? = some (.bool true) := hI.slot 10 (by decide) (hdep ⟨10, .data⟩ (by simp) (by rfl))
          have h36 := eval_slot f36
          go_simp
          exact hK.out _ _ (hI.put 11 (by decide) _ rfl _ rfl hI.1)
        refine StepsL.cons 13 rfl ?_ ?_
        · intro d a w' hI hd hdep K hK
          have f37 : a.tmps[37]? = some (.bool true) := hI.slot 11 (by decide) (hdep ⟨11, .data⟩ (by simp) (by rfl))
          have h37 := eval_slot f37
          go_simp
          exact hK.out _ _ (hI.put 12 (by decide) _ rfl _ rfl hI.1)
        refine StepsL.cons 14 rfl ?_ ?_
        · intro d a w' hI hd hdep K hK
          have f38 : a.tmps[38]? = some (.bool true) := hI.slot 12 (by decide) (hdep ⟨12, .guard⟩ (by simp) (by rfl))
          have h38 := eval_slot f38
          have f9 : a.tmps[9]? = some (.int .i64 X) := hI.other 9 (by decide)
          have h9 := eval_slot f9
          go_simp
          exact hK.out _ _ (hI.put 13 (by decide) _ rfl _ rfl hI.1)
        refine StepsL.cons 15 rfl ?_ ?_
        · intro d a w' hI hd hdep K hK
          have f38 : a.tmps[38]? = some (.bool true) := hI.slot 12 (by decide) (hdep ⟨12, .guard⟩ (by simp) (by rfl))
          have h38 := eval_slot f38
          have f39 : a.tmps[39]? = some (.int .i64 X) := hI.slot 13 (by decide) (hdep ⟨13, .data⟩ (by simp) (by rfl))
          have h39 := eval_slot f39
          go_simp
          exact hK.out _ _ (hI.put 14 (by decide) _ rfl _ rfl hI.1)
        refine StepsL.cons 16 rfl ?_ ?_
        · intro d a w' hI hd hdep K hK
          have f38 : a.tmps[38]? = some (.bool true) := hI.slot 12 (by decide) (hdep ⟨12, .data⟩ (by simp) (by rfl))
          have h38 := eval_slot f38
          have f40 : a.tmps[40]? = some (.bool true) := hI.slot 14 (by decide) (hdep ⟨14, .data⟩ (by simp) (by rfl))
          have h40 := eval_slot f40
          go_simp
          exact hK.out _ _ (hI.put 15 (by decide) _ rfl _ rfl hI.1)
        refine StepsL.cons 17 rfl ?_ ?_
        · intro d a w' hI hd hdep K hK
          have f41 : a.tmps[41]? = some (.bool true) := hI.slot 15 (by decide) (hdep ⟨15, .data⟩ (by simp) (by rfl))
          have h41 := eval_slot f41
          go_simp
          exact hK.out _ _ (hI.put 16 (by decide) _ rfl _ rfl hI.1)
        refine StepsL.cons 18 rfl ?_ ?_
        · intro d a w' hI hd hdep K hK
          have f42 : a.tmps[42]? = some (.bool true) := hI.slot 16 (by decide) (hdep ⟨16, .guard⟩ (by simp) (by rfl))
          have h42 := eval_slot f42
          have f10 : a.tmps[10]? = some (.int .i64 Y) := hI.other 10 (by decide)
          have h10 := eval_slot f10
          go_simp
          exact hK.out _ _ (hI.put 17 (by decide) _ rfl _ rfl hI.1)
        refine StepsL.cons 19 rfl ?_ ?_
        · intro d a w' hI hd hdep K hK
          have f42 : a.tmps[42]? = some (.bool true) := hI.slot 16 (by decide) (hdep ⟨16, .guard⟩ (by simp) (by rfl))
          have h42 := eval_slot f42
          have f43 : a.tmps[43]? = some (.int .i64 Y) := hI.slot 17 (by decide) (hdep ⟨17, .data⟩ (by simp) (by rfl))
          have h43 := eval_slot f43
          go_simp
          exact hK.out _ _ (hI.put 18 (by decide) _ rfl _ rfl hI.1)
        refine StepsL.cons 20 rfl ?_ ?_
        · intro d a w' hI hd hdep K hK
          have f42 : a.tmps[42]? = some (.bool true) := hI.slot 16 (by decide) (hdep ⟨16, .data⟩ (by simp) (by rfl))
          have h42 := eval_slot f42
          have f44 : a.tmps[44]? = some (.bool true) := hI.slot 18 (by decide) (hdep ⟨18, .data⟩ (by simp) (by rfl))
          have h44 := eval_slot f44
          go_simp
          exact hK.out _ _ (hI.put 19 (by decide) _ rfl _ rfl hI.1)
        refine StepsL.cons 21 rfl ?_ ?_
        · intro d a w' hI hd hdep K hK
          have f45 : a.tmps[45]? = some (.bool true) := hI.slot 19 (by decide) (hdep ⟨19, .data⟩ (by simp) (by rfl))
          have h45 := eval_slot f45
          go_simp
          exact hK.out _ _ (hI.put 20 (by decide) _ rfl _ rfl hI.1)
        refine StepsL.cons 22 rfl ?_ ?_
        · intro d a w' hI hd hdep K hK
          have f46 : a.tmps[46]? = some (.bool true) := hI.slot 20 (by decide) (hdep ⟨20, .guard⟩ (by simp) (by rfl))
          have h46 := eval_slot f46
          have f11 : a.tmps[11]? = some (.int .i64 Z) := hI.other 11 (by decide)
          have h11 := eval_slot f11
          go_simp
          exact hK.out _ _ (hI.put 21 (by decide) _ rfl _ rfl hI.1)
        refine StepsL.cons 23 rfl ?_ ?_
        · intro d a w' hI hd hdep K hK
          have f46 : a.tmps[46]? = some (.bool true) := hI.slot 20 (by decide) (hdep ⟨20, .guard⟩ (by simp) (by rfl))
          have h46 := eval_slot f46
          have f47 : a.tmps[47]? = some (.int .i64 Z) := hI.slot 21 (by decide) (hdep ⟨21, .data⟩ (by simp) (by rfl))
          have h47 := eval_slot f47
          go_simp
          exact hK.out _ _ (hI.put 22 (by decide) _ rfl _ rfl hI.1)
        refine StepsL.cons 24 rfl ?_ ?_
        · intro d a w' hI hd hdep K hK
          have f46 : a.tmps[46]? = some (.bool true) := hI.slot 20 (by decide) (hdep ⟨20, .guard⟩ (by simp) (by rfl))
          have h46 := eval_slot f46
          have f48 : a.tmps[48]? = some (.bool false) := hI.slot 22 (by decide) (hdep ⟨22, .data⟩ (by simp) (by rfl))
          have h48 := eval_slot f48
          go_simp
          exact hK.out _ _ (hI.put 23 (by decide) _ rfl _ rfl hI.1)
        refine StepsL.cons 25 rfl ?_ ?_
        · intro d a w' hI hd hdep K hK
          have f49 : a.tmps[49]? = some (.bool false) := hI.slot 23 (by decide) (hdep ⟨23, .guard⟩ (by simp) (by rfl))
          have h49 := eval_slot f49
          have f11 : a.tmps[11]? = some (.int .i64 Z) := hI.other 11 (by decide)
          have h11 := eval_slot f11
          go_simp
          exact hK.out _ _ (hI.put 24 (by decide) _ rfl _ rfl hI.1)
        refine StepsL.cons 26 rfl ?_ ?_
        · intro d a w' hI hd hdep K hK
          have f49 : a.tmps[49]? = some (.bool false) := hI.slot 23 (by decide) (hdep ⟨23, .guard⟩ (by simp) (by rfl))
          have h49 := eval_slot f49
          have f50 : a.tmps[50]? = some (.int .i64 Z) := hI.slot 24 (by decide) (hdep ⟨24, .data⟩ (by simp) (by rfl))
          have h50 := eval_slot f50
          go_simp
          exact hK.out _ _ (hI.put 25 (by decide) _ rfl _ rfl hI.1)
        refine StepsL.cons 27 rfl ?_ ?_
        · intro d a w' hI hd hdep K hK
          have f49 : a.tmps[49]? = some (.bool false) := hI.slot 23 (by decide) (hdep ⟨23, .guard⟩ (by simp) (by rfl))
          have h49 := eval_slot f49
          have f51 : a.tmps[51]? = some (.bool true) := hI.slot 25 (by decide) (hdep ⟨25, .data⟩ (by simp) (by rfl))
          have h51 := eval_slot f51
          go_simp
          exact hK.out _ _ (hI.put 26 (by decide) _ rfl _ rfl hI.1)
        refine StepsL.cons 28 rfl ?_ ?_
        · intro d a w' hI hd hdep K hK
          have f52 : a.tmps[52]? = some (.bool true) := hI.slot 26 (by decide) (hdep ⟨26, .guard⟩ (by simp) (by rfl))
          have h52 := eval_slot f52
          have f9 : a.tmps[9]? = some (.int .i64 X) := hI.other 9 (by decide)
          have h9 := eval_slot f9
          go_simp
          exact hK.out _ _ (hI.put 27 (by decide) _ rfl _ rfl hI.1)
        refine StepsL.cons 29 rfl ?_ ?_
        · intro d a w' hI hd hdep K hK
          have f52 : a.tmps[52]? = some (.bool true) := hI.slot 26 (by decide) (hdep ⟨26, .guard⟩ (by simp) (by rfl))
          have h52 := eval_slot f52
          have f53 : a.tmps[53]? = some (.int .i64 X) := hI.slot 27 (by decide) (hdep ⟨27, .data⟩ (by simp) (by rfl))
          have h53 := eval_slot f53
          go_simp
          exact hK.out _ _ (hI.put 28 (by decide) _ rfl _ rfl hI.1)
        refine StepsL.cons 30 rfl ?_ ?_
        · intro d a w' hI hd hdep K hK
          have f52 : a.tmps[52]? = some (.bool true) := hI.slot 26 (by decide) (hdep ⟨26, .guard⟩ (by simp) (by rfl))
          have h52 := eval_slot f52
          have f54 : a.tmps[54]? = some (.bool false) := hI.slot 28 (by decide) (hdep ⟨28, .data⟩ (by simp) (by rfl))
          have h54 := eval_slot f54
          go_simp
          exact hK.out _ _ (hI.put 29 (by decide) _ rfl _ rfl hI.1)
        refine StepsL.cons 31 rfl ?_ ?_
        · intro d a w' hI hd hdep K hK
          have f55 : a.tmps[55]? = some (.bool false) := hI.slot 29 (by decide) (hdep ⟨29, .guard⟩ (by simp) (by rfl))
          have h55 := eval_slot f55
          have f10 : a.tmps[10]? = some (.int .i64 Y) := hI.other 10 (by decide)
          have h10 := eval_slot f10
          go_simp
          exact hK.out _ _ (hI.put 30 (by decide) _ rfl _ rfl hI.1)
        refine StepsL.cons 32 rfl ?_ ?_
        · intro d a w' hI hd hdep K hK
          have f55 : a.tmps[55]? = some (.bool false) := hI.slot 29 (by decide) (hdep ⟨29, .guard⟩ (by simp) (by rfl))
          have h55 := eval_slot f55
          have f56 : a.tmps[56]? = some (.int .i64 Y) := hI.slot 30 (by decide) (hdep ⟨30, .data⟩ (by simp) (by rfl))
          have h56 := eval_slot f56
          go_simp
          exact hK.out _ _ (hI.put 31 (by decide) _ rfl _ rfl hI.1)
        refine StepsL.cons 33 rfl ?_ ?_
        · intro d a w' hI hd hdep K hK
          have f52 : a.tmps[52]? = some (.bool true) := hI.slot 26 (by decide) (hdep ⟨26, .guard⟩ (by simp) (by rfl))
          have h52 := eval_slot f52
          have f55 : a.tmps[55]? = some (.bool false) := hI.slot 29 (by decide) (hdep ⟨29, .data⟩ (by simp) (by rfl))
          have h55 := eval_slot f55
          have f57 : a.tmps[57]? = some (.bool false) := hI.slot 31 (by decide) (hdep ⟨31, .data⟩ (by simp) (by rfl))
          have h57 := eval_slot f57
          go_simp
          exact hK.out _ _ (hI.put 32 (by decide) _ rfl _ rfl hI.1)
        refine StepsL.cons 34 rfl ?_ ?_
        · intro d a w' hI hd hdep K hK
          have f49 : a.tmps[49]? = some (.bool false) := hI.slot 23 (by decide) (hdep ⟨23, .guard⟩ (by simp) (by rfl))
          have h49 := eval_slot f49
          have f52 : a.tmps[52]? = some (.bool true) := hI.slot 26 (by decide) (hdep ⟨26, .data⟩ (by simp) (by rfl))
          have h52 := eval_slot f52
          have f58 : a.tmps[58]? = some (.bool false) := hI.slot 32 (by decide) (hdep ⟨32, .data⟩ (by simp) (by rfl))
          have h58 := eval_slot f58
          go_simp
          exact hK.out _ _ (hI.put 33 (by decide) _ rfl _ rfl hI.1)
        refine StepsL.cons 35 rfl ?_ ?_
        · intro d a w' hI hd hdep K hK
          have f46 : a.tmps[46]? = some (.bool true) := hI.slot 20 (by decide) (hdep ⟨20, .guard⟩ (by simp) (by rfl))
          have h46 := eval_slot f46
          have f49 : a.tmps[49]? = some (.bool false) := hI.slot 23 (by decide) (hdep ⟨23, .data⟩ (by simp) (by rfl))
          have h49 := eval_slot f49
          have f59 : a.tmps[59]? = some (.bool false) := hI.slot 33 (by decide) (hdep ⟨33, .data⟩ (by simp) (by rfl))
          have h59 := eval_slot f59
          go_simp
          exact hK.out _ _ (hI.put 34 (by decide) _ rfl _ rfl hI.1)
        refine StepsL.cons 36 rfl ?_ ?_
        · intro d a w' hI hd hdep K hK
          have f46 : a.tmps[46]? = some (.bool true) := hI.slot 20 (by decide) (hdep ⟨20, .data⟩ (by simp) (by rfl))
          have h46 := eval_slot f46
          have f60 : a.tmps[60]? = some (.bool false) := hI.slot 34 (by decide) (hdep ⟨34, .data⟩ (by simp) (by rfl))
          have h60 := eval_slot f60
          go_simp
          exact hK.out _ _ (hI.put 35 (by decide) _ rfl _ rfl hI.1)
        exact StepsL.nil
      · intro d a w2 hI hall
        obtain ⟨SB2, rfl⟩ := hI.done hall
        simp only [putR, Act.put, List.setIfInBounds_toArray, List.set_cons_zero, List.set_cons_succ, Nat.reduceAdd]
        go_wp2_with fail
        go_meet
        case rel => exact ⟨rfl, Lib.hid SB2⟩
  case rest =>
    obtain ⟨rfl, SC⟩ := hcut
    clear SB HVT
    have S0 := Lib.hid (keepO SC.out)
    obtain ⟨-, b0, b1, b2, b3, b4, b5, c0, c1, c2, d0, d1, d2, e0, e1, e2⟩ := S0.out
    by_cases h1 : k1 = 2
    · have X0 : Hid (locC n W lo up C E (textB k1 n1 s1) (textB k2 n2 s2) = X) := Lib.hid (by rw [← HX.out]; exact (valC_txt (.inl h1)).symm)
      have TA : Hid ((k1 == 2) = true) := Lib.hid (by simpa using h1)
      clear h1
      go_wp2_with (go_at_call 24; (with_reducible refine (vtext_b k1 n1 s1 true _ TA).mono ?_); rintro e w' ⟨rfl, hb⟩; have S0 := Lib.hid (keepO (S0.out.1.trans (hb.mono S0.out.1.size))))
      have S0 := keepO (S0.out.1.drew)
      go_region_held3 (fun w' => Below ((((w.alloc (.cells #[.string n, v1, .string lo, .string up, v4, v5] 41)).alloc (.cells #[.int .i64 k1, .int .i64 n1, .string s1] 24)).alloc (.cells #[.int .i64 k2, .int .i64 n2, .string s2] 24)).alloc (.cells #[.int .i64 k3, .int .i64 n3, .string s3] 24)).heap.size ((((w.alloc (.cells #[.string n, v1, .string lo, .string up, v4, v5] 41)).alloc (.cells #[.int .i64 k1, .int .i64 n1, .string s1] 24)).alloc (.cells #[.int .i64 k2, .int .i64 n2, .string s2] 24)).alloc (.cells #[.int .i64 k3, .int .i64 n3, .string s3] 24)) w' ∧ w'.cell? ⟨w.heap.size, 0, none⟩ = some (.string n) ∧ w'.cell? ⟨w.heap.size, 1, none⟩ = some v1 ∧ w'.cell? ⟨w.heap.size, 2, none⟩ = some (.string lo) ∧ w'.cell? ⟨w.heap.size, 3, none⟩ = some (.string up) ∧ w'.cell? ⟨w.heap.size, 4, none⟩ = some v4 ∧ w'.cell? ⟨w.heap.size, 5, none⟩ = some v5 ∧ w'.cell? ⟨w.heap.size + 1, 0, none⟩ = some (.int .i64 k1) ∧ w'.cell? ⟨w.heap.size + 1, 1, none⟩ = some (.int .i64 n1) ∧ w'.cell? ⟨w.heap.size + 1, 2, none⟩ = some (.string s1) ∧ w'.cell? ⟨w.heap.size + 1 + 1, 0, none⟩ = some (.int .i64 k2) ∧ w'.cell? ⟨w.heap.size + 1 + 1, 1, none⟩ = some (.int .i64 n2) ∧ w'.cell? ⟨w.heap.size + 1 + 1, 2, none⟩ = some (.string s2) ∧ w'.cell? ⟨w.heap.size + 1 + 1 + 1, 0, none⟩ = some (.int .i64 k3) ∧ w'.cell? ⟨w.heap.size + 1 + 1 + 1, 1, none⟩ = some (.int .i64 n3) ∧ w'.cell? ⟨w.heap.size + 1 + 1 + 1, 2, none⟩ = some (.string s3)) (first | exact S0)
        (first
          | (go_at_call 11; (with_reducible refine (text_at k1 n1 s1 _ _ (tab_below T.out (below_four S0.1)) rfl).mono ?_); rintro e w' ⟨rfl, hb⟩; have S0 := keepO (S0.1.trans (hb.mono S0.1.size)))
          | (go_at_call 11; (with_reducible refine (text_at k2 n2 s2 _ _ (tab_below T.out (below_four S0.1)) rfl).mono ?_); rintro e w' ⟨rfl, hb⟩; have S0 := keepO (S0.1.trans (hb.mono S0.1.size)))
          | (go_at_call 25; (with_reducible refine (compare_is n v1 lo up v4 v5 W C E _ _ X _ X0 (LO.out.below (below_four S0.1)) ZN.out (text_size k1 n1 s1 Z1.out) (text_size k2 n2 s2 Z2.out)).mono ?_); rintro e w' ⟨rfl, hb⟩; have S0 := keepO (S0.1.trans (hb.mono S0.1.size)))
          | (go_at_call 15; (with_reducible refine (vawake_any _ (tab_below T.out (below_four S0.1))).mono ?_); rintro e w' ⟨rfl, hb⟩; have S0 := keepO (S0.1.trans (hb.mono S0.1.size))))
      go_wp2_with fail
      go_ret
      exact ⟨rfl, below_four S0.1⟩
    · by_cases h2 : k2 = 2
      · have X0 : Hid (locC n W lo up C E (textB k1 n1 s1) (textB k2 n2 s2) = X) := Lib.hid (by rw [← HX.out]; exact (valC_txt (.inr h2)).symm)
        have TA : Hid ((k1 == 2) = false) := Lib.hid (by simpa using h1)
        have TB : Hid ((k2 == 2) = true) := Lib.hid (by simpa using h2)
        clear h1 h2
        go_wp2_with (first
          | (go_at_call 24; (with_reducible refine (vtext_b k1 n1 s1 false _ TA).mono ?_); rintro e wt ⟨rfl, hb⟩; have S0 := Lib.hid (keepO (S0.out.1.trans (hb.mono S0.out.1.size))); obtain ⟨-, b0, b1, b2, b3, b4, b5, c0, c1, c2, d0, d1, d2, e0, e1, e2⟩ := S0.out)
          | (go_at_call 24; (with_reducible refine (vtext_b k2 n2 s2 true _ TB).mono ?_); rintro e wu ⟨rfl, hb'⟩; have S0 := Lib.hid (keepO (S0.out.1.trans (hb'.mono S0.out.1.size)))))
        have S0 := keepO (S0.out.1.drew)
        go_region_held3 (fun w' => Below ((((w.alloc (.cells #[.string n, v1, .string lo, .string up, v4, v5] 41)).alloc (.cells #[.int .i64 k1, .int .i64 n1, .string s1] 24)).alloc (.cells #[.int .i64 k2, .int .i64 n2, .string s2] 24)).alloc (.cells #[.int .i64 k3, .int .i64 n3, .string s3] 24)).heap.size ((((w.alloc (.cells #[.string n, v1, .string lo, .string up, v4, v5] 41)).alloc (.cells #[.int .i64 k1, .int .i64 n1, .string s1] 24)).alloc (.cells #[.int .i64 k2, .int .i64 n2, .string s2] 24)).alloc (.cells #[.int .i64 k3, .int .i64 n3, .string s3] 24)) w' ∧ w'.cell? ⟨w.heap.size, 0, none⟩ = some (.string n) ∧ w'.cell? ⟨w.heap.size, 1, none⟩ = some v1 ∧ w'.cell? ⟨w.heap.size, 2, none⟩ = some (.string lo) ∧ w'.cell? ⟨w.heap.size, 3, none⟩ = some (.string up) ∧ w'.cell? ⟨w.heap.size, 4, none⟩ = some v4 ∧ w'.cell? ⟨w.heap.size, 5, none⟩ = some v5 ∧ w'.cell? ⟨w.heap.size + 1, 0, none⟩ = some (.int .i64 k1) ∧ w'.cell? ⟨w.heap.size + 1, 1, none⟩ = some (.int .i64 n1) ∧ w'.cell? ⟨w.heap.size + 1, 2, none⟩ = some (.string s1) ∧ w'.cell? ⟨w.heap.size + 1 + 1, 0, none⟩ = some (.int .i64 k2) ∧ w'.cell? ⟨w.heap.size + 1 + 1, 1, none⟩ = some (.int .i64 n2) ∧ w'.cell? ⟨w.heap.size + 1 + 1, 2, none⟩ = some (.string s2) ∧ w'.cell? ⟨w.heap.size + 1 + 1 + 1, 0, none⟩ = some (.int .i64 k3) ∧ w'.cell? ⟨w.heap.size + 1 + 1 + 1, 1, none⟩ = some (.int .i64 n3) ∧ w'.cell? ⟨w.heap.size + 1 + 1 + 1, 2, none⟩ = some (.string s3)) (first | exact S0)
          (first
            | (go_at_call 11; (with_reducible refine (text_at k1 n1 s1 _ _ (tab_below T.out (below_four S0.1)) rfl).mono ?_); rintro e w' ⟨rfl, hb⟩; have S0 := keepO (S0.1.trans (hb.mono S0.1.size)))
            | (go_at_call 11; (with_reducible refine (text_at k2 n2 s2 _ _ (tab_below T.out (below_four S0.1)) rfl).mono ?_); rintro e w' ⟨rfl, hb⟩; have S0 := keepO (S0.1.trans (hb.mono S0.1.size)))
            | (go_at_call 25; (with_reducible refine (compare_is n v1 lo up v4 v5 W C E _ _ X _ X0 (LO.out.below (below_four S0.1)) ZN.out (text_size k1 n1 s1 Z1.out) (text_size k2 n2 s2 Z2.out)).mono ?_); rintro e w' ⟨rfl, hb⟩; have S0 := keepO (S0.1.trans (hb.mono S0.1.size)))
            | (go_at_call 15; (with_reducible refine (vawake_any _ (tab_below T.out (below_four S0.1))).mono ?_); rintro e w' ⟨rfl, hb⟩; have S0 := keepO (S0.1.trans (hb.mono S0.1.size))))
        go_wp2_with fail
        go_ret
        exact ⟨rfl, below_four S0.1⟩
      · obtain ⟨m1, hm1⟩ : ∃ m, numV k1 n1 s1.data.toList = m := ⟨_, rfl⟩
        obtain ⟨m2, hm2⟩ : ∃ m, numV k2 n2 s2.data.toList = m := ⟨_, rfl⟩
        have X0 : X = cmp3 m1 m2 := by rw [← HX.out, ← hm1, ← hm2]; exact valC_num ⟨h1, h2⟩
        have lt1 : decide (X < 0) = decide (m1 < m2) := by rw [X0]; exact cmp3_lt m1 m2
        have gt1 : decide (0 < X) = decide (m2 < m1) := by rw [X0]; exact cmp3_gt m1 m2
        have TA : Hid ((k1 == 2) = false) := Lib.hid (by simpa using h1)
        have TB : Hid ((k2 == 2) = false) := Lib.hid (by simpa using h2)
        have M1 := Lib.hid hm1
        have M2 := Lib.hid hm2
        have S1 : Hid (s1.size ≤ 9223372036854775807) := Lib.hid (Nat.le_trans Z1.out (by decide))
        have S2 : Hid (s2.size ≤ 9223372036854775807) := Lib.hid (Nat.le_trans Z2.out (by decide))
        obtain ⟨l1, hl1⟩ : ∃ b, decide (m1 < m2) = b := ⟨_, rfl⟩
        obtain ⟨l2, hl2⟩ : ∃ b, decide (m2 < m1) = b := ⟨_, rfl⟩
        rw [hl1] at lt1
        rw [hl2] at gt1
        clear h1 h2 X0 hm1 hm2
        go_wp2_with (first
          | (go_at_call 24; (with_reducible refine (vtext_b k1 n1 s1 false _ TA).mono ?_); rintro e wt ⟨rfl, hb⟩; have S0 := Lib.hid (keepO (S0.out.1.trans (hb.mono S0.out.1.size))); obtain ⟨-, b0, b1, b2, b3, b4, b5, c0, c1, c2, d0, d1, d2, e0, e1, e2⟩ := S0.out)
          | (go_at_call 24; (with_reducible refine (vtext_b k2 n2 s2 false _ TB).mono ?_); rintro e wu ⟨rfl, hb'⟩; have S0 := Lib.hid (keepO (S0.out.1.trans (hb'.mono S0.out.1.size)))))
        have S0 := keepO (S0.out.1.drew)
        go_region_held3 (fun w' => Below ((((w.alloc (.cells #[.string n, v1, .string lo, .string up, v4, v5] 41)).alloc (.cells #[.int .i64 k1, .int .i64 n1, .string s1] 24)).alloc (.cells #[.int .i64 k2, .int .i64 n2, .string s2] 24)).alloc (.cells #[.int .i64 k3, .int .i64 n3, .string s3] 24)).heap.size ((((w.alloc (.cells #[.string n, v1, .string lo, .string up, v4, v5] 41)).alloc (.cells #[.int .i64 k1, .int .i64 n1, .string s1] 24)).alloc (.cells #[.int .i64 k2, .int .i64 n2, .string s2] 24)).alloc (.cells #[.int .i64 k3, .int .i64 n3, .string s3] 24)) w' ∧ w'.cell? ⟨w.heap.size, 0, none⟩ = some (.string n) ∧ w'.cell? ⟨w.heap.size, 1, none⟩ = some v1 ∧ w'.cell? ⟨w.heap.size, 2, none⟩ = some (.string lo) ∧ w'.cell? ⟨w.heap.size, 3, none⟩ = some (.string up) ∧ w'.cell? ⟨w.heap.size, 4, none⟩ = some v4 ∧ w'.cell? ⟨w.heap.size, 5, none⟩ = some v5 ∧ w'.cell? ⟨w.heap.size + 1, 0, none⟩ = some (.int .i64 k1) ∧ w'.cell? ⟨w.heap.size + 1, 1, none⟩ = some (.int .i64 n1) ∧ w'.cell? ⟨w.heap.size + 1, 2, none⟩ = some (.string s1) ∧ w'.cell? ⟨w.heap.size + 1 + 1, 0, none⟩ = some (.int .i64 k2) ∧ w'.cell? ⟨w.heap.size + 1 + 1, 1, none⟩ = some (.int .i64 n2) ∧ w'.cell? ⟨w.heap.size + 1 + 1, 2, none⟩ = some (.string s2) ∧ w'.cell? ⟨w.heap.size + 1 + 1 + 1, 0, none⟩ = some (.int .i64 k3) ∧ w'.cell? ⟨w.heap.size + 1 + 1 + 1, 1, none⟩ = some (.int .i64 n3) ∧ w'.cell? ⟨w.heap.size + 1 + 1 + 1, 2, none⟩ = some (.string s3)) (first | exact S0)
          (first
            | (go_at_call 9; (with_reducible refine (vnumber_is k1 n1 m1 s1 _ S1.out M1.out).mono ?_); rintro e w' ⟨rfl, hb⟩; have S0 := keepO (S0.1.trans (hb.mono S0.1.size)))
            | (go_at_call 9; (with_reducible refine (vnumber_is k2 n2 m2 s2 _ S2.out M2.out).mono ?_); rintro e w' ⟨rfl, hb⟩; have S0 := keepO (S0.1.trans (hb.mono S0.1.size))))
        have SB3 := Lib.hid S0.1
        clear S0
        go_wp2_with fail
        refine (vawake_any _ (tab_below T.out (below_four SB3.out))).mono ?_
        rintro e w4 ⟨rfl, hb4⟩
        go_wp2_with fail
        go_ret
        exact ⟨rfl, below_four (SB3.out.trans (hb4.mono SB3.out.size))⟩
end Go.Proofs.YtjngkapfngempaaDoor
/- arguments that are structs: a specification, a locale -/
namespace Go.Proofs.YtjngkapfngempaaDoor
open Go.Joins Go.ChangeShapes Go.WideShapes Go.RowKit Go.Deep Go.Maps
def NZ (v : Value) : Prop := ∀ n cap, v = .slice none n cap → cap = 0
section
variable {H : Type} {enc : TypeId × Value → H} {P : Program} {w : World} {base : Nat} {spare : Nat → Bool} {held : Bool}
theorem own_agg6 {r : Reach} {b0 : Nat} {t : TypeId} {f0 f1 f2 f3 f4 f5 : Field} {v : Value} {d : DataW H} {p : List MemPlace} (hs : P.underlying t = some (.struct #[f0, f1, f2, f3, f4, f5])) (hone : oneCellFields P #[f0, f1, f2, f3, f4, f5] = true) (hC : P.cellsOf t = 6)
    (hv : Value.okWide P w r b0 t v) (h : DataW.Trod enc P w base spare held t v d p) :
    ∃ (v0 v1 v2 v3 v4 v5 : Value) (y0 y1 y2 y3 y4 y5 : DataW H × List MemPlace) (n : Nat), v = .agg #[v0, v1, v2, v3, v4, v5] ∧ d = .agg [y0.1, y1.1, y2.1, y3.1, y4.1, y5.1] ∧ p = y0.2 ++ (y1.2 ++ (y2.2 ++ (y3.2 ++ (y4.2 ++ (y5.2))))) ∧
      DataW.trod enc P w base spare held n f0.type [v0] = some y0 ∧ DataW.trod enc P w base spare held n f1.type [v1] = some y1 ∧ DataW.trod enc P w base spare held n f2.type [v2] = some y2 ∧ DataW.trod enc P w base spare held n f3.type [v3] = some y3 ∧ DataW.trod enc P w base spare held n f4.type [v4] = some y4 ∧ DataW.trod enc P w base spare held n f5.type [v5] = some y5 := by
  obtain ⟨cs, rfl, hsz⟩ := okWide_struct hs hv
  obtain ⟨l⟩ := cs
  match l, hsz.trans hC with
  | [c0, c1, c2, c3, c4, c5], _ =>
    obtain ⟨fuel, hf⟩ := h
    obtain ⟨xs, n, _, hx, _, hlen, hg⟩ := DataW.trod_struct hs hf
    obtain ⟨o0, k0⟩ := hone_of hone 0 f0 rfl
    obtain ⟨o1, k1⟩ := hone_of hone 1 f1 rfl
    obtain ⟨o2, k2⟩ := hone_of hone 2 f2 rfl
    obtain ⟨o3, k3⟩ := hone_of hone 3 f3 rfl
    obtain ⟨o4, k4⟩ := hone_of hone 4 f4 rfl
    obtain ⟨o5, k5⟩ := hone_of hone 5 f5 rfl
    match xs, hlen with
    | [y0, y1, y2, y3, y4, y5], _ =>
      simp only [Prod.mk.injEq] at hx
      exact ⟨c0, c1, c2, c3, c4, c5, y0, y1, y2, y3, y4, y5, n, rfl, by simpa using hx.1, by simpa using hx.2, by simpa [Value.cells, o0, k0] using hg 0 f0 rfl, by simpa [Value.cells, o1, k1] using hg 1 f1 rfl, by simpa [Value.cells, o2, k2] using hg 2 f2 rfl, by simpa [Value.cells, o3, k3] using hg 3 f3 rfl, by simpa [Value.cells, o4, k4] using hg 4 f4 rfl, by simpa [Value.cells, o5, k5] using hg 5 f5 rfl⟩
theorem own_agg7 {r : Reach} {b0 : Nat} {t : TypeId} {f0 f1 f2 f3 f4 f5 f6 : Field} {v : Value} {d : DataW H} {p : List MemPlace} (hs : P.underlying t = some (.struct #[f0, f1, f2, f3, f4, f5, f6])) (hone : oneCellFields P #[f0, f1, f2, f3, f4, f5, f6] = true) (hC : P.cellsOf t = 7)
    (hv : Value.okWide P w r b0 t v) (h : DataW.Trod enc P w base spare held t v d p) :
    ∃ (v0 v1 v2 v3 v4 v5 v6 : Value) (y0 y1 y2 y3 y4 y5 y6 : DataW H × List MemPlace) (n : Nat), v = .agg #[v0, v1, v2, v3, v4, v5, v6] ∧ d = .agg [y0.1, y1.1, y2.1, y3.1, y4.1, y5.1, y6.1] ∧ p = y0.2 ++ (y1.2 ++ (y2.2 ++ (y3.2 ++ (y4.2 ++ (y5.2 ++ (y6.2)))))) ∧
      DataW.trod enc P w base spare held n f0.type [v0] = some y0 ∧ DataW.trod enc P w base spare held n f1.type [v1] = some y1 ∧ DataW.trod enc P w base spare held n f2.type [v2] = some y2 ∧ DataW.trod enc P w base spare held n f3.type [v3] = some y3 ∧ DataW.trod enc P w base spare held n f4.type [v4] = some y4 ∧ DataW.trod enc P w base spare held n f5.type [v5] = some y5 ∧ DataW.trod enc P w base spare held n f6.type [v6] = some y6 := by
  obtain ⟨cs, rfl, hsz⟩ := okWide_struct hs hv
  obtain ⟨l⟩ := cs
  match l, hsz.trans hC with
  | [c0, c1, c2, c3, c4, c5, c6], _ =>
    obtain ⟨fuel, hf⟩ := h
    obtain ⟨xs, n, _, hx, _, hlen, hg⟩ := DataW.trod_struct hs hf
    obtain ⟨o0, k0⟩ := hone_of hone 0 f0 rfl
    obtain ⟨o1, k1⟩ := hone_of hone 1 f1 rfl
    obtain ⟨o2, k2⟩ := hone_of hone 2 f2 rfl
    obtain ⟨o3, k3⟩ := hone_of hone 3 f3 rfl
    obtain ⟨o4, k4⟩ := hone_of hone 4 f4 rfl
    obtain ⟨o5, k5⟩ := hone_of hone 5 f5 rfl
    obtain ⟨o6, k6⟩ := hone_of hone 6 f6 rfl
    match xs, hlen with
    | [y0, y1, y2, y3, y4, y5, y6], _ =>
      simp only [Prod.mk.injEq] at hx
      exact ⟨c0, c1, c2, c3, c4, c5, c6, y0, y1, y2, y3, y4, y5, y6, n, rfl, by simpa using hx.1, by simpa using hx.2, by simpa [Value.cells, o0, k0] using hg 0 f0 rfl, by simpa [Value.cells, o1, k1] using hg 1 f1 rfl, by simpa [Value.cells, o2, k2] using hg 2 f2 rfl, by simpa [Value.cells, o3, k3] using hg 3 f3 rfl, by simpa [Value.cells, o4, k4] using hg 4 f4 rfl, by simpa [Value.cells, o5, k5] using hg 5 f5 rfl, by simpa [Value.cells, o6, k6] using hg 6 f6 rfl⟩

theorem list_of {α : Type} {p : Nat → α → Prop} : ∀ (m : Nat), (∀ i, i < m → ∃ z, p i z) → ∃ l : List α, l.length = m ∧ ∀ i z, l[i]? = some z → p i z
  | 0, _ => ⟨[], rfl, fun i z h => by simp at h⟩
  | m + 1, h => by
    obtain ⟨l, hl, hp⟩ := list_of m fun i hi => h i (by omega)
    obtain ⟨z, hz⟩ := h m (by omega)
    refine ⟨l ++ [z], by simp [hl], fun i y hy => ?_⟩
    rcases Nat.lt_or_ge i l.length with hi | hi
    · rw [List.getElem?_append_left hi] at hy; exact hp i y hy
    · rw [List.getElem?_append_right hi] at hy
      have : i = m := by
        rcases Nat.eq_zero_or_pos (i - l.length) with h0 | h0
        · omega
        · rw [List.getElem?_eq_none (by simp; omega)] at hy; cases hy
      subst this
      rw [hl, Nat.sub_self] at hy
      cases hy; exact hz
theorem sized_part {ts : List TypeId} {ds : List (DataW H)} (h : (DataW.weightsEach P ts ds).all (· ≤ reachBytes) = true) {j : Nat} {t : TypeId} {d : DataW H} (ht : ts[j]? = some t) (hd : ds[j]? = some d) : (d.weights P t).all (· ≤ reachBytes) = true :=
  List.all_eq_true.2 fun n hn => List.all_eq_true.1 h n (DataW.weights_mem_each ht hd n hn)
theorem sized_parts {t : TypeId} {fs : Array Field} {ds : List (DataW H)} (hs : P.underlying t = some (.struct fs)) (h : ((DataW.agg ds).weights P t).all (· ≤ reachBytes) = true) {j : Nat} {u : TypeId} {d : DataW H} (ht : (fs.toList.map (·.type))[j]? = some u) (hd : ds[j]? = some d) : (d.weights P u).all (· ≤ reachBytes) = true := by
  simp only [DataW.weights, hs] at h
  exact sized_part h ht hd
/-- a slice, read row by row -/
theorem open_rows {α : Type} (R : α → List Value) (Q : α → Prop) (k : Nat) {t e : TypeId} {fuel b : Nat} {v : Value} {x : DataW H × List MemPlace} (ht : P.underlying t = some (.slice e)) (hk : 0 < k)
    (hC : P.cellsOf e = k) (hB : P.bytesOf e = b) (h : DataW.trod enc P w 0 (fun _ => true) true fuel t [v] = some x) (hlt : ∀ q ∈ x.2, q.block < w.heap.size) (hw : (x.1.weights P t).all (· ≤ reachBytes) = true)
    (hrow : ∀ cs y n, DataW.trod enc P w 0 (fun _ => true) true n e cs = some y → cs.length = k → ∃ z : α, Q z ∧ cs = R z) :
    ∃ l : List α, RowsAt w v k (l.map R) ∧ NZ v ∧ (∀ z ∈ l, Q z) ∧ l.length * b ≤ 140737488351232 := by
  rcases open_slice ht h with ⟨hcs, hx⟩ | ⟨a, len, cap, m, n, D, Pl, hcs, -, hl, hm, hmm, hx, hi⟩
  · obtain rfl : v = .slice none 0 0 := by simpa using hcs
    exact ⟨[], ⟨none, 0, rfl, by simp, by unfold maxLen; omega, .inl rfl⟩, (fun n cap hh => by cases hh; rfl), (fun z hz => by cases hz), by simp⟩
  · obtain rfl : v = .slice (some a) len cap := by simpa using hcs
    simp only [if_true] at hmm
    subst m
    rw [hC] at hx hi
    obtain ⟨l, hll, hp⟩ := list_of (p := fun i z => Q z ∧ ∀ (j : Nat) v, (R z)[j]? = some v → w.cell? (a.add (i * k + j)) = some v) len (fun i hil => by
      obtain ⟨cs, hc, htr⟩ := hi i (by omega)
      obtain ⟨-, hlen, hat⟩ := World.cells?_some hc
      obtain ⟨z, hq, rfl⟩ := hrow cs _ _ htr hlen
      refine ⟨z, hq, fun j v hj => ?_⟩
      have hjk : j < k := by rw [← hlen]; exact (List.getElem?_eq_some_iff.1 hj).1
      have := hat j hjk
      rw [add_add, hj] at this
      exact this)
    have hb : len * b ≤ 140737488351232 := by
      have h1 : ((cap : Nat) * b ≤ reachBytes) := by
        have := List.all_eq_true.1 hw (cap * b) (by
          rw [hx]; simp only [DataW.weights, ht, hB, List.length_map, List.length_range]
          rw [Nat.add_sub_cancel' hl]; exact List.mem_cons_self)
        simpa using this
      have h2 := Nat.mul_le_mul_right b hl
      unfold reachBytes at h1
      omega
    refine ⟨l, ⟨some a, cap, by rw [List.length_map, hll], by rw [List.length_map]; omega, hm, ?_⟩, (fun n cap hh => by cases hh), (fun z hz => ?_), by rw [hll]; exact hb⟩
    · by_cases h0 : len = 0
      · left; rw [List.length_eq_zero_iff.1 (hll.trans h0)]; rfl
      · right
        obtain ⟨cs, hc, -⟩ := hi 0 (by omega)
        obtain ⟨-, hlen, hat⟩ := World.cells?_some hc
        have h00 := hat 0 hk
        rw [List.getElem?_eq_getElem (by omega)] at h00
        obtain ⟨g, o, spot⟩ := a
        have hspot : spot = none := by simpa [Addr.add] using World.cell?_spot h00
        subst hspot
        refine ⟨g, o, rfl, hlt (.cell g o) (by rw [hx]; exact List.mem_append_left _ (MemPlace.mem_row.2 ⟨0, Nat.mul_pos (by omega) hk, by simp⟩)), fun j x hj i y hy => ?_⟩
        rw [List.getElem?_map] at hj
        obtain ⟨z, hz, rfl⟩ := Option.map_eq_some_iff.1 hj
        have h9 := (hp j z hz).2 i y hy
        rw [Go.WideShapes.add_plain, ← Nat.add_assoc] at h9
        exact h9
    · obtain ⟨i, hi'⟩ := List.mem_iff_getElem?.1 hz
      exact (hp i z hi').1
end
theorem rng64 {n : Int} (h : (Lit.int .i64 n).wf = true) : -9223372036854775808 ≤ n ∧ n ≤ 9223372036854775807 := by
  simpa [Lit.wf, IntKind.min, IntKind.max, IntKind.signed, IntKind.bits] using h
section
variable {H : Type} {enc : TypeId × Value → H} {W : World}
set_option maxRecDepth 100000 in
theorem row_int (cs : List Value) (y : DataW H × List MemPlace) (n : Nat) (h : DataW.trod enc Tryd.prog W 0 (fun _ => true) true n 3 cs = some y) (_ : cs.length = 1) : ∃ z : Int, True ∧ cs = [.int .i64 z] := by
  obtain ⟨z, e, -, -⟩ := DataW.trod_int Tryd.underlying3 h
  exact ⟨z, trivial, e⟩
set_option maxRecDepth 100000 in
theorem row_elm (cs : List Value) (y : DataW H × List MemPlace) (n : Nat) (h : DataW.trod enc Tryd.prog W 0 (fun _ => true) true n 80 cs = some y) (hl : cs.length = 2) : ∃ z : El, z.n.size ≤ 9223372036854775807 ∧ cs = z.row := by
  match cs, hl with
  | [c0, c1], _ =>
    obtain ⟨xs, m, -, -, -, hxl, hg⟩ := DataW.trod_struct Tryd.underlying80 h
    match xs, hxl with
    | [x0, x1], _ =>
      have g0 : DataW.trod enc Tryd.prog W 0 (fun _ => true) true m 9 [c0] = some x0 := hg 0 _ rfl
      have g1 : DataW.trod enc Tryd.prog W 0 (fun _ => true) true m 3 [c1] = some x1 := hg 1 _ rfl
      obtain ⟨s, e0, -, hs⟩ := DataW.trod_string Tryd.underlying9 g0
      obtain ⟨i1, e1, -, -⟩ := DataW.trod_int Tryd.underlying3 g1
      cases e0; cases e1
      exact ⟨⟨s, i1⟩, hs, rfl⟩
set_option maxRecDepth 100000 in
theorem row_cls (cs : List Value) (y : DataW H × List MemPlace) (n : Nat) (h : DataW.trod enc Tryd.prog W 0 (fun _ => true) true n 106 cs = some y) (hl : cs.length = 5) : ∃ z : Cl, z.n.size ≤ 9223372036854775807 ∧ cs = z.row := by
  match cs, hl with
  | [c0, c1, c2, c3, c4], _ =>
    obtain ⟨xs, m, -, -, -, hxl, hg⟩ := DataW.trod_struct Tryd.underlying106 h
    match xs, hxl with
    | [x0, x1], _ =>
      have g0 : DataW.trod enc Tryd.prog W 0 (fun _ => true) true m 9 [c0] = some x0 := hg 0 _ rfl
      have t4 : Tryd.prog.cellsOf 104 = 4 := by kernel_rfl
      have g1 : DataW.trod enc Tryd.prog W 0 (fun _ => true) true m 104 [c1, c2, c3, c4] = some x1 := by
        have : DataW.trod enc Tryd.prog W 0 (fun _ => true) true m 104 (List.take (Tryd.prog.cellsOf 104) [c1, c2, c3, c4]) = some x1 := hg 1 _ rfl
        rw [t4] at this
        exact this
      obtain ⟨s, e0, -, hs⟩ := DataW.trod_string Tryd.underlying9 g0
      obtain ⟨zs, m2, -, -, -, hzl, hz⟩ := DataW.trod_struct Tryd.underlying104 g1
      match zs, hzl with
      | [z0], _ =>
        have t5 : Tryd.prog.cellsOf 102 = 4 := by kernel_rfl
        have g2 : DataW.trod enc Tryd.prog W 0 (fun _ => true) true m2 102 [c1, c2, c3, c4] = some z0 := by
          have : DataW.trod enc Tryd.prog W 0 (fun _ => true) true m2 102 (List.take (Tryd.prog.cellsOf 102) [c1, c2, c3, c4]) = some z0 := hz 0 _ rfl
          rw [t5] at this
          exact this
        obtain ⟨us, m3, -, -, -, hul, hu⟩ := DataW.trod_array Tryd.underlying102 g2
        have t6 : Tryd.prog.cellsOf 72 = 1 := by kernel_rfl
        rw [t6] at hu
        match us, hul with
        | [u0, u1, u2, u3], _ =>
          have j0 : DataW.trod enc Tryd.prog W 0 (fun _ => true) true m3 72 [c1] = some u0 := hu 0 (by decide)
          have j1 : DataW.trod enc Tryd.prog W 0 (fun _ => true) true m3 72 [c2] = some u1 := hu 1 (by decide)
          have j2 : DataW.trod enc Tryd.prog W 0 (fun _ => true) true m3 72 [c3] = some u2 := hu 2 (by decide)
          have j3 : DataW.trod enc Tryd.prog W 0 (fun _ => true) true m3 72 [c4] = some u3 := hu 3 (by decide)
          obtain ⟨i1, e1, -, -⟩ := DataW.trod_int Tryd.underlying72 j0
          obtain ⟨i2, e2, -, -⟩ := DataW.trod_int Tryd.underlying72 j1
          obtain ⟨i3, e3, -, -⟩ := DataW.trod_int Tryd.underlying72 j2
          obtain ⟨i4, e4, -, -⟩ := DataW.trod_int Tryd.underlying72 j3
          cases e0; cases e1; cases e2; cases e3; cases e4
          exact ⟨⟨s, i1, i2, i3, i4⟩, hs, rfl⟩
set_option maxRecDepth 100000 in
set_option maxRecDepth 100000 in
theorem open_loc {b0 : Nat} {v : Value} {d : DataW H} {p : List MemPlace} (hv : Value.okWide Tryd.prog W .any b0 41 v) (h : DataW.Trod enc Tryd.prog W 0 (fun _ => true) true 41 v d p) (hlt : ∀ x ∈ p, x.block < W.heap.size) (hw : (d.weights Tryd.prog 41).all (· ≤ reachBytes) = true) :
    ∃ (n lo up : ByteArray) (v1 v4 v5 : Value) (Ws : List Int) (C : List Cl) (E : List El), v = lval n v1 lo up v4 v5 ∧ LocAt W v1 v4 v5 Ws C E ∧ NZ v1 ∧ NZ v4 ∧ NZ v5 ∧ n.size ≤ 9223372036854775807 ∧ Ws.length * 8 ≤ 140737488355328 ∧ C.length * 48 ≤ 140737488355328 ∧ E.length * 24 ≤ 140737488355328 := by
  obtain ⟨v0, v1, v2, v3, v4, v5, y0, y1, y2, y3, y4, y5, n, rfl, rfl, rfl, h0, h1, h2, h3, h4, h5⟩ := own_agg6 Tryd.underlying41 (by kernel_rfl) (by kernel_rfl) hv h
  obtain ⟨s0, e0, -, w0⟩ := DataW.trod_string Tryd.underlying9 h0
  obtain ⟨s2, e2, -, -⟩ := DataW.trod_string Tryd.underlying9 h2
  obtain ⟨s3, e3, -, -⟩ := DataW.trod_string Tryd.underlying9 h3
  cases e0; cases e2; cases e3
  have q1 : ∀ x ∈ y1.2, x.block < W.heap.size := fun x hx => hlt x (by simp [hx])
  have q4 : ∀ x ∈ y4.2, x.block < W.heap.size := fun x hx => hlt x (by simp [hx])
  have q5 : ∀ x ∈ y5.2, x.block < W.heap.size := fun x hx => hlt x (by simp [hx])
  have k1 := sized_parts Tryd.underlying41 hw (j := 1) rfl rfl
  have k4 := sized_parts Tryd.underlying41 hw (j := 4) rfl rfl
  have k5 := sized_parts Tryd.underlying41 hw (j := 5) rfl rfl
  obtain ⟨Ws, r1, n1, -, z1⟩ := open_rows (fun n : Int => [.int .i64 n]) (fun _ => True) 1 Tryd.underlying37 (by decide) (by kernel_rfl) (by kernel_rfl : Tryd.prog.bytesOf 3 = 8) h1 q1 k1 row_int
  obtain ⟨C, r4, n4, t4, z4⟩ := open_rows Cl.row (fun z => z.n.size ≤ 9223372036854775807) 5 Tryd.underlying38 (by decide) (by kernel_rfl) (by kernel_rfl : Tryd.prog.bytesOf 106 = 48) h4 q4 k4 row_cls
  obtain ⟨E, r5, n5, t5, z5⟩ := open_rows El.row (fun z => z.n.size ≤ 9223372036854775807) 2 Tryd.underlying39 (by decide) (by kernel_rfl) (by kernel_rfl : Tryd.prog.bytesOf 80 = 24) h5 q5 k5 row_elm
  exact ⟨s0, s2, s3, v1, v4, v5, Ws, C, E, rfl, ⟨r1, r4, r5, t4, t5⟩, n1, n4, n5, w0, by omega, by omega, by omega⟩
end
set_option maxRecDepth 100000 in
/-- a value among the arguments: its kind, its number, its string, which is no longer than the datum -/
theorem open_valU {H : Type} {enc : TypeId × Value → H} {W : World} {base : Nat} {v : Value} {d : DataW H} {p : List MemPlace} (hval : Value.okWide Tryd.prog W .any base 24 v) (h : DataW.Trod enc Tryd.prog W 0 (fun _ => true) true 24 v d p) :
    ∃ (k n : Int) (s : ByteArray), v = .agg #[.int .i64 k, .int .i64 n, .string s] ∧ s.size ≤ Rows.uptoBulk d := by
  obtain ⟨⟨l⟩, rfl, hsz⟩ := okWide_struct Tryd.underlying24 hval
  obtain ⟨fuel, hf⟩ := h
  obtain ⟨y0, y1, y2, n, hx, hl, h0, h1, h2⟩ := Go.Deep.trod_struct3 Tryd.underlying24 hf
  rw [show Tryd.prog.cellsOf 24 = 3 by kernel_rfl] at hsz
  match l, hsz with
  | [a, b, c], _ =>
    rw [show Tryd.prog.cellsOf 3 = 1 by kernel_rfl] at h0
    rw [show Tryd.prog.cellsOf 22 = 1 by kernel_rfl] at h1
    rw [show Tryd.prog.cellsOf 9 = 1 by kernel_rfl] at h2
    obtain ⟨k, e0, x0, _⟩ := DataW.trod_int Tryd.underlying3 h0
    obtain ⟨m, e1, x1, _⟩ := DataW.trod_int Tryd.underlying22 h1
    obtain ⟨s, e2, x2, _⟩ := DataW.trod_string Tryd.underlying9 h2
    have e0' : a = .int .i64 k := by simpa [Value.cells] using e0
    have e1' : b = .int .i64 m := by simpa [Value.cells] using e1
    have e2' : c = .string s := by simpa [Value.cells] using e2
    subst e0' e1' e2' x0 x1 x2
    refine ⟨k, m, s, rfl, ?_⟩
    have hd : d = .agg [.lit (.int .i64 k), .lit (.int .i64 m), .lit (.string s.data.toList)] := by have := congrArg Prod.fst hx; simpa using this
    subst hd
    have e : s.data.toList.length = s.size := rfl
    simp only [Rows.uptoBulk, Rows.uptoBulkAll]
    omega
end Go.Proofs.YtjngkapfngempaaDoor
