/- plain: laws of the joined lines: pairs, lines that are alone, exchanged lists, fields -/
import Derived.Test.YtbhdhcnbagjmcaaDoorPa
namespace Jn
/-- a list whose keys do not fall -/
def Srt (cmp : List UInt8 → List UInt8 → Int) (key : List UInt8 → List UInt8) (l : List (List UInt8)) : Prop := l.Pairwise fun x y => cmp (key x) (key y) ≤ 0
structure Ord (cmp : List UInt8 → List UInt8 → Int) : Prop where
  refl : ∀ a, cmp a a = 0
  eq : ∀ a b, cmp a b = 0 → a = b
  swap : ∀ a b, cmp b a = - cmp a b
  trans : ∀ a b c, cmp a b ≤ 0 → cmp b c ≤ 0 → cmp a c ≤ 0 ∧ (cmp a c = 0 → cmp a b = 0 ∧ cmp b c = 0)
variable {cmp : List UInt8 → List UInt8 → Int}
theorem Ord.lt_of {a b c : List UInt8} (H : Ord cmp) (h1 : cmp a b < 0) (h2 : cmp b c ≤ 0) : cmp a c < 0 := by
  obtain ⟨t1, t2⟩ := H.trans a b c (by omega) h2
  refine Decidable.byContradiction fun h => ?_
  have := (t2 (by omega)).1; omega
theorem Ord.ne_lt {a b : List UInt8} (H : Ord cmp) (h1 : cmp a b < 0) : a ≠ b := fun e => by rw [e, H.refl] at h1; omega
theorem Ord.ne_gt {a b : List UInt8} (H : Ord cmp) (h1 : 0 < cmp a b) : a ≠ b := fun e => by rw [e, H.refl] at h1; omega
/-- behind the group of the first line all keys are greater -/
theorem grp_split (H : Ord cmp) (key : List UInt8 → List UInt8) (x : List UInt8) (r : List (List UInt8)) (h : Srt cmp key (x :: r)) :
    (∀ y ∈ (x :: r).take (grpN key (x :: r)), key y = key x) ∧ (∀ y ∈ (x :: r).drop (grpN key (x :: r)), cmp (key x) (key y) < 0) ∧ Srt cmp key ((x :: r).drop (grpN key (x :: r))) := by
  have hg : grpN key (x :: r) = (r.takeWhile fun y => decide (key y = key x)).length + 1 := Nat.add_comm _ _
  have ht : (x :: r).take (grpN key (x :: r)) = x :: r.takeWhile fun y => decide (key y = key x) := by
    rw [hg, List.take_succ_cons]
    congr 1
    exact List.prefix_iff_eq_take.1 (List.takeWhile_prefix _) |>.symm
  have hd : (x :: r).drop (grpN key (x :: r)) = r.dropWhile fun y => decide (key y = key x) := by
    rw [hg, List.drop_succ_cons]
    have e := List.takeWhile_append_dropWhile (p := fun y => decide (key y = key x)) (l := r)
    have : ∀ l1 l2 : List (List UInt8), l1 ++ l2 = r → r.drop l1.length = l2 := fun l1 l2 h => by rw [← h]; exact List.drop_left
    exact this _ _ e
  have hs : Srt cmp key (r.dropWhile fun y => decide (key y = key x)) := (List.pairwise_cons.1 h).2.sublist (List.dropWhile_suffix _).sublist
  refine ⟨fun y hy => ?_, fun y hy => ?_, by rw [hd]; exact hs⟩
  · rw [ht] at hy
    rcases List.mem_cons.1 hy with rfl | hy
    · rfl
    · have : ∀ (l : List (List UInt8)), y ∈ l.takeWhile (fun y => decide (key y = key x)) → key y = key x := by
        intro l
        induction l with
        | nil => intro h; cases h
        | cons z t ih =>
          intro h
          by_cases hz : key z = key x
          · rw [List.takeWhile_cons_of_pos (by simpa using hz)] at h
            rcases List.mem_cons.1 h with rfl | h
            · exact hz
            · exact ih h
          · rw [List.takeWhile_cons_of_neg (by simpa using hz)] at h; cases h
      exact this r hy
  · rw [hd] at hy
    have hle : ∀ z ∈ r, cmp (key x) (key z) ≤ 0 := (List.pairwise_cons.1 h).1
    have hsub : ∀ z ∈ r.dropWhile (fun y => decide (key y = key x)), z ∈ r := fun z hz => (List.dropWhile_suffix _).subset hz
    obtain ⟨z, t, e⟩ : ∃ z t, r.dropWhile (fun y => decide (key y = key x)) = z :: t := by
      cases hr : r.dropWhile (fun y => decide (key y = key x)) with
      | nil => rw [hr] at hy; cases hy
      | cons z t => exact ⟨z, t, rfl⟩
    have hz : ¬ key z = key x := by
      have := List.head_dropWhile_not (p := fun y => decide (key y = key x)) (l := r) (by rw [e]; exact List.cons_ne_nil _ _)
      simp only [e, List.head_cons] at this
      simpa using this
    have hzl : cmp (key x) (key z) < 0 := by
      have h1 := hle z (hsub z (by rw [e]; exact List.mem_cons_self))
      refine Decidable.byContradiction fun h => ?_
      exact absurd (H.eq _ _ (by omega)).symm hz
    rw [e] at hy hs
    rcases List.mem_cons.1 hy with rfl | hy
    · exact hzl
    · exact H.lt_of hzl ((List.pairwise_cons.1 hs).1 y hy)
abbrev k1 (p : Sp) := keyL p.sep p.f1
abbrev k2 (p : Sp) := keyL p.sep p.f2
def eqK (p : Sp) (x y : List UInt8) : Bool := decide (k1 p x = k2 p y)
/-- all pairs with equal keys -/
def allP (p : Sp) (a b : List (List UInt8)) : List (List UInt8) := a.flatMap fun x => (b.filter fun y => eqK p x y).map fun y => putL p (some x) (some y)
def allL (p : Sp) (a b : List (List UInt8)) : List (List UInt8) := (a.filter fun x => b.all fun y => !eqK p x y).map fun x => putL p (some x) none
def allR (p : Sp) (a b : List (List UInt8)) : List (List UInt8) := (b.filter fun y => a.all fun x => !eqK p x y).map fun y => putL p none (some y)
/-- the three lists by the joiner's steps -/
theorem all_lt (H : Ord cmp) (p : Sp) (x : List UInt8) (a b : List (List UInt8)) (hb : Srt cmp (k2 p) b) (h : ordJ p cmp (x :: a) b < 0) :
    allP p (x :: a) b = allP p a b ∧ allL p (x :: a) b = putL p (some x) none :: allL p a b ∧ allR p (x :: a) b = allR p a b := by
  have hne : ∀ y ∈ b, eqK p x y = false := by
    intro y hy
    cases b with
    | nil => cases hy
    | cons z t =>
      have hz : cmp (k1 p x) (k2 p z) < 0 := h
      refine decide_eq_false ?_
      rcases List.mem_cons.1 hy with rfl | hy
      · exact H.ne_lt hz
      · exact H.ne_lt (H.lt_of hz ((List.pairwise_cons.1 hb).1 y hy))
  refine ⟨?_, ?_, ?_⟩
  · unfold allP
    rw [List.flatMap_cons, List.filter_eq_nil_iff.2 (fun y hy => by rw [hne y hy]; decide)]
    rfl
  · unfold allL
    rw [List.filter_cons_of_pos (by rw [List.all_eq_true]; intro y hy; rw [hne y hy]; rfl)]
    rfl
  · unfold allR
    congr 1
    refine List.filter_congr fun y hy => ?_
    rw [List.all_cons, hne y hy]; rfl
theorem all_gt (H : Ord cmp) (p : Sp) (y : List UInt8) (a b : List (List UInt8)) (ha : Srt cmp (k1 p) a) (h : 0 < ordJ p cmp a (y :: b)) :
    allP p a (y :: b) = allP p a b ∧ allL p a (y :: b) = allL p a b ∧ allR p a (y :: b) = putL p none (some y) :: allR p a b := by
  have hne : ∀ x ∈ a, eqK p x y = false := by
    intro x hx
    cases a with
    | nil => cases hx
    | cons z t =>
      have hz : 0 < cmp (k1 p z) (k2 p y) := h
      have hz' : cmp (k2 p y) (k1 p z) < 0 := by rw [H.swap (k1 p z)]; omega
      refine decide_eq_false ?_
      rcases List.mem_cons.1 hx with rfl | hx
      · exact H.ne_gt hz
      · exact (H.ne_lt (H.lt_of hz' ((List.pairwise_cons.1 ha).1 x hx))).symm
  refine ⟨?_, ?_, ?_⟩
  · unfold allP
    rw [List.flatMap_def, List.flatMap_def]
    congr 1
    refine List.map_congr_left fun x hx => ?_
    rw [List.filter_cons_of_neg (by rw [hne x hx]; decide)]
  · unfold allL
    congr 1
    refine List.filter_congr fun x hx => ?_
    rw [List.all_cons, hne x hx]; rfl
  · unfold allR
    rw [List.filter_cons_of_pos (by rw [List.all_eq_true]; intro x hx; rw [hne x hx]; rfl)]
    rfl
theorem all_app (p : Sp) (a1 a2 b1 b2 : List (List UInt8)) (h11 : ∀ x ∈ a1, ∀ y ∈ b1, eqK p x y = true) (h12 : ∀ x ∈ a1, ∀ y ∈ b2, eqK p x y = false) (h21 : ∀ x ∈ a2, ∀ y ∈ b1, eqK p x y = false) (na : a1 ≠ []) (nb : b1 ≠ []) :
    allP p (a1 ++ a2) (b1 ++ b2) = pairsL p a1 b1 ++ allP p a2 b2 ∧ allL p (a1 ++ a2) (b1 ++ b2) = allL p a2 b2 ∧ allR p (a1 ++ a2) (b1 ++ b2) = allR p a2 b2 := by
  refine ⟨?_, ?_, ?_⟩
  · unfold allP pairsL
    rw [List.flatMap_append]
    congr 1
    · rw [List.flatMap_def, List.flatMap_def]
      congr 1
      refine List.map_congr_left fun x hx => ?_
      rw [List.filter_append, List.filter_eq_self.2 (h11 x hx), List.filter_eq_nil_iff.2 (fun y hy => by rw [h12 x hx y hy]; decide), List.append_nil]
    · rw [List.flatMap_def, List.flatMap_def]
      congr 1
      refine List.map_congr_left fun x hx => ?_
      rw [List.filter_append, List.filter_eq_nil_iff.2 (fun y hy => by rw [h21 x hx y hy]; decide), List.nil_append]
  · unfold allL
    congr 1
    rw [List.filter_append, List.filter_eq_nil_iff.2, List.nil_append]
    · refine List.filter_congr fun x hx => ?_
      rw [List.all_append, Bool.and_eq_right_iff_imp.2]
      intro _
      rw [List.all_eq_true]; intro y hy; rw [h21 x hx y hy]; rfl
    · intro x hx
      obtain ⟨y, t, rfl⟩ := List.exists_cons_of_ne_nil nb
      rw [List.cons_append, List.all_cons, h11 x hx y List.mem_cons_self]; simp
  · unfold allR
    congr 1
    rw [List.filter_append, List.filter_eq_nil_iff.2, List.nil_append]
    · refine List.filter_congr fun y hy => ?_
      rw [List.all_append, Bool.and_eq_right_iff_imp.2]
      intro _
      rw [List.all_eq_true]; intro x hx; rw [h12 x hx y hy]; rfl
    · intro y hy
      obtain ⟨x, t, rfl⟩ := List.exists_cons_of_ne_nil na
      rw [List.cons_append, List.all_cons, h11 x List.mem_cons_self y hy]; simp
/-- the flags' spell: which of the three lists are printed -/
def Sp.flags (p : Sp) (l r q : Bool) : Sp := { p with left := l, right := r, paired := q }
theorem joinF_all (H : Ord cmp) (p : Sp) : ∀ (n : Nat) (a b : List (List UInt8)), a.length + b.length ≤ n → Srt cmp (k1 p) a → Srt cmp (k2 p) b →
    (p.left = false → p.right = false → p.paired = true → joinF p cmp n a b = allP p a b) ∧ (p.left = true → p.right = false → p.paired = false → joinF p cmp n a b = allL p a b) ∧ (p.left = false → p.right = true → p.paired = false → joinF p cmp n a b = allR p a b) ∧
    (p.left = true → p.right = true → p.paired = true → (joinF p cmp n a b).length = (allP p a b).length + (allL p a b).length + (allR p a b).length) := by
  intro n
  induction n with
  | zero =>
    intro a b h _ _
    have ha : a = [] := List.length_eq_zero_iff.1 (by omega)
    have hb : b = [] := List.length_eq_zero_iff.1 (by omega)
    subst ha hb
    exact ⟨fun _ _ _ => rfl, fun _ _ _ => rfl, fun _ _ _ => rfl, fun _ _ _ => rfl⟩
  | succ n ih =>
    intro a b h sa sb
    unfold joinF
    by_cases h0 : a = [] ∧ b = []
    · obtain ⟨rfl, rfl⟩ := h0
      rw [if_pos ⟨rfl, rfl⟩]
      exact ⟨fun _ _ _ => rfl, fun _ _ _ => rfl, fun _ _ _ => rfl, fun _ _ _ => rfl⟩
    · rw [if_neg h0]
      by_cases h1 : ordJ p cmp a b < 0
      · rw [if_pos h1]
        cases a with
        | nil => exact absurd (show (1 : Int) < 0 from h1) (by decide)
        | cons x a =>
          obtain ⟨e1, e2, e3⟩ := all_lt H p x a b sb h1
          obtain ⟨i1, i2, i3, i4⟩ := ih a b (by rw [List.length_cons] at h; omega) (List.pairwise_cons.1 sa).2 sb
          rw [e1, e2, e3]
          simp only [List.drop_succ_cons, List.drop_zero, List.take_succ_cons, List.take_zero, List.map_cons, List.map_nil]
          refine ⟨fun f1 f2 f3 => ?_, fun f1 f2 f3 => ?_, fun f1 f2 f3 => ?_, fun f1 f2 f3 => ?_⟩
          · rw [f1, i1 f1 f2 f3]; rfl
          · rw [f1, i2 f1 f2 f3]; rfl
          · rw [f1, i3 f1 f2 f3]; rfl
          · rw [f1, List.length_append, i4 f1 f2 f3]; simp; omega
      · rw [if_neg h1]
        by_cases h2 : 0 < ordJ p cmp a b
        · rw [if_pos h2]
          cases b with
          | nil =>
            cases a with
            | nil => exact absurd ⟨rfl, rfl⟩ h0
            | cons x a => exact absurd (show (0 : Int) < -1 from h2) (by decide)
          | cons y b =>
            obtain ⟨e1, e2, e3⟩ := all_gt H p y a b sa h2
            obtain ⟨i1, i2, i3, i4⟩ := ih a b (by rw [List.length_cons] at h; omega) sa (List.pairwise_cons.1 sb).2
            rw [e1, e2, e3]
            simp only [List.drop_succ_cons, List.drop_zero, List.take_succ_cons, List.take_zero, List.map_cons, List.map_nil]
            refine ⟨fun f1 f2 f3 => ?_, fun f1 f2 f3 => ?_, fun f1 f2 f3 => ?_, fun f1 f2 f3 => ?_⟩
            · rw [f2, i1 f1 f2 f3]; rfl
            · rw [f2, i2 f1 f2 f3]; rfl
            · rw [f2, i3 f1 f2 f3]; rfl
            · rw [f2, List.length_append, i4 f1 f2 f3]; simp; omega
        · rw [if_neg h2]
          cases a with
          | nil => exact absurd (show (0 : Int) < 1 by decide) h2
          | cons x a =>
            cases b with
            | nil => exact absurd (show (-1 : Int) < 0 by decide) h1
            | cons y b =>
              have hc : cmp (k1 p x) (k2 p y) = 0 := by have h1 : ¬ cmp (k1 p x) (k2 p y) < 0 := h1; have h2 : ¬ 0 < cmp (k1 p x) (k2 p y) := h2; omega
              have hk : k1 p x = k2 p y := H.eq _ _ hc
              obtain ⟨ga1, ga2, ga3⟩ := grp_split H (k1 p) x a sa
              obtain ⟨gb1, gb2, gb3⟩ := grp_split H (k2 p) y b sb
              have pa := grpN_pos (key := k1 p) (List.cons_ne_nil x a)
              have pb := grpN_pos (key := k2 p) (List.cons_ne_nil y b)
              generalize hA : x :: a = A at *
              generalize hB : y :: b = B at *
              have nA : 1 ≤ A.length := by rw [← hA]; simp
              have nB : 1 ≤ B.length := by rw [← hB]; simp
              generalize grpN (k1 p) A = m at *
              generalize grpN (k2 p) B = k at *
              obtain ⟨e1, e2, e3⟩ := all_app p (A.take m) (A.drop m) (B.take k) (B.drop k) (fun u hu v hv => decide_eq_true (by rw [ga1 u hu, gb1 v hv, hk]))
                (fun u hu v hv => decide_eq_false (by rw [ga1 u hu, hk]; exact H.ne_lt (gb2 v hv)))
                (fun u hu v hv => decide_eq_false (by rw [gb1 v hv, ← hk]; exact (H.ne_lt (ga2 u hu)).symm))
                (fun e => by have := congrArg List.length e; rw [List.length_take, List.length_nil] at this; omega)
                (fun e => by have := congrArg List.length e; rw [List.length_take, List.length_nil] at this; omega)
              rw [List.take_append_drop, List.take_append_drop] at e1 e2 e3
              obtain ⟨i1, i2, i3, i4⟩ := ih (A.drop m) (B.drop k) (by rw [List.length_drop, List.length_drop]; omega) ga3 gb3
              rw [e1, e2, e3]
              refine ⟨fun f1 f2 f3 => ?_, fun f1 f2 f3 => ?_, fun f1 f2 f3 => ?_, fun f1 f2 f3 => ?_⟩
              · rw [f3, i1 f1 f2 f3]; rfl
              · rw [f3, i2 f1 f2 f3]; rfl
              · rw [f3, i3 f1 f2 f3]; rfl
              · rw [f3, List.length_append, i4 f1 f2 f3, List.length_append]; simp; omega
/-- keys that are all different: each group is one line -/
def Dst (key : List UInt8 → List UInt8) (l : List (List UInt8)) : Prop := l.Pairwise fun x y => key x ≠ key y
theorem grp_one (key : List UInt8 → List UInt8) (x : List UInt8) (r : List (List UInt8)) (h : Dst key (x :: r)) : grpN key (x :: r) = 1 := by
  cases r with
  | nil => rfl
  | cons y t =>
    have : ¬ key y = key x := fun e => (List.pairwise_cons.1 h).1 y List.mem_cons_self e.symm
    show 1 + (List.takeWhile _ (y :: t)).length = 1
    rw [List.takeWhile_cons_of_neg (by simpa using this)]; rfl
/-- the specification with the lists exchanged -/
def swO (o : Int × Int) : Int × Int := if 0 < o.1 then (3 - o.1, o.2) else o
def Sp.swap (p : Sp) : Sp := ⟨p.f2, p.f1, p.sep, p.right, p.left, p.paired, p.empty, p.out.map swO⟩
theorem outF_sw (p : Sp) (x y : List (List UInt8)) (key : List UInt8) (o : Int × Int) (ho : outB o = true) : outF p.swap y x key (swO o) = outF p x y key o := by
  obtain ⟨f, n⟩ := o
  have hf : f = 0 ∨ f = 1 ∨ f = 2 := by
    unfold outB at ho
    simp only [Bool.or_eq_true, Bool.and_eq_true, decide_eq_true_eq] at ho
    rcases ho with ⟨h, -⟩ | ⟨h | h, -⟩
    · exact .inl h
    · exact .inr (.inl h)
    · exact .inr (.inr h)
  rcases hf with rfl | rfl | rfl <;> rfl
theorem putL_sw (p : Sp) (a b : Option (List UInt8)) (ho : p.out.all outB = true) (hn : p.out ≠ []) (hk : keyO p.swap b a = keyO p a b) : putL p.swap b a = putL p a b := by
  unfold putL rowO
  have hn' : p.swap.out ≠ [] := fun e => hn (List.map_eq_nil_iff.1 e)
  rw [if_neg hn, if_neg hn', hk]
  show Go.Lib.join ((p.out.map swO).map _) _ = _
  rw [List.map_map]
  have : (p.out.map (outF p.swap (xO p.swap b) (xO p.swap a) (keyO p a b) ∘ swO)) = p.out.map (outF p (xO p a) (xO p b) (keyO p a b)) := by
    refine List.map_congr_left fun o h => ?_
    exact outF_sw p (xO p a) (xO p b) _ o (List.all_eq_true.1 ho o h)
  rw [this]; rfl
theorem joinF_swap (H : Ord cmp) (p : Sp) (ho : p.out.all outB = true) (hn : p.out ≠ []) : ∀ (n : Nat) (a b : List (List UInt8)), Dst (k1 p) a → Dst (k2 p) b → joinF p.swap cmp n b a = joinF p cmp n a b := by
  intro n
  induction n with
  | zero => intro a b _ _; rfl
  | succ n ih =>
    intro a b da db
    unfold joinF
    by_cases h0 : a = [] ∧ b = []
    · rw [if_pos h0, if_pos h0.symm]
    · rw [if_neg h0, if_neg (fun h => h0 h.symm)]
      have hs : ordJ p.swap cmp b a = - ordJ p cmp a b := by
        cases a with
        | nil =>
          cases b with
          | nil => exact absurd ⟨rfl, rfl⟩ h0
          | cons y b => rfl
        | cons x a =>
          cases b with
          | nil => rfl
          | cons y b => exact H.swap _ _
      rw [hs]
      by_cases h1 : ordJ p cmp a b < 0
      · rw [if_pos h1, if_neg (by omega), if_pos (by omega)]
        cases a with
        | nil => exact absurd (show (1 : Int) < 0 from h1) (by decide)
        | cons x a =>
          simp only [List.drop_succ_cons, List.drop_zero, List.take_succ_cons, List.take_zero, List.map_cons, List.map_nil]
          rw [ih a b (List.pairwise_cons.1 da).2 db, putL_sw p (some x) none ho hn rfl]; rfl
      · rw [if_neg h1]
        by_cases h2 : 0 < ordJ p cmp a b
        · rw [if_pos h2, if_pos (by omega)]
          cases b with
          | nil =>
            cases a with
            | nil => exact absurd ⟨rfl, rfl⟩ h0
            | cons x a => exact absurd (show (0 : Int) < -1 from h2) (by decide)
          | cons y b =>
            simp only [List.drop_succ_cons, List.drop_zero, List.take_succ_cons, List.take_zero, List.map_cons, List.map_nil]
            rw [ih a b da (List.pairwise_cons.1 db).2, putL_sw p none (some y) ho hn rfl]; rfl
        · rw [if_neg h2, if_neg (by omega), if_neg (by omega)]
          cases a with
          | nil => exact absurd (show (0 : Int) < 1 by decide) h2
          | cons x a =>
            cases b with
            | nil => exact absurd (show (-1 : Int) < 0 by decide) h1
            | cons y b =>
              have hc : cmp (k1 p x) (k2 p y) = 0 := by have h1 : ¬ cmp (k1 p x) (k2 p y) < 0 := h1; have h2 : ¬ 0 < cmp (k1 p x) (k2 p y) := h2; omega
              have hk : k1 p x = k2 p y := H.eq _ _ hc
              have ga := grp_one (k1 p) x a da
              have gb := grp_one (k2 p) y b db
              have ga' : grpN (keyL p.swap.sep p.swap.f2) (x :: a) = 1 := ga
              have gb' : grpN (keyL p.swap.sep p.swap.f1) (y :: b) = 1 := gb
              rw [ga', gb', show grpN (keyL p.sep p.f1) (x :: a) = 1 from ga, show grpN (keyL p.sep p.f2) (y :: b) = 1 from gb]
              simp only [List.drop_succ_cons, List.drop_zero, List.take_succ_cons, List.take_zero]
              rw [ih a b (List.pairwise_cons.1 da).2 (List.pairwise_cons.1 db).2]
              have : pairsL p.swap [y] [x] = pairsL p [x] [y] := by
                show [putL p.swap (some y) (some x)] = [putL p (some x) (some y)]
                rw [putL_sw p (some x) (some y) ho hn hk.symm]
              rw [this]; rfl
theorem chk_swap (p : Sp) (h : chkJ p = 0) : chkJ p.swap = 0 ∧ headB p = true ∧ p.out.all outB = true := by
  unfold chkJ at h
  by_cases h1 : headB p = false
  · rw [if_pos h1] at h; omega
  rw [if_neg h1] at h
  by_cases h2 : (10 : UInt8) ∈ p.empty
  · rw [if_pos h2] at h; omega
  rw [if_neg h2] at h
  by_cases h3 : 1024 < p.out.length
  · rw [if_pos h3] at h; omega
  rw [if_neg h3] at h
  by_cases h4 : p.out.all outB = true
  · have e1 : headB p = true := by simpa using h1
    have e2 : headB p.swap = true := by
      rw [← e1]; unfold headB Sp.swap; rw [Bool.and_comm (fldB p.f2)]
    refine ⟨?_, e1, h4⟩
    unfold chkJ
    rw [e2, if_neg (by decide), if_neg (show ¬ (10 : UInt8) ∈ p.swap.empty from h2), if_neg (by show ¬ 1024 < (p.out.map swO).length; rw [List.length_map]; exact h3), if_pos]
    show (p.out.map swO).all outB = true
    rw [List.all_map, List.all_eq_true]
    intro o ho
    have := List.all_eq_true.1 h4 o ho
    obtain ⟨f, n⟩ := o
    unfold outB at this
    simp only [Bool.or_eq_true, Bool.and_eq_true, decide_eq_true_eq] at this
    rcases this with ⟨rfl, rfl⟩ | ⟨rfl | rfl, h⟩
    · rfl
    · simp [swO, outB, h]
    · simp [swO, outB, h]
  · rw [if_neg h4] at h; omega
/-- what the statement writes of two lines -/
def rowS (sep n m : Int) (a b : Option (List UInt8)) : List UInt8 :=
  let p : Sp := ⟨n, m, sep, false, false, false, [], []⟩
  keyO p a b ++ ((othL n 0 (xO p a) ++ othL m 0 (xO p b)).flatMap fun s => sepL sep ++ s)
theorem join_cons (x : List UInt8) (r : List (List UInt8)) (s : List UInt8) : Go.Lib.join (x :: r) s = x ++ r.flatMap fun y => s ++ y := by
  induction r generalizing x with
  | nil => simp [Go.Lib.join]
  | cons y t ih =>
    have e : Go.Lib.join (x :: y :: t) s = x ++ s ++ Go.Lib.join (y :: t) s := by simp [Go.Lib.join, List.intercalate]
    rw [e, List.flatMap_cons, ih]; simp
theorem putL_row (p : Sp) (a b : Option (List UInt8)) (hn : p.out = []) : putL p a b = rowS p.sep p.f1 p.f2 a b := by
  unfold putL rowO
  rw [if_pos hn, join_cons]
  cases a <;> cases b <;> rfl
end Jn
