/- plain mathematics and texts of one kind, joined in one file (merge.py) -/
import Derived.Test.YtnkpigibjicmaaaDoorVdg
import Derived.Test.YtnkpigibjicmaaaDoorVrev
/- plain: the hunks of a difference fit where they were made -/
namespace Go.Proofs.YtnkpigibjicmaaaDoor
open Pt Tx
/-- hunks that fit, old lines from i on, new lines from j on -/
inductive FitH (old new : List Ln) : Nat → Nat → List Hk → Prop
  | nil {i j : Nat} : i ≤ old.length → j ≤ new.length → old.drop i = new.drop j → FitH old new i j []
  | cons {i j k : Nat} {h : Hk} {r : List Hk} : beginP h.fa h.la = ((i + k : Nat) : Int) → beginP h.fb h.lb = ((j + k : Nat) : Int) →
      (old.drop i).take k = (new.drop j).take k → i + k + (sideP 2 h.ls).length ≤ old.length → j + k + (sideP 3 h.ls).length ≤ new.length →
      (old.drop (i + k)).take (sideP 2 h.ls).length = sideP 2 h.ls → (new.drop (j + k)).take (sideP 3 h.ls).length = sideP 3 h.ls →
      FitH old new (i + k + (sideP 2 h.ls).length) (j + k + (sideP 3 h.ls).length) r → FitH old new i j (h :: r)
theorem revL_side2 (l : List DL) : sideP 2 (revF [] l) = sideP 3 l := rev_side2 l [] (fun x hx => by simp at hx)
theorem revL_side3 (l : List DL) : sideP 3 (revF [] l) = sideP 2 l := by
  have := rev_side3 l [] (fun x hx => by simp at hx)
  simpa using this
theorem FitH.rev {old new : List Ln} {i j : Nat} {l : List Hk} (h : FitH old new i j l) : FitH new old j i (l.map revH) := by
  induction h with
  | nil h1 h2 h3 => exact .nil h2 h1 h3.symm
  | cons h1 h2 h3 h4 h5 h6 h7 h8 ih =>
    rw [List.map_cons]
    refine .cons (k := _) h2 h1 h3.symm ?_ ?_ ?_ ?_ ?_
    · show _ + (sideP 2 (revF [] _)).length ≤ _; rw [revL_side2]; exact h5
    · show _ + (sideP 3 (revF [] _)).length ≤ _; rw [revL_side3]; exact h4
    · show (List.drop _ new).take (sideP 2 (revF [] _)).length = sideP 2 (revF [] _); rw [revL_side2]; exact h7
    · show (List.drop _ old).take (sideP 3 (revF [] _)).length = sideP 3 (revF [] _); rw [revL_side3]; exact h6
    · show FitH new old (_ + (sideP 2 (revF [] _)).length) (_ + (sideP 3 (revF [] _)).length) _; rw [revL_side2, revL_side3]; exact ih
theorem ctx_zero (l : List DL) : ctx l 0 = 0 := by unfold ctx; rw [List.take_zero]; rfl
theorem trim_zero (l : List DL) : trimP l 0 = l := by unfold trimP; rw [ctx_zero, ctx_zero, List.drop_zero, Nat.sub_zero, List.take_length]
theorem fit_yes {old p : List Ln} {low t : Nat} (h1 : low ≤ t) (h2 : t + p.length ≤ old.length) (h3 : (old.drop t).take p.length = p) : fitB old low p t = true := by
  unfold fitB
  simp only [Bool.and_eq_true, decide_eq_true_eq]
  exact ⟨⟨h1, h2⟩, h3⟩
theorem place_at {old : List Ln} {low t : Nat} {mv : Int} {h : Hk} {fuzz : Int} (hf : findP old low (beginP h.fa h.la + mv) (sideP 2 h.ls) = some t) : placeP old low mv h fuzz = some (t, (t : Int) - beginP h.fa h.la, 0) := by
  unfold placeP placeF
  simp only
  rw [ctx_zero, trim_zero, show beginP h.fa h.la + ((0 : Nat) : Int) + mv = beginP h.fa h.la + mv by omega, hf]
  simp
/-- hunks that fit are placed where they were made -/
theorem FitH.run {old new : List Ln} {i j : Nat} {l : List Hk} (hF : FitH old new i j l) (fuzz : Int) : ∀ s : Wk, s.out = new.take j → s.low = i → s.move = 0 → s.bad = [] →
    (l.foldl (stepP old fuzz) s).out ++ old.drop (l.foldl (stepP old fuzz) s).low = new ∧ (l.foldl (stepP old fuzz) s).bad = [] ∧ (l.foldl (stepP old fuzz) s).placed = s.placed ++ l.map fun h => (beginP h.fa h.la + 1, 0, 0) := by
  induction hF with
  | nil h1 h2 h3 =>
    intro s e1 e2 e3 e4
    simp only [List.foldl_nil, List.map_nil, List.append_nil]
    exact ⟨by rw [e1, e2, h3, List.take_append_drop], e4, trivial⟩
  | @cons i j k h r h1 h2 h3 h4 h5 h6 h7 h8 ih =>
    intro s e1 e2 e3 e4
    have hp : placeP old s.low s.move h fuzz = some (i + k, 0, 0) := by
      rw [place_at (t := i + k) (findP_of (fit_yes (by omega) h4 h6) fun u hu => by
        unfold far
        by_cases e : u = i + k
        · right; subst e; exact ⟨rfl, Nat.le_refl _⟩
        · left; rw [e3, h1]; split <;> split <;> omega)]
      rw [h1]; simp
    have hs : stepP old fuzz s h = { out := s.out ++ (old.drop s.low).take (i + k - s.low) ++ sideP 3 h.ls, low := i + k + (sideP 2 h.ls).length, move := 0, placed := s.placed ++ [(((i + k : Nat) : Int) + 1, 0, ((0 : Nat) : Int))], bad := s.bad } := by
      unfold stepP
      rw [hp]
      simp only [trim_zero]
    rw [List.foldl_cons, hs]
    have := ih { out := s.out ++ (old.drop s.low).take (i + k - s.low) ++ sideP 3 h.ls, low := i + k + (sideP 2 h.ls).length, move := 0, placed := s.placed ++ [(((i + k : Nat) : Int) + 1, 0, ((0 : Nat) : Int))], bad := s.bad } ?_ rfl rfl e4
    · obtain ⟨q1, q2, q3⟩ := this
      refine ⟨q1, q2, ?_⟩
      rw [q3, List.map_cons, h1]; simp
    · simp only
      rw [e1, e2, show i + k - i = k by omega, h3, List.append_assoc, Nat.add_assoc, List.take_add, List.take_add, List.drop_drop, h7]
theorem FitH.text {old new : List Ln} {l : List Hk} (hF : FitH old new 0 0 l) (fuzz : Int) : textP old (runP old l fuzz) = joinedP new ∧ (runP old l fuzz).bad = [] ∧ (runP old l fuzz).placed = l.map fun h => (beginP h.fa h.la + 1, 0, 0) := by
  have := hF.run fuzz ⟨[], 0, 0, [], []⟩ rfl rfl rfl rfl
  unfold textP runP
  rw [this.1, this.2.1, this.2.2]
  exact ⟨rfl, rfl, by simp⟩
/-- the ends of the sides of hunks -/
def endsL : List Hk → Prop
  | [] => True
  | h :: r => endsB (decide (r = [])) (sideP 2 h.ls) = true ∧ endsB (decide (r = [])) (sideP 3 h.ls) = true ∧ endsL r
theorem shape_len {h : Hk} (hs : shapeE h = 0) : h.la = (sideP 2 h.ls).length ∧ h.lb = (sideP 3 h.ls).length := by
  unfold shapeE at hs
  split at hs
  · rename_i h1; exact absurd hs h1
  · split at hs
    · cases hs
    · rename_i h2; omega
theorem FitH.chk {old new : List Ln} {i j : Nat} {l : List Hk} (hF : FitH old new i j l) (hs : ∀ h ∈ l, shapeE h = 0) (he : endsL l) : chkP i ((j : Int) - i) l = 0 := by
  induction hF with
  | nil h1 h2 h3 => rfl
  | @cons i j k h r h1 h2 h3 h4 h5 h6 h7 h8 ih =>
    have hsh := hs h List.mem_cons_self
    obtain ⟨l1, l2⟩ := shape_len hsh
    unfold chkP
    rw [if_neg (by rw [hsh]; simp), if_neg (by rw [h1, h2]; omega), if_neg (by rw [he.1, he.2.1]; simp)]
    have := ih (fun x hx => hs x (List.mem_cons_of_mem _ hx)) he.2.2
    rw [h1, l1, l2]
    rw [show ((i + k : Nat) : Int) + ((sideP 2 h.ls).length : Nat) = ((i + k + (sideP 2 h.ls).length : Nat) : Int) by omega, show (j : Int) - i + (((sideP 3 h.ls).length : Nat) - ((sideP 2 h.ls).length : Nat)) = ((j + k + (sideP 3 h.ls).length : Nat) : Int) - ((i + k + (sideP 2 h.ls).length : Nat) : Int) by omega]
    exact this
/-- the hunk of some lines behind a old and b new ones -/
def firstN (before n : Nat) : Int := if n = 0 then before else (before : Int) + 1
def mkH (a b : Nat) (s : List DL) : Hk := ⟨firstN a (nA s), nA s, firstN b (nB s), nB s, s⟩
theorem begin_first (a n : Nat) : beginP (firstN a n) n = a := by unfold beginP firstN; split <;> split <;> omega
/-- hunks of a script behind a old and b new lines: what is between them is kept -/
inductive SegL : Nat → Nat → List DL → List Hk → Prop
  | nil {a b : Nat} {l : List DL} : (∀ x ∈ l, x.1 = 1) → SegL a b l []
  | cons {a b : Nat} {k s t : List DL} {r : List Hk} : (∀ x ∈ k, x.1 = 1) → s ≠ [] → (t = [] ∨ ∃ x t', t = x :: t' ∧ x.1 = 1) → SegL (a + k.length + nA s) (b + k.length + nB s) t r → SegL a b (k ++ s ++ t) (mkH (a + k.length) (b + k.length) s :: r)
theorem SegL.skip {a b : Nat} {x : DL} {t : List DL} {r : List Hk} (hx : x.1 = 1) (h : SegL (a + 1) (b + 1) t r) : SegL a b (x :: t) r := by
  generalize ea : a + 1 = a1 at h
  generalize eb : b + 1 = b1 at h
  cases h with
  | nil h1 => exact .nil (fun y hy => by rcases List.mem_cons.1 hy with hy | hy; rw [hy]; exact hx; exact h1 y hy)
  | @cons a b k s t r h1 h2 h3 h4 =>
    subst ea eb
    have := SegL.cons (a := a) (b := b) (k := x :: k) (s := s) (t := t) (r := r) (fun y hy => by rcases List.mem_cons.1 hy with hy | hy; rw [hy]; exact hx; exact h1 y hy) h2 h3
    rw [List.length_cons, show a + (k.length + 1) = a + 1 + k.length by omega, show b + (k.length + 1) = b + 1 + k.length by omega] at this
    exact this h4
theorem SegL.end_ {a b : Nat} {l : List DL} {r : List Hk} (h : SegL a b l r) (hl : l = []) : r = [] := by
  cases h with
  | nil _ => rfl
  | cons _ h2 _ _ => simp at hl; exact absurd hl.2.1 h2
theorem side_keep (op : Int) : ∀ l : List DL, (∀ x ∈ l, x.1 = 1) → sideP op l = l.map (·.2)
  | [], _ => rfl
  | x :: r, h => by
    rw [side_cons, if_pos (.inr (h x List.mem_cons_self)), side_keep op r (fun y hy => h y (List.mem_cons_of_mem _ hy))]; rfl
theorem nA_side : ∀ l : List DL, (∀ x ∈ l, x.1 = 1 ∨ x.1 = 2 ∨ x.1 = 3) → nA l = (sideP 2 l).length
  | [], _ => rfl
  | x :: r, h => by
    have ih := nA_side r (fun y hy => h y (List.mem_cons_of_mem _ hy))
    have hx := h x List.mem_cons_self
    unfold nA at ih ⊢
    rw [List.countP_cons, side_cons, List.length_append, ih]
    rcases hx with e | e | e <;> simp [e] <;> omega
theorem nB_side : ∀ l : List DL, (∀ x ∈ l, x.1 = 1 ∨ x.1 = 2 ∨ x.1 = 3) → nB l = (sideP 3 l).length
  | [], _ => rfl
  | x :: r, h => by
    have ih := nB_side r (fun y hy => h y (List.mem_cons_of_mem _ hy))
    have hx := h x List.mem_cons_self
    unfold nB at ih ⊢
    rw [List.countP_cons, side_cons, List.length_append, ih]
    rcases hx with e | e | e <;> simp [e] <;> omega
theorem piece {α : Type} {old x y z : List α} {a : Nat} (h : old.drop a = x ++ y ++ z) (ha : a ≤ old.length) : (old.drop a).take x.length = x ∧ (old.drop (a + x.length)).take y.length = y ∧ old.drop (a + x.length + y.length) = z ∧ a + x.length + y.length ≤ old.length := by
  have hl := congrArg List.length h
  rw [List.length_drop, List.length_append, List.length_append] at hl
  refine ⟨?_, ?_, ?_, by omega⟩
  · rw [h, List.append_assoc, List.take_left]
  · rw [← List.drop_drop, h, List.append_assoc, List.drop_left, List.take_left]
  · rw [Nat.add_assoc, ← List.drop_drop, h, ← List.length_append, List.drop_left]
theorem SegL.fit {old new : List Ln} {a b : Nat} {l : List DL} {hs : List Hk} (h : SegL a b l hs) (hop : ∀ x ∈ l, x.1 = 1 ∨ x.1 = 2 ∨ x.1 = 3) (ho : old.drop a = sideP 2 l) (hn : new.drop b = sideP 3 l) (la : a ≤ old.length) (lb : b ≤ new.length) : FitH old new a b hs := by
  induction h with
  | nil h1 => exact .nil la lb (by rw [ho, hn, side_keep 2 _ h1, side_keep 3 _ h1])
  | @cons a b k s t r h1 h2 h3 h4 ih =>
    have hs' : ∀ x ∈ s, x.1 = 1 ∨ x.1 = 2 ∨ x.1 = 3 := fun x hx => hop x (by simp [hx])
    have eA := nA_side s hs'
    have eB := nB_side s hs'
    rw [side_app, side_app, side_keep 2 k h1] at ho
    rw [side_app, side_app, side_keep 3 k h1] at hn
    obtain ⟨o1, o2, o3, o4⟩ := piece ho la
    obtain ⟨n1, n2, n3, n4⟩ := piece hn lb
    rw [List.length_map] at o1 o2 o3 o4 n1 n2 n3 n4
    refine FitH.cons (k := k.length) (begin_first _ _) (begin_first _ _) (o1.trans n1.symm) o4 n4 o2 n2 ?_
    show FitH old new (a + k.length + (sideP 2 s).length) (b + k.length + (sideP 3 s).length) r
    rw [eA, eB] at ih
    exact ih (fun x hx => hop x (by simp [hx])) o3 n3 o4 n4
theorem ends_of (last : Bool) : ∀ p : List Ln, (∀ (t : Nat) x, p[t]? = some x → x.2 = true → last = true ∧ t + 1 = p.length) → endsB last p = true
  | [], _ => rfl
  | [x], h => by
    unfold endsB
    cases hx : x.2 with
    | false => rfl
    | true => rw [(h 0 x rfl hx).1]; rfl
  | x :: y :: r, h => by
    have hx : x.2 = false := by
      cases hx : x.2 with
      | false => rfl
      | true => have := (h 0 x rfl hx).2; simp at this
    unfold endsB
    rw [hx, ends_of last (y :: r) (fun t z hz hb => by
      have := h (t + 1) z (by simpa using hz) hb
      refine ⟨this.1, ?_⟩
      have := this.2
      simp only [List.length_cons] at this ⊢
      omega)]
    rfl
/-- only the last line may have the mark -/
def BareE (l : List Ln) : Prop := ∀ (t : Nat) x, l[t]? = some x → x.2 = true → t + 1 = l.length
theorem SegL.ends {old new : List Ln} (bo : BareE old) (bn : BareE new) {a b : Nat} {l : List DL} {hs : List Hk} (h : SegL a b l hs) (hop : ∀ x ∈ l, x.1 = 1 ∨ x.1 = 2 ∨ x.1 = 3) (ho : old.drop a = sideP 2 l) (hn : new.drop b = sideP 3 l) (la : a ≤ old.length) (lb : b ≤ new.length) : endsL hs := by
  induction h with
  | nil h1 => trivial
  | @cons a b k s t r h1 h2 h3 h4 ih =>
    have hs' : ∀ x ∈ s, x.1 = 1 ∨ x.1 = 2 ∨ x.1 = 3 := fun x hx => hop x (by simp [hx])
    have eA := nA_side s hs'
    have eB := nB_side s hs'
    rw [side_app, side_app, side_keep 2 k h1] at ho
    rw [side_app, side_app, side_keep 3 k h1] at hn
    obtain ⟨o1, o2, o3, o4⟩ := piece ho la
    obtain ⟨n1, n2, n3, n4⟩ := piece hn lb
    rw [List.length_map] at o1 o2 o3 o4 n1 n2 n3 n4
    have key : ∀ (X : List Ln) (A op : Nat), BareE X → (X.drop A).take (sideP op s).length = sideP op s → A + (sideP op s).length ≤ X.length → X.drop (A + (sideP op s).length) = sideP op t → endsB (decide (r = [])) (sideP op s) = true := by
      intro X A op hb p1 p2 p3
      refine ends_of _ _ fun u x hu hx => ?_
      have hul : u < (sideP op s).length := (List.getElem?_eq_some_iff.1 hu).1
      have hX : X[A + u]? = some x := by
        rw [← p1, List.getElem?_take, if_pos hul, List.getElem?_drop] at hu; exact hu
      have hE := hb _ _ hX hx
      have ht : t = [] := by
        rcases h3 with h3 | ⟨y, t', rfl, hy⟩
        · exact h3
        · rw [side_cons, if_pos (.inr hy)] at p3
          have := congrArg List.length p3
          rw [List.length_drop] at this
          simp at this; omega
      subst ht
      refine ⟨by rw [h4.end_ rfl]; rfl, ?_⟩
      have := congrArg List.length p3
      rw [List.length_drop] at this
      simp [sideP] at this
      simp [sideP] at hE ⊢
      simp [sideP] at p2
      omega
    refine ⟨?_, ?_, ?_⟩
    · exact key old _ 2 bo o2 o4 o3
    · exact key new _ 3 bn n2 n4 n3
    · rw [eA, eB] at ih
      exact ih (fun x hx => hop x (by simp [hx])) o3 n3 o4 n4
theorem SegL.mem {a b : Nat} {l : List DL} {hs : List Hk} (h : SegL a b l hs) : ∀ x ∈ hs, ∃ A B s, x = mkH A B s ∧ A ≤ a + l.length ∧ B ≤ b + l.length ∧ s.length ≤ l.length ∧ ∀ y ∈ s, y ∈ l := by
  induction h with
  | nil h1 => intro x hx; simp at hx
  | @cons a b k s t r h1 h2 h3 h4 ih =>
    intro x hx
    rcases List.mem_cons.1 hx with rfl | hx
    · exact ⟨_, _, s, rfl, by simp, by simp, by simp; omega, fun y hy => by simp [hy]⟩
    · obtain ⟨A, B, u, e, q1, q2, q3, q4⟩ := ih x hx
      have c1 : nA s ≤ s.length := List.countP_le_length
      have c2 : nB s ≤ s.length := List.countP_le_length
      exact ⟨A, B, u, e, by simp; omega, by simp; omega, by simp; omega, fun y hy => by simp [q4 y hy]⟩
theorem SegL.len {a b : Nat} {l : List DL} {hs : List Hk} (h : SegL a b l hs) : hs.length ≤ l.length := by
  induction h with
  | nil h1 => exact Nat.zero_le _
  | @cons a b k s t r h1 h2 h3 h4 ih =>
    have : 0 < s.length := List.length_pos_iff.2 h2
    simp; omega
theorem SegL.shape {a b : Nat} {l : List DL} {hs : List Hk} (h : SegL a b l hs) (hok : ∀ x ∈ l, okD x) (hop : ∀ x ∈ l, x.1 = 1 ∨ x.1 = 2 ∨ x.1 = 3) (hb : a + l.length ≤ 1000000 ∧ b + l.length ≤ 1000000) : ∀ x ∈ hs, shapeE x = 0 := by
  intro x hx
  obtain ⟨A, B, s, rfl, q1, q2, q3, q4⟩ := h.mem x hx
  have e1 := nA_side s (fun y hy => hop y (q4 y hy))
  have e2 := nB_side s (fun y hy => hop y (q4 y hy))
  have e3 : lineE s = 0 := (lineE_ok s).2 (fun y hy => hok y (q4 y hy))
  unfold shapeE mkH
  simp only
  rw [if_neg (by rw [e3]; simp), if_neg]
  rw [e1, e2]
  unfold firstN
  split <;> split <;> omega
end Go.Proofs.YtnkpigibjicmaaaDoor
/- plain: the lines of a text, taken apart and joined -/
namespace Go.Proofs.YtnkpigibjicmaaaDoor
open Pt Tx
theorem lnsN_ended (n : Nat) : ∀ (L : List (List UInt8)) (i : Nat), lnsN n true i (L.map bA) = L.map fun x => (bA x, false)
  | [], _ => rfl
  | x :: r, i => by simp [lnsN, lnsN_ended n r (i + 1)]
theorem lnsN_open (n : Nat) (c : List UInt8) : ∀ (L : List (List UInt8)) (i : Nat), i + L.length + 1 = n → lnsN n false i ((L ++ [c]).map bA) = (L.map fun x => (bA x, false)) ++ [(bA c, true)]
  | [], i, h => by
    simp at h
    simp [lnsN, h]
  | x :: r, i, h => by
    rw [List.length_cons] at h
    have := lnsN_open n c r (i + 1) (by omega)
    rw [List.cons_append, List.map_cons, lnsN, this, List.map_cons, List.cons_append, decide_eq_false (by omega)]
    rfl
theorem lnsP_of {s : ByteArray} {out : List (List UInt8)} {cur : List UInt8} (e : spl s.data.toList = out ++ [cur]) : lnsP s = (out.map fun x => (bA x, false)) ++ (if cur = [] then [] else [(bA cur, true)]) := by
  obtain ⟨h1, h2⟩ := lin_of e
  unfold lnsP
  rw [h1, h2]
  by_cases hc : cur = []
  · rw [if_pos hc, if_pos hc, decide_eq_true hc, lnsN_ended, List.append_nil]
  · rw [if_neg hc, if_neg hc, decide_eq_false hc, lnsN_open]
    simp
theorem bA_list (x : List UInt8) : (bA x).data.toList = x := rfl
theorem lnsP_nl {s : ByteArray} {x : Ln} (h : x ∈ lnsP s) : (10 : UInt8) ∉ x.1.data.toList := by
  obtain ⟨out, cur, e⟩ := spl_ex s.data.toList
  obtain ⟨-, -, a3, a4, -⟩ := spl_size _ _ _ e
  rw [lnsP_of e] at h
  rcases List.mem_append.1 h with h | h
  · obtain ⟨y, hy, rfl⟩ := List.mem_map.1 h
    exact a4 y hy
  · split at h
    · simp at h
    · rw [List.mem_singleton] at h; rw [h]; exact a3
theorem lnsP_bare (s : ByteArray) : BareE (lnsP s) := by
  obtain ⟨out, cur, e⟩ := spl_ex s.data.toList
  rw [lnsP_of e]
  intro t x hx hb
  rcases Nat.lt_or_ge t out.length with h | h
  · rw [List.getElem?_append_left (by rw [List.length_map]; exact h), List.getElem?_map, List.getElem?_eq_getElem h] at hx
    have := Option.some.inj hx
    rw [← this] at hb; cases hb
  · rw [List.getElem?_append_right (by rw [List.length_map]; exact h), List.length_map] at hx
    split at hx
    · simp at hx
    · rename_i hc
      rw [if_neg hc, List.length_append, List.length_map, List.length_singleton]
      have := (List.getElem?_eq_some_iff.1 hx).1
      simp at this; omega
theorem spl_join : ∀ (l : List UInt8) (out : List (List UInt8)) (cur : List UInt8), spl l = out ++ [cur] → (out.flatMap fun x => x ++ [10]) ++ cur = l
  | [], out, cur, e => by
    cases out with
    | nil => simp [spl] at e; subst e; rfl
    | cons x o => simp [spl] at e
  | c :: l, out, cur, e => by
    by_cases hc : c = 10
    · subst hc
      rw [spl_nl] at e
      cases out with
      | nil => exact absurd (List.cons.inj e).2 (spl_ne l)
      | cons x o =>
        rw [List.cons_append, List.cons.injEq] at e
        obtain ⟨rfl, e2⟩ := e
        have := spl_join l o cur e2
        simp [this]
    · obtain ⟨h0, t0, e0⟩ := List.exists_cons_of_ne_nil (spl_ne l)
      rw [spl_cons c l h0 t0 hc e0] at e
      cases out with
      | nil =>
        rw [List.nil_append, List.cons.injEq] at e
        obtain ⟨rfl, rfl⟩ := e
        have := spl_join l [] h0 e0
        simp at this
        simp [this]
      | cons x o =>
        rw [List.cons_append, List.cons.injEq] at e
        obtain ⟨rfl, rfl⟩ := e
        have := spl_join l (h0 :: o) cur (by rw [e0]; rfl)
        simp at this
        simp [this]
theorem joined_full (tail : List Ln) : ∀ out : List (List UInt8), joinedP ((out.map fun x => (bA x, false)) ++ tail) = (out.flatMap fun x => x ++ [10]) ++ joinedP tail
  | [] => rfl
  | x :: r => by
    rw [List.map_cons, List.cons_append, joinedP_cons, joined_full tail r]
    simp
theorem joined_lns (s : ByteArray) : joinedP (lnsP s) = s.data.toList := by
  obtain ⟨out, cur, e⟩ := spl_ex s.data.toList
  rw [lnsP_of e, joined_full]
  refine Eq.trans ?_ (spl_join _ _ _ e)
  congr 1
  split
  · rename_i h; rw [h]; rfl
  · simp [joinedP]
/-- lines ahead of a text -/
def zer : List UInt8 := [48, 10]
theorem lnsP_zero {s t : ByteArray} (h : t.data.toList = zer ++ s.data.toList) : lnsP t = (bA [48], false) :: lnsP s := by
  obtain ⟨out, cur, e⟩ := spl_ex s.data.toList
  have e2 : spl t.data.toList = ([48] :: out) ++ [cur] := by
    rw [h]
    show spl (48 :: 10 :: s.data.toList) = _
    rw [spl_cons 48 (10 :: s.data.toList) [] (spl s.data.toList) (by decide) (spl_nl _), e]; rfl
  rw [lnsP_of e2, lnsP_of e]; rfl
/-- the line of a hunk gives the line and its mark -/
theorem lineD_fed (op : Int) {x : Ln} (h : (10 : UInt8) ∉ x.1.data.toList) : lineD op (fedS x) = (op, x.1, x.2) := by
  obtain ⟨s, b⟩ := x
  cases b with
  | true =>
    show lineD op s = _
    unfold lineD
    rw [if_neg]
    intro hl
    exact h (List.mem_of_getLast? hl)
  | false =>
    show lineD op (s ++ ⟨#[10]⟩) = _
    have hd : (s ++ (⟨#[10]⟩ : ByteArray)).data.toList = s.data.toList ++ [10] := by simp [ByteArray.data_append]
    unfold lineD
    rw [if_pos (by rw [hd]; simp)]
    have : (s ++ (⟨#[10]⟩ : ByteArray)).extract 0 ((s ++ (⟨#[10]⟩ : ByteArray)).size - 1) = s := by
      refine str_ext ?_
      rw [ByteArray.data_extract, Array.toList_extract, hd, show (s ++ (⟨#[10]⟩ : ByteArray)).size = s.size + 1 by rw [ByteArray.size_append]; rfl]
      have e3 : s.size = s.data.toList.length := by simp
      rw [Nat.add_sub_cancel, e3]
      show ((s.data.toList ++ [10]).drop 0).take (s.data.toList.length - 0) = s.data.toList
      rw [List.drop_zero, Nat.sub_zero, List.take_left]
    rw [this]
/-- the lines of the script from a text to another one -/
def scrD (a b : ByteArray) : List DL := (diffP ((lnsP a).map fedS) ((lnsP b).map fedS)).map fun x => lineD x.1 x.2
theorem scr_mem {a b : ByteArray} {x : DL} (h : x ∈ scrD a b) : okD x ∧ (x.1 = 1 ∨ x.1 = 2 ∨ x.1 = 3) ∧ x.2.1.size ≤ max a.size b.size := by
  obtain ⟨⟨op, s⟩, hy, rfl⟩ := List.mem_map.1 h
  have hop := diff_ops _ _ _ (Nat.le_refl _) _ hy
  have hs := diff_sides _ ((lnsP a).map fedS) ((lnsP b).map fedS) (Nat.le_refl _)
  simp only at hop
  have key : ∃ z : Ln, (z ∈ lnsP a ∨ z ∈ lnsP b) ∧ s = fedS z := by
    by_cases h3 : op = 3
    · have : s ∈ (lnsP b).map fedS := by
        rw [← hs.2]
        exact List.mem_map.2 ⟨_, List.mem_filter.2 ⟨hy, by simp [h3]⟩, rfl⟩
      obtain ⟨z, hz, e⟩ := List.mem_map.1 this
      exact ⟨z, .inr hz, e.symm⟩
    · have : s ∈ (lnsP a).map fedS := by
        rw [← hs.1]
        exact List.mem_map.2 ⟨_, List.mem_filter.2 ⟨hy, by rcases hop with e | e | e <;> simp [e]; exact h3 e⟩, rfl⟩
      obtain ⟨z, hz, e⟩ := List.mem_map.1 this
      exact ⟨z, .inl hz, e.symm⟩
  obtain ⟨z, hz, rfl⟩ := key
  have hnl : (10 : UInt8) ∉ z.1.data.toList := by rcases hz with hz | hz <;> exact lnsP_nl hz
  show okD (lineD op (fedS z)) ∧ ((lineD op (fedS z)).1 = 1 ∨ (lineD op (fedS z)).1 = 2 ∨ (lineD op (fedS z)).1 = 3) ∧ (lineD op (fedS z)).2.1.size ≤ max a.size b.size
  rw [lineD_fed op hnl]
  refine ⟨⟨?_, hnl⟩, hop, ?_⟩
  · unfold opB; rcases hop with e | e | e <;> simp [e]
  · show z.1.size ≤ max a.size b.size
    rcases hz with hz | hz
    · have := lnsP_size hz; omega
    · have := lnsP_size hz; omega
theorem side_scr {op : Int} {l : List (Int × ByteArray)} {L : List Ln} (hL : ∀ z ∈ L, (10 : UInt8) ∉ z.1.data.toList) (h : (l.filter fun x => decide (x.1 = op) || decide (x.1 = 1)).map (·.2) = L.map fedS) : sideP op (l.map fun x => lineD x.1 x.2) = L := by
  induction l generalizing L with
  | nil =>
    cases L with
    | nil => rfl
    | cons z r => simp at h
  | cons y l ih =>
    have e1 : (lineD y.1 y.2).1 = y.1 := by unfold lineD; split <;> rfl
    rw [List.map_cons, side_cons, e1]
    by_cases hy : y.1 = op ∨ y.1 = 1
    · rw [if_pos hy]
      rw [List.filter_cons_of_pos (by rcases hy with e | e <;> simp [e])] at h
      cases L with
      | nil => simp at h
      | cons z r =>
        rw [List.map_cons, List.map_cons, List.cons.injEq] at h
        rw [h.1, lineD_fed _ (hL z List.mem_cons_self), ih (fun w hw => hL w (List.mem_cons_of_mem _ hw)) h.2]
        rfl
    · rw [if_neg hy]
      rw [List.filter_cons_of_neg (by simpa using hy)] at h
      rw [ih hL h]; rfl
theorem scr_sides (a b : ByteArray) : sideP 2 (scrD a b) = lnsP a ∧ sideP 3 (scrD a b) = lnsP b := by
  have hs := diff_sides _ ((lnsP a).map fedS) ((lnsP b).map fedS) (Nat.le_refl _)
  exact ⟨side_scr (fun z hz => lnsP_nl hz) hs.1, side_scr (fun z hz => lnsP_nl hz) hs.2⟩
theorem scr_len (a b : ByteArray) : (scrD a b).length ≤ a.size + b.size + 2 := by
  have h := scr_sides a b
  have key : ∀ l : List DL, (∀ x ∈ l, x.1 = 1 ∨ x.1 = 2 ∨ x.1 = 3) → l.length ≤ (sideP 2 l).length + (sideP 3 l).length := by
    intro l
    induction l with
    | nil => intro _; exact Nat.zero_le _
    | cons x r ih =>
      intro hx
      have i := ih (fun y hy => hx y (List.mem_cons_of_mem _ hy))
      rw [side_cons, side_cons, List.length_append, List.length_append, List.length_cons]
      rcases hx x List.mem_cons_self with e | e | e <;> simp [e] <;> omega
  have := key (scrD a b) (fun x hx => (scr_mem hx).2.1)
  rw [h.1, h.2] at this
  have h1 := lnsP_len a
  have h2 := lnsP_len b
  omega
/-- what the difference of two texts gives -/
theorem seg_law {a b : ByteArray} {hs : List Hk} (h : SegL 0 0 (scrD a b) hs) (ha : a.size ≤ 1000) (hb : b.size ≤ 1000) : FitH (lnsP a) (lnsP b) 0 0 hs ∧ chk hs = 0 ∧ hs.length ≤ a.size + b.size + 2 ∧ ∀ x ∈ hs, x.ls.length ≤ a.size + b.size + 2 ∧ ∀ y ∈ x.ls, y.2.1.size ≤ 1000 := by
  obtain ⟨s2, s3⟩ := scr_sides a b
  have hl := scr_len a b
  have hf := h.fit (old := lnsP a) (new := lnsP b) (fun x hx => (scr_mem hx).2.1) (by rw [List.drop_zero, s2]) (by rw [List.drop_zero, s3]) (Nat.zero_le _) (Nat.zero_le _)
  refine ⟨hf, ?_, Nat.le_trans h.len hl, fun x hx => ?_⟩
  · exact hf.chk (h.shape (fun x hx => (scr_mem hx).1) (fun x hx => (scr_mem hx).2.1) (by omega)) (h.ends (lnsP_bare a) (lnsP_bare b) (fun x hx => (scr_mem hx).2.1) (by rw [List.drop_zero, s2]) (by rw [List.drop_zero, s3]) (Nat.zero_le _) (Nat.zero_le _))
  · obtain ⟨A, B, s, rfl, q1, q2, q3, q4⟩ := h.mem x hx
    refine ⟨Nat.le_trans q3 hl, fun y hy => ?_⟩
    have := (scr_mem (q4 y hy)).2.2
    omega
theorem fit_apply {a b : ByteArray} {hs : List Hk} (hf : FitH (lnsP a) (lnsP b) 0 0 hs) (hc : chk hs = 0) (fuzz : Int) : applyP a hs fuzz = (b.data.toList, hs.map (fun h => (beginP h.fa h.la + 1, 0, 0)), []) := by
  unfold applyP
  rw [if_neg (by rw [hc]; simp)]
  obtain ⟨h1, h2, h3⟩ := hf.text fuzz
  rw [h1, h2, h3, joined_lns]
end Go.Proofs.YtnkpigibjicmaaaDoor
/- walks: all lines of a script -/
namespace Go.Proofs.YtnkpigibjicmaaaDoor
open Go.RowKit Go.Maps
open Pt
theorem diff_len {S : Type} [DecidableEq S] (a b : List S) : (diffP a b).length ≤ a.length + b.length := by
  have key : ∀ l : List (Int × S), (∀ x ∈ l, x.1 = 1 ∨ x.1 = 2 ∨ x.1 = 3) → l.length ≤ ((l.filter fun x => decide (x.1 = 2) || decide (x.1 = 1)).map (·.2)).length + ((l.filter fun x => decide (x.1 = 3) || decide (x.1 = 1)).map (·.2)).length := by
    intro l
    induction l with
    | nil => intro _; exact Nat.zero_le _
    | cons x r ih =>
      intro hx
      have i := ih (fun y hy => hx y (List.mem_cons_of_mem _ hy))
      rw [List.length_map, List.length_map] at i ⊢
      rcases hx x List.mem_cons_self with e | e | e <;> simp [e] <;> omega
  have h := diff_sides _ a b (Nat.le_refl _)
  have := key (diffP a b) (diff_ops _ a b (Nat.le_refl _))
  rw [h.1, h.2] at this
  exact this
abbrev rwD (x : Int × ByteArray) : List Value := rowD (lineD x.1 x.2)
theorem rwD_len {L : List (Int × ByteArray)} : ∀ x ∈ L.map rwD, x.length = 3 := by
  intro x hx
  obtain ⟨y, -, rfl⟩ := List.mem_map.1 hx
  rfl
theorem SCI.whole {a b : List ByteArray} {out : List Ed} (h : SCI a b out a.length b.length) : out.flatMap (exE a b) = diffP a b := by
  have := h.ex
  rw [List.drop_length, List.drop_length, diff_nil, List.append_nil] at this
  exact this
theorem ed_at {a b : List ByteArray} {out : List Ed} (h : out.flatMap (exE a b) = diffP a b) {j : Nat} {e : Ed} (he : out[j]? = some e) : ((out.take j).flatMap (exE a b)).length + (exE a b e).length ≤ a.length + b.length ∧ (out.take (j + 1)).flatMap (exE a b) = (out.take j).flatMap (exE a b) ++ exE a b e := by
  have h1 : (out.take (j + 1)).flatMap (exE a b) = (out.take j).flatMap (exE a b) ++ exE a b e := by rw [take_get he, List.flatMap_append]; simp
  refine ⟨?_, h1⟩
  have h2 := diff_len a b
  rw [← h, ← List.take_append_drop (j + 1) out, List.flatMap_append, List.length_append, h1, List.length_append] at h2
  omega
set_option maxRecDepth 100000 in
set_option maxHeartbeats 8000000 in
theorem all_any (a b : List ByteArray) (va vb : Value) (w : World) (ha : Strs w va a) (hb : Strs w vb b) (hn : a.length ≤ 1000) (hm : b.length ≤ 1000) (sa : ∀ x ∈ a, x.size ≤ 1048576) (sb : ∀ x ∈ b, x.size ≤ 1048576) :
    Calls Tryd.prog 37 #[va, vb] w fun e w' => ∃ v, e = .returned v ∧ Hid (OwnR w' w.heap.size 59 3 v ((diffP a b).map rwD)) ∧ Hid (Below w.heap.size w w') := by
  have SC := Lib.hid (script_any a b va vb w ha hb hn hm)
  obtain ⟨n, hln⟩ : ∃ n, a.length = n := ⟨_, rfl⟩
  obtain ⟨m, hlm⟩ : ∃ m, b.length = m := ⟨_, rfl⟩
  have HN := Lib.hid (And.intro hln hlm)
  have SA := Lib.hid sa
  have SB := Lib.hid sb
  obtain ⟨aa, ac, rfl, a1, a2, hca⟩ := ha
  obtain ⟨ba, bc, rfl, b1, b2, hcb⟩ := hb
  rw [hln] at hn a1 SC ⊢
  rw [hlm] at hm b1 SC ⊢
  have CA := Lib.hid hca
  have CB := Lib.hid hcb
  unfold maxLen at a2 b2
  clear hln hlm hca hcb sa sb
  go_enter Tryd.func37, Tryd.ntmps37
  go_wp2_with (first | (go_at_call 64; (with_reducible refine SC.out.mono ?_); rintro _ w1 ⟨v1, out, rfl, HS, OE, B1⟩))
  have WH : Hid (out.flatMap (exE a b) = diffP a b) := Lib.hid (by have := HS.out; rw [← HN.out.1, ← HN.out.2] at this; exact this.whole)
  obtain ⟨l, hl⟩ : ∃ l, out.length = l := ⟨_, rfl⟩
  have HL := Lib.hid hl
  obtain ⟨ga, gc, rfl, q1, q2, hce⟩ := (OE.out.rows rowE_len).sl (n := l) (by rw [List.length_map]; exact hl)
  have CE := Lib.hid hce
  have hl2 : l ≤ 2000 := by have := HS.out.len; omega
  unfold maxLen at q2
  have BB1 := Lib.hid B1.out
  clear hl hce B1
  go_wp2_with fail
  go_loopw [5, 7, 8] (fun v i k wr => ∃ j : Nat, i = .int .i64 j ∧ j ≤ l ∧ Hid (OwnR wr w1.heap.size 59 3 v (((out.take j).flatMap (exE a b)).map rwD)) ∧ Hid (Below w1.heap.size w1 wr)) (fun _ i _ _ => l - (intOf i).toNat)
  case atStart => exact ⟨0, rfl, Nat.zero_le _, Lib.hid (OwnR.nil _ _ _ _), Lib.hid (Below.refl _ _)⟩
  case round =>
    obtain ⟨j, rfl, hj, OW, BK⟩ := hrel
    by_cases hlt : j < l
    · obtain ⟨e, he⟩ : ∃ e, out[j]? = some e := ⟨_, List.getElem?_eq_getElem (by rw [HL.out]; exact hlt)⟩
      have EA := Lib.hid (ed_at WH.out he)
      have EO := HS.out.ok e (List.mem_of_getElem? he)
      rcases CE.out with h0 | ⟨g, o, rfl, -, hcc⟩
      · omega
      have m1 : (out.map rowE)[j]? = some (rowE e) := by rw [List.getElem?_map, he]; rfl
      have x0 := hcc j _ m1 0 _ rfl
      have x1 := hcc j _ m1 1 _ rfl
      have x2 := hcc j _ m1 2 _ rfl
      have x3 := hcc j _ m1 3 _ rfl
      rw [Nat.add_zero] at x0
      obtain ⟨op, A, B, N⟩ := e
      obtain ⟨o1, o2, o3, o4, o5, o6⟩ := EO
      simp only at o1 o2 o3 o4 o5 o6 x0 x1 x2 x3
      obtain ⟨A, rfl⟩ := Int.eq_ofNat_of_zero_le o2
      obtain ⟨B, rfl⟩ := Int.eq_ofNat_of_zero_le o3
      obtain ⟨N, rfl⟩ := Int.eq_ofNat_of_zero_le (show 0 ≤ N by omega)
      have XX := Lib.hid (And.intro x0 (And.intro x1 (And.intro x2 x3)))
      have p0 : (0 : Int) ≤ (j : Int) := by omega
      have p1 : (j : Int) < (l : Int) := by omega
      have p2 : IntKind.i64.wrap (j : Int) = (j : Int) := IntWalk.i64_in _ (by omega)
      obtain ⟨P, hP⟩ : ∃ P, (out.take j).flatMap (exE a b) = P := ⟨_, rfl⟩
      rw [hP] at OW EA
      have NB2 : N ≤ 1000 := by
        rcases o1 with e | e | e
        · have := o6 (by omega); rw [HN.out.1] at this; omega
        · have := o6 (by omega); rw [HN.out.1] at this; omega
        · have := o5 e; rw [HN.out.2] at this; omega
      have OO := Lib.hid (And.intro o1 (And.intro o5 o6))
      have N1 : 1 ≤ N := by omega
      clear hcc m1 he hP o2 o3 o4 o1 o5 o6 x0 x1 x2 x3
      go_wp2_with fail
      go_loopw [5, 8] (fun v k wr2 => ∃ r : Nat, k = .int .i64 r ∧ r ≤ N ∧ Hid (OwnR wr2 w1.heap.size 59 3 v ((P ++ (exE a b (op, (A : Int), (B : Int), (N : Int))).take r).map rwD)) ∧ Hid (Below w1.heap.size w1 wr2)) (fun _ k _ => N - (intOf k).toNat)
      case atStart => exact ⟨0, rfl, Nat.zero_le _, by rw [List.take_zero, List.append_nil]; exact OW, BK⟩
      case round =>
        obtain ⟨r, rfl, hr, OX, BX⟩ := hrel
        have x0 := kp BX.out XX.out.1
        have x1 := kp BX.out XX.out.2.1
        have x2 := kp BX.out XX.out.2.2.1
        have x3 := kp BX.out XX.out.2.2.2
        by_cases hrt : r < N
        · have r1 : (r : Int) < (N : Int) := by omega
          have r3 : IntKind.i64.wrap ((r : Int) + 1) = (r : Int) + 1 := IntWalk.i64_in _ (by omega)
          by_cases h3 : op = 3
          · subst h3
            have hBm : B + N ≤ m := by have := OO.out.2.1 rfl; rw [HN.out.2] at this; omega
            obtain ⟨s, hs⟩ : ∃ s, b[B + r]? = some s := ⟨_, List.getElem?_eq_getElem (by rw [HN.out.2]; omega)⟩
            have SZ := SB.out s (List.mem_of_getElem? hs)
            have TK : Hid ((exE a b (3, (A : Int), (B : Int), (N : Int))).take (r + 1) = (exE a b (3, (A : Int), (B : Int), (N : Int))).take r ++ [((3 : Int), s)]) := Lib.hid (by
              refine take_get ?_
              have e0 : (exE a b (3, (A : Int), (B : Int), (N : Int))) = ((b.drop B).take N).map ((3 : Int), ·) := by rfl
              rw [e0, List.getElem?_map, List.getElem?_take, if_pos hrt, List.getElem?_drop, hs]; rfl)
            have LN : Hid (((P ++ (exE a b (3, (A : Int), (B : Int), (N : Int))).take r).map rwD).length ≤ 1048576) := Lib.hid (by
              have := EA.out.1
              rw [HN.out.1, HN.out.2] at this
              rw [List.length_map, List.length_append, List.length_take]; omega)
            obtain ⟨zn, hzn⟩ : ∃ k, ((P ++ (exE a b (3, (A : Int), (B : Int), (N : Int))).take r).map rwD).length = k := ⟨_, rfl⟩
            have HZN := Lib.hid hzn
            clear hzn
            rcases CB.out with h0 | ⟨gb, ob, rfl, -, hcB⟩
            · have := HN.out.2; rw [h0] at this; simp at this; omega
            obtain ⟨T, hT⟩ : ∃ T, B + r = T := ⟨_, rfl⟩
            rw [hT] at hs
            have c0 := kp BX.out (kp BB1.out (hcB T s hs))
            have g4 : IntKind.i64.wrap ((B : Int) + (r : Int)) = (T : Int) := (IntWalk.i64_in _ (by omega)).trans (by omega)
            have z0 : (0 : Int) ≤ (T : Int) := by omega
            have z1 : (T : Int) < (m : Int) := by omega
            obtain ⟨xo, xt, xn, hx⟩ : ∃ xo xt xn, lineD 3 s = (xo, xt, xn) := ⟨_, _, _, rfl⟩
            have EN : Hid ((P ++ (exE a b (3, (A : Int), (B : Int), (N : Int))).take (r + 1)).map rwD = (P ++ (exE a b (3, (A : Int), (B : Int), (N : Int))).take r).map rwD ++ [rowD (xo, xt, xn)]) := Lib.hid (by
              rw [TK.out, ← List.append_assoc, List.map_append, ← hx]; rfl)
            have LA := Lib.hid (fun W => line_any 3 s W SZ)
            rw [hx] at LA
            clear hcB hs hT hx
            go_upto_region 10 with (fail)
            go_region_law (first | (go_simp; go_at_call 65; refine (LA.out _).mono ?_; rintro _ w3 ⟨rfl, b3⟩; have B3 := Lib.hid ((Below.refl wr.heap.size wr).drew.trans (b3.out.mono (Below.refl wr.heap.size wr).drew.size)); have B3x := Lib.hid (BX.out.trans (B3.out.mono BX.out.size))) | (refine step_row rtD rfl (.tmp 33) (.tmp 50) rfl _ ((P ++ (exE a b (3, (A : Int), (B : Int), (N : Int))).take r).map rwD) zn HZN.out #[.int .i64 xo, .string xt, .bool xn] w1.heap.size w1 _ (OX.out.below B3.out) rfl (one_D (x := (xo, xt, xn))) B3x.out B3x.out.size LN.out (by simp [Act.eval]) (by simp [Act.eval]) ?_; intro g5 c5 w5 own5 bel5))
            all_goals (go_wp2_with fail; go_roundw)
            all_goals (first | exact ⟨r + 1, by go_num, by omega, Lib.hid (by rw [EN.out]; exact own5.out), bel5⟩ | (simp [intOf]; omega))
          · have t3 : (op == 3) = false := beq_eq_false_iff_ne.2 h3
            have hBm : A + N ≤ n := by have := OO.out.2.2 h3; rw [HN.out.1] at this; omega
            obtain ⟨s, hs⟩ : ∃ s, a[A + r]? = some s := ⟨_, List.getElem?_eq_getElem (by rw [HN.out.1]; omega)⟩
            have SZ := SA.out s (List.mem_of_getElem? hs)
            have TK : Hid ((exE a b (op, (A : Int), (B : Int), (N : Int))).take (r + 1) = (exE a b (op, (A : Int), (B : Int), (N : Int))).take r ++ [((op : Int), s)]) := Lib.hid (by
              refine take_get ?_
              have e0 : (exE a b (op, (A : Int), (B : Int), (N : Int))) = ((a.drop A).take N).map ((op : Int), ·) := by unfold exE; rw [if_neg h3]; rfl
              rw [e0, List.getElem?_map, List.getElem?_take, if_pos hrt, List.getElem?_drop, hs]; rfl)
            have LN : Hid (((P ++ (exE a b (op, (A : Int), (B : Int), (N : Int))).take r).map rwD).length ≤ 1048576) := Lib.hid (by
              have := EA.out.1
              rw [HN.out.1, HN.out.2] at this
              rw [List.length_map, List.length_append, List.length_take]; omega)
            obtain ⟨zn, hzn⟩ : ∃ k, ((P ++ (exE a b (op, (A : Int), (B : Int), (N : Int))).take r).map rwD).length = k := ⟨_, rfl⟩
            have HZN := Lib.hid hzn
            clear hzn
            rcases CA.out with h0 | ⟨gb, ob, rfl, -, hcB⟩
            · have := HN.out.1; rw [h0] at this; simp at this; omega
            obtain ⟨T, hT⟩ : ∃ T, A + r = T := ⟨_, rfl⟩
            rw [hT] at hs
            have c0 := kp BX.out (kp BB1.out (hcB T s hs))
            have g4 : IntKind.i64.wrap ((A : Int) + (r : Int)) = (T : Int) := (IntWalk.i64_in _ (by omega)).trans (by omega)
            have z0 : (0 : Int) ≤ (T : Int) := by omega
            have z1 : (T : Int) < (n : Int) := by omega
            obtain ⟨xo, xt, xn, hx⟩ : ∃ xo xt xn, lineD op s = (xo, xt, xn) := ⟨_, _, _, rfl⟩
            have EN : Hid ((P ++ (exE a b (op, (A : Int), (B : Int), (N : Int))).take (r + 1)).map rwD = (P ++ (exE a b (op, (A : Int), (B : Int), (N : Int))).take r).map rwD ++ [rowD (xo, xt, xn)]) := Lib.hid (by
              rw [TK.out, ← List.append_assoc, List.map_append, ← hx]; rfl)
            have LA := Lib.hid (fun W => line_any op s W SZ)
            rw [hx] at LA
            clear hcB hs hT hx
            go_upto_region 11 with (fail)
            go_region_law (first | (go_simp; go_at_call 65; refine (LA.out _).mono ?_; rintro _ w3 ⟨rfl, b3⟩; have B3 := Lib.hid ((Below.refl wr.heap.size wr).drew.trans (b3.out.mono (Below.refl wr.heap.size wr).drew.size)); have B3x := Lib.hid (BX.out.trans (B3.out.mono BX.out.size))) | (refine step_row rtD rfl (.tmp 52) (.tmp 69) rfl _ ((P ++ (exE a b (op, (A : Int), (B : Int), (N : Int))).take r).map rwD) zn HZN.out #[.int .i64 xo, .string xt, .bool xn] w1.heap.size w1 _ (OX.out.below B3.out) rfl (one_D (x := (xo, xt, xn))) B3x.out B3x.out.size LN.out (by simp [Act.eval]) (by simp [Act.eval]) ?_; intro g5 c5 w5 own5 bel5))
            all_goals (go_wp2_with fail; go_roundw)
            all_goals (first | exact ⟨r + 1, by go_num, by omega, Lib.hid (by rw [EN.out]; exact own5.out), bel5⟩ | (simp [intOf]; omega))
        · have r1 : ¬ (r : Int) < (N : Int) := by omega
          have hrN : r = N := by omega
          have EN : Hid (OwnR wr w1.heap.size 59 3 u5 (((out.take (j + 1)).flatMap (exE a b)).map rwD)) := Lib.hid (by
            rw [EA.out.2]
            have hl : (exE a b (op, (A : Int), (B : Int), (N : Int))).length ≤ N := by
              unfold exE
              split
              · rw [List.length_map, List.length_take]; exact Nat.min_le_left _ _
              · rw [List.length_map, List.length_take]; exact Nat.min_le_left _ _
            have := OX.out
            rw [List.take_of_length_le (by omega)] at this
            exact this)
          go_wp2_with fail
          go_roundw
          case rel => exact ⟨j + 1, by go_num, by omega, EN, BX⟩
          case measure => simp [intOf]; omega
    · obtain rfl : j = l := by omega
      have p1 : ¬ (j : Int) < (j : Int) := by omega
      go_wp2_with fail
      go_ret
      refine ⟨u5, rfl, Lib.hid ?_, Lib.hid (BB1.out.trans (BK.out.mono BB1.out.size))⟩
      rw [← WH.out]
      have := OW.out
      rw [List.take_of_length_le (by rw [HL.out]; exact Nat.le_refl _)] at this
      exact this.mono BB1.out.size
end Go.Proofs.YtnkpigibjicmaaaDoor
/- walks: lines near a change; the first line; the law's same -/
namespace Go.Proofs.YtnkpigibjicmaaaDoor
open Go.RowKit Go.Maps
open Pt
/-- what near says -/
def nearV (l : List DL) (f t : Int) (u : Value) : Prop := ∃ c : Bool, u = .bool c ∧ (c = false → ∀ (k : Nat) x, l[k]? = some x → f ≤ k → (k : Int) ≤ t → x.1 = 1)
set_option maxRecDepth 100000 in
set_option maxHeartbeats 2000000 in
theorem near_any (l : List DL) (v : Value) (f t : Int) (w : World) (hv : RowsAt w v 3 (l.map rowD)) (_hl : l.length ≤ 100000) (hf : -200000 ≤ f) (hft : f ≤ t) (ht : t ≤ 400000) :
    Calls Tryd.prog 39 #[v, .int .i64 f, .int .i64 t] w fun e w' => ∃ u, e = .returned u ∧ nearV l f t u ∧ w = w' := by
  obtain ⟨n, hn⟩ : ∃ n, l.length = n := ⟨_, rfl⟩
  have HN := Lib.hid hn
  obtain ⟨a, cap, rfl, c1, c2, hc⟩ := hv.sl (n := n) (by rw [List.length_map]; exact hn)
  have HC := Lib.hid hc
  unfold maxLen at c2
  clear hv hn hc
  go_enter Tryd.func39, Tryd.ntmps39
  go_wp2_with fail
  go_loop [7] (fun i => ∃ z : Int, i = .int .i64 z ∧ f ≤ z ∧ z ≤ t + 1 ∧ Hid (∀ (k : Nat) x, l[k]? = some x → f ≤ k → (k : Int) < z → x.1 = 1)) (fun i => (t + 1 - intOf i).toNat)
  case atStart => exact ⟨f, rfl, Int.le_refl _, by omega, Lib.hid (fun k x _ h1 h2 => by omega)⟩
  case round =>
    obtain ⟨z, rfl, h1, h2, HZ⟩ := hrel
    by_cases hzt : z ≤ t
    · have q3 : IntKind.i64.wrap (z + 1) = z + 1 := IntWalk.i64_in _ (by omega)
      have NX : Hid ((∀ (k : Nat) x, l[k]? = some x → (k : Int) = z → x.1 = 1) → ∀ (k : Nat) x, l[k]? = some x → f ≤ k → (k : Int) < z + 1 → x.1 = 1) := Lib.hid (fun h k x hx h3 h4 => by
        by_cases e : (k : Int) = z
        · exact h k x hx e
        · exact HZ.out k x hx h3 (by omega))
      by_cases h0 : 0 ≤ z
      · obtain ⟨j, rfl⟩ := Int.eq_ofNat_of_zero_le h0
        by_cases hlt : j < n
        · obtain ⟨x, hx⟩ : ∃ x, l[j]? = some x := ⟨_, List.getElem?_eq_getElem (by rw [HN.out]; exact hlt)⟩
          rcases HC.out with e0 | ⟨g, o, rfl, -, hcc⟩
          · omega
          have m1 : (l.map rowD)[j]? = some (rowD x) := by rw [List.getElem?_map, hx]; rfl
          have d0 := hcc j _ m1 0 _ rfl
          rw [Nat.add_zero] at d0
          have p1 : (j : Int) < (n : Int) := by omega
          have p2 : IntKind.i64.wrap (j : Int) = (j : Int) := IntWalk.i64_in _ (by omega)
          have HX := Lib.hid hx
          obtain ⟨xo, xt, xn⟩ := x
          simp only at d0
          clear hcc m1 hx
          by_cases h3 : xo = 1
          · subst h3
            have E := Lib.hid (NX.out (fun k x hx e => by
              obtain rfl : k = j := by omega
              rw [HX.out] at hx; cases hx; rfl))
            go_wp2_with fail
            go_round
            case rel => exact ⟨_, by go_num, by omega, by omega, E⟩
            case measure => simp [intOf]; omega
          · have t3 : (xo == 1) = false := beq_eq_false_iff_ne.2 h3
            clear h3
            go_wp2_with fail
            go_ret
            exact ⟨_, rfl, ⟨true, rfl, fun h => by cases h⟩, rfl⟩
        · have p1 : ¬ (j : Int) < (n : Int) := by omega
          have E := Lib.hid (NX.out (fun k x hx e => by
              have := (List.getElem?_eq_some_iff.1 hx).1
              rw [HN.out] at this; omega))
          go_wp2_with fail
          go_round
          case rel => exact ⟨_, by go_num, by omega, by omega, E⟩
          case measure => simp [intOf]; omega
      · have E := Lib.hid (NX.out (fun k x hx e => by omega))
        go_wp2_with fail
        go_round
        case rel => exact ⟨_, by go_num, by omega, by omega, E⟩
        case measure => simp [intOf]; omega
    · have FE : Hid (∀ (k : Nat) x, l[k]? = some x → f ≤ k → (k : Int) ≤ t → x.1 = 1) := Lib.hid (fun k x hx h3 h4 => HZ.out k x hx h3 (by omega))
      go_wp2_with fail
      go_ret
      exact ⟨_, rfl, ⟨false, rfl, fun _ => FE.out⟩, rfl⟩
set_option maxRecDepth 100000 in
theorem first_any (b n : Nat) (w : World) (hb : b ≤ 100000) : Calls Tryd.prog 41 #[.int .i64 b, .int .i64 n] w fun e w' => e = .returned (.int .i64 (firstN b n)) ∧ w = w' := by
  by_cases h0 : n = 0
  · subst h0
    have E : Hid (firstN b 0 = b) := Lib.hid rfl
    go_enter Tryd.func41, Tryd.ntmps41
    go_wp2_with fail
    go_ret
    exact ⟨by rw [E.out]; rfl, rfl⟩
  · have E : Hid (firstN b n = (b : Int) + 1) := Lib.hid (by unfold firstN; rw [if_neg h0])
    have t0 : ((n : Int) == 0) = false := beq_eq_false_iff_ne.2 (by omega)
    have q3 : IntKind.i64.wrap ((b : Int) + 1) = (b : Int) + 1 := IntWalk.i64_in _ (by omega)
    clear h0
    go_enter Tryd.func41, Tryd.ntmps41
    go_wp2_with fail
    go_ret
    exact ⟨by rw [E.out]; first | rfl | go_num | (rw [q3]), rfl⟩
end Go.Proofs.YtnkpigibjicmaaaDoor
