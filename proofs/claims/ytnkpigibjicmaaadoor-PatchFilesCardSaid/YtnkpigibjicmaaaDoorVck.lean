/- plain: files and patches -/
import Derived.Test.YtnkpigibjicmaaaDoorVcc
namespace Go.Proofs.YtnkpigibjicmaaaDoor
open Go.RowKit Go.Maps
open Pt Tx
/-- a file: its name, its text -/
abbrev Nm := ByteArray × ByteArray
/-- a patch: the old name, the new one, the hunks -/
abbrev PH := ByteArray × ByteArray × List Hk
/-- the index of the first file with a name, or -1 -/
def idxN (nm : ByteArray) : Nat → List Nm → Int
  | _, [] => -1
  | i, x :: r => if x.1 = nm then i else idxN nm (i + 1) r
/-- is there another file than number k with a name? -/
def clashB (k : Int) (nm : ByteArray) : Nat → List Nm → Bool
  | _, [] => false
  | i, x :: r => (decide ((i : Int) ≠ k) && decide (x.1 = nm)) || clashB k nm (i + 1) r
def wholeP (fuzz : Int) : List PH → List Nm → List Hk → List Nm × List Hk × Int
  | [], out, rej => (out, rej, 0)
  | p :: r, out, rej =>
    if chk p.2.2 ≠ 0 then ([], [], chk p.2.2) else
    if idxN p.1 0 out < 0 then ([], [], 5) else
    if clashB (idxN p.1 0 out) p.2.1 0 out = true then ([], [], 6) else
    wholeP fuzz r (out.set (idxN p.1 0 out).toNat (p.2.1, bA (applyP (out.getD (idxN p.1 0 out).toNat (⟨#[]⟩, ⟨#[]⟩)).2 p.2.2 fuzz).1)) (rej ++ (applyP (out.getD (idxN p.1 0 out).toNat (⟨#[]⟩, ⟨#[]⟩)).2 p.2.2 fuzz).2.2)
theorem idxN_lt (nm : ByteArray) : ∀ (l : List Nm) (i : Nat), idxN nm i l = -1 ∨ (i : Int) ≤ idxN nm i l ∧ idxN nm i l < (i : Int) + l.length
  | [], _ => .inl rfl
  | x :: r, i => by
    unfold idxN
    split
    · right; rw [List.length_cons]; omega
    · rcases idxN_lt nm r (i + 1) with h | h
      · exact .inl h
      · right; rw [List.length_cons]; omega
theorem idxN_here {nm : ByteArray} {x : Nm} {r : List Nm} {i : Nat} (h : x.1 = nm) : idxN nm i (x :: r) = i := by unfold idxN; rw [if_pos h]
theorem idxN_next {nm : ByteArray} {x : Nm} {r : List Nm} {i : Nat} (h : x.1 ≠ nm) : idxN nm i (x :: r) = idxN nm (i + 1) r := by rw [idxN, if_neg h]
/-- sizes of lines, each with its line feed -/
def szL (l : List Ln) : Nat := (l.map fun x => x.1.size + 1).sum
theorem szL_nil : szL [] = 0 := rfl
theorem szL_cons (x : Ln) (r : List Ln) : szL (x :: r) = x.1.size + 1 + szL r := by simp [szL]
theorem szL_app (a b : List Ln) : szL (a ++ b) = szL a + szL b := by simp [szL, List.sum_append]
theorem szL_split (l : List Ln) (n : Nat) : szL (l.take n) + szL (l.drop n) = szL l := by rw [← szL_app, List.take_append_drop]
theorem joined_sz : ∀ l : List Ln, (joinedP l).length ≤ szL l
  | [] => by simp [joinedP]
  | x :: r => by
    rw [joinedP_cons, List.length_append, List.length_append, szL_cons]
    have h2 := joined_sz r
    have h3 : x.1.data.toList.length = x.1.size := by simp
    have h4 : (if x.2 = true ∧ r = [] then ([] : List UInt8) else [10]).length ≤ 1 := by split <;> simp
    omega
theorem lnsN_sz (n : Nat) (E : Bool) : ∀ (l : List ByteArray) (i : Nat), szL (lnsN n E i l) = (l.map fun x => x.size + 1).sum
  | [], _ => rfl
  | x :: r, i => by unfold lnsN; rw [szL_cons, lnsN_sz n E r (i + 1)]; simp
theorem full_map : ∀ l : List (List UInt8), ((l.map bA).map fun x => x.size + 1).sum = full l
  | [] => rfl
  | x :: r => by
    rw [full_cons, List.map_cons, List.map_cons, List.sum_cons, full_map r]
    show x.toArray.size + 1 + _ = _
    rw [List.size_toArray]
theorem lin_full (l : List UInt8) : full (lin l) ≤ l.length + 1 := by
  obtain ⟨out, cur, e⟩ := spl_ex l
  obtain ⟨h1, -⟩ := spl_size l out cur e
  rw [(lin_of e).1]
  split
  · omega
  · have e2 : full (out ++ [cur]) = full out + (cur.length + 1) := by simp [full]
    rw [e2]; omega
theorem lnsP_sz (s : ByteArray) : szL (lnsP s) ≤ s.size + 1 := by
  unfold lnsP
  rw [lnsN_sz, full_map]
  have h1 := lin_full s.data.toList
  have h2 : s.data.toList.length = s.size := by simp
  omega
def szD (l : List DL) : Nat := (l.map fun x => x.2.1.size + 1).sum
theorem side_sz (op : Int) : ∀ l : List DL, szL (sideP op l) ≤ szD l
  | [] => by simp [sideP, szL, szD]
  | x :: r => by
    have h := side_sz op r
    unfold sideP at h ⊢
    rw [List.filter_cons]
    have e : szD (x :: r) = x.2.1.size + 1 + szD r := by simp [szD]
    split
    · rw [List.map_cons, szL_cons]; omega
    · omega
theorem take_sz (l : List DL) (n : Nat) : szD (l.take n) ≤ szD l ∧ szD (l.drop n) ≤ szD l := by
  have : szD (l.take n) + szD (l.drop n) = szD l := by
    unfold szD; rw [← List.sum_append, ← List.map_append, List.take_append_drop]
  omega
theorem trim_sz (l : List DL) (f : Nat) : szD (trimP l f) ≤ szD l := by
  unfold trimP
  exact Nat.le_trans (take_sz _ _).1 (take_sz _ _).2
theorem szD_few : ∀ (l : List DL) (B : Nat), (∀ x ∈ l, x.2.1.size ≤ B) → szD l ≤ l.length * (B + 1)
  | [], _, _ => by simp [szD]
  | x :: r, B, h => by
    have h1 := h x List.mem_cons_self
    have h2 := szD_few r B (fun y hy => h y (List.mem_cons_of_mem _ hy))
    have e : szD (x :: r) = x.2.1.size + 1 + szD r := by simp [szD]
    rw [e, List.length_cons, Nat.add_mul]; omega
theorem step_sz (old : List Ln) (fuzz : Int) (s : Wk) (h : Hk) : szL (stepP old fuzz s h).out + szL (old.drop (stepP old fuzz s h).low) ≤ szL s.out + szL (old.drop s.low) + szD h.ls := by
  unfold stepP
  split
  · rename_i t d f e
    obtain ⟨⟨want, hw⟩, -⟩ := placeF_some _ _ e
    obtain ⟨b1, b2⟩ := findP_bd hw
    simp only
    rw [szL_app, szL_app]
    have h1 := szL_split (old.drop s.low) (t - s.low)
    rw [List.drop_drop, show s.low + (t - s.low) = t by omega] at h1
    have h2 := szL_split (old.drop t) (sideP 2 (trimP h.ls f)).length
    rw [List.drop_drop] at h2
    have h3 := side_sz 3 (trimP h.ls f)
    have h4 := trim_sz h.ls f
    omega
  · simp only; omega
theorem run_sz (old : List Ln) (fuzz : Int) : ∀ (l : List Hk) (s : Wk), szL (l.foldl (stepP old fuzz) s).out + szL (old.drop (l.foldl (stepP old fuzz) s).low) ≤ szL s.out + szL (old.drop s.low) + (l.map fun h => szD h.ls).sum
  | [], s => by simp
  | x :: r, s => by
    have h1 := run_sz old fuzz r (stepP old fuzz s x)
    have h2 := step_sz old fuzz s x
    rw [List.foldl_cons, List.map_cons, List.sum_cons]
    omega
theorem apply_sz (s : ByteArray) (hs : List Hk) (fuzz : Int) : (applyP s hs fuzz).1.length ≤ s.size + 1 + (hs.map fun h => szD h.ls).sum := by
  unfold applyP
  split
  · have h2 : s.data.toList.length = s.size := by simp
    simp only; omega
  · simp only
    unfold textP
    have h1 := joined_sz ((runP (lnsP s) hs fuzz).out ++ (lnsP s).drop (runP (lnsP s) hs fuzz).low)
    rw [szL_app] at h1
    have h2 := run_sz (lnsP s) fuzz hs ⟨[], 0, 0, [], []⟩
    rw [List.drop_zero, szL_nil] at h2
    have h3 := lnsP_sz s
    unfold runP at h1 ⊢
    omega
end Go.Proofs.YtnkpigibjicmaaaDoor
