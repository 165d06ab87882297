/- plain: what Apply returns; sizes -/
import Derived.Test.YtnkpigibjicmaaaDoorVo
import Derived.Test.YtnkpigibjicmaaaDoorVplain2
namespace Go.Proofs.YtnkpigibjicmaaaDoor
open Go.RowKit Go.Maps
open Pt Tx
theorem bA_self (x : ByteArray) : bA x.data.toList = x := by obtain ⟨⟨l⟩⟩ := x; rfl
/-- the lines of a text, with their marks -/
def lnsP (s : ByteArray) : List Ln := lnsN (lin s.data.toList).length (linE s.data.toList) 0 ((lin s.data.toList).map bA)
theorem lns_eq {s : ByteArray} {L : List ByteArray} (h : L.map (·.data.toList) = lin s.data.toList) : lnsN L.length (linE s.data.toList) 0 L = lnsP s := by
  have e : (lin s.data.toList).map bA = L := by
    rw [← h, List.map_map]
    exact (List.map_congr_left (fun x _ => bA_self x)).trans (List.map_id _)
  unfold lnsP
  rw [e, ← h, List.length_map]
theorem lnsN_mem (n : Nat) (E : Bool) : ∀ (l : List ByteArray) (i : Nat) (x : Ln), x ∈ lnsN n E i l → x.1 ∈ l
  | [], _, _, h => by simp [lnsN] at h
  | y :: r, i, x, h => by
    rcases List.mem_cons.1 h with h | h
    · rw [h]; exact List.mem_cons_self
    · exact List.mem_cons_of_mem _ (lnsN_mem n E r (i + 1) x h)
theorem full_mem {x : List UInt8} : ∀ {L : List (List UInt8)}, x ∈ L → x.length + 1 ≤ full L
  | y :: r, h => by
    rw [full_cons]
    rcases List.mem_cons.1 h with h | h
    · rw [h]; omega
    · have := full_mem h; omega
theorem lin_mem {l x : List UInt8} (h : x ∈ lin l) : x.length ≤ l.length := by
  obtain ⟨out, cur, e⟩ := spl_ex l
  obtain ⟨h1, -⟩ := spl_size l out cur e
  rw [(lin_of e).1] at h
  split at h
  · have := full_mem h; omega
  · rcases List.mem_append.1 h with h | h
    · have := full_mem h; omega
    · rw [List.mem_singleton] at h; rw [h]; omega
theorem lnsP_len (s : ByteArray) : (lnsP s).length ≤ s.size + 1 := by
  unfold lnsP
  rw [lnsN_len, List.length_map]
  have h1 := lin_len s.data.toList
  have h2 : s.data.toList.length = s.size := by simp
  omega
theorem lnsP_size {s : ByteArray} {x : Ln} (h : x ∈ lnsP s) : x.1.size ≤ s.size := by
  obtain ⟨y, hy, e⟩ := List.mem_map.1 (lnsN_mem _ _ _ _ _ h)
  have h1 := lin_mem hy
  have h2 : s.data.toList.length = s.size := by simp
  rw [← e]
  show y.toArray.size ≤ s.size
  rw [List.size_toArray]; omega
theorem joined_len {B : Nat} : ∀ (l : List Ln), (∀ x ∈ l, x.1.size ≤ B) → (joinedP l).length ≤ l.length * (B + 1)
  | [], _ => by simp [joinedP]
  | x :: r, h => by
    rw [joinedP_cons, List.length_append, List.length_append, List.length_cons, Nat.add_mul, Nat.one_mul]
    have h1 := h x List.mem_cons_self
    have h2 := joined_len r (fun y hy => h y (List.mem_cons_of_mem _ hy))
    have h3 : x.1.data.toList.length = x.1.size := by simp
    have h4 : (if x.2 = true ∧ r = [] then ([] : List UInt8) else [10]).length ≤ 1 := by split <;> simp
    omega
/-- the text, the places, the rejected hunks -/
def applyP (s : ByteArray) (hs : List Hk) (fuzz : Int) : List UInt8 × List (Int × Int × Int) × List Hk :=
  if chk hs ≠ 0 then (s.data.toList, [], hs) else (textP (lnsP s) (runP (lnsP s) hs fuzz), (runP (lnsP s) hs fuzz).placed, (runP (lnsP s) hs fuzz).bad)
theorem chkP_all : ∀ (l : List Hk) (e m : Int), chkP e m l = 0 → ∀ h ∈ l, shapeE h = 0
  | [], _, _, _, _, h => by simp at h
  | x :: r, e, m, hc, h, hm => by
    unfold chkP at hc
    by_cases h1 : shapeE x ≠ 0
    · rw [if_pos h1] at hc; exact absurd hc h1
    · rw [if_neg h1] at hc
      split at hc
      · exact absurd hc (by decide)
      · split at hc
        · exact absurd hc (by decide)
        · rcases List.mem_cons.1 hm with hm | hm
          · rw [hm]; exact Decidable.not_not.1 h1
          · exact chkP_all r _ _ hc h hm
theorem findP_bd {old p : List Ln} {low t : Nat} {want : Int} (h : findP old low want p = some t) : low ≤ t ∧ t + p.length ≤ old.length :=
  fitB_bd (((findL_spec old low want p (old.length + 1 - low)).1 t h).1)
theorem placeF_some {old : List Ln} {low t g : Nat} {mv d : Int} {h : Hk} : ∀ (n f : Nat), placeF old low mv h n f = some (t, d, g) → (∃ want, findP old low want (sideP 2 (trimP h.ls g)) = some t) ∧ d = (t : Int) - (beginP h.fa h.la + ctx h.ls g)
  | 0, _, e => by simp [placeF] at e
  | n + 1, f, e => by
    unfold placeF at e
    simp only at e
    split at e
    · rename_i u hu
      cases e
      exact ⟨⟨_, hu⟩, rfl⟩
    · exact placeF_some n (f + 1) e
theorem trim_mem {l : List DL} {f : Nat} {x : DL} (h : x ∈ trimP l f) : x ∈ l := List.mem_of_mem_drop (List.mem_of_mem_take h)
theorem trim_len (l : List DL) (f : Nat) : (trimP l f).length ≤ l.length := by unfold trimP; rw [List.length_take, List.length_drop]; omega
theorem side_mem {op : Int} {l : List DL} {x : Ln} (h : x ∈ sideP op l) : ∃ y ∈ l, y.2 = x := by
  obtain ⟨y, hy, e⟩ := List.mem_map.1 h
  exact ⟨y, (List.mem_filter.1 hy).1, e⟩
theorem ctx_len (l : List DL) (f : Nat) : ctx l f ≤ l.length := by
  unfold ctx
  have h := (List.takeWhile_sublist (l := l.take f) fun x => decide (x.1 = 1)).length_le
  rw [List.length_take] at h
  omega
/-- sizes while hunks are placed -/
structure OkW (old : List Ln) (j : Nat) (s : Wk) : Prop where
  low : s.low ≤ old.length
  out : s.out.length ≤ s.low + 610 * j
  sz : ∀ x ∈ s.out, x.1.size ≤ 100000
  mv : -1099511627776 ≤ s.move ∧ s.move ≤ 1099511627776
  pl : s.placed.length = j
  bad : s.bad.length ≤ j
theorem OkW.start (old : List Ln) : OkW old 0 ⟨[], 0, 0, [], []⟩ := ⟨Nat.zero_le _, Nat.zero_le _, fun x hx => by simp at hx, ⟨by decide, by decide⟩, rfl, Nat.le_refl _⟩
theorem OkW.step {old : List Ln} {j : Nat} {s : Wk} (H : OkW old j s) {h : Hk} (hs : shapeE h = 0) (hl : h.ls.length ≤ 610) (hz : ∀ x ∈ h.ls, x.2.1.size ≤ 100000) (ho : old.length ≤ 200000) (hoz : ∀ x ∈ old, x.1.size ≤ 100000) (fuzz : Int) : OkW old (j + 1) (stepP old fuzz s h) := by
  obtain ⟨h1, h2, h3, h4, h5, h6⟩ := H
  unfold stepP
  split
  · rename_i t d f e
    obtain ⟨⟨want, hw⟩, hd⟩ := placeF_some _ _ e
    obtain ⟨b1, b2⟩ := findP_bd hw
    obtain ⟨-, -, s3, s4, -⟩ := shape_ok hs
    have hb := begin_bd (n := h.la) s3 s4
    have hc := ctx_len h.ls f
    have l3 := side_len 3 (trimP h.ls f)
    have lt := trim_len h.ls f
    refine ⟨b2, ?_, ?_, ?_, by simp [h5], by simp only; omega⟩
    · simp only [List.length_append, List.length_take, List.length_drop]; omega
    · intro x hx
      rcases List.mem_append.1 hx with hx | hx
      · rcases List.mem_append.1 hx with hx | hx
        · exact h3 x hx
        · exact hoz x (List.mem_of_mem_drop (List.mem_of_mem_take hx))
      · obtain ⟨y, hy, rfl⟩ := side_mem hx
        exact hz y (trim_mem hy)
    · simp only; rw [hd]; omega
  · exact ⟨h1, by simp only; omega, h3, h4, by simp [h5], by simp; omega⟩
end Go.Proofs.YtnkpigibjicmaaaDoor
