/- plain laws: the groups of lines -/
import Derived.Test.YtoohbgjfhchnmaaDoorRc
namespace Go.Proofs.YtoohbgjfhchnmaaDoor
open Go.RowKit Go.Maps
open Lcl
/-- what a group gives -/
def giv (c : Cfg) (p : ByteArray × Nat) : List ByteArray := outL c.cnt c.rep c.sg p.1 p.2
def closeG (st : St) : List (ByteArray × Nat) := if st.n = 0 then [] else [(st.first, st.n)]
/-- the groups, from a state on: the first line of each, and the number of its lines -/
def grp (K : ByteArray → ByteArray) (st : St) : List ByteArray → List (ByteArray × Nat)
  | [] => closeG st
  | x :: r => if decide (0 < st.n) && decide ((K x).data.toList = st.key.data.toList) then grp K ⟨st.first, st.key, st.n + 1⟩ r else closeG st ++ grp K ⟨x, K x, 1⟩ r
theorem grp_yes {K : ByteArray → ByteArray} {st : St} {x : ByteArray} {r : List ByteArray} (h : (decide (0 < st.n) && decide ((K x).data.toList = st.key.data.toList)) = true) : grp K st (x :: r) = grp K ⟨st.first, st.key, st.n + 1⟩ r := by
  rw [grp, if_pos h]
theorem grp_no {K : ByteArray → ByteArray} {st : St} {x : ByteArray} {r : List ByteArray} (h : ¬ (decide (0 < st.n) && decide ((K x).data.toList = st.key.data.toList)) = true) : grp K st (x :: r) = closeG st ++ grp K ⟨x, K x, 1⟩ r := by
  rw [grp, if_neg h]
theorem run_acc (c : Cfg) (L : List ByteArray) : ∀ (st : St) (a : List ByteArray), L.foldl (stepM c) (st, a) = ((L.foldl (stepM c) (st, [])).1, a ++ (L.foldl (stepM c) (st, [])).2) := by
  induction L with
  | nil => intro st a; simp
  | cons x r ih =>
    intro st a
    rw [List.foldl_cons, List.foldl_cons]
    unfold stepM
    simp only
    rw [show (fun (p : St × List ByteArray) (line : ByteArray) => (feedS c p.1 line, p.2 ++ feedL c p.1 line)) = stepM c from rfl]
    rw [ih (feedS c st x) (a ++ feedL c st x), ih (feedS c st x) ([] ++ feedL c st x)]
    simp [List.append_assoc]
theorem closeL_giv (c : Cfg) (st : St) : closeL c st.first st.n = (closeG st).flatMap (giv c) := by
  unfold closeL closeG
  split
  · rfl
  · simp [giv]
theorem lines_from (c : Cfg) (L : List ByteArray) : ∀ st : St, (runM c st L).2 ++ closeL c (runM c st L).1.first (runM c st L).1.n = (grp c.K st L).flatMap (giv c) := by
  induction L with
  | nil => intro st; show [] ++ closeL c st.first st.n = _; rw [List.nil_append, closeL_giv]; rfl
  | cons x r ih =>
    intro st
    have e : runM c st (x :: r) = ((runM c (feedS c st x) r).1, feedL c st x ++ (runM c (feedS c st x) r).2) := by
      unfold runM
      rw [List.foldl_cons]
      show r.foldl (stepM c) (feedS c st x, [] ++ feedL c st x) = _
      rw [run_acc, List.nil_append]
    rw [e]
    simp only
    rw [List.append_assoc, ih]
    by_cases h : (decide (0 < st.n) && decide ((c.K x).data.toList = st.key.data.toList)) = true
    · have h' : same c st x = true := h
      rw [grp_yes h]; unfold feedS feedL; rw [h']; rfl
    · have h' : same c st x = false := by simpa [same] using h
      rw [grp_no h, List.flatMap_append, ← closeL_giv]; unfold feedS feedL; rw [h']; rfl
theorem lines_grp (c : Cfg) (L : List ByteArray) : linesM c L = (grp c.K st0 L).flatMap (giv c) := lines_from c L st0
theorem grp_pos (K : ByteArray → ByteArray) (L : List ByteArray) : ∀ (st : St) p, p ∈ grp K st L → 1 ≤ p.2 := by
  have hc : ∀ (st : St) p, p ∈ closeG st → 1 ≤ p.2 := by
    intro st p h
    unfold closeG at h
    split at h
    · cases h
    · simp at h; subst h; simp only; omega
  induction L with
  | nil => exact hc
  | cons x r ih =>
    intro st p h
    by_cases hs : (decide (0 < st.n) && decide ((K x).data.toList = st.key.data.toList)) = true
    · rw [grp_yes hs] at h; exact ih _ p h
    · rw [grp_no hs] at h
      rcases List.mem_append.1 h with h | h
      · exact hc st p h
      · exact ih _ p h
theorem grp_sum (K : ByteArray → ByteArray) (L : List ByteArray) : ∀ st : St, ((grp K st L).map (·.2)).sum = st.n + L.length := by
  have hc : ∀ st : St, ((closeG st).map (·.2)).sum = st.n := by
    intro st
    unfold closeG
    split
    · rename_i h; rw [h]; rfl
    · simp
  induction L with
  | nil => intro st; rw [List.length_nil, Nat.add_zero]; exact hc st
  | cons x r ih =>
    intro st
    by_cases hs : (decide (0 < st.n) && decide ((K x).data.toList = st.key.data.toList)) = true
    · rw [grp_yes hs, ih]; simp only [List.length_cons]; omega
    · rw [grp_no hs, List.map_append, List.sum_append, ih, hc]; simp only [List.length_cons]; omega
theorem grp_len (K : ByteArray → ByteArray) (L : List ByteArray) : ∀ st : St, (grp K st L).length ≤ (if st.n = 0 then 0 else 1) + L.length := by
  have hc : ∀ st : St, (closeG st).length = (if st.n = 0 then 0 else 1) := by
    intro st; unfold closeG; split <;> rfl
  induction L with
  | nil => intro st; rw [List.length_nil, Nat.add_zero]; exact Nat.le_of_eq (hc st)
  | cons x r ih =>
    intro st
    by_cases h : (decide (0 < st.n) && decide ((K x).data.toList = st.key.data.toList)) = true
    · rw [grp_yes h]
      have := ih ⟨st.first, st.key, st.n + 1⟩
      simp only [Bool.and_eq_true, decide_eq_true_eq] at h
      rw [if_neg (by simp)] at this
      rw [if_neg (by omega)]
      simp only [List.length_cons]; omega
    · rw [grp_no h]
      have := ih ⟨x, K x, 1⟩
      rw [if_neg (by simp)] at this
      rw [List.length_append, hc]
      simp only [List.length_cons]; omega
/-- the specification with other marks -/
def Cfg.mk3 (c : Cfg) (cnt rep sg : Bool) : Cfg := ⟨c.F, c.B, c.D, cnt, c.fold, rep, sg, c.n, c.lo, c.up, c.W, c.C, c.E⟩
theorem mk3_ok {c : Cfg} (h : c.Ok) (cnt rep sg : Bool) : (c.mk3 cnt rep sg).Ok := ⟨h.hF, h.hB, h.hD, h.hn, h.zW, h.zC, h.zE⟩
theorem mk3_lines (c : Cfg) (cnt rep sg : Bool) (L : List ByteArray) : linesM (c.mk3 cnt rep sg) L = (grp c.K st0 L).flatMap fun p => outL cnt rep sg p.1 p.2 := lines_grp (c.mk3 cnt rep sg) L
theorem out_plain (l : List (ByteArray × Nat)) : (l.flatMap fun p => outL false false false p.1 p.2) = l.map (·.1) := by
  induction l with
  | nil => rfl
  | cons p r ih => rw [List.flatMap_cons, ih]; rfl
theorem out_count (l : List (ByteArray × Nat)) : (l.flatMap fun p => outL true false false p.1 p.2) = l.map fun p => lineS true p.1 p.2 := by
  induction l with
  | nil => rfl
  | cons p r ih => rw [List.flatMap_cons, ih]; rfl
theorem out_none (l : List (ByteArray × Nat)) (h : ∀ p ∈ l, 1 ≤ p.2) : (l.flatMap fun p => outL false true true p.1 p.2) = [] := by
  induction l with
  | nil => rfl
  | cons p r ih =>
    rw [List.flatMap_cons, ih fun q hq => h q (List.mem_cons_of_mem _ hq), List.append_nil]
    have := h p List.mem_cons_self
    unfold outL
    rw [if_pos]
    simp; omega
theorem out_parts (l : List (ByteArray × Nat)) (h : ∀ p ∈ l, 1 ≤ p.2) : (l.flatMap fun p => outL false true false p.1 p.2).length + (l.flatMap fun p => outL false false true p.1 p.2).length = l.length := by
  induction l with
  | nil => rfl
  | cons p r ih =>
    have h1 := ih fun q hq => h q (List.mem_cons_of_mem _ hq)
    have h2 := h p List.mem_cons_self
    have h3 : (outL false true false p.1 p.2).length + (outL false false true p.1 p.2).length = 1 := by
      unfold outL
      by_cases e : p.2 = 1
      · simp [e]
      · have : 1 < p.2 := by omega
        simp [e, this]
    rw [List.flatMap_cons, List.flatMap_cons, List.length_append, List.length_append, List.length_cons]
    omega
/-- the first lines of the groups are groups of one line each -/
theorem grp_firsts (K : ByteArray → ByteArray) (L : List ByteArray) : ∀ (st : St), 1 ≤ st.n → (K st.first).data.toList = st.key.data.toList →
    ∃ m r, grp K st L = (st.first, m) :: r ∧ ∀ (f : ByteArray) (key : ByteArray), key.data.toList = st.key.data.toList → grp K ⟨f, key, 1⟩ (r.map (·.1)) = (f, 1) :: r.map fun p => (p.1, 1) := by
  induction L with
  | nil =>
    intro st h1 _
    refine ⟨st.n, [], ?_, fun f key _ => ?_⟩
    · show closeG st = _
      unfold closeG; rw [if_neg (by omega)]
    · rfl
  | cons x r ih =>
    intro st h1 hk
    by_cases hs : (decide (0 < st.n) && decide ((K x).data.toList = st.key.data.toList)) = true
    · have e : grp K st (x :: r) = grp K ⟨st.first, st.key, st.n + 1⟩ r := grp_yes hs
      rw [e]
      exact ih ⟨st.first, st.key, st.n + 1⟩ (Nat.succ_le_succ (Nat.zero_le _)) hk
    · have e : grp K st (x :: r) = closeG st ++ grp K ⟨x, K x, 1⟩ r := grp_no hs
      obtain ⟨m, r2, e2, h2⟩ := ih ⟨x, K x, 1⟩ (Nat.le_refl _) rfl
      refine ⟨st.n, (x, m) :: r2, ?_, fun f key hkey => ?_⟩
      · rw [e, e2]; unfold closeG; rw [if_neg (by omega)]; rfl
      · rw [List.map_cons, List.map_cons]
        have hne : ¬ (decide (0 < (⟨f, key, 1⟩ : St).n) && decide ((K x).data.toList = (⟨f, key, 1⟩ : St).key.data.toList)) = true := by
          intro h
          apply hs
          simp only [Bool.and_eq_true, decide_eq_true_eq] at h ⊢
          exact ⟨by omega, by rw [h.2]; exact hkey⟩
        rw [grp_no hne, h2 x (K x) rfl]
        rfl
theorem lines_again (c : Cfg) (L : List ByteArray) : linesM (c.mk3 false false false) (linesM (c.mk3 false false false) L) = linesM (c.mk3 false false false) L := by
  rw [mk3_lines, mk3_lines, out_plain, out_plain]
  cases L with
  | nil => rfl
  | cons x r =>
    have e : ∀ y s, grp c.K st0 (y :: s) = grp c.K ⟨y, c.K y, 1⟩ s := fun y s => by
      rw [grp_no (by simp [st0])]; rfl
    rw [e]
    obtain ⟨m, r2, e2, h2⟩ := grp_firsts c.K r ⟨x, c.K x, 1⟩ (Nat.le_refl _) rfl
    rw [e2, List.map_cons, e, h2 x (c.K x) rfl]
    simp [Function.comp_def]
end Go.Proofs.YtoohbgjfhchnmaaDoor
