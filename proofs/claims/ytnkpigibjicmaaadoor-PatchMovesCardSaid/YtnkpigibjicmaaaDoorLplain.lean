/- plain: the lines of a text -/
import Derived.Test.YtnkpigibjicmaaaDoorTplain
import Derived.Lib.SplitLaws
import Derived.Lib.Join
import Derived.Lib.IndexBytes
namespace Tx
open Go
/-- a text cut at its line feeds: never empty -/
def spl : List UInt8 → List (List UInt8)
  | [] => [[]]
  | c :: r => if c = 10 then [] :: spl r else (match spl r with | h :: t => (c :: h) :: t | [] => [[c]])
theorem spl_ne (l : List UInt8) : spl l ≠ [] := by
  cases l with
  | nil => simp [spl]
  | cons c r =>
    simp only [spl]
    split
    · simp
    · split <;> simp
theorem spl_nl (r : List UInt8) : spl (10 :: r) = [] :: spl r := by simp [spl]
theorem spl_cons (c : UInt8) (r h : List UInt8) (t : List (List UInt8)) (hc : c ≠ 10) (e : spl r = h :: t) : spl (c :: r) = (c :: h) :: t := by
  simp only [spl]; rw [if_neg hc, e]
theorem spl_ex (l : List UInt8) : ∃ out cur, spl l = out ++ [cur] :=
  ⟨(spl l).dropLast, (spl l).getLast (spl_ne l), (List.dropLast_concat_getLast (spl_ne l)).symm⟩
theorem spl_app : ∀ (l : List UInt8) (out : List (List UInt8)) (cur r : List UInt8), spl l = out ++ [cur] → ∃ h t, spl r = h :: t ∧ spl (l ++ r) = out ++ (cur ++ h) :: t := by
  intro l
  induction l with
  | nil =>
    intro out cur r e
    obtain ⟨h, t, hr⟩ := List.exists_cons_of_ne_nil (spl_ne r)
    refine ⟨h, t, hr, ?_⟩
    cases out with
    | nil => simp [spl] at e; subst e; simpa using hr
    | cons x o => simp [spl] at e
  | cons c l ih =>
    intro out cur r e
    by_cases hc : c = 10
    · subst hc
      rw [spl_nl] at e
      cases out with
      | nil => exact absurd (List.cons.inj e).2 (spl_ne l)
      | cons x o =>
        rw [List.cons_append, List.cons.injEq] at e
        obtain ⟨h, t, h1, h2⟩ := ih o cur r e.2
        exact ⟨h, t, h1, by rw [List.cons_append, spl_nl, h2, ← e.1]; rfl⟩
    · obtain ⟨h0, t0, e0⟩ := List.exists_cons_of_ne_nil (spl_ne l)
      rw [spl_cons c l h0 t0 hc e0] at e
      cases out with
      | nil =>
        rw [List.nil_append, List.cons.injEq] at e
        obtain ⟨rfl, rfl⟩ := e
        obtain ⟨h, t, h1, h2⟩ := ih [] h0 r e0
        exact ⟨h, t, h1, by rw [List.cons_append, spl_cons c (l ++ r) (h0 ++ h) t hc h2]; rfl⟩
      | cons x o =>
        rw [List.cons_append, List.cons.injEq] at e
        obtain ⟨rfl, rfl⟩ := e
        obtain ⟨h, t, h1, h2⟩ := ih (h0 :: o) cur r (by rw [e0]; rfl)
        exact ⟨h, t, h1, by rw [List.cons_append, spl_cons c (l ++ r) h0 (o ++ (cur ++ h) :: t) hc h2]; rfl⟩
theorem spl_snoc_nl {l : List UInt8} {out : List (List UInt8)} {cur : List UInt8} (e : spl l = out ++ [cur]) : spl (l ++ [10]) = (out ++ [cur]) ++ [[]] := by
  obtain ⟨h, t, h1, h2⟩ := spl_app l out cur [10] e
  simp [spl] at h1
  obtain ⟨rfl, rfl⟩ := h1
  rw [h2]; simp
theorem spl_snoc {l : List UInt8} {out : List (List UInt8)} {cur : List UInt8} {c : UInt8} (hc : c ≠ 10) (e : spl l = out ++ [cur]) : spl (l ++ [c]) = out ++ [cur ++ [c]] := by
  obtain ⟨h, t, h1, h2⟩ := spl_app l out cur [c] e
  simp [spl, hc] at h1
  rw [h2, ← h1.1, ← h1.2]
/-- the bytes of lines with a line feed each -/
def full (L : List (List UInt8)) : Nat := (L.map (fun x => x.length + 1)).sum
theorem full_cons (x : List UInt8) (L : List (List UInt8)) : full (x :: L) = x.length + 1 + full L := by simp [full]
theorem spl_size : ∀ (l : List UInt8) (out : List (List UInt8)) (cur : List UInt8), spl l = out ++ [cur] → l.length = full out + cur.length ∧ out.length = l.count 10 ∧ (10 : UInt8) ∉ cur ∧ (∀ x ∈ out, (10 : UInt8) ∉ x) ∧ ∀ c : Int, pCol l c = (if out = [] then c else 1) + cur.length := by
  intro l
  induction l with
  | nil =>
    intro out cur e
    cases out with
    | nil => simp [spl] at e; subst e; simp [full, pCol]
    | cons x o => simp [spl] at e
  | cons c l ih =>
    intro out cur e
    by_cases hc : c = 10
    · subst hc
      rw [spl_nl] at e
      cases out with
      | nil => exact absurd (List.cons.inj e).2 (spl_ne l)
      | cons x o =>
        rw [List.cons_append, List.cons.injEq] at e
        obtain ⟨rfl, e2⟩ := e
        obtain ⟨a1, a2, a3, a4, a5⟩ := ih o cur e2
        refine ⟨by rw [full_cons, List.length_cons, a1, List.length_nil]; omega, by rw [List.length_cons, List.count_cons_self, a2], a3, fun y hy => ?_, fun c => ?_⟩
        · rcases List.mem_cons.1 hy with rfl | hy
          · simp
          · exact a4 y hy
        · simp only [pCol]; rw [if_pos trivial, a5 1]
          have e0 : (if o = [] then (1 : Int) else 1) = 1 := by split <;> rfl
          rw [e0, if_neg (show ¬ (([] : List UInt8) :: o = []) by simp)]
    · obtain ⟨h0, t0, e0⟩ := List.exists_cons_of_ne_nil (spl_ne l)
      rw [spl_cons c l h0 t0 hc e0] at e
      cases out with
      | nil =>
        rw [List.nil_append, List.cons.injEq] at e
        obtain ⟨rfl, rfl⟩ := e
        obtain ⟨a1, a2, a3, a4, a5⟩ := ih [] h0 e0
        refine ⟨by simp [full, a1], by rw [List.count_cons_of_ne (by simpa using hc), ← a2], ?_, by simp, fun d => ?_⟩
        · simp only [List.mem_cons, not_or]; exact ⟨fun e => hc e.symm, a3⟩
        · simp only [pCol]; rw [if_neg hc, a5 (d + 1), if_pos rfl, if_pos trivial, List.length_cons]; omega
      | cons x o =>
        rw [List.cons_append, List.cons.injEq] at e
        obtain ⟨rfl, rfl⟩ := e
        obtain ⟨a1, a2, a3, a4, a5⟩ := ih (h0 :: o) cur (by rw [e0]; rfl)
        refine ⟨?_, by rw [List.count_cons_of_ne (by simpa using hc), ← a2]; simp, a3, fun y hy => ?_, fun d => ?_⟩
        · rw [List.length_cons, a1, full_cons, full_cons, List.length_cons]; omega
        · rcases List.mem_cons.1 hy with rfl | hy
          · simp only [List.mem_cons, not_or]; exact ⟨fun e => hc e.symm, a4 h0 (by simp)⟩
          · exact a4 y (by simp [hy])
        · simp only [pCol]; rw [if_neg hc, a5 (d + 1), if_neg (show ¬ (h0 :: o = []) by simp), if_neg (show ¬ ((c :: h0) :: o = []) by simp)]
/-- the lines of a text, and whether it is ended -/
def lin (l : List UInt8) : List (List UInt8) := if (spl l).getLastD [] = [] then (spl l).dropLast else spl l
def linE (l : List UInt8) : Bool := decide ((spl l).getLastD [] = [])
theorem lin_of {l : List UInt8} {out : List (List UInt8)} {cur : List UInt8} (e : spl l = out ++ [cur]) : lin l = (if cur = [] then out else out ++ [cur]) ∧ linE l = decide (cur = []) := by
  unfold lin linE
  rw [e]
  simp
/-- strings.Split's pieces at a line feed -/
theorem split_spl : ∀ l : List UInt8, Lib.split l [10] = spl l := by
  intro l
  induction l with
  | nil => rfl
  | cons c l ih =>
    by_cases hc : c = 10
    · subst hc
      have hix : Lib.index (10 :: l) [10] = 0 := by rw [Lib.index]; simp [List.isPrefixOf]
      unfold Lib.split at ih ⊢
      rw [Lib.count_cons_eq, Nat.add_comm 1, Lib.splitK, hix, spl_nl, ← ih]
      simp
    · have hp : ([10] : List UInt8).isPrefixOf (c :: l) = false := by simp [List.isPrefixOf, Ne.symm hc]
      have hix : Lib.index (c :: l) [10] = if Lib.index l [10] == -1 then -1 else Lib.index l [10] + 1 := by rw [Lib.index, hp]; simp
      unfold Lib.split at ih ⊢
      rw [Lib.count_cons_ne c 10 l hc]
      generalize Lib.count l [10] = k at ih
      cases k with
      | zero =>
        rw [Lib.splitK] at ih ⊢
        rw [spl_cons c l l [] hc ih.symm]
      | succ k =>
        rw [Lib.splitK] at ih ⊢
        by_cases hm : Lib.index l [10] = -1
        · rw [hm] at hix ih
          have hix' : Lib.index (c :: l) [10] = -1 := by rw [hix]; rfl
          rw [hix']
          rw [if_pos (by rfl)] at ih ⊢
          rw [spl_cons c l l [] hc ih.symm]
        · have hge := Lib.index_ge l [10]
          obtain ⟨j, hj⟩ : ∃ j : Nat, Lib.index l [10] = j := ⟨(Lib.index l [10]).toNat, by omega⟩
          rw [hj] at ih
          have hix' : Lib.index (c :: l) [10] = ((j + 1 : Nat) : Int) := by rw [hix, if_neg (fun e => hm (beq_iff_eq.1 e)), hj]; omega
          rw [hix']
          have n1 : ¬ (((j : Nat) : Int) == -1) = true := fun e => by have := beq_iff_eq.1 e; omega
          have n2 : ¬ (((j + 1 : Nat) : Int) == -1) = true := fun e => by have := beq_iff_eq.1 e; omega
          rw [if_neg n1] at ih
          rw [if_neg n2, spl_cons c l _ _ hc ih.symm]
          have e1 : ((j + 1 : Nat) : Int).toNat = j + 1 := by omega
          have e2 : ((j : Nat) : Int).toNat = j := by omega
          rw [e1, e2]
          simp only [Nat.add_zero, List.take_succ_cons, List.length_cons, List.length_nil]
          rfl
theorem splitB_spl (s : ByteArray) : (Lib.splitB ⟨#[10]⟩ 0 (Lib.countB s ⟨#[10]⟩) s).map (·.data.toList) = spl s.data.toList := by
  rw [Lib.splitB_data]; exact split_spl s.data.toList
end Tx
