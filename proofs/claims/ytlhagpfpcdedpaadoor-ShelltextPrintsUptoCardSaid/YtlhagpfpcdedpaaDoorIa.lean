/- plain: a script behind another text is read as it is alone, moved -/
import Derived.Test.YtlhagpfpcdedpaaDoorHr
namespace Go.Proofs.YtlhagpfpcdedpaaDoor
namespace Shp
/-- u is t behind d bytes -/
structure Suf (d : Nat) (t u : ByteArray) : Prop where
  drop : u.data.toList.drop d = t.data.toList
  size : u.size = t.size + d
theorem iter_map {α β : Type} {mu : α → Nat} {step : α → Option α} {mu' : β → Nat} {step' : β → Option β} (f : α → β) (hs : ∀ x, step' (f x) = (step x).map f) (hm : ∀ x, mu' (f x) = mu x) (x : α) : iter mu' step' (f x) = f (iter mu step x) := by
  generalize hn : mu x = n
  induction n using Nat.strongRecOn generalizing x with
  | ind n ih =>
    rw [iter, iter, hs]
    cases h : step x with
    | none => rfl
    | some y =>
      simp only [Option.map_some, hm]
      split
      · rename_i hlt
        exact ih (mu y) (by omega) y rfl
      · rfl
section
variable {d : Nat} {t u : ByteArray}
theorem Suf.dropj (h : Suf d t u) (j : Nat) : u.data.toList.drop (j + d) = t.data.toList.drop j := by
  rw [Nat.add_comm, ← List.drop_drop, h.drop]
theorem Suf.at (h : Suf d t u) (j : Nat) : at? u (j + d) = at? t j := by
  unfold at?
  have := congrArg (·[0]?) (h.dropj j)
  simp only [List.getElem?_drop, Nat.add_zero] at this
  exact this
theorem Suf.at1 (h : Suf d t u) (j : Nat) : at? u (j + d + 1) = at? t (j + 1) := by rw [← h.at (j + 1)]; congr 1; omega
theorem Suf.nl (h : Suf d t u) (j : Nat) : nlF u (j + d) = nlF t j + d := by
  unfold nlF
  rw [h.dropj]; omega
theorem Suf.sk1 (h : Suf d t u) (j : Nat) : sk1 u (j + d) = (Shp.sk1 t j).map (· + d) := by
  unfold Shp.sk1
  rw [h.at, h.at1, h.nl]
  cases at? t j with
  | none => rfl
  | some c =>
    simp only
    split
    · simp; omega
    split
    · simp; omega
    split
    · rfl
    · rfl
theorem Suf.sk (h : Suf d t u) (j : Nat) : skS u (j + d) = skS t j + d :=
  iter_map (mu := fun j => t.size - j) (mu' := fun j => u.size - j) (· + d) h.sk1 (fun x => by have := h.size; show u.size - (x + d) = t.size - x; omega) j
theorem Suf.op (h : Suf d t u) (j : Nat) : opT u (j + d) = opT t j := by
  unfold opT
  rw [h.at, h.at1]
abbrev mv (d : Nat) (x : Nat × List UInt8) : Nat × List UInt8 := (x.1 + d, x.2)
abbrev mv' (d : Nat) (x : List UInt8 × Nat) : List UInt8 × Nat := (x.1, x.2 + d)
theorem Suf.qu1 (h : Suf d t u) (q : UInt8) (x : Nat × List UInt8) : qu1 u q (mv d x) = (Shp.qu1 t q x).map (mv d) := by
  obtain ⟨j, l⟩ := x
  unfold Shp.qu1 mv
  simp only
  rw [h.at, h.at1]
  cases at? t j with
  | none => rfl
  | some c =>
    simp only
    split
    · rfl
    · generalize (if q = 34 ∧ c = 92 then at? t (j + 1) else none) = o
      cases o with
      | none => simp; omega
      | some e =>
        simp only
        split <;> (simp; omega)
theorem Suf.qu (h : Suf d t u) (q : UInt8) (x : Nat × List UInt8) : quS u q (mv d x) = mv d (quS t q x) :=
  iter_map (mu := fun x : Nat × List UInt8 => t.size - x.1) (mu' := fun x : Nat × List UInt8 => u.size - x.1) (mv d) (h.qu1 q) (fun x => by have := h.size; simp only; omega) x
theorem Suf.quP (h : Suf d t u) (q : UInt8) (j : Nat) : quP u q (j + d) = (Shp.quP t q j).map (mv' d) := by
  unfold Shp.quP
  have e : ((j + d + 1, []) : Nat × List UInt8) = mv d (j + 1, []) := by simp only [mv]; congr 1; omega
  rw [e, h.qu]
  simp only
  rw [h.at]
  split
  · simp only [Option.map_some, mv']; congr 2; omega
  · rfl
theorem Suf.part (h : Suf d t u) (j : Nat) : part u (j + d) = (Shp.part t j).map (mv' d) := by
  unfold Shp.part
  rw [h.at, h.at1]
  cases at? t j with
  | none => rfl
  | some c =>
    simp only
    split
    · exact h.quP c j
    split
    · cases at? t (j + 1) with
      | none => rfl
      | some e => simp only; split <;> (simp [mv']; omega)
    · simp [mv']; omega
theorem Suf.wd1 (h : Suf d t u) (x : Nat × List UInt8) : wd1 u (mv d x) = (Shp.wd1 t x).map (mv d) := by
  obtain ⟨j, l⟩ := x
  unfold Shp.wd1 mv
  simp only
  rw [h.at, h.part]
  cases at? t j with
  | none => rfl
  | some c =>
    simp only
    split
    · rfl
    · cases Shp.part t j with
      | none => rfl
      | some p => rfl
theorem Suf.wd (h : Suf d t u) (x : Nat × List UInt8) : wdS u (mv d x) = mv d (wdS t x) :=
  iter_map (mu := fun x : Nat × List UInt8 => t.size - x.1) (mu' := fun x : Nat × List UInt8 => u.size - x.1) (mv d) h.wd1 (fun x => by have := h.size; simp only; omega) x
def shT (d : Nat) (t : Tk) : Tk := { t with a := t.a + d }
def shS (d : Nat) : St → St
  | .run t a => .run (shT d t) (a + d)
  | .bad e q => .bad e (q + d)
theorem Suf.bang (h : Suf d t u) (i j : Nat) : bangB u (i + d) (j + d) = bangB t i j := by
  unfold bangB
  congr 2
  rw [List.drop_take, List.drop_take, h.dropj]
  congr 1; omega
theorem Suf.word (h : Suf d t u) (j : Nat) : wordS u (j + d) = shS d (wordS t j) := by
  unfold wordS
  have e : ((j + d, []) : Nat × List UInt8) = mv d (j, []) := rfl
  rw [e, h.wd]
  simp only
  rw [h.at, h.bang]
  cases at? t (wdS t (j, [])).1 with
  | none => rfl
  | some c =>
    simp only
    split
    · rfl
    · simp [shS]
theorem Suf.tok (h : Suf d t u) (j : Nat) : tokS u (j + d) = shS d (tokS t j) := by
  unfold tokS
  rw [h.at, h.op, h.word, h.size]
  cases at? t j with
  | none => rfl
  | some c =>
    simp only
    cases opT t j with
    | some o => simp [shS, shT]; omega
    | none =>
      simp only
      split
      · simp [shS]
      · rfl
theorem Suf.nx (h : Suf d t u) (a : Nat) : nx u (a + d) = shS d (Shp.nx t a) := by
  unfold Shp.nx
  rw [h.sk, h.tok]
theorem Suf.rd (h : Suf d t u) (x : St) : rd u (shS d x) = shS d (Shp.rd t x) := by
  cases x with
  | run k a => exact h.nx a
  | bad e q => rfl
theorem sh_isO (o : List UInt8) (x : St) : isO o (shS d x) = isO o x := by cases x <;> rfl
theorem sh_end (x : St) : endB (shS d x) = endB x := by cases x <;> rfl
theorem sh_ok (x : St) : okB (shS d x) = okB x := by cases x <;> rfl
theorem sh_knd (x : St) : knd (shS d x) = knd x := by
  unfold knd
  rw [sh_isO, sh_isO, sh_isO]
theorem sh_beg (x : St) : beg (shS d x) = beg x := by
  cases x with
  | run k a =>
    show (decide ((shT d k).k = 1) || decide (0 < knd (shS d (.run k a)))) = _
    rw [sh_knd]; rfl
  | bad e q => rfl
theorem sh_fail (e : Int) (x : St) : failS e (shS d x) = shS d (failS e x) := by
  cases x with
  | run k a => show St.bad e ((k.a + d : Nat) : Int) = .bad e ((k.a : Int) + d); rw [Int.natCast_add]
  | bad e q => rfl
theorem Suf.mu (h : Suf d t u) (x : St) : mu u (shS d x) = Shp.mu t x := by
  cases x with
  | run k a =>
    show u.size - (a + d) + (if k.k = 0 then 0 else 1) = t.size - a + (if k.k = 0 then 0 else 1)
    have := h.size
    omega
  | bad e q => rfl
theorem Suf.lf (h : Suf d t u) (x : St) : lfS u (shS d x) = shS d (lfS t x) :=
  iter_map (mu := Shp.mu t) (mu' := Shp.mu u) (shS d) (fun x => by unfold lf1; rw [sh_isO, h.rd]; split <;> rfl) h.mu x
def shC (d : Nat) (c : Cm) : Cm := { c with at_ := c.at_ + d }
def shP (d : Nat) (p : Pl) : Pl := { p with cmds := p.cmds.map (shC d) }
theorem sh_tokAt (x : St) (ho : okB x = true) : tokAt (shS d x) = tokAt x + d := by
  cases x with
  | run k a => show ((k.a + d : Nat) : Int) = (k.a : Int) + d; rw [Int.natCast_add]
  | bad e q => cases ho
theorem Suf.rdq (h : Suf d t u) (x : St) : rdq u (shS d x) = shS d (Shp.rdq t x) := by
  unfold Shp.rdq
  rw [h.rd]
  cases Shp.rd t x with
  | bad e q => rfl
  | run k a =>
    show (if k.k = 1 then St.run (shT d k) (a + d) else .bad 1 ((k.a + d : Nat) : Int)) = shS d (if k.k = 1 then .run k a else .bad 1 k.a)
    split
    · rfl
    · show St.bad 1 ((k.a + d : Nat) : Int) = .bad 1 ((k.a : Int) + d); rw [Int.natCast_add]
abbrev fC (d : Nat) (z : St × Cm × Bool) : St × Cm × Bool := (shS d z.1, shC d z.2.1, z.2.2)
theorem Suf.cm1 (h : Suf d t u) (z : St × Cm × Bool) : cm1 u (fC d z) = (Shp.cm1 t z).map (fC d) := by
  obtain ⟨x, c, n⟩ := z
  cases x with
  | bad e q => rfl
  | run k a =>
    show (if 0 < knd (shS d (.run k a)) then _ else _) = _
    unfold Shp.cm1
    rw [sh_knd]
    simp only
    split
    · rw [show (St.run (shT d k) (a + d)) = shS d (.run k a) from rfl, h.rdq]
      cases Shp.rdq t (.run k a) with
      | bad e q => rfl
      | run k' a' =>
        show some (Shp.rd u (shS d (.run k' a')), _, _) = _
        rw [h.rd]; rfl
    · show (if k.k = 1 then some (Shp.rd u (shS d (.run k a)), _, _) else none) = _
      rw [h.rd]
      split
      · simp only [Option.map_some, fC]
        congr 3
        split <;> rfl
      · rfl
theorem Suf.cm (h : Suf d t u) (x : St) (ho : okB x = true) : cmS u (shS d x) = (shS d (cmS t x).1, shC d (cmS t x).2) := by
  unfold cmS
  have e : cmI u (shS d x, ⟨[], [], [], tokAt (shS d x)⟩, false) = fC d (cmI t (x, ⟨[], [], [], tokAt x⟩, false)) := by
    rw [sh_tokAt x ho]
    exact iter_map (mu := fun z : St × Cm × Bool => Shp.mu t z.1) (mu' := fun z : St × Cm × Bool => Shp.mu u z.1) (fC d) h.cm1 (fun z => h.mu z.1) (x, ⟨[], [], [], tokAt x⟩, false)
  rw [e]
  generalize cmI t (x, ⟨[], [], [], tokAt x⟩, false) = z
  unfold cmF
  simp only
  rw [sh_fail]
  split <;> rfl
abbrev fL (d : Nat) (z : St × List Cm × Bool) : St × List Cm × Bool := (shS d z.1, z.2.1.map (shC d), z.2.2)
theorem Suf.pl1 (h : Suf d t u) (z : St × List Cm × Bool) : pl1 u (fL d z) = (Shp.pl1 t z).map (fL d) := by
  obtain ⟨x, l, n⟩ := z
  cases x with
  | bad e q =>
    unfold Shp.pl1
    rw [if_pos (.inr rfl), if_pos (.inr rfl)]; rfl
  | run k a =>
    unfold Shp.pl1 fL
    simp only
    rw [sh_ok, sh_beg, sh_fail, sh_fail, List.length_map, h.cm _ rfl]
    simp only
    rw [sh_isO, h.rd, h.lf]
    split
    · rfl
    split
    · rfl
    split
    · rfl
    split
    · simp
    · simp
theorem Suf.pl (h : Suf d t u) (z : St × List Cm × Bool) : plI u (fL d z) = fL d (plI t z) :=
  iter_map (mu := plMu t) (mu' := plMu u) (fL d) h.pl1 (fun z => by unfold plMu; rw [h.mu]) z
theorem Suf.plB (h : Suf d t u) (x : St) {num num' : Int} (h1 : num ≤ 64) (h2 : num' ≤ 64) : plB u (shS d x) num' = (shS d (Shp.plB t x num).1, (Shp.plB t x num).2) := by
  unfold Shp.plB
  rw [if_neg (show ¬ 64 < num' by omega), if_neg (show ¬ 64 < num by omega), sh_beg, sh_fail]
  have e : (if beg x = true then shS d x else shS d (failS 1 x)) = shS d (if beg x = true then x else failS 1 x) := by split <;> rfl
  rw [e]
  generalize (if beg x = true then x else failS 1 x) = y
  cases y with
  | bad e q => rfl
  | run k a =>
    show (if k.b = true then (Shp.rd u (shS d (.run k a)), true) else (shS d (.run k a), false)) = _
    rw [h.rd]
    simp only
    split <;> rfl
theorem Suf.plS (h : Suf d t u) (x : St) (cn : Int) {num num' : Int} (h1 : num ≤ 64) (h2 : num' ≤ 64) : plS u (shS d x) num' cn = (shS d (Shp.plS t x num cn).1, shP d (Shp.plS t x num cn).2) := by
  unfold Shp.plS
  rw [h.plB x h1 h2]
  have e : ((shS d (Shp.plB t x num).1, [], false) : St × List Cm × Bool) = fL d ((Shp.plB t x num).1, [], false) := rfl
  simp only
  rw [e, h.pl]
  rfl
theorem sh_cn (y : St) : cnO (shS d y) = cnO y := by unfold cnO; rw [sh_isO, sh_isO]
theorem Suf.sepN (h : Suf d t u) (y : St) : sepN u (shS d y) = shS d (Shp.sepN t y) := by
  have e : sepS (shS d y) = shS d (sepS y) := by
    unfold sepS sepB
    rw [sh_isO, sh_isO, sh_isO, sh_isO, sh_end, sh_fail]
    split <;> rfl
  unfold Shp.sepN
  rw [e, sh_end, h.rd, ← h.lf]
  congr 1
  split <;> rfl
theorem pa_len {s : ByteArray} (z : St × List Pl × Int) : z.2.1.length ≤ (paI s z).2.1.length :=
  iter_keeps (mu := paMu s) (step := pa1 s) (fun y => z.2.1.length ≤ y.2.1.length) (fun a b ha hb => by
    unfold pa1 at hb
    split at hb
    · cases hb
    · cases hb; simp only [List.length_append, List.length_singleton]; omega) z (Nat.le_refl _)
theorem Suf.pa (h : Suf d t u) (p : List Pl) (x : St) (l : List Pl) (cn : Int) (hw : WfS t x) (hp : p.length + (paI t (x, l, cn)).2.1.length ≤ 64) :
    paI u (shS d x, p ++ l.map (shP d), cn) = (shS d (paI t (x, l, cn)).1, p ++ (paI t (x, l, cn)).2.1.map (shP d), (paI t (x, l, cn)).2.2) := by
  generalize hn : paMu t (x, l, cn) = n
  induction n using Nat.strongRecOn generalizing x l cn with
  | ind n ih =>
    have hl := pa_len (s := t) (x, l, cn)
    cases h1 : pa1 t (x, l, cn) with
    | none =>
      have h2 : pa1 u (shS d x, p ++ l.map (shP d), cn) = none := by
        unfold pa1 at h1 ⊢
        simp only [sh_ok, sh_end] at h1 ⊢
        split at h1
        · rename_i hc; rw [if_pos hc]
        · cases h1
      rw [pa_none h1, pa_none h2]
    | some y =>
      have hst := pa_step (z := (x, l, cn)) hw h1
      have hm := pa1_mu (z := (x, l, cn)) hw h1
      rw [hst] at hp hl ⊢
      have hl2 := pa_len (s := t) y
      unfold pa1 at h1
      simp only at h1
      split at h1
      · cases h1
      rename_i hc
      cases h1
      simp only [List.length_append, List.length_singleton] at hl2 hp
      have h2 : pa1 u (shS d x, p ++ l.map (shP d), cn) = some (shS d (Shp.sepN t (Shp.plS t x (l.length + 1) cn).1), p ++ (l ++ [(Shp.plS t x (l.length + 1) cn).2]).map (shP d), cnO (Shp.plS t x (l.length + 1) cn).1) := by
        unfold pa1
        simp only [sh_ok, sh_end]
        rw [if_neg hc, h.plS x cn (num := l.length + 1) (by omega) (by rw [List.length_append, List.length_map]; omega)]
        simp only
        rw [h.sepN, sh_cn, List.map_append, List.map_singleton, List.append_assoc]
      have hm2 : paMu u (shS d (Shp.sepN t (Shp.plS t x (l.length + 1) cn).1), p ++ (l ++ [(Shp.plS t x (l.length + 1) cn).2]).map (shP d), cnO (Shp.plS t x (l.length + 1) cn).1) < paMu u (shS d x, p ++ l.map (shP d), cn) := by
        have := hm.2
        unfold paMu at this ⊢
        simp only [h.mu, sh_ok] at this ⊢
        exact this
      rw [show paI u (shS d x, p ++ l.map (shP d), cn) = paI u _ from iter_some h2 hm2]
      exact ih _ (by have := hm.2; rw [hn] at this; exact this) _ _ _ hm.1 (by omega) rfl
end
end Shp
end Go.Proofs.YtlhagpfpcdedpaaDoor
