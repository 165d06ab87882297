/- plain: a printed script is read as the script; what Parse returns is valid -/
import Derived.Test.YtlhagpfpcdedpaaDoorJa
import Derived.Test.YtlhagpfpcdedpaaDoorId
namespace Go.Proofs.YtlhagpfpcdedpaaDoor
namespace Shp
section
variable {s : ByteArray}
theorem stop_more (l : List Pl) {r : List UInt8} (h : Stop r) : Stop (moreT l ++ r) := by
  cases l with
  | nil => exact h
  | cons q l =>
    have e : moreT (q :: l) = btw q.conn ++ (plT q ++ moreT l) := by unfold moreT; simp
    rw [e, List.append_assoc]
    exact btw_stop _ _
/-- a printed pipeline begins with a word -/
theorem pl_first {p : Pl} {j : Nat} {r : List UInt8} {f : Bool} (h : s.data.toList.drop j = plT p ++ r) (hr : Stop r) (hc : chkP f p = 0) : ∃ t a, nx s j = .run t a ∧ t.k = 1 := by
  obtain ⟨-, -, -, h4, -, -⟩ := chkP_ok hc
  obtain ⟨c, l, hcl⟩ := List.exists_cons_of_ne_nil h4
  have hT : plT p = noT p.no ++ (cmT c ++ barsT l) := by unfold plT; rw [hcl]; rfl
  cases hno : p.no with
  | false =>
    rw [hno] at hT
    have hT' : plT p = cmT c ++ barsT l := hT
    have hq : s.data.toList.drop j = quoteL c.name ++ (argsT c.args ++ (redsT c.red ++ (barsT l ++ r))) := by rw [h, hT', List.append_assoc, cmT_split]
    exact ⟨_, _, nx_quote hq (stop_cm c (stop_bars l hr)), rfl⟩
  | true =>
    rw [hno] at hT
    have hT' : plT p = 33 :: 32 :: (cmT c ++ barsT l) := hT
    have h' : s.data.toList.drop j = 33 :: 32 :: (cmT c ++ barsT l ++ r) := by rw [h, hT']; rfl
    exact ⟨_, _, nx_bang h', rfl⟩
/-- what stands between two pipelines is read -/
theorem btw_read {j : Nat} {k : Int} {r : List UInt8} (h : s.data.toList.drop j = btw k ++ r) (h1 : 1 ≤ k) (h3 : k ≤ 3) : PlE (nx s j) ∧ cnO (nx s j) = k ∧ rd s (nx s j) = nx s (j + (btw k).length) := by
  have hk : k = 1 ∨ k = 2 ∨ k = 3 := by omega
  rcases hk with rfl | rfl | rfl
  · have hn := nx_lf (show s.data.toList.drop j = 10 :: r from h)
    rw [hn]
    exact ⟨⟨_, _, _, rfl, .inl rfl⟩, rfl, rfl⟩
  · have h' : s.data.toList.drop j = 32 :: 38 :: 38 :: 32 :: r := h
    have hn := nx_op2 h' (by simp)
    obtain ⟨b1, d1⟩ := at_drop h'
    obtain ⟨b2, d2⟩ := at_drop d1
    obtain ⟨b3, d3⟩ := at_drop d2
    rw [hn]
    refine ⟨⟨_, _, _, rfl, .inr (.inl rfl)⟩, rfl, ?_⟩
    show nx s (j + 3) = nx s (j + 4)
    exact nx_sp d3
  · have h' : s.data.toList.drop j = 32 :: 124 :: 124 :: 32 :: r := h
    have hn := nx_op2 h' (by simp)
    obtain ⟨b1, d1⟩ := at_drop h'
    obtain ⟨b2, d2⟩ := at_drop d1
    obtain ⟨b3, d3⟩ := at_drop d2
    rw [hn]
    refine ⟨⟨_, _, _, rfl, .inr (.inr rfl)⟩, rfl, ?_⟩
    show nx s (j + 3) = nx s (j + 4)
    exact nx_sp d3
theorem PlE.sep {y : St} (h : PlE y) : sepN s y = lfS s (rd s y) := by
  obtain ⟨o, a, b, rfl, h⟩ := h
  have e : sepS (.run ⟨2, o, false, a⟩ b) = .run ⟨2, o, false, a⟩ b := by
    unfold sepS sepB
    rw [if_pos (by rcases h with rfl | rfl | rfl <;> rfl)]
  unfold sepN
  rw [e, if_neg (by show ¬ (decide ((2 : Nat) = 0) = true); decide)]
theorem pa_print1 : ∀ (l : List Pl) (p : Pl) (j : Nat) (l0 : List Pl) (cn : Int) (f : Bool), s.data.toList.drop j = plT p ++ (moreT l ++ [10]) → chkP f p = 0 → chkL false l = 0 → l0.length + l.length + 1 ≤ 64 → cn = p.conn → j ≤ s.size →
    ∃ l', paI s (nx s j, l0, cn) = (.run ⟨0, [], false, s.size⟩ s.size, l0 ++ l', 1) ∧ l'.map plainP = (p :: l).map plainP
  | l, p, j, l0, cn, f, h, hc, hl, hn, hcn, hj => by
    have hr : Stop (moreT l ++ [10]) := stop_more l (stop10 [])
    have d1 := drop_len h
    have l1 := len_of hj h
    obtain ⟨t, a, hf, hk⟩ := pl_first h hr hc
    have w := nx_wf hj
    have hb : ¬ (okB (nx s j) = false ∨ (endB (nx s j) = true ∧ cn = 1)) := by
      rw [hf]
      simp [okB, endB, hk]
    cases l with
    | nil =>
      have d1' : s.data.toList.drop (j + (plT p).length) = btw 1 ++ [] := d1
      obtain ⟨hy, hcy, hry⟩ := btw_read d1' (by decide) (by decide)
      obtain ⟨p', q1, q2⟩ := pl_print (num := l0.length + 1) (cn := cn) h hr hc hj (by simp only [List.length_nil] at hn; omega) hcn hy
      have hE := nx_end (drop_len d1')
      have p1 : pa1 s (nx s j, l0, cn) = some (.run ⟨0, [], false, s.size⟩ s.size, l0 ++ [p'], 1) := by
        unfold pa1
        rw [if_neg hb]
        simp only
        rw [q1]
        simp only
        rw [hcy, hy.sep, hry, hE, lf_none rfl]
      refine ⟨[p'], ?_, by rw [List.map_singleton, q2]; rfl⟩
      rw [pa_step (z := (nx s j, l0, cn)) w p1]
      refine pa_none ?_
      unfold pa1
      rw [if_pos (.inr ⟨rfl, rfl⟩)]
    | cons q l =>
      have e : moreT (q :: l) = btw q.conn ++ (plT q ++ moreT l) := by unfold moreT; simp
      have d1' : s.data.toList.drop (j + (plT p).length) = btw q.conn ++ (plT q ++ (moreT l ++ [10])) := by rw [d1, e]; simp
      unfold chkL at hl
      split at hl
      · rename_i hq
        obtain ⟨k1, k3, -⟩ := chkP_ok hq
        obtain ⟨hy, hcy, hry⟩ := btw_read d1' k1 k3
        obtain ⟨p', q1, q2⟩ := pl_print (num := l0.length + 1) (cn := cn) h hr hc hj (by simp only [List.length_cons] at hn; omega) hcn hy
        have d2 := drop_len d1'
        have l2 := len_of l1 d1'
        obtain ⟨t2, a2, hf2, hk2⟩ := pl_first d2 (stop_more l (stop10 [])) hq
        have p1 : pa1 s (nx s j, l0, cn) = some (nx s (j + (plT p).length + (btw q.conn).length), l0 ++ [p'], q.conn) := by
          unfold pa1
          rw [if_neg hb]
          simp only
          rw [q1]
          simp only
          rw [hcy, hy.sep, hry, hf2, lf_word hk2]
        obtain ⟨l', r1, r2⟩ := pa_print1 l q _ (l0 ++ [p']) q.conn false d2 hq hl (by simp only [List.length_cons, List.length_append, List.length_nil] at hn ⊢; omega) rfl l2
        refine ⟨p' :: l', ?_, by rw [List.map_cons, r2, q2]; rfl⟩
        rw [pa_step (z := (nx s j, l0, cn)) w p1, r1]
        simp
      · rename_i hq
        exact absurd hl hq
termination_by l => l.length
/-- a printed script is read as the script, but for offsets -/
theorem pa_print {l : List Pl} (h : s.data.toList = scT l) (hc : chk l = 0) (hs : s.size ≤ 8192) : ∃ l', paR s = (l', 0, 0) ∧ l'.map plainP = l.map plainP := by
  unfold chk at hc
  split at hc
  · cases hc
  rename_i h64
  cases l with
  | nil =>
    have h0 : s.data.toList.drop 0 = [] := by rw [List.drop_zero, h]; rfl
    refine ⟨[], ?_, rfl⟩
    have hE := nx_end h0
    unfold paR paS
    rw [if_neg (by omega), hE, lf_none rfl, pa_none (by unfold pa1; rw [if_pos (.inr ⟨rfl, rfl⟩)])]
  | cons p l =>
    have h0 : s.data.toList.drop 0 = plT p ++ (moreT l ++ [10]) := by rw [List.drop_zero, h]; unfold scT scP; simp
    unfold chkL at hc
    split at hc
    · rename_i hp
      obtain ⟨-, -, k3, -⟩ := chkP_ok hp
      obtain ⟨t, a, hf, hk⟩ := pl_first h0 (stop_more l (stop10 [])) hp
      obtain ⟨l', r1, r2⟩ := pa_print1 l p 0 [] 1 true h0 hp hc (by simp only [List.length_cons] at h64; simp only [List.length_nil]; omega) (k3 rfl).symm (Nat.zero_le _)
      refine ⟨l', ?_, r2⟩
      unfold paR paS
      rw [if_neg (by omega)]
      have e : lfS s (nx s 0) = nx s 0 := by rw [hf, lf_word hk]
      rw [e, r1]
      simp
    · rename_i hp
      exact absurd hc hp
/-- scripts that are alike but for their offsets -/
theorem same_plain {l l' : List Pl} (h : l'.map plainP = l.map plainP) : sameL 0 false l l' = true := by
  have hl : l'.length = l.length := by simpa using congrArg List.length h
  unfold sameL
  rw [decide_eq_true hl.symm, Bool.true_and, List.all_eq_true]
  intro x hx
  obtain ⟨i, hi⟩ := List.mem_iff_getElem?.1 hx
  rw [List.getElem?_zip_eq_some] at hi
  obtain ⟨h1, h2⟩ := hi
  have e := congrArg (·[i]?) h
  simp only [List.getElem?_map, h1, h2, Option.map_some, Option.some.injEq] at e
  unfold plainP at e
  injection e with e1 e2 e3
  unfold samePl
  have e4 : x.2.cmds.length = x.1.cmds.length := by simpa using congrArg List.length e1
  rw [decide_eq_true e2.symm, decide_eq_true e3.symm, decide_eq_true e4.symm, Bool.true_and, Bool.true_and, Bool.true_and, List.all_eq_true]
  intro y hy
  obtain ⟨k, hk⟩ := List.mem_iff_getElem?.1 hy
  rw [List.getElem?_zip_eq_some] at hk
  obtain ⟨k1, k2⟩ := hk
  have e := congrArg (·[k]?) e1
  simp only [List.getElem?_map, k1, k2, Option.map_some, Option.some.injEq] at e
  unfold plainC at e
  injection e with f1 f2 f3 f4
  unfold sameC
  rw [f1, f2, f3]
  simp
end
/- what Parse returns is valid -/
theorem knd_le (x : St) : knd x ≤ 3 := by
  unfold knd
  split
  · omega
  split
  · omega
  split <;> omega
theorem cmI_ok {s : ByteArray} {z : St × Cm × Bool} (h : okC z.2.1 = true) : okC (cmI s z).2.1 = true :=
  iter_keeps (mu := fun z : St × Cm × Bool => mu s z.1) (step := cm1 s) (fun z => okC z.2.1 = true) (fun a b ha hb => by
    obtain ⟨x, c, n⟩ := a
    unfold cm1 at hb
    cases x with
    | bad e q => cases hb
    | run t a =>
      simp only at hb ha
      split at hb
      · rename_i hk
        split at hb
        · cases hb
          have := knd_le (.run t a)
          unfold okC at ha ⊢
          simp only
          rw [List.all_append, ha, Bool.true_and, List.all_cons, List.all_nil, Bool.and_true, decide_eq_true (by omega), decide_eq_true (by omega)]; rfl
        · cases hb; exact ha
      · split at hb
        · cases hb
          simp only
          split <;> exact ha
        · cases hb) z h
theorem cmS_ok (s : ByteArray) (x : St) : okC (cmS s x).2 = true := cmI_ok (z := (x, ⟨[], [], [], tokAt x⟩, false)) rfl
/-- a pipeline that is read -/
theorem plI_ok {s : ByteArray} {z : St × List Cm × Bool} (h1 : z.2.1.length ≤ 16) (h2 : z.2.1.all okC = true) (h3 : okB z.1 = true → z.2.2 = true → z.2.1 ≠ []) :
    (plI s z).2.1.length ≤ 16 ∧ (plI s z).2.1.all okC = true ∧ (okB (plI s z).1 = true → (plI s z).2.2 = true → (plI s z).2.1 ≠ []) :=
  iter_keeps (mu := plMu s) (step := pl1 s) (fun z => z.2.1.length ≤ 16 ∧ z.2.1.all okC = true ∧ (okB z.1 = true → z.2.2 = true → z.2.1 ≠ [])) (fun a b ha hb => by
    obtain ⟨x, l, d⟩ := a
    obtain ⟨a1, a2, a3⟩ := ha
    unfold pl1 at hb
    simp only at hb a1 a2 a3
    split at hb
    · cases hb
    split at hb
    · cases hb; exact ⟨a1, a2, fun ho => by rw [fail_ok] at ho; cases ho⟩
    split at hb
    · cases hb; exact ⟨a1, a2, fun ho => by rw [fail_ok] at ho; cases ho⟩
    rename_i h16
    have q1 : (l ++ [(cmS s x).2]).length ≤ 16 := by rw [List.length_append, List.length_singleton]; omega
    have q2 : (l ++ [(cmS s x).2]).all okC = true := by rw [List.all_append, a2, Bool.true_and, List.all_cons, List.all_nil, Bool.and_true]; exact cmS_ok s x
    split at hb
    · cases hb; exact ⟨q1, q2, fun _ h => by cases h⟩
    · cases hb; exact ⟨q1, q2, fun _ _ => by simp⟩) z ⟨h1, h2, h3⟩
theorem plI_fin {s : ByteArray} {z : St × List Cm × Bool} (w : WfS s z.1) (ho : okB (plI s z).1 = true) : (plI s z).2.2 = true := by
  have h := iter_end (mu := plMu s) (step := pl1 s) (fun z => WfS s z.1) (fun a b ha hb => ⟨(pl1_mu ha hb).1, (pl1_mu ha hb).2.1⟩) z w
  rw [show iter (plMu s) (pl1 s) z = plI s z from rfl] at h
  refine Decidable.byContradiction fun hc => ?_
  unfold pl1 at h
  rw [if_neg (by rintro (h | h); exact hc h; rw [ho] at h; cases h)] at h
  split at h
  · cases h
  split at h
  · cases h
  split at h <;> cases h
theorem plS_ok {s : ByteArray} {x : St} {num cn : Int} (w : WfS s x) (ho : okB (plS s x num cn).1 = true) : (plS s x num cn).2.cmds ≠ [] ∧ (plS s x num cn).2.cmds.length ≤ 16 ∧ (plS s x num cn).2.cmds.all okC = true ∧ (plS s x num cn).2.conn = cn := by
  have b := (plB_wf (num := num) w).1
  unfold plS at ho ⊢
  simp only at ho ⊢
  have k := plI_ok (s := s) (z := ((plB s x num).1, [], false)) (by simp) rfl (fun _ h => by cases h)
  exact ⟨k.2.2 ho (plI_fin (z := ((plB s x num).1, [], false)) b ho), k.1, k.2.1, trivial⟩
theorem cnO_in (y : St) : 1 ≤ cnO y ∧ cnO y ≤ 3 := by
  unfold cnO
  split
  · omega
  split <;> omega
theorem chkL_snoc {f : Bool} {p : Pl} : ∀ {l : List Pl}, chkL f l = 0 → chkP (if l = [] then f else false) p = 0 → chkL f (l ++ [p]) = 0
  | [], _, h2 => by
    rw [if_pos rfl] at h2
    show (if chkP f p = 0 then chkL false [] else chkP f p) = 0
    rw [if_pos h2]; rfl
  | q :: l, h1, h2 => by
    rw [if_neg (by simp)] at h2
    unfold chkL at h1
    split at h1
    · rename_i hq
      show (if chkP f q = 0 then chkL false (l ++ [p]) else chkP f q) = 0
      rw [if_pos hq]
      exact chkL_snoc h1 (by split <;> exact h2)
    · rename_i hq; exact absurd h1 hq
theorem paI_ok {s : ByteArray} {z : St × List Pl × Int} (w : WfS s z.1) (h : okB z.1 = true → chkL true z.2.1 = 0 ∧ z.2.1.length ≤ 64) (hn : z.2.1 = [] → z.2.2 = 1) (hc : 1 ≤ z.2.2 ∧ z.2.2 ≤ 3) :
    okB (paI s z).1 = true → chkL true (paI s z).2.1 = 0 ∧ (paI s z).2.1.length ≤ 64 :=
  (iter_keeps (mu := paMu s) (step := pa1 s) (fun z => WfS s z.1 ∧ (okB z.1 = true → chkL true z.2.1 = 0 ∧ z.2.1.length ≤ 64) ∧ (z.2.1 = [] → z.2.2 = 1) ∧ (1 ≤ z.2.2 ∧ z.2.2 ≤ 3)) (fun a b ha hb => by
    have hm := pa1_mu ha.1 hb
    obtain ⟨x, l, cn⟩ := a
    obtain ⟨a0, a1, a2, a3⟩ := ha
    unfold pa1 at hb
    simp only at hb a0 a1 a2 a3
    split at hb
    · cases hb
    rename_i hst
    have hx : okB x = true := by
      refine Decidable.byContradiction fun hc => hst (.inl (by simpa using hc))
    obtain ⟨c1, c2⟩ := a1 hx
    cases hb
    refine ⟨hm.1, fun ho => ?_, fun h => by simp at h, cnO_in _⟩
    have hp := sepN_ok ho
    obtain ⟨k1, k2, k3, k4⟩ := plS_ok a0 hp
    have hlen : ¬ (64 : Int) < (l.length : Int) + 1 := fun hlt => by
      have := plS_lim (s := s) (x := x) (num := (l.length : Int) + 1) (cn := cn) hlt
      rw [this] at hp; cases hp
    refine ⟨chkL_snoc c1 (chkP_mk (by rw [k4]; exact a3.1) (by rw [k4]; exact a3.2) (fun hf => ?_) k1 k2 k3), by rw [List.length_append, List.length_singleton]; omega⟩
    rw [k4]
    split at hf
    · rename_i h0; exact a2 h0
    · cases hf) z ⟨w, h, hn, hc⟩).2.1
/-- what Parse returns is valid -/
theorem paR_valid {s : ByteArray} {l : List Pl} {q : Int} (h : paR s = (l, 0, q)) : chk l = 0 := by
  unfold paR at h
  split at h
  · cases h
  have w : WfS s (lfS s (nx s 0)) := lf_wf (nx_wf (Nat.zero_le _))
  split at h
  · rename_i t a hx
    have := paI_ok (s := s) (z := (lfS s (nx s 0), [], 1)) w (fun _ => ⟨rfl, by simp⟩) (fun _ => rfl) ⟨Int.le_refl 1, (by show (1 : Int) ≤ 3; decide)⟩ (by rw [show paI s (lfS s (nx s 0), [], 1) = paS s from rfl, hx]; rfl)
    rw [show paI s (lfS s (nx s 0), [], 1) = paS s from rfl] at this
    cases h
    unfold chk
    rw [if_neg (by omega)]
    exact this.1
  · rename_i e' q' hx
    exfalso
    have w2 := pa_wf (s := s) (z := (lfS s (nx s 0), [], 1)) w
    rw [show paI s (lfS s (nx s 0), [], 1) = paS s from rfl, hx] at w2
    injection h with h1 h2
    injection h2 with h2 h3
    have := w2.1
    omega
/-- an error's offset lies in the text, unless it is too long -/
theorem paR_err {s : ByteArray} {l : List Pl} {e q : Int} (h : paR s = (l, e, q)) (he : e ≠ 0) : l = [] ∧ ((0 ≤ q ∧ q ≤ s.size ∧ s.size ≤ 8192) ∨ (e = 3 ∧ q = 8192 ∧ 8192 < s.size)) := by
  unfold paR at h
  split at h
  · rename_i hs
    cases h
    exact ⟨rfl, .inr ⟨rfl, rfl, hs⟩⟩
  · rename_i hs
    split at h
    · cases h; exact absurd rfl he
    · rename_i e' q' hx
      have w2 := pa_wf (s := s) (z := (lfS s (nx s 0), [], 1)) (lf_wf (nx_wf (Nat.zero_le _)))
      rw [show paI s (lfS s (nx s 0), [], 1) = paS s from rfl, hx] at w2
      cases h
      exact ⟨rfl, .inl ⟨w2.2.1, w2.2.2, by omega⟩⟩
end Shp
end Go.Proofs.YtlhagpfpcdedpaaDoor
