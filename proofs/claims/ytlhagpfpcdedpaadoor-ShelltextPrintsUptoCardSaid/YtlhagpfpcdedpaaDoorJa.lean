/- plain: the printed form of a script, and that it is read as the script -/
import Derived.Test.YtlhagpfpcdedpaaDoorHy
import Derived.Test.YtlhagpfpcdedpaaDoorHu
namespace Go.Proofs.YtlhagpfpcdedpaaDoor
namespace Shp
/-- the printed form of a redirection's operator -/
def mkR (k : Int) : List UInt8 := if k = 1 then [32, 60, 32] else if k = 2 then [32, 62, 32] else [32, 62, 62, 32]
def argsT (l : List (List UInt8)) : List UInt8 := l.flatMap fun a => 32 :: quoteL a
def redsT (l : List (Int × List UInt8)) : List UInt8 := l.flatMap fun r => mkR r.1 ++ quoteL r.2
def cmT (c : Cm) : List UInt8 := quoteL c.name ++ argsT c.args ++ redsT c.red
def btw (k : Int) : List UInt8 := if k = 2 then [32, 38, 38, 32] else if k = 3 then [32, 124, 124, 32] else [10]
def barsT (l : List Cm) : List UInt8 := l.flatMap fun d => [32, 124, 32] ++ cmT d
def cmsT : List Cm → List UInt8
  | [] => []
  | c :: l => cmT c ++ barsT l
def noT (b : Bool) : List UInt8 := if b = true then [33, 32] else []
def plT (p : Pl) : List UInt8 := noT p.no ++ cmsT p.cmds
def moreT (l : List Pl) : List UInt8 := l.flatMap fun q => btw q.conn ++ plT q
/-- the pipelines, without the line feed at the end -/
def scP : List Pl → List UInt8
  | [] => []
  | p :: l => plT p ++ moreT l
/-- the printed form of a script -/
def scT (l : List Pl) : List UInt8 := scP l ++ (if l = [] then [] else [10])
theorem argsT_snoc (l : List (List UInt8)) (a : List UInt8) : argsT (l ++ [a]) = argsT l ++ (32 :: quoteL a) := by unfold argsT; simp
theorem redsT_snoc (l : List (Int × List UInt8)) (r : Int × List UInt8) : redsT (l ++ [r]) = redsT l ++ (mkR r.1 ++ quoteL r.2) := by unfold redsT; simp
theorem cmsT_snoc (l : List Cm) (c : Cm) : cmsT (l ++ [c]) = cmsT l ++ (if l = [] then [] else [32, 124, 32]) ++ cmT c := by
  cases l with
  | nil => simp [cmsT, barsT]
  | cons d l => simp [cmsT, barsT]
theorem scP_snoc (l : List Pl) (p : Pl) : scP (l ++ [p]) = scP l ++ (if l = [] then [] else btw p.conn) ++ plT p := by
  cases l with
  | nil => simp [scP, moreT]
  | cons d l => simp [scP, moreT]
/-- is a command valid? -/
def okC (c : Cm) : Bool := c.red.all fun r => decide (1 ≤ r.1) && decide (r.1 ≤ 3)
/-- the error of a pipeline; 0 if it is valid -/
def chkP (f : Bool) (p : Pl) : Int := if p.conn < 1 ∨ 3 < p.conn ∨ (f = true ∧ p.conn ≠ 1) ∨ p.cmds = [] then 7 else if 16 < p.cmds.length then 3 else if p.cmds.all okC = true then 0 else 7
def chkL : Bool → List Pl → Int
  | _, [] => 0
  | f, p :: l => if chkP f p = 0 then chkL false l else chkP f p
/-- the error of a script -/
def chk (l : List Pl) : Int := if 64 < l.length then 3 else chkL true l
/-- what Print returns -/
def prR (l : List Pl) : List UInt8 × Int := if chk l = 0 then (if 8192 < (scT l).length then ([], 3) else (scT l, 0)) else ([], chk l)
theorem chkP_ok {f : Bool} {p : Pl} (h : chkP f p = 0) : 1 ≤ p.conn ∧ p.conn ≤ 3 ∧ (f = true → p.conn = 1) ∧ p.cmds ≠ [] ∧ p.cmds.length ≤ 16 ∧ p.cmds.all okC = true := by
  unfold chkP at h
  split at h
  · cases h
  rename_i h1
  split at h
  · cases h
  rename_i h2
  split at h
  · rename_i h3
    simp only [not_or, not_and] at h1
    obtain ⟨a, b, c, d⟩ := h1
    exact ⟨by omega, by omega, fun hf => Decidable.byContradiction (fun hn => c hf hn), d, by omega, h3⟩
  · cases h
theorem chkP_mk {f : Bool} {p : Pl} (h1 : 1 ≤ p.conn) (h2 : p.conn ≤ 3) (h3 : f = true → p.conn = 1) (h4 : p.cmds ≠ []) (h5 : p.cmds.length ≤ 16) (h6 : p.cmds.all okC = true) : chkP f p = 0 := by
  unfold chkP
  rw [if_neg (by rintro (h | h | h | h); omega; omega; exact h.2 (h3 h.1); exact h4 h), if_neg (by omega), if_pos h6]
section
variable {s : ByteArray}
theorem at_le {j : Nat} {c : UInt8} (h : at? s j = some c) : j < s.size := (at_some h).1
theorem nx_sp {j : Nat} {r : List UInt8} (h : s.data.toList.drop j = 32 :: r) : nx s j = nx s (j + 1) := by
  unfold nx; rw [sk_blank (at_drop h).1]
theorem sk_op {j : Nat} {c : UInt8} (h : at? s j = some c) (hc : c = 60 ∨ c = 62 ∨ c = 124 ∨ c = 38 ∨ c = 10) : skS s j = j := by
  refine skS_none ?_
  unfold sk1
  simp only [h]
  rw [if_neg ?_, if_neg ?_, if_neg ?_] <;> rcases hc with rfl | rfl | rfl | rfl | rfl <;> simp
theorem tok_op {j : Nat} {c : UInt8} {o : List UInt8} (h : at? s j = some c) (ho : opT s j = some o) : tokS s j = .run ⟨2, o, false, j⟩ (j + o.length) := by
  unfold tokS
  simp only [h, ho]
theorem nx_op1 {j : Nat} {c : UInt8} {r : List UInt8} (h : s.data.toList.drop j = 32 :: c :: 32 :: r) (hc : c = 60 ∨ c = 62 ∨ c = 124) : nx s j = .run ⟨2, [c], false, j + 1⟩ (j + 2) := by
  obtain ⟨h1, d1⟩ := at_drop h
  obtain ⟨h2, d2⟩ := at_drop d1
  obtain ⟨h3, d3⟩ := at_drop d2
  rw [nx_sp h]
  unfold nx
  rw [sk_op h2 (by rcases hc with h | h | h <;> simp [h]), tok_op h2 (o := [c])]
  · rfl
  · unfold opT
    simp only [h2, h3]
    rcases hc with rfl | rfl | rfl <;> simp
theorem nx_op2 {j : Nat} {c : UInt8} {r : List UInt8} (h : s.data.toList.drop j = 32 :: c :: c :: 32 :: r) (hc : c = 62 ∨ c = 124 ∨ c = 38) : nx s j = .run ⟨2, [c, c], false, j + 1⟩ (j + 3) := by
  obtain ⟨h1, d1⟩ := at_drop h
  obtain ⟨h2, d2⟩ := at_drop d1
  obtain ⟨h3, d3⟩ := at_drop d2
  rw [nx_sp h]
  unfold nx
  rw [sk_op h2 (by rcases hc with h | h | h <;> simp [h]), tok_op h2 (o := [c, c])]
  · rfl
  · unfold opT
    simp only [h2, h3]
    rcases hc with rfl | rfl | rfl <;> simp
theorem nx_lf {j : Nat} {r : List UInt8} (h : s.data.toList.drop j = 10 :: r) : nx s j = .run ⟨2, [10], false, j⟩ (j + 1) := by
  obtain ⟨h1, d1⟩ := at_drop h
  unfold nx
  rw [sk_op h1 (by simp), tok_op h1 (o := [10])]
  · rfl
  · unfold opT
    simp only [h1]
    simp
theorem nx_bang {j : Nat} {r : List UInt8} (h : s.data.toList.drop j = 33 :: 32 :: r) : nx s j = .run ⟨1, [33], true, j⟩ (j + 1) := by
  obtain ⟨h1, d1⟩ := at_drop h
  obtain ⟨h2, d2⟩ := at_drop d1
  unfold nx
  rw [sk_word h1 (by decide) (by decide) (by decide)]
  unfold tokS
  simp only [h1]
  have ho : opT s j = none := by
    unfold opT
    simp only [h1]
    simp
  rw [ho]
  simp only
  rw [if_neg (by decide)]
  have s1 : wd1 s (j, []) = some (j + 1, [] ++ [33]) := by
    unfold wd1
    simp only [h1]
    rw [if_neg (by decide)]
    unfold part
    simp only [h1]
    rw [if_neg (by decide), if_neg (by decide)]; rfl
  have s2 : wd1 s (j + 1, [] ++ [33]) = none := by
    unfold wd1
    simp only [h2]
    rw [if_pos (by decide)]
  unfold wordS
  rw [wdS_step s1, wdS_none s2]
  simp only [h2]
  rw [if_pos (by decide)]
  have hb : bangB s j (j + 1) = true := by
    unfold bangB
    refine decide_eq_true ?_
    rw [List.drop_take, h, Nat.add_sub_cancel_left]; rfl
  rw [hb]; rfl
/-- the state behind a command: an operator that begins no redirection -/
def OpE (y : St) : Prop := ∃ o a b, y = .run ⟨2, o, false, a⟩ b ∧ o ≠ [60] ∧ o ≠ [62] ∧ o ≠ [62, 62]
theorem OpE.knd {y : St} (h : OpE y) : knd y = 0 := by
  obtain ⟨o, a, b, rfl, h1, h2, h3⟩ := h
  unfold Shp.knd isO
  simp only
  rw [decide_eq_false h1, decide_eq_false h2, decide_eq_false h3]; rfl
theorem OpE.cm {y : St} (h : OpE y) (c : Cm) (n : Bool) : cm1 s (y, c, n) = none := by
  have hk := h.knd
  obtain ⟨o, a, b, rfl, -⟩ := h
  unfold cm1
  simp only
  rw [hk, if_neg (by decide), if_neg (by decide)]
theorem len_of {j : Nat} {l r : List UInt8} (hj : j ≤ s.size) (h : s.data.toList.drop j = l ++ r) : j + l.length ≤ s.size := by
  have := congrArg List.length h
  rw [List.length_drop, List.length_append] at this
  have e : s.data.toList.length = s.size := rfl
  omega
theorem stop10 (r : List UInt8) : Stop (10 :: r) := .inr ⟨10, r, rfl, rfl⟩
theorem stop_args (l : List (List UInt8)) {r : List UInt8} (h : Stop r) : Stop (argsT l ++ r) := by
  cases l with
  | nil => exact h
  | cons a l => exact stop32 _
theorem mkR_cons (k : Int) : ∃ r, mkR k = 32 :: r := by
  unfold mkR
  split
  · exact ⟨_, rfl⟩
  split
  · exact ⟨_, rfl⟩
  · exact ⟨_, rfl⟩
theorem stop_reds (l : List (Int × List UInt8)) {r : List UInt8} (h : Stop r) : Stop (redsT l ++ r) := by
  cases l with
  | nil => exact h
  | cons a l =>
    obtain ⟨x, hx⟩ := mkR_cons a.1
    have e : redsT (a :: l) = mkR a.1 ++ quoteL a.2 ++ redsT l := rfl
    rw [e, hx]
    exact stop32 _
theorem btw_stop (k : Int) (r : List UInt8) : Stop (btw k ++ r) := by
  unfold btw
  split
  · exact stop32 _
  split
  · exact stop32 _
  · exact stop10 _
/-- a word is read as an argument -/
theorem cm_word {j : Nat} {a r : List UInt8} (h : s.data.toList.drop j = quoteL a ++ r) (hr : Stop r) (c : Cm) (n : Bool) (hj : j ≤ s.size) :
    cmI s (nx s j, c, n) = cmI s (nx s (j + (quoteL a).length), if n = true then { c with args := c.args ++ [a] } else { c with name := a }, true) := by
  have hn := nx_quote h hr
  have w := nx_wf hj
  have h1 : cm1 s (nx s j, c, n) = some (nx s (j + (quoteL a).length), (if n = true then { c with args := c.args ++ [a] } else { c with name := a }), true) := by
    rw [hn]
    unfold cm1
    simp only
    rw [if_neg (by rw [knd_not (by simp)]; decide), if_pos trivial]
    rfl
  exact cm_step (z := (nx s j, c, n)) w h1
theorem cm_args : ∀ (l : List (List UInt8)) (j : Nat) (r : List UInt8) (c : Cm), s.data.toList.drop j = argsT l ++ r → Stop r → j ≤ s.size → cmI s (nx s j, c, true) = cmI s (nx s (j + (argsT l).length), { c with args := c.args ++ l }, true)
  | [], j, r, c, _, _, _ => by rw [List.append_nil]; rfl
  | a :: l, j, r, c, h, hr, hj => by
    have e : argsT (a :: l) = 32 :: (quoteL a ++ argsT l) := rfl
    have h' : s.data.toList.drop j = 32 :: (quoteL a ++ (argsT l ++ r)) := by rw [h, e]; simp
    obtain ⟨h1, d1⟩ := at_drop h'
    have hj1 := at_le h1
    have d2 := drop_len d1
    rw [nx_sp h', cm_word d1 (stop_args l hr) c true (by omega), if_pos rfl, cm_args l _ r _ d2 hr (len_of (by omega) d1), e]
    simp only [List.append_assoc, List.singleton_append]
    congr 3
    simp only [List.length_cons, List.length_append]; omega
theorem cm_red {j : Nat} {k : Int} {a r : List UInt8} (h : s.data.toList.drop j = mkR k ++ quoteL a ++ r) (hr : Stop r) (c : Cm) (n : Bool) (h1 : 1 ≤ k) (h3 : k ≤ 3) (hj : j ≤ s.size) :
    cmI s (nx s j, c, n) = cmI s (nx s (j + (mkR k ++ quoteL a).length), { c with red := c.red ++ [(k, a)] }, n) := by
  have w := nx_wf hj
  have key : ∀ (o : List UInt8) (b : Nat), nx s j = .run ⟨2, o, false, j + 1⟩ b → knd (.run ⟨2, o, false, j + 1⟩ b) = k → s.data.toList.drop b = 32 :: (quoteL a ++ r) → b + 1 + (quoteL a).length = j + (mkR k ++ quoteL a).length → cmI s (nx s j, c, n) = cmI s (nx s (j + (mkR k ++ quoteL a).length), { c with red := c.red ++ [(k, a)] }, n) := by
    intro o b hn hk hd he
    obtain ⟨b1, d1⟩ := at_drop hd
    have hq := nx_quote d1 hr
    have hr1 : rd s (.run ⟨2, o, false, j + 1⟩ b) = .run ⟨1, a, false, b + 1⟩ (b + 1 + (quoteL a).length) := by
      show nx s b = _
      rw [nx_sp hd, hq]
    have hrq : rdq s (.run ⟨2, o, false, j + 1⟩ b) = .run ⟨1, a, false, b + 1⟩ (b + 1 + (quoteL a).length) := by
      unfold rdq
      rw [hr1]
      simp only
      rw [if_pos trivial]
    have hc : cm1 s (nx s j, c, n) = some (nx s (j + (mkR k ++ quoteL a).length), { c with red := c.red ++ [(k, a)] }, n) := by
      rw [hn]
      unfold cm1
      simp only
      rw [hk, if_pos (by omega), hrq]
      simp only
      rw [← he]
      rfl
    exact cm_step (z := (nx s j, c, n)) w hc
  have hk : k = 1 ∨ k = 2 ∨ k = 3 := by omega
  rcases hk with rfl | rfl | rfl
  · have h' : s.data.toList.drop j = 32 :: 60 :: 32 :: (quoteL a ++ r) := by rw [h]; rfl
    obtain ⟨b1, d1⟩ := at_drop h'
    obtain ⟨b2, d2⟩ := at_drop d1
    exact key [60] (j + 2) (nx_op1 h' (by simp)) rfl d2 (by rw [List.length_append, show (mkR 1).length = 3 from rfl]; omega)
  · have h' : s.data.toList.drop j = 32 :: 62 :: 32 :: (quoteL a ++ r) := by rw [h]; rfl
    obtain ⟨b1, d1⟩ := at_drop h'
    obtain ⟨b2, d2⟩ := at_drop d1
    exact key [62] (j + 2) (nx_op1 h' (by simp)) rfl d2 (by rw [List.length_append, show (mkR 2).length = 3 from rfl]; omega)
  · have h' : s.data.toList.drop j = 32 :: 62 :: 62 :: 32 :: (quoteL a ++ r) := by rw [h]; rfl
    obtain ⟨b1, d1⟩ := at_drop h'
    obtain ⟨b2, d2⟩ := at_drop d1
    obtain ⟨b3, d3⟩ := at_drop d2
    exact key [62, 62] (j + 3) (nx_op2 h' (by simp)) rfl d3 (by rw [List.length_append, show (mkR 3).length = 4 from rfl]; omega)
theorem cm_reds : ∀ (l : List (Int × List UInt8)) (j : Nat) (r : List UInt8) (c : Cm) (n : Bool), s.data.toList.drop j = redsT l ++ r → Stop r → (l.all fun r => decide (1 ≤ r.1) && decide (r.1 ≤ 3)) = true → j ≤ s.size → cmI s (nx s j, c, n) = cmI s (nx s (j + (redsT l).length), { c with red := c.red ++ l }, n)
  | [], j, r, c, n, _, _, _, _ => by rw [List.append_nil]; rfl
  | x :: l, j, r, c, n, h, hr, ha, hj => by
    rw [List.all_cons, Bool.and_eq_true, Bool.and_eq_true, decide_eq_true_eq, decide_eq_true_eq] at ha
    have e : redsT (x :: l) = mkR x.1 ++ quoteL x.2 ++ redsT l := rfl
    have h' : s.data.toList.drop j = mkR x.1 ++ quoteL x.2 ++ (redsT l ++ r) := by rw [h, e]; simp
    have d2 := drop_len h'
    rw [cm_red h' (stop_reds l hr) c n ha.1.1 ha.1.2 hj, cm_reds l _ r _ n d2 hr ha.2 (len_of hj h'), e]
    simp only [List.append_assoc, List.singleton_append]
    congr 3
    simp only [List.length_append]; omega
theorem tokAt_q {j : Nat} {a r : List UInt8} (h : s.data.toList.drop j = quoteL a ++ r) (hr : Stop r) : tokAt (nx s j) = j := by rw [nx_quote h hr]; rfl
theorem stop_cm (c : Cm) {r : List UInt8} (hr : Stop r) : Stop (argsT c.args ++ (redsT c.red ++ r)) := stop_args _ (stop_reds _ hr)
theorem cmT_split (c : Cm) (r : List UInt8) : cmT c ++ r = quoteL c.name ++ (argsT c.args ++ (redsT c.red ++ r)) := by unfold cmT; simp
/-- a printed command is read as the command -/
theorem cm_print {c : Cm} {j : Nat} {r : List UInt8} (h : s.data.toList.drop j = cmT c ++ r) (hr : Stop r) (hc : okC c = true) (hj : j ≤ s.size) (hy : OpE (nx s (j + (cmT c).length))) :
    cmS s (nx s j) = (nx s (j + (cmT c).length), { c with at_ := j }) := by
  have h0 := h
  rw [cmT_split] at h
  have d1 := drop_len h
  have l1 := len_of hj h
  have d2 := drop_len d1
  have l2 := len_of l1 d1
  have e : j + (quoteL c.name).length + (argsT c.args).length + (redsT c.red).length = j + (cmT c).length := by unfold cmT; simp only [List.length_append]; omega
  unfold cmS
  rw [tokAt_q h (stop_cm c hr), cm_word h (stop_cm c hr) _ false hj, cm_args c.args _ _ _ d1 (stop_reds _ hr) l1, cm_reds c.red _ _ _ true d2 hr hc l2, e, cm_none (hy.cm _ _)]
  rfl
/-- commands, but for their offsets -/
def plainC (c : Cm) : Cm := { c with at_ := 0 }
def plainP (p : Pl) : Pl := { p with cmds := p.cmds.map plainC }
theorem beg_word {t : Tk} {a : Nat} (h : t.k = 1) : beg (.run t a) = true := by
  show (decide (t.k = 1) || _) = true
  rw [h]; rfl
theorem lf_word {t : Tk} {a : Nat} (h : t.k = 1) : lfS s (.run t a) = .run t a := lf_none (isO_word (by omega))
/-- what may stand behind a printed pipeline -/
def PlE (y : St) : Prop := ∃ o a b, y = .run ⟨2, o, false, a⟩ b ∧ (o = [10] ∨ o = [38, 38] ∨ o = [124, 124])
theorem PlE.op {y : St} (h : PlE y) : OpE y := by
  obtain ⟨o, a, b, rfl, h⟩ := h
  exact ⟨o, a, b, rfl, by rcases h with rfl | rfl | rfl <;> decide, by rcases h with rfl | rfl | rfl <;> decide, by rcases h with rfl | rfl | rfl <;> decide⟩
theorem PlE.bar {y : St} (h : PlE y) : isO [124] y = false := by
  obtain ⟨o, a, b, rfl, h⟩ := h
  rcases h with rfl | rfl | rfl <;> rfl
theorem stop_bars (l : List Cm) {r : List UInt8} (h : Stop r) : Stop (barsT l ++ r) := by
  cases l with
  | nil => exact h
  | cons c l => exact stop32 _
theorem pl_cmds : ∀ (l : List Cm) (c : Cm) (j : Nat) (r : List UInt8) (l0 : List Cm), s.data.toList.drop j = cmT c ++ barsT l ++ r → Stop r → okC c = true → l.all okC = true → l0.length + l.length + 1 ≤ 16 → j ≤ s.size → PlE (nx s (j + (cmT c ++ barsT l).length)) →
    ∃ l', plI s (nx s j, l0, false) = (nx s (j + (cmT c ++ barsT l).length), l0 ++ l', true) ∧ l'.map plainC = (c :: l).map plainC
  | l, c, j, r, l0, h, hr, hc, hl, hn, hj, hy => by
    have h' : s.data.toList.drop j = cmT c ++ (barsT l ++ r) := by rw [h]; simp
    have d1 := drop_len h'
    have l1 := len_of hj h'
    have hq : s.data.toList.drop j = quoteL c.name ++ (argsT c.args ++ (redsT c.red ++ (barsT l ++ r))) := by rw [h', cmT_split]
    have hnx := nx_quote hq (stop_cm c (stop_bars l hr))
    have w := nx_wf hj
    have hb : beg (nx s j) = true := by rw [hnx]; exact beg_word rfl
    have ho : okB (nx s j) = true := by rw [hnx]; rfl
    cases l with
    | nil =>
      have e0 : cmT c ++ barsT [] = cmT c := by simp [barsT]
      rw [e0] at hy ⊢
      have cs := cm_print h' (stop_bars [] hr) hc hj hy.op
      have p1 : pl1 s (nx s j, l0, false) = some (nx s (j + (cmT c).length), l0 ++ [{ c with at_ := j }], true) := by
        unfold pl1
        simp only
        rw [if_neg (by simp [ho]), if_neg (by simp [hb]), if_neg (by simp only [List.length_nil] at hn; omega), cs]
        simp only
        rw [hy.bar, if_neg (by decide)]
      exact ⟨[{ c with at_ := j }], by rw [pl_step (z := (nx s j, l0, false)) w p1, pl_done], rfl⟩
    | cons d l =>
      have e0 : barsT (d :: l) = 32 :: 124 :: 32 :: (cmT d ++ barsT l) := rfl
      have d1' : s.data.toList.drop (j + (cmT c).length) = 32 :: 124 :: 32 :: (cmT d ++ barsT l ++ r) := by rw [d1, e0]; simp
      have hop := nx_op1 d1' (by simp)
      have cs := cm_print h' (stop_bars _ hr) hc hj ⟨_, _, _, hop, by decide, by decide, by decide⟩
      obtain ⟨b1, d2⟩ := at_drop d1'
      obtain ⟨b2, d3⟩ := at_drop d2
      obtain ⟨b3, d4⟩ := at_drop d3
      have hlt := at_le b3
      have hr1 : rd s (nx s (j + (cmT c).length)) = nx s (j + (cmT c).length + 1 + 1 + 1) := by
        rw [hop]
        show nx s (j + (cmT c).length + 1 + 1) = _
        rw [nx_sp d3]
      have hq2 : s.data.toList.drop (j + (cmT c).length + 1 + 1 + 1) = quoteL d.name ++ (argsT d.args ++ (redsT d.red ++ (barsT l ++ r))) := by rw [d4, List.append_assoc, cmT_split]
      have hnx2 := nx_quote hq2 (stop_cm d (stop_bars l hr))
      have p1 : pl1 s (nx s j, l0, false) = some (nx s (j + (cmT c).length + 1 + 1 + 1), l0 ++ [{ c with at_ := j }], false) := by
        unfold pl1
        simp only
        rw [if_neg (by simp [ho]), if_neg (by simp [hb]), if_neg (by simp only [List.length_cons] at hn; omega), cs]
        simp only
        rw [hr1, hop, if_pos (show isO [124] (.run ⟨2, [124], false, j + (cmT c).length + 1⟩ (j + (cmT c).length + 2)) = true from rfl), hnx2, lf_word rfl]
      rw [List.all_cons, Bool.and_eq_true] at hl
      have e1 : j + (cmT c ++ barsT (d :: l)).length = j + (cmT c).length + 1 + 1 + 1 + (cmT d ++ barsT l).length := by rw [e0]; simp only [List.length_append, List.length_cons]; omega
      rw [e1] at hy ⊢
      obtain ⟨l', q1, q2⟩ := pl_cmds l d (j + (cmT c).length + 1 + 1 + 1) r (l0 ++ [{ c with at_ := j }]) d4 hr hl.1 hl.2 (by simp only [List.length_append, List.length_cons, List.length_nil] at hn ⊢; omega) (by omega) hy
      refine ⟨{ c with at_ := j } :: l', ?_, ?_⟩
      · rw [pl_step (z := (nx s j, l0, false)) w p1, q1]; simp
      · rw [List.map_cons, q2]; rfl
termination_by l => l.length
/-- a printed pipeline is read as the pipeline -/
theorem pl_print {p : Pl} {j : Nat} {r : List UInt8} {num cn : Int} {f : Bool} (h : s.data.toList.drop j = plT p ++ r) (hr : Stop r) (hc : chkP f p = 0) (hj : j ≤ s.size) (hn : num ≤ 64) (hcn : cn = p.conn) (hy : PlE (nx s (j + (plT p).length))) :
    ∃ p', plS s (nx s j) num cn = (nx s (j + (plT p).length), p') ∧ plainP p' = plainP p := by
  obtain ⟨-, -, -, h4, h5, h6⟩ := chkP_ok hc
  obtain ⟨c, l, hcl⟩ := List.exists_cons_of_ne_nil h4
  rw [hcl] at h5 h6
  rw [List.all_cons, Bool.and_eq_true] at h6
  have hT : plT p = noT p.no ++ (cmT c ++ barsT l) := by unfold plT; rw [hcl]; rfl
  have key : ∃ j0, j0 + (cmT c ++ barsT l).length = j + (plT p).length ∧ s.data.toList.drop j0 = cmT c ++ barsT l ++ r ∧ j0 ≤ s.size ∧ plB s (nx s j) num = (nx s j0, p.no) := by
    cases hno : p.no with
    | false =>
      rw [hno] at hT
      have hT' : plT p = cmT c ++ barsT l := hT
      have hq : s.data.toList.drop j = quoteL c.name ++ (argsT c.args ++ (redsT c.red ++ (barsT l ++ r))) := by rw [h, hT', List.append_assoc, cmT_split]
      have hnx := nx_quote hq (stop_cm c (stop_bars l hr))
      refine ⟨j, by rw [hT'], by rw [h, hT'], hj, ?_⟩
      unfold plB
      rw [if_neg (by omega), hnx, if_pos (beg_word rfl)]
      rfl
    | true =>
      rw [hno] at hT
      have hT' : plT p = 33 :: 32 :: (cmT c ++ barsT l) := hT
      have h' : s.data.toList.drop j = 33 :: 32 :: (cmT c ++ barsT l ++ r) := by rw [h, hT']; rfl
      obtain ⟨b1, d1⟩ := at_drop h'
      obtain ⟨b2, d2⟩ := at_drop d1
      have := at_le b2
      have hb := nx_bang h'
      refine ⟨j + 1 + 1, by rw [hT']; simp only [List.length_cons]; omega, d2, by omega, ?_⟩
      unfold plB
      rw [if_neg (by omega), hb, if_pos (beg_word rfl)]
      simp only
      rw [if_pos trivial]
      show (nx s (j + 1), true) = _
      rw [nx_sp d1]
  obtain ⟨j0, e0, d0, hj0, hB⟩ := key
  rw [← e0] at hy ⊢
  obtain ⟨l', q1, q2⟩ := pl_cmds l c j0 r [] d0 hr h6.1 h6.2 (by simp only [List.length_cons, List.length_nil] at h5 ⊢; omega) hj0 hy
  refine ⟨⟨l', p.no, cn⟩, ?_, ?_⟩
  · unfold plS
    rw [hB]
    simp only
    rw [q1]; rfl
  · unfold plainP
    simp only
    rw [q2, hcl, hcn]
end
end Shp
end Go.Proofs.YtlhagpfpcdedpaaDoor
