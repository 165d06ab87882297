/- plain mathematics and texts of one kind, joined in one file (merge.py) -/
import Derived.Test.YtjngkapfngempaaDoorQplain
import Derived.Lib.Bytealg
import Derived.Test.YtjngkapfngempaaDoorQj
import Derived.Deep.Cut
import Derived.Test.YtjngkapfngempaaDoorShelfB
/- plain: the order of lists of numbers; the weights of the collating elements of a string; the comparison of strings in a locale -/
namespace Go.Proofs.YtjngkapfngempaaDoor
namespace Lcl
/-- -1, 0 or 1 for two lists of numbers -/
def ordI : List Int → List Int → Int
  | [], [] => 0
  | [], _ :: _ => -1
  | _ :: _, [] => 1
  | x :: a, y :: b => if x < y then -1 else if y < x then 1 else ordI a b
theorem ordI_vals : ∀ a b : List Int, ordI a b = -1 ∨ ordI a b = 0 ∨ ordI a b = 1
  | [], [] => .inr (.inl rfl)
  | [], _ :: _ => .inl rfl
  | _ :: _, [] => .inr (.inr rfl)
  | x :: a, y :: b => by
    unfold ordI
    split
    · exact .inl rfl
    · split
      · exact .inr (.inr rfl)
      · exact ordI_vals a b
theorem ordI_swap : ∀ a b : List Int, ordI b a = - ordI a b
  | [], [] => rfl
  | [], _ :: _ => rfl
  | _ :: _, [] => rfl
  | x :: a, y :: b => by
    unfold ordI
    by_cases h1 : x < y
    · rw [if_pos h1, if_neg (by omega), if_pos h1]; rfl
    · by_cases h2 : y < x
      · rw [if_pos h2, if_neg h1, if_pos h2]
      · rw [if_neg h2, if_neg h1, if_neg h1, if_neg h2]; exact ordI_swap a b
theorem ordI_refl : ∀ a : List Int, ordI a a = 0
  | [] => rfl
  | x :: a => by unfold ordI; rw [if_neg (by omega), if_neg (by omega)]; exact ordI_refl a
theorem ordI_eq : ∀ a b : List Int, ordI a b = 0 → a = b
  | [], [], _ => rfl
  | [], _ :: _, h => by cases h
  | _ :: _, [], h => by cases h
  | x :: a, y :: b, h => by
    unfold ordI at h
    split at h
    · cases h
    · split at h
      · cases h
      · rw [ordI_eq a b h, show x = y by omega]
theorem neg_le : (-1 : Int) ≤ 0 := by decide
theorem one_le : ¬ (1 : Int) ≤ 0 := by decide
theorem ordI_trans : ∀ a b c : List Int, ordI a b ≤ 0 → ordI b c ≤ 0 → ordI a c ≤ 0 ∧ (ordI a c = 0 → ordI a b = 0 ∧ ordI b c = 0)
  | [], [], [], _, _ => ⟨by decide, fun _ => ⟨rfl, rfl⟩⟩
  | [], [], _ :: _, _, _ => ⟨neg_le, fun h => by cases h⟩
  | [], _ :: _, [], _, h => absurd h one_le
  | [], _ :: _, _ :: _, _, _ => ⟨neg_le, fun h => by cases h⟩
  | _ :: _, [], _, h, _ => absurd h one_le
  | _ :: _, _ :: _, [], _, h => absurd h one_le
  | x :: a, y :: b, z :: c, h1, h2 => by
    unfold ordI at h1 h2 ⊢
    by_cases e1 : x < y
    · by_cases e2 : y < z
      · rw [if_pos (show x < z by omega)]; exact ⟨by decide, fun h => by cases h⟩
      · by_cases e3 : z < y
        · rw [if_neg e2, if_pos e3] at h2; exact absurd h2 (by decide)
        · rw [if_pos (show x < z by omega)]; exact ⟨by decide, fun h => by cases h⟩
    · by_cases e2 : y < x
      · rw [if_neg e1, if_pos e2] at h1; exact absurd h1 (by decide)
      · rw [if_neg e1, if_neg e2] at h1
        have exy : x = y := by omega
        subst exy
        by_cases e3 : x < z
        · rw [if_pos e3]; exact ⟨by decide, fun h => by cases h⟩
        · by_cases e4 : z < x
          · rw [if_neg e3, if_pos e4] at h2; exact absurd h2 (by decide)
          · rw [if_neg e3, if_neg e4] at h2
            obtain ⟨g1, g2⟩ := ordI_trans a b c h1 h2
            rw [if_neg e3, if_neg e4, if_neg e1, if_neg e1, if_neg e3, if_neg e4]
            exact ⟨g1, g2⟩
/-- the bytes as numbers -/
def bys (l : List UInt8) : List Int := l.map fun c => (c.toNat : Int)
theorem bys_inj {a b : List UInt8} (h : bys a = bys b) : a = b := by
  refine (List.map_inj_right fun x y hxy => ?_).1 h
  apply UInt8.toNat_inj.1
  exact Int.ofNat_inj.1 hxy
theorem compareBytes_ord : ∀ a b : List UInt8, Lib.compareBytes a b = ordI (bys a) (bys b)
  | [], [] => rfl
  | [], _ :: _ => rfl
  | _ :: _, [] => rfl
  | x :: a, y :: b => by
    have e1 : (x < y) = ((x.toNat : Int) < (y.toNat : Int)) := by rw [UInt8.lt_iff_toNat_lt]; simp
    have e2 : (y < x) = ((y.toNat : Int) < (x.toNat : Int)) := by rw [UInt8.lt_iff_toNat_lt]; simp
    show (if x < y then (-1 : Int) else if y < x then 1 else Lib.compareBytes a b) = ordI ((x.toNat : Int) :: bys a) ((y.toNat : Int) :: bys b)
    rw [compareBytes_ord a b]
    conv => rhs; unfold ordI
    simp only [e1, e2]
/-- the collating element with a text: the first one, the last one -/
def fstE (l : List (ByteArray × Int)) (x : List UInt8) : Option Int := (l.find? fun p => p.1.data.toList == x).map (·.2)
def lstE (l : List (ByteArray × Int)) (x : List UInt8) : Option Int := l.foldl (fun a p => if p.1.data.toList = x then some p.2 else a) none
theorem lstE_snoc (l : List (ByteArray × Int)) (p : ByteArray × Int) (x : List UInt8) : lstE (l ++ [p]) x = if p.1.data.toList = x then some p.2 else lstE l x := by
  unfold lstE; rw [List.foldl_append]; rfl
theorem elsB_cons {seen : List (List UInt8)} {x : ByteArray × Int} {r : List (ByteArray × Int)} (h : elsB seen (x :: r) = true) : x.1.size = 2 ∧ 0 ≤ x.2 ∧ x.2 ≤ 65535 ∧ ¬ x.1.data.toList ∈ seen ∧ elsB (seen ++ [x.1.data.toList]) r = true := by
  unfold elsB elB at h
  simp only [Bool.and_eq_true, decide_eq_true_eq, Bool.not_eq_true', decide_eq_false_iff_not] at h
  exact ⟨h.1.1.1, h.1.1.2.1, h.1.1.2.2, h.1.2, h.2⟩
theorem elsB_seen : ∀ (l : List (ByteArray × Int)) (seen : List (List UInt8)), elsB seen l = true → ∀ p ∈ l, ¬ p.1.data.toList ∈ seen
  | [], _, _, _, hp => by cases hp
  | x :: r, seen, h, p, hp => by
    obtain ⟨_, _, _, h4, h5⟩ := elsB_cons h
    rcases List.mem_cons.1 hp with rfl | hp
    · exact h4
    · exact fun hs => elsB_seen r _ h5 p hp (List.mem_append_left _ hs)
theorem elsB_two : ∀ (l : List (ByteArray × Int)) (seen : List (List UInt8)), elsB seen l = true → ∀ p ∈ l, p.1.size = 2
  | [], _, _, _, hp => by cases hp
  | x :: r, seen, h, p, hp => by
    obtain ⟨h1, _, _, _, h5⟩ := elsB_cons h
    rcases List.mem_cons.1 hp with rfl | hp
    · exact h1
    · exact elsB_two r _ h5 p hp
theorem fold_miss (x : List UInt8) : ∀ (l : List (ByteArray × Int)) (a : Option Int), (∀ p ∈ l, p.1.data.toList ≠ x) → l.foldl (fun a p => if p.1.data.toList = x then some p.2 else a) a = a
  | [], _, _ => rfl
  | p :: r, a, h => by
    rw [List.foldl_cons, if_neg (h p List.mem_cons_self)]
    exact fold_miss x r a fun q hq => h q (List.mem_cons_of_mem _ hq)
/-- texts that differ: the last one is the first one -/
theorem lst_fst (x : List UInt8) : ∀ (l : List (ByteArray × Int)) (seen : List (List UInt8)), elsB seen l = true → lstE l x = fstE l x
  | [], _, _ => rfl
  | p :: r, seen, h => by
    obtain ⟨_, _, _, _, h5⟩ := elsB_cons h
    unfold lstE fstE
    rw [List.foldl_cons, List.find?_cons]
    by_cases e : p.1.data.toList = x
    · rw [if_pos e, beq_iff_eq.2 e]
      rw [fold_miss x r _ fun q hq hqx => elsB_seen r _ h5 q hq (by rw [hqx, ← e]; simp)]
      rfl
    · rw [if_neg e, beq_eq_false_iff_ne.2 e]
      exact lst_fst x r _ h5
/-- the weights of the collating elements of a string -/
def wts (W : List Int) (f : List UInt8 → Option Int) : List UInt8 → List Int
  | [] => []
  | [c] => [W.getD c.toNat 0]
  | c :: d :: r => match f [c, d] with
    | some n => n :: wts W f r
    | none => W.getD c.toNat 0 :: wts W f (d :: r)
theorem wts_len (W : List Int) (f : List UInt8 → Option Int) : ∀ (n : Nat) (l : List UInt8), l.length ≤ n → (wts W f l).length ≤ l.length := by
  intro n
  induction n with
  | zero => intro l h; rw [List.eq_nil_of_length_eq_zero (by omega : l.length = 0)]; exact Nat.le_refl _
  | succ n ih =>
    intro l h
    match l with
    | [] => exact Nat.le_refl _
    | [c] => exact Nat.le_refl _
    | c :: d :: r =>
      rw [List.length_cons, List.length_cons] at h
      unfold wts
      split
      · have := ih r (by omega)
        simp only [List.length_cons]; omega
      · have := ih (d :: r) (by simp only [List.length_cons]; omega)
        simp only [List.length_cons] at this ⊢; omega
theorem wts_one (W : List Int) (f : List UInt8 → Option Int) (l : List UInt8) (k : Nat) (c : UInt8) (h : l[k]? = some c) (hn : k + 1 = l.length) : wts W f (l.drop k) = W.getD c.toNat 0 :: wts W f (l.drop (k + 1)) := by
  obtain ⟨hk, e⟩ := List.getElem?_eq_some_iff.1 h
  rw [List.drop_eq_getElem_cons hk, e, List.drop_of_length_le (by omega)]
  rfl
theorem wts_two (W : List Int) (f : List UInt8 → Option Int) (l : List UInt8) (k : Nat) (c d : UInt8) (h : l[k]? = some c) (h2 : l[k + 1]? = some d) :
    wts W f (l.drop k) = match f [c, d] with | some n => n :: wts W f (l.drop (k + 2)) | none => W.getD c.toNat 0 :: wts W f (l.drop (k + 1)) := by
  obtain ⟨hk, e⟩ := List.getElem?_eq_some_iff.1 h
  obtain ⟨hk2, e2⟩ := List.getElem?_eq_some_iff.1 h2
  rw [List.drop_eq_getElem_cons hk, e, List.drop_eq_getElem_cons hk2, e2]
  rfl
/-- the comparison of two strings -/
def cmpS (W : List Int) (f : List UInt8 → Option Int) (a b : List UInt8) : Int :=
  if ordI (wts W f a) (wts W f b) = 0 then ordI (bys a) (bys b) else ordI (wts W f a) (wts W f b)
theorem cmpS_vals (W : List Int) (f : List UInt8 → Option Int) (a b : List UInt8) : cmpS W f a b = -1 ∨ cmpS W f a b = 0 ∨ cmpS W f a b = 1 := by
  unfold cmpS; split <;> exact ordI_vals _ _
theorem cmpS_swap (W : List Int) (f : List UInt8 → Option Int) (a b : List UInt8) : cmpS W f b a = - cmpS W f a b := by
  unfold cmpS
  rw [ordI_swap (wts W f a) (wts W f b), ordI_swap (bys a) (bys b)]
  by_cases h : ordI (wts W f a) (wts W f b) = 0
  · rw [if_pos h, if_pos (by omega)]
  · rw [if_neg h, if_neg (by omega)]
theorem cmpS_refl (W : List Int) (f : List UInt8 → Option Int) (a : List UInt8) : cmpS W f a a = 0 := by
  unfold cmpS; rw [if_pos (ordI_refl _)]; exact ordI_refl _
theorem cmpS_eq (W : List Int) (f : List UInt8 → Option Int) (a b : List UInt8) (h : cmpS W f a b = 0) : a = b := by
  unfold cmpS at h
  split at h
  · exact bys_inj (ordI_eq _ _ h)
  · rename_i h'; exact absurd h h'
theorem cmpS_trans (W : List Int) (f : List UInt8 → Option Int) (a b c : List UInt8) (h1 : cmpS W f a b ≤ 0) (h2 : cmpS W f b c ≤ 0) : cmpS W f a c ≤ 0 ∧ (cmpS W f a c = 0 → cmpS W f a b = 0 ∧ cmpS W f b c = 0) := by
  have v1 := ordI_vals (wts W f a) (wts W f b)
  have v2 := ordI_vals (wts W f b) (wts W f c)
  have v3 := ordI_vals (wts W f a) (wts W f c)
  have g1 : ordI (wts W f a) (wts W f b) ≤ 0 := by unfold cmpS at h1; split at h1 <;> omega
  have g2 : ordI (wts W f b) (wts W f c) ≤ 0 := by unfold cmpS at h2; split at h2 <;> omega
  obtain ⟨t1, t2⟩ := ordI_trans _ _ _ g1 g2
  refine ⟨?_, fun h => ?_⟩
  · by_cases e : ordI (wts W f a) (wts W f c) = 0
    · obtain ⟨e1, e2⟩ := t2 e
      unfold cmpS at h1 h2 ⊢
      rw [if_pos e1] at h1
      rw [if_pos e2] at h2
      rw [if_pos e]
      exact (ordI_trans _ _ _ h1 h2).1
    · unfold cmpS; rw [if_neg e]; exact t1
  · have e : ordI (wts W f a) (wts W f c) = 0 := by
      unfold cmpS at h
      split at h
      · assumption
      · rename_i h'; exact absurd h h'
    obtain ⟨e1, e2⟩ := t2 e
    unfold cmpS at h1 h2 h ⊢
    rw [if_pos e1] at h1
    rw [if_pos e2] at h2
    rw [if_pos e] at h
    rw [if_pos e1, if_pos e2]
    exact (ordI_trans _ _ _ h1 h2).2 h
end Lcl
end Go.Proofs.YtjngkapfngempaaDoor
/- walks: a map from strings to numbers; the closure that gathers the weights of a string -/
namespace Go.Proofs.YtjngkapfngempaaDoor
open Go.RowKit Go.Maps Go.WideMaps
open Lcl
theorem zero_i (w : World) : (zeroValue 3).run Tryd.prog w = .ok (.int .i64 0) w := by kernel_rfl
/-- block b is a map of the call's own that holds these numbers, each at its string; of two at one string the later one -/
def Prs (w : World) (b n : Nat) (l : List (ByteArray × Int)) : Prop :=
  ∃ D : DataW Unit, w.ownsMap Tryd.prog 9 (plainElem Tryd.prog 3) b n D ∧ IsMap D ∧ ∀ x, D.atKey (.string x) (.lit (.int .i64 0)) = .lit (.int .i64 ((lstE l x).getD 0)) ∧ Go.Maps.has D (.string x) = (lstE l x).isSome
theorem Prs.made (w : World) : Prs (w.alloc (.map #[] 0)) w.heap.size 0 [] :=
  ⟨.map [], World.ownsMap_made _ _ _ _, isMap_empty, fun _ => ⟨rfl, rfl⟩⟩
theorem Prs.alloc {w : World} {b n : Nat} {l : List (ByteArray × Int)} (h : Prs w b n l) (o : Obj) : Prs (w.alloc o) b n l := by
  obtain ⟨D, h1, h2, h3⟩ := h
  exact ⟨D, h1.alloc o, h2, h3⟩
theorem Prs.lt {w : World} {b n : Nat} {l : List (ByteArray × Int)} (h : Prs w b n l) : b < w.heap.size := by
  obtain ⟨D, h1, h2, h3⟩ := h
  exact h1.lt
theorem Prs.kept {w w' : World} {b n : Nat} {l : List (ByteArray × Int)} (h : Prs w b n l) (hb : w'.heap[b]? = w.heap[b]?) : Prs w' b n l := by
  obtain ⟨D, ⟨es, clock, hb0, r⟩, h2, h3⟩ := h
  exact ⟨D, ⟨es, clock, hb.trans hb0, r⟩, h2, h3⟩
set_option maxRecDepth 100000 in
theorem Prs.lookup {w : World} {b n : Nat} {l : List (ByteArray × Int)} (h : Prs w b n l) (s : ByteArray) (hs : s.size ≤ maxLen) :
    (Instr.lookup 78 (.map (some b)) (.string s) true).run Tryd.prog w = .ok (.tuple #[.int .i64 ((lstE l s.data.toList).getD 0), .bool (lstE l s.data.toList).isSome]) w := by
  obtain ⟨D, h1, h2, h3⟩ := h
  obtain ⟨v, ps, hrun, hv⟩ := h1.look_ok law9 Tryd.underlying78 (zero_i w) (plainElem_int Tryd.underlying3 (by decide)) (keyOf_string_mk Tryd.underlying9 hs)
  obtain ⟨e1, e2⟩ := h3 s.data.toList
  rw [e1] at hv
  rw [e2] at hrun
  rw [hrun]
  obtain ⟨c, rfl, hc, hwc⟩ := plainElem_int_inv Tryd.underlying3 hv
  simp only [Prod.mk.injEq, DataW.lit.injEq, Lit.int.injEq, true_and] at hc
  rw [hc.1]
set_option maxRecDepth 100000 in
theorem Prs.update {w : World} {b n : Nat} {l : List (ByteArray × Int)} (h : Prs w b n l) (s : ByteArray) (c : Int) (hs : s.size ≤ maxLen) (hc : 0 ≤ c ∧ c ≤ 65535) (hn : n < maxLen) :
    ∃ w', (Instr.mapUpdate 78 (.map (some b)) (.string s) (.int .i64 c)).run Tryd.prog w = .ok () w' ∧ Prs w' b (n + 1) (l ++ [(s, c)]) ∧ w.grownBy w' (some b) := by
  obtain ⟨D, h1, h2, h3⟩ := h
  have hw : (Lit.int .i64 c).wf = true := by
    simp [Lit.wf, IntKind.min, IntKind.max, IntKind.bits, IntKind.signed]; omega
  obtain ⟨w', hrun, hown, hg⟩ := h1.update law9 Tryd.underlying78 hn (keyOf_string_mk Tryd.underlying9 hs) (plainElem_int Tryd.underlying3 hw)
  refine ⟨w', hrun, ⟨_, hown, h2.put _ _, fun x => ?_⟩, hg⟩
  rw [lstE_snoc]
  by_cases e : s.data.toList = x
  · subst e
    rw [atKey_put_same h2 (law9.key (keyOf_string_mk Tryd.underlying9 hs)), has_put_same h2 (law9.key (keyOf_string_mk Tryd.underlying9 hs)), if_pos rfl]
    exact ⟨rfl, rfl⟩
  · rw [atKey_put_other (by simpa using fun h => e h.symm), has_put_other (by simpa using fun h => e h.symm), if_neg e]
    exact h3 x
theorem wp_lookup_prs (w : World) {ops : Array Oper} {rest : List Oper} {o : Oper} {a : Act} {Q : Exit → Act → World → Prop} (hg : o.guard = none) (m x : Operand) (hop : o.op = Op.lookup 78 m x true)
    (b n : Nat) (l : List (ByteArray × Int)) (hm : a.eval m = .map (some b)) (h : Prs w b n l) (s : ByteArray) (hs : s.size ≤ maxLen) (hx : a.eval x = .string s) (c : Int) (ok : Bool) (hr : Hid ((lstE l s.data.toList).getD 0 = c ∧ (lstE l s.data.toList).isSome = ok))
    (hK : wpList Tryd.prog ops Q rest (a.put o.dst (.tuple #[.int .i64 c, .bool ok])) w) : wpList Tryd.prog ops Q (o :: rest) a w := by
  refine wpList_plain hg fun K' hK' => ?_
  have hrun := h.lookup s hs
  rw [hr.out.1, hr.out.2] at hrun
  unfold Oper.wp
  simp [execOp, hop, hm, hx, hrun, Result.andThen]
  exact hK' _ _ hK
theorem wp_update_prs (w : World) {ops : Array Oper} {rest : List Oper} {o : Oper} {a : Act} {Q : Exit → Act → World → Prop} (hg : o.guard = none) (m x v : Operand) (hop : o.op = Op.mapUpdate 78 m x v)
    (b n : Nat) (l : List (ByteArray × Int)) (hm : a.eval m = .map (some b)) (h : Prs w b n l) (s : ByteArray) (c : Int) (hs : s.size ≤ maxLen) (hx : a.eval x = .string s) (hv : a.eval v = .int .i64 c) (hc : 0 ≤ c ∧ c ≤ 65535) (hn : n < maxLen)
    (hK : ∀ w', Hid (Prs w' b (n + 1) (l ++ [(s, c)])) → Hid (w.grownBy w' (some b)) → wpList Tryd.prog ops Q rest (a.put o.dst undef) w') : wpList Tryd.prog ops Q (o :: rest) a w := by
  refine wpList_plain hg fun K' hK' => ?_
  obtain ⟨w', hrun, h1, h2⟩ := h.update s c hs hc hn
  unfold Oper.wp
  simp [execOp, hop, hm, hx, hv, hrun, Result.andThen]
  exact hK' _ _ (hK w' (Lib.hid h1) (Lib.hid h2))
/-- a variable of the call's own at block B holds a list of numbers of the call's own -/
structure OutC (w0 w : World) (B : Nat) (v : Value) (L : List Int) : Prop where
  blk : w.heap[B]? = some (.cells #[v] 37 (0, 0))
  row : IRow w (B + 1) v L
  bel : Below B w0 w
/-- what an append to this variable leaves as it was -/
structure Turn (w w' : World) (B : Nat) (v v' : Value) : Prop where
  size : w.heap.size ≤ w'.heap.size
  same : ∀ j, j < w.heap.size → j ≠ B → v.ownBlock ≠ some j → w'.heap[j]? = w.heap[j]?
  own : v'.ownBlock = v.ownBlock ∨ ∃ j, w.heap.size ≤ j ∧ v'.ownBlock = some j
theorem one_cell {w : World} {b : Nat} {x : Value} {T : TypeId} (h : w.heap[b]? = some (.cells #[x] T (0, 0))) : w.cell? ⟨b, 0, none⟩ = some x ∧ w.frozen? ⟨b, 0, none⟩ = false := by
  constructor
  · simp [World.cell?, h]
  · simp [World.frozen?, h]
theorem one_set {w : World} {b : Nat} {x y : Value} {T : TypeId} (h : w.heap[b]? = some (.cells #[x] T (0, 0))) : (w.setCell ⟨b, 0, none⟩ y).heap[b]? = some (.cells #[y] T (0, 0)) := by
  simp only [World.setCell, Array.getElem?_modify, h, if_pos, Option.map_some]
  rfl
theorem OutC.lt {w0 w : World} {B : Nat} {v : Value} {L : List Int} (h : OutC w0 w B v L) : B < w.heap.size := (Array.getElem?_eq_some_iff.1 h.blk).1
theorem OutC.put {w0 w w1 : World} {B : Nat} {v : Value} {L L' : List Int} {v1 : Value} (h : OutC w0 w B v L) (hr : IRow w1 (B + 1) v1 L') (hg : w.grownBy w1 v.ownBlock) (ho : v1.ownBlock = v.ownBlock ∨ v1.ownBlock = some (w.heap.size + 1)) :
    OutC w0 (w1.setCell ⟨B, 0, none⟩ v1) B v1 L' ∧ Turn w (w1.setCell ⟨B, 0, none⟩ v1) B v v1 := by
  have hlt := h.lt
  have hv : ∀ j, v.ownBlock = some j → B + 1 ≤ j := fun j hj => (h.row.lt j hj).1
  have b1 : w1.heap[B]? = some (.cells #[v] 37 (0, 0)) := by
    rw [hg.block B hlt (fun e => by have := hv B e.symm; omega)]; exact h.blk
  refine ⟨⟨one_set b1, row_set hr (by omega), below_set (h.bel.grown hg (by omega) (fun j hj => by have := hv j hj; omega)) (Nat.le_refl _)⟩, ?_, ?_, ?_⟩
  · rw [World.size_setCell]; exact hg.size
  · intro j hj hne hnv
    rw [Below.heap_setCell w1 ⟨B, 0, none⟩ v1 j hne]
    exact hg.block j hj (fun e => hnv e.symm)
  · rcases ho with e | e
    · exact .inl e
    · exact .inr ⟨_, by omega, e⟩
set_option maxHeartbeats 4000000 in
theorem gather_any (w0 w : World) (B : Nat) (v : Value) (L : List Int) (x : ByteArray) (c : Int) (h : OutC w0 w B v L) (hl : L.length + 1 ≤ 1048577) :
    Calls Tryd.prog 48 #[.string x, .int .i64 c, .pointer (some ⟨B, 0, none⟩)] w fun e w' => ∃ v', e = .returned (.bool true) ∧ Hid (OutC w0 w' B v' (L ++ [c])) ∧ Hid (Turn w w' B v v') := by
  obtain ⟨c1, c2⟩ := one_cell h.blk
  have HO := Lib.hid h
  have HL := Lib.hid hl
  have hlt := h.lt
  have HB : Hid (B + 1 ≤ w.heap.size) := Lib.hid hlt
  clear h hl
  go_enter Tryd.func48, Tryd.ntmps48
  go_wp2_with (at_builtin; refine append_int rfl _ _ rfl v L c (B + 1) w _ HO.out.row (Below.refl _ _) HB.out HL.out rfl rfl ?_; intro g cap w1 own1 bel1 gr1 at1; obtain ⟨c3, c4⟩ := one_cell ((gr1.out.block B hlt (fun e => by have := (HO.out.row.lt B e.symm).1; omega)).trans HO.out.blk))
  go_ret
  exact ⟨_, rfl, Lib.hid (HO.out.put own1.out gr1.out at1.out).1, Lib.hid (HO.out.put own1.out gr1.out at1.out).2⟩
end Go.Proofs.YtjngkapfngempaaDoor
/- walks: each of the program's locale, with the closure that gathers the weights of a string -/
namespace Go.Proofs.YtjngkapfngempaaDoor
open Go.RowKit Go.Maps Go.WideMaps
open Lcl
theorem irow_below {w w' : World} {B : Nat} {v : Value} {L : List Int} (h : IRow w B v L) (hb : Below w.heap.size w w') : IRow w' B v L := by
  obtain ⟨h1, h2⟩ := h
  refine ⟨h1, ?_⟩
  rcases h2 with h2 | ⟨g, cap, cur, rfl, hB, hg, r⟩
  · exact .inl h2
  · exact .inr ⟨g, cap, cur, rfl, hB, by rw [hb.block g (Array.getElem?_eq_some_iff.1 hg).1]; exact hg, r⟩
theorem OutC.later {w0 w w' : World} {B : Nat} {v : Value} {L : List Int} (h : OutC w0 w B v L) (hb : Below w.heap.size w w') : OutC w0 w' B v L :=
  ⟨by rw [hb.block B h.lt]; exact h.blk, irow_below h.row hb, h.bel.trans (hb.mono (Nat.le_of_lt h.lt))⟩
/-- after k elements -/
structure E1 (w wr : World) (n lo up : ByteArray) (v1 v4 v5 : Value) (E : List El) (k : Nat) : Prop where
  loc : wr.heap[w.heap.size]? = some (.cells #[.string n, v1, .string lo, .string up, v4, v5] 41 (0, 0))
  map : Prs wr (w.heap.size + 1) k ((E.take k).map El.pr)
  bel : Below w.heap.size w wr
theorem E1.start (w : World) (n lo up : ByteArray) (v1 v4 v5 : Value) (E : List El) : E1 w ((w.alloc (.cells #[.string n, v1, .string lo, .string up, v4, v5] 41)).alloc (.map #[] 0)) n lo up v1 v4 v5 E 0 := by
  have s1 : (w.alloc (.cells #[.string n, v1, .string lo, .string up, v4, v5] 41)).heap.size = w.heap.size + 1 := World.size_alloc _ _
  refine ⟨?_, ?_, ?_⟩
  · rw [Below.heap_alloc _ _ _ (by omega)]; exact heap_alloc_new _ _
  · have := Prs.made (w.alloc (.cells #[.string n, v1, .string lo, .string up, v4, v5] 41))
    rw [s1] at this; exact this
  · exact ((Below.refl _ _).alloc (Nat.le_refl _) _).alloc (by omega) _
theorem E1.next {w wr w1 : World} {n lo up : ByteArray} {v1 v4 v5 : Value} {E : List El} {k : Nat} {x : El} {o : Obj} (h : E1 w wr n lo up v1 v4 v5 E k) (hx : E[k]? = some x)
    (hs : Prs w1 (w.heap.size + 1) (k + 1) ((E.take k).map El.pr ++ [(x.n, x.w)])) (hg : (wr.alloc o).grownBy w1 (some (w.heap.size + 1))) : E1 w w1 n lo up v1 v4 v5 E (k + 1) := by
  have hlt := (Array.getElem?_eq_some_iff.1 h.loc).1
  refine ⟨?_, ?_, ?_⟩
  · rw [hg.block _ (by simp; omega) (by simp), Below.heap_alloc _ _ _ (by omega)]; exact h.loc
  · have ht : E.take (k + 1) = E.take k ++ [x] := by rw [List.take_add_one, hx]; rfl
    rw [ht, List.map_append]; exact hs
  · exact (h.bel.alloc h.bel.size o).grown hg (by have := h.bel.size; simp; omega) (fun j hj => by cases hj; omega)
/-- after k bytes: the weights so far are L -/
structure E2 (w0 w wr : World) (n lo up : ByteArray) (v1 v4 v5 : Value) (W : List Int) (E : List El) (s : ByteArray) (k : Nat) (v : Value) (L : List Int) : Prop where
  out : OutC w0 wr w0.heap.size v L
  loc : wr.heap[w.heap.size]? = some (.cells #[.string n, v1, .string lo, .string up, v4, v5] 41 (0, 0))
  map : Prs wr (w.heap.size + 1) E.length (E.map El.pr)
  far : v.ownBlock ≠ some w.heap.size ∧ v.ownBlock ≠ some (w.heap.size + 1) ∧ w0.heap.size < w.heap.size
  sum : L ++ wts W (fstE (E.map El.pr)) (s.data.toList.drop k) = wts W (fstE (E.map El.pr)) s.data.toList
  len : L.length ≤ k
theorem E2.start {w0 w wr : World} {n lo up : ByteArray} {v1 v4 v5 : Value} {W : List Int} {E : List El} {s : ByteArray} (h : E1 w wr n lo up v1 v4 v5 E E.length) (ho : OutC w0 w w0.heap.size (.slice none 0 0) []) :
    E2 w0 w wr n lo up v1 v4 v5 W E s 0 (.slice none 0 0) [] :=
  ⟨ho.later h.bel, h.loc, by have := h.map; rw [List.take_length] at this; exact this, ⟨by simp [Value.ownBlock], by simp [Value.ownBlock], ho.lt⟩, rfl, Nat.le_refl _⟩
theorem E2.next {w0 w wr w1 w2 : World} {n lo up : ByteArray} {v1 v4 v5 : Value} {W : List Int} {E : List El} {s : ByteArray} {k m : Nat} {v v' : Value} {L : List Int} {c : Int} (h : E2 w0 w wr n lo up v1 v4 v5 W E s k v L)
    (e : w1.heap = wr.heap) (ho : OutC w0 w2 w0.heap.size v' (L ++ [c])) (ht : Turn w1 w2 w0.heap.size v v') (hm : k < m)
    (hs : wts W (fstE (E.map El.pr)) (s.data.toList.drop k) = c :: wts W (fstE (E.map El.pr)) (s.data.toList.drop m)) : E2 w0 w w2 n lo up v1 v4 v5 W E s m v' (L ++ [c]) := by
  have hl := (Array.getElem?_eq_some_iff.1 h.loc).1
  have hp := h.map.lt
  have hz := ht.size
  obtain ⟨f1, f2, f3⟩ := h.far
  have sz : w1.heap.size = wr.heap.size := by rw [e]
  refine ⟨ho, ?_, ?_, ⟨?_, ?_, f3⟩, ?_, ?_⟩
  · rw [ht.same _ (by omega) (by omega) f1, e]; exact h.loc
  · exact h.map.kept (by rw [ht.same _ (by omega) (by omega) f2, e])
  · rcases ht.own with e1 | ⟨j, hj, e1⟩
    · rw [e1]; exact f1
    · rw [e1]; intro e2; cases e2; omega
  · rcases ht.own with e1 | ⟨j, hj, e1⟩
    · rw [e1]; exact f2
    · rw [e1]; intro e2; cases e2; omega
  · rw [← h.sum, hs, List.append_assoc]; rfl
  · have := h.len
    rw [List.length_append, List.length_singleton]; omega
end Go.Proofs.YtjngkapfngempaaDoor
/- walks: each of the program's locale, with the closure that gathers the weights of a string -/
namespace Go.Proofs.YtjngkapfngempaaDoor
open Go.RowKit Go.Maps Go.WideMaps
open Lcl
theorem ext_one (s : ByteArray) (k : Nat) (h : k < s.size) : (s.extract k (k + 1)).size = 1 := by
  rw [ByteArray.size_extract]; omega
theorem ext_two (s : ByteArray) (k : Nat) (h : k + 2 ≤ s.size) : (s.extract k (k + 2)).size = 2 ∧ (s.extract k (k + 2)).data.toList = [s[k], s[k + 1]] := by
  refine ⟨by rw [ByteArray.size_extract]; omega, ?_⟩
  have e : (s.extract k (k + 2)).data.toList = (s.data.toList.drop k).take 2 := by
    rw [Lib.extract_data]
    simp
  have h1 : k < s.data.toList.length := by show k < s.size; omega
  have h2 : k + 1 < s.data.toList.length := by show k + 1 < s.size; omega
  rw [e, List.drop_eq_getElem_cons h1, List.drop_eq_getElem_cons h2]
  rfl
theorem els_wt : ∀ (l : List (ByteArray × Int)) (seen : List (List UInt8)), elsB seen l = true → ∀ p ∈ l, 0 ≤ p.2 ∧ p.2 ≤ 65535
  | [], _, _, _, hp => by cases hp
  | x :: r, seen, h, p, hp => by
    obtain ⟨_, h2, h3, _, h5⟩ := elsB_cons h
    rcases List.mem_cons.1 hp with rfl | hp
    · exact ⟨h2, h3⟩
    · exact els_wt r _ h5 p hp
theorem elsOk_B {E : List El} (h : elsOk E = true) : elsB [] (E.map El.pr) = true ∧ E.length ≤ 64 := by
  unfold elsOk at h
  simp only [Bool.and_eq_true, decide_eq_true_eq] at h
  exact ⟨h.2, h.1⟩
/-- what a look-up of two bytes gives -/
theorem look_is {E : List El} (h : elsB [] (E.map El.pr) = true) (u : ByteArray) (c d : UInt8) (hu : u.data.toList = [c, d]) : 
    (fstE (E.map El.pr) [c, d] = none → Hid ((lstE (E.map El.pr) u.data.toList).getD 0 = 0 ∧ (lstE (E.map El.pr) u.data.toList).isSome = false)) ∧
    ∀ m, fstE (E.map El.pr) [c, d] = some m → Hid ((lstE (E.map El.pr) u.data.toList).getD 0 = m ∧ (lstE (E.map El.pr) u.data.toList).isSome = true) := by
  rw [hu, lst_fst _ _ [] h]
  exact ⟨fun e => Lib.hid (by rw [e]; exact ⟨rfl, rfl⟩), fun m e => Lib.hid (by rw [e]; exact ⟨rfl, rfl⟩)⟩
set_option maxRecDepth 100000 in
set_option maxHeartbeats 8000000 in
theorem each_any (n lo up : ByteArray) (v1 v4 v5 : Value) (W : List Int) (C : List Cl) (E : List El) (s : ByteArray) (w0 w : World) (hL : LocAt w0 v1 v4 v5 W C E) (hW : W.length = 256) (hE : elsOk E = true) (hs : s.size ≤ 1048576) (ho : OutC w0 w w0.heap.size (.slice none 0 0) []) :
    Calls Tryd.prog 47 #[lval n v1 lo up v4 v5, .string s, .func (.func 48) #[] #[.pointer (some ⟨w0.heap.size, 0, none⟩)]] w fun e w' => ∃ v', e = .returned (.tuple #[]) ∧ Hid (OutC w0 w' w0.heap.size v' (wts W (fstE (E.map El.pr)) s.data.toList)) := by
  have hmm := @run_makeMap Tryd.prog
  have HEB := Lib.hid (elsOk_B hE).1
  have E64 := Lib.hid (elsOk_B hE).2
  have HO := Lib.hid ho
  have ZN : Hid (∀ x ∈ E, x.n.size ≤ 9223372036854775807) := Lib.hid hL.z5
  obtain ⟨gW, oW, cW, rfl, -, -, hgW, hcW⟩ := hL.r1.cons (by intro e; have := congrArg List.length e; simp [hW] at this)
  rw [List.length_map, hW]
  have HC := Lib.hid hcW
  have HW := Lib.hid hW
  obtain ⟨a, capE, rfl, hE1, hE2, hE3⟩ := hL.r5
  rw [List.length_map] at hE1 ⊢
  have H3 := Lib.hid hE3
  have H2 := Lib.hid hE2
  have GW : Hid (gW < w0.heap.size) := Lib.hid hgW
  clear hL hE ho hcW hW hE1 hE2 hE3 hgW
  go_enter Tryd.func47, Tryd.ntmps47
  go_wp2_with fail
  go_loopw [18] (fun i wr => ∃ k : Nat, k ≤ E.length ∧ i = .int .i64 k ∧ Hid (E1 w wr n lo up (.slice (some ⟨gW, oW, none⟩) 256 cW) v4 (.slice a E.length capE) E k)) (fun i _ => E.length - (intOf i).toNat)
  case atStart => exact ⟨0, Nat.zero_le _, rfl, Lib.hid (E1.start w n lo up _ v4 _ E)⟩
  case round =>
    obtain ⟨k, hk, rfl, RK⟩ := hrel
    have k64 : E.length ≤ 64 := E64.out
    by_cases hlt : k < E.length
    · obtain ⟨g, o, rfl, hg, hcell⟩ : ∃ g o, a = some ⟨g, o, none⟩ ∧ g < w0.heap.size ∧ ∀ (j : Nat) x, (E.map El.row)[j]? = some x → ∀ (i : Nat) y, x[i]? = some y → w0.cell? ⟨g, o + j * 2 + i, none⟩ = some y := by
        rcases H3.out with h | h
        · have := congrArg List.length h; rw [List.length_map, List.length_nil] at this; omega
        · exact h
      obtain ⟨x, hx⟩ : ∃ x, E[k]? = some x := ⟨E[k], List.getElem?_eq_getElem hlt⟩
      have hB := HO.out.bel.trans (RK.out.bel.mono HO.out.bel.size)
      have c0 := (hB.cell (p := ⟨g, o + k * 2, none⟩) hg).trans (hcell k _ (by rw [List.getElem?_map, hx]; rfl) 0 _ rfl)
      have c1 := (hB.cell (p := ⟨g, o + k * 2 + 1, none⟩) hg).trans (hcell k _ (by rw [List.getElem?_map, hx]; rfl) 1 _ rfl)
      have HX := Lib.hid hx
      have HM : Hid (x.n.size ≤ 9223372036854775807) := Lib.hid (ZN.out x (List.mem_of_getElem? hx))
      have HT : Hid (0 ≤ x.w ∧ x.w ≤ 65535) := Lib.hid (els_wt _ _ HEB.out x.pr (List.mem_map_of_mem (List.mem_of_getElem? hx)))
      have SK := Lib.hid (RK.out.map.alloc (.cells #[.string x.n, .int .i64 x.w] 80))
      have HCE := Lib.hid hcell
      clear hB hx hcell hg
      go_wp2_with (first
        | (at_mapUpdate; refine wp_update_prs _ rfl _ _ _ rfl (w.heap.size + 1) k _ rfl SK.out x.n x.w HM.out rfl rfl HT.out (by have := E64.out; unfold maxLen; omega) ?_; intro w1 S1 G1))
      have RN := Lib.hid (RK.out.next HX.out S1.out G1.out)
      clear S1 G1 SK RK
      go_roundw
      case rel => exact ⟨k + 1, by omega, by go_num, RN⟩
      case measure => simp [intOf]; omega
    · have ek : k = E.length := by omega
      subst ek
      have R2 := Lib.hid (E2.start (W := W) (s := s) RK.out HO.out)
      clear RK H3
      go_wp2_with fail
      go_loopw [9] (fun i wr => ∃ (k : Nat) (v : Value) (L : List Int), k ≤ s.size ∧ i = .int .i64 k ∧ Hid (E2 w0 w wr n lo up (.slice (some ⟨gW, oW, none⟩) 256 cW) v4 (.slice a E.length capE) W E s k v L)) (fun i _ => s.size - (intOf i).toNat)
      case atStart => exact ⟨0, _, _, Nat.zero_le _, rfl, R2⟩
      case round =>
        clear R2
        obtain ⟨k, v, L, hk, rfl, RK⟩ := hrel
        by_cases hlt : k < s.size
        · obtain ⟨-, l1, -, -, -, -⟩ := lrow_cells RK.out.loc
          have h257 := s[k].toNat_lt
          have hk1 : s.data.toList[k]? = some s[k] := by rw [List.getElem?_eq_getElem (show k < s.data.toList.length from hlt)]; rfl
          obtain ⟨m, hm⟩ : ∃ m, W[s[k].toNat]? = some m := ⟨_, List.getElem?_eq_getElem (by rw [HW.out]; omega)⟩
          have cw := (RK.out.out.bel.cell (p := ⟨gW, oW + s[k].toNat * 1 + 0, none⟩) GW.out).trans (HC.out s[k].toNat _ (by rw [List.getElem?_map, hm]; rfl) 0 _ rfl)
          rw [Nat.mul_one, Nat.add_zero] at cw
          have GM : Hid (W.getD s[k].toNat 0 = m) := Lib.hid (by rw [List.getD_eq_getElem?_getD, hm]; rfl)
          have z1 := ext_one s k hlt
          obtain ⟨u1, hu1⟩ : ∃ u, s.extract k (k + 1) = u := ⟨_, rfl⟩
          rw [hu1] at z1
          have HL : Hid (L.length + 1 ≤ 1048577) := Lib.hid (by have := RK.out.len; omega)
          have HK1 := Lib.hid hk1
          clear hm hk1
          by_cases h2 : k + 2 ≤ s.size
          · have z2 := ext_two s k h2
            obtain ⟨z2, d2⟩ := z2
            obtain ⟨LN, LS⟩ := look_is HEB.out (s.extract k (k + 2)) s[k] s[k + 1] d2
            have U2 : Hid ((s.extract k (k + 2)).size ≤ maxLen) := Lib.hid (by unfold maxLen; omega)
            obtain ⟨u2, hu2⟩ : ∃ u, s.extract k (k + 2) = u := ⟨_, rfl⟩
            rw [hu2] at z2
            have HK2 : Hid (s.data.toList[k + 1]? = some s[k + 1]) := Lib.hid (by rw [List.getElem?_eq_getElem (show k + 1 < s.data.toList.length from h2)]; rfl)
            have HW2 := Lib.hid (wts_two W (fstE (E.map El.pr)) s.data.toList k s[k] s[k + 1] HK1.out HK2.out)
            clear d2
            cases hf : fstE (E.map El.pr) [s[k], s[k + 1]] with
            | none =>
              have LK := LN hf
              have WN : Hid (wts W (fstE (E.map El.pr)) (s.data.toList.drop k) = m :: wts W (fstE (E.map El.pr)) (s.data.toList.drop (k + 1))) := Lib.hid (by have h := HW2.out; rw [hf, GM.out] at h; exact h)
              clear LN LS hf HW2
              go_wp2_with fail
              go_quiet (fail)
              go_wp2_with (first
                | (at_lookup; refine wp_lookup_prs _ rfl _ _ rfl (w.heap.size + 1) E.length (E.map El.pr) rfl (RK.out.map.kept rfl) (s.extract k (k + 2)) U2.out rfl 0 false LK ?_)
                | (go_at_call 48; (with_reducible refine (gather_any w0 _ w0.heap.size v L u1 m (RK.out.out.later (qbelow_drewN (Below.refl _ _) _)) HL.out).mono ?_); rintro e w2 ⟨v', rfl, O2, T2⟩))
              have RN := Lib.hid (RK.out.next (w1 := wr.drewN _) rfl O2.out T2.out (Nat.lt_succ_self k) WN.out)
              clear O2 T2 RK
              go_roundw
              case rel => exact ⟨k + 1, v', _, by omega, by go_num, RN⟩
              case measure => simp [intOf]; omega
            | some m2 =>
              have LK := LS m2 hf
              have WN : Hid (wts W (fstE (E.map El.pr)) (s.data.toList.drop k) = m2 :: wts W (fstE (E.map El.pr)) (s.data.toList.drop (k + 2))) := Lib.hid (by have h := HW2.out; rw [hf] at h; exact h)
              clear LN LS hf HW2
              go_wp2_with fail
              go_quiet (fail)
              go_wp2_with (first
                | (at_lookup; refine wp_lookup_prs _ rfl _ _ rfl (w.heap.size + 1) E.length (E.map El.pr) rfl (RK.out.map.kept rfl) (s.extract k (k + 2)) U2.out rfl m2 true LK ?_)
                | (go_at_call 48; (with_reducible refine (gather_any w0 _ w0.heap.size v L u2 m2 (RK.out.out.later (qbelow_drewN (Below.refl _ _) _)) HL.out).mono ?_); rintro e w2 ⟨v', rfl, O2, T2⟩))
              have RN := Lib.hid (RK.out.next (w1 := wr.drewN _) rfl O2.out T2.out (show k < k + 2 by omega) WN.out)
              clear O2 T2 RK
              go_roundw
              case rel => exact ⟨k + 2, v', _, by omega, by go_num, RN⟩
              case measure => simp [intOf]; omega
          · have WN : Hid (wts W (fstE (E.map El.pr)) (s.data.toList.drop k) = m :: wts W (fstE (E.map El.pr)) (s.data.toList.drop (k + 1))) := Lib.hid (by
              have h := wts_one W (fstE (E.map El.pr)) s.data.toList k s[k] HK1.out (by show k + 1 = s.size; omega)
              rw [GM.out] at h; exact h)
            go_wp2_with fail
            go_quiet (fail)
            go_wp2_with (first
              | (go_at_call 48; (with_reducible refine (gather_any w0 _ w0.heap.size v L u1 m (RK.out.out.later (qbelow_drewN (Below.refl _ _) _)) HL.out).mono ?_); rintro e w2 ⟨v', rfl, O2, T2⟩))
            have RN := Lib.hid (RK.out.next (w1 := wr.drewN _) rfl O2.out T2.out (Nat.lt_succ_self k) WN.out)
            clear O2 T2 RK
            go_roundw
            case rel => exact ⟨k + 1, v', _, by omega, by go_num, RN⟩
            case measure => simp [intOf]; omega
        · have ek : k = s.size := by omega
          subst ek
          have WE : Hid (L = wts W (fstE (E.map El.pr)) s.data.toList) := Lib.hid (by
            have h := RK.out.sum
            rw [List.drop_of_length_le (show s.data.toList.length ≤ s.size from Nat.le_refl _)] at h
            rw [← h]; simp [wts])
          go_wp2_with fail
          go_end0
          exact ⟨v, rfl, Lib.hid (by rw [← WE.out]; exact RK.out.out)⟩
end Go.Proofs.YtjngkapfngempaaDoor
/- walks: Compare of the program's locale -/
namespace Go.Proofs.YtjngkapfngempaaDoor
open Go.RowKit Go.Maps Go.WideMaps
open Lcl
set_option maxRecDepth 100000 in
set_option maxHeartbeats 4000000 in
theorem weights_any (n lo up : ByteArray) (v1 v4 v5 : Value) (W : List Int) (C : List Cl) (E : List El) (s : ByteArray) (lp : Nat) (w : World) (hb : LBlk w lp (.string n) v1 (.string lo) (.string up) v4 v5) (hL : LocAt w v1 v4 v5 W C E) (hW : W.length = 256) (hE : elsOk E = true) (hs : s.size ≤ 1048576) :
    Calls Tryd.prog 46 #[.string s, .pointer (some ⟨lp, 0, none⟩)] w fun e w' => ∃ v, e = .returned v ∧ Hid (IRow w' (w.heap.size + 1) v (wts W (fstE (E.map El.pr)) s.data.toList)) ∧ Hid (Below w.heap.size w w') := by
  have s1 : (w.alloc (.cells #[.slice none 0 0] 37)).heap.size = w.heap.size + 1 := World.size_alloc _ _
  have HO : Hid (OutC w (w.alloc (.cells #[.slice none 0 0] 37)) w.heap.size (.slice none 0 0) []) := Lib.hid ⟨heap_alloc_new _ _, row_empty _ _, (Below.refl _ _).alloc (Nat.le_refl _) _⟩
  have CE := Lib.hid (each_any n lo up v1 v4 v5 W C E s w _ hL hW hE hs HO.out)
  obtain ⟨c0, c1, c2, c3, c4, c5⟩ := hb.below ((Below.refl w.heap.size w).alloc (Nat.le_refl _) (.cells #[.slice none 0 0] 37))
  clear hb hL hW hE hs s1
  go_enter Tryd.func46, Tryd.ntmps46
  go_wp2_with fail
  refine CE.out.mono ?_
  rintro e w1 ⟨v, rfl, O1⟩
  obtain ⟨d0, d1⟩ := one_cell O1.out.blk
  go_wp2_with fail
  go_ret
  exact ⟨v, rfl, Lib.hid O1.out.row, Lib.hid O1.out.bel⟩
/-- rows that hold a number each do not lie in a block without numbers -/
theorem rows_off {w w' : World} {q : Nat} {v : Value} {k : Nat} {l : List (List Value)} (h : RowsAt w v k l) (hoff : ∀ g, g ≠ q → w'.heap[g]? = w.heap[g]?) (hs : w.heap.size ≤ w'.heap.size)
    (hno : ∀ j K n, w.cell? ⟨q, j, none⟩ ≠ some (Value.int K n)) (hint : ∀ x ∈ l, ∃ (i : Nat) (K : IntKind) (n : Int), x[i]? = some (Value.int K n)) : RowsAt w' v k l := by
  obtain ⟨a, cap, rfl, h1, h2, h3⟩ := h
  refine ⟨a, cap, rfl, h1, h2, ?_⟩
  rcases h3 with h3 | ⟨g, o, rfl, hg, hc⟩
  · exact .inl h3
  · cases l with
    | nil => exact .inl rfl
    | cons x r =>
      have hne : g ≠ q := by
        intro e
        subst e
        obtain ⟨i, K, n, hi⟩ := hint x List.mem_cons_self
        exact hno _ K n (hc 0 x rfl i _ hi)
      exact .inr ⟨g, o, rfl, by omega, fun j x hj i y hi => (World.cell?_of_block (w := w) (hoff g hne)).trans (hc j x hj i y hi)⟩
theorem six_none {w : World} {q : Nat} {a b c : ByteArray} {e f g : Value} {T : TypeId} (h : w.heap[q]? = some (.cells #[.string a, e, .string b, .string c, f, g] T (0, 0))) (he : ∀ K n, e ≠ .int K n) (hf : ∀ K n, f ≠ .int K n) (hg : ∀ K n, g ≠ .int K n) :
    ∀ j K n, w.cell? ⟨q, j, none⟩ ≠ some (.int K n) := by
  intro j K n hh
  simp only [World.cell?, h] at hh
  match j, hh with
  | 0, hh => simp at hh
  | 1, hh => simp at hh; exact he K n hh
  | 2, hh => simp at hh
  | 3, hh => simp at hh
  | 4, hh => simp at hh; exact hf K n hh
  | 5, hh => simp at hh; exact hg K n hh
  | j + 6, hh => simp at hh
theorem loc_off {w w' : World} {q : Nat} {v1 v4 v5 : Value} {W : List Int} {C : List Cl} {E : List El} (h : LocAt w v1 v4 v5 W C E) (hoff : ∀ g, g ≠ q → w'.heap[g]? = w.heap[g]?) (hs : w.heap.size ≤ w'.heap.size)
    (hno : ∀ j K n, w.cell? ⟨q, j, none⟩ ≠ some (.int K n)) : LocAt w' v1 v4 v5 W C E := by
  refine ⟨rows_off h.r1 hoff hs hno fun x hx => ?_, rows_off h.r4 hoff hs hno fun x hx => ?_, rows_off h.r5 hoff hs hno fun x hx => ?_, h.z4, h.z5⟩
  · obtain ⟨n, _, rfl⟩ := List.mem_map.1 hx; exact ⟨0, _, _, rfl⟩
  · obtain ⟨n, _, rfl⟩ := List.mem_map.1 hx; exact ⟨1, _, _, rfl⟩
  · obtain ⟨n, _, rfl⟩ := List.mem_map.1 hx; exact ⟨1, _, _, rfl⟩
/-- the weights, the elements of the locale that counts -/
theorem ok_facts (n : ByteArray) (W : List Int) (lo up : ByteArray) (C : List Cl) (E : List El) : (eL (okL n W lo up C E) W (wtab 256)).length = 256 ∧ elsOk (eL (okL n W lo up C E) E []) = true := by
  cases h : okL n W lo up C E with
  | false => exact ⟨wtab_len 256, rfl⟩
  | true =>
    refine ⟨ok_len h, ?_⟩
    unfold okL at h
    simp only [Bool.and_eq_true] at h
    exact h.2.2.2.2
/-- the comparison of two strings in a locale -/
def locC (n : ByteArray) (W : List Int) (lo up : ByteArray) (C : List Cl) (E : List El) (a b : ByteArray) : Int :=
  cmpS (eL (okL n W lo up C E) W (wtab 256)) (fstE ((eL (okL n W lo up C E) E []).map El.pr)) a.data.toList b.data.toList
theorem ordI_drop : ∀ (k : Nat) (X Y : List Int), X.take k = Y.take k → k ≤ X.length → k ≤ Y.length → ordI X Y = ordI (X.drop k) (Y.drop k)
  | 0, _, _, _, _, _ => rfl
  | k + 1, [], _, _, h, _ => by simp at h
  | k + 1, _ :: _, [], _, _, h => by simp at h
  | k + 1, x :: X, y :: Y, h, h1, h2 => by
    rw [List.take_succ_cons, List.take_succ_cons] at h
    obtain ⟨rfl, h'⟩ := List.cons.inj h
    rw [List.drop_succ_cons, List.drop_succ_cons, ← ordI_drop k X Y h' (by simpa using h1) (by simpa using h2)]
    show (if x < x then (-1 : Int) else if x < x then 1 else ordI X Y) = _
    rw [if_neg (by omega), if_neg (by omega)]
theorem ordI_at {X Y : List Int} {k : Nat} {x y : Int} (h : X.take k = Y.take k) (hx : X[k]? = some x) (hy : Y[k]? = some y) : (x < y → ordI X Y = -1) ∧ (y < x → ordI X Y = 1) ∧ (x = y → X.take (k + 1) = Y.take (k + 1)) := by
  obtain ⟨h1, e1⟩ := List.getElem?_eq_some_iff.1 hx
  obtain ⟨h2, e2⟩ := List.getElem?_eq_some_iff.1 hy
  have e := ordI_drop k X Y h (by omega) (by omega)
  rw [List.drop_eq_getElem_cons h1, List.drop_eq_getElem_cons h2, e1, e2] at e
  refine ⟨fun hl => ?_, fun hl => ?_, fun hl => ?_⟩
  · rw [e]; unfold ordI; rw [if_pos hl]
  · rw [e]; unfold ordI; rw [if_neg (by omega), if_pos hl]
  · rw [List.take_add_one, List.take_add_one, hx, hy, h, hl]
theorem ordI_end {X Y : List Int} {k : Nat} (h : X.take k = Y.take k) (hk : k ≤ X.length) (hk2 : k ≤ Y.length) (he : X.length ≤ k ∨ Y.length ≤ k) : (X.length < Y.length → ordI X Y = -1) ∧ (Y.length < X.length → ordI X Y = 1) ∧ (X.length = Y.length → ordI X Y = 0) := by
  have e := ordI_drop k X Y h hk hk2
  refine ⟨fun hl => ?_, fun hl => ?_, fun hl => ?_⟩
  · rw [e, List.drop_of_length_le (by omega : X.length ≤ k), List.drop_eq_getElem_cons (by omega : k < Y.length)]; rfl
  · rw [e, List.drop_of_length_le (by omega : Y.length ≤ k), List.drop_eq_getElem_cons (by omega : k < X.length)]; rfl
  · rw [e, List.drop_of_length_le (by omega : X.length ≤ k), List.drop_of_length_le (by omega : Y.length ≤ k)]; rfl
end Go.Proofs.YtjngkapfngempaaDoor
/- walks: Compare of the program's locale, the comparison itself -/
namespace Go.Proofs.YtjngkapfngempaaDoor
open Go.RowKit Go.Maps Go.WideMaps
open Lcl
def CmpR (c : Int) (w : World) (e : Ending) (w' : World) : Prop := e = .returned (.int .i64 c) ∧ Below w.heap.size w w'
theorem cmpr_mk {c d : Int} {w w' : World} (h : d = c) (hb : Below w.heap.size w w') : CmpR c w (.returned (.int .i64 d)) w' := ⟨by rw [h], hb⟩
/-- a row of numbers: where its cells are -/
theorem irow_cells {w : World} {B : Nat} {v : Value} {L : List Int} (h : IRow w B v L) : ∃ a cap, v = .slice a L.length cap ∧ ∀ (k : Nat) x, L[k]? = some x → ∃ g, a = some ⟨g, 0, none⟩ ∧ g < w.heap.size ∧ w.cell? ⟨g, k, none⟩ = some (.int .i64 x) := by
  rcases h.2 with ⟨rfl, hn⟩ | ⟨g, cap, cur, rfl, hB, hg, r⟩
  · exact ⟨none, 0, by rw [hn], fun k x hx => by have := (List.getElem?_eq_some_iff.1 hx).1; omega⟩
  · refine ⟨some ⟨g, 0, none⟩, cap, rfl, fun k x hx => ⟨g, rfl, (Array.getElem?_eq_some_iff.1 hg).1, ?_⟩⟩
    have hlt := (List.getElem?_eq_some_iff.1 hx).1
    rw [h.cellAt k (by omega)]
    simp [ints, hx]
theorem not_int {w : World} {v : Value} {k : Nat} {l : List (List Value)} (h : RowsAt w v k l) : ∀ (K : IntKind) (n : Int), v ≠ Value.int K n := by
  obtain ⟨a, cap, rfl, _⟩ := h
  intro K n e; cases e
set_option maxRecDepth 100000 in
set_option maxHeartbeats 8000000 in
theorem compare_any (n : ByteArray) (v1 : Value) (lo up : ByteArray) (v4 v5 : Value) (W : List Int) (C : List Cl) (E : List El) (a b : ByteArray) (w : World) (hL : LocAt w v1 v4 v5 W C E) (hn : n.size ≤ 9223372036854775807) (ha : a.size ≤ 1048576) (hb : b.size ≤ 1048576) :
    Calls Tryd.prog 25 #[lval n v1 lo up v4 v5, .string a, .string b] w (CmpR (locC n W lo up C E a b) w) := by
  have LO := Lib.hid (hL.below ((Below.refl w.heap.size w).alloc (Nat.le_refl _) (.cells #[.string n, v1, .string lo, .string up, v4, v5] 41))); clear hL
  have ZN := Lib.hid hn; clear hn
  have SA := Lib.hid ha; clear ha
  have SB := Lib.hid hb; clear hb
  obtain ⟨kw, ke⟩ := ok_facts n W lo up C E
  have VA := Lib.hid (qvalid_any n v1 lo up v4 v5 W C E _ LO.out ZN.out)
  unfold locC
  obtain ⟨ok, hok⟩ : ∃ b, okL n W lo up C E = b := ⟨_, rfl⟩
  rw [hok] at VA kw ke ⊢
  clear hok
  obtain ⟨W', hW'⟩ : ∃ W', eL ok W (wtab 256) = W' := ⟨_, rfl⟩
  obtain ⟨E', hE'⟩ : ∃ E', eL ok E [] = E' := ⟨_, rfl⟩
  rw [hW'] at kw ⊢
  rw [hE'] at ke ⊢
  have HW' := Lib.hid hW'
  have HE' := Lib.hid hE'
  have KW := Lib.hid kw
  have KE := Lib.hid ke
  clear hW' hE' kw ke
  go_enter Tryd.func25, Tryd.ntmps25
  go_wp2_with fail
  refine VA.out.mono ?_
  intro e w1 h1
  obtain ⟨n', v1', v4', v5', rfl, LV, hb1⟩ := vout_is h1
  clear h1
  rw [HW'.out, HE'.out] at LV
  obtain ⟨a1', c1', ee1, -⟩ := LV.out.r1
  obtain ⟨a4', c4', ee4, -⟩ := LV.out.r4
  obtain ⟨a5', c5', ee5, -⟩ := LV.out.r5
  rw [List.length_map] at ee1 ee4 ee5
  subst ee1 ee4 ee5
  obtain ⟨lo', hlo⟩ : ∃ x, eS ok lo (ltab 256) = x := ⟨_, rfl⟩
  obtain ⟨up', hup⟩ : ∃ x, eS ok up (utab 256) = x := ⟨_, rfl⟩
  rw [hlo, hup]
  clear hlo hup
  have q1 : w1.heap[w.heap.size]? = some (.cells #[.string n, v1, .string lo, .string up, v4, v5] 41 (0, 0)) := by
    rw [hb1.out.block _ (by rw [World.size_alloc]; omega)]; exact heap_alloc_new _ _
  have z1 : w.heap.size + 1 ≤ w1.heap.size := by have := hb1.out.size; rw [World.size_alloc] at this; exact this
  have NI := six_none q1 (not_int LO.out.r1) (not_int LO.out.r4) (not_int LO.out.r5)
  obtain ⟨d0, d1, d2, d3, d4, d5⟩ := lrow_cells q1
  have e0 := lrow_frozen q1 0
  have e1 := lrow_frozen q1 1
  have e2 := lrow_frozen q1 2
  have e3 := lrow_frozen q1 3
  have e4 := lrow_frozen q1 4
  have e5 := lrow_frozen q1 5
  have blk8 := six_set (a := .string n') (b := (.slice a1' W'.length c1')) (c := .string lo') (d := .string up') (e := (.slice a4' (eL ok C []).length c4')) (f := (.slice a5' E'.length c5')) q1
  have LW := Lib.hid (loc_off LV.out (fun g hg => six_other (a := .string n') (b := (.slice a1' W'.length c1')) (c := .string lo') (d := .string up') (e := (.slice a4' (eL ok C []).length c4')) (f := (.slice a5' E'.length c5')) hg) (by simp only [World.size_setCell]; exact Nat.le_refl _) NI)
  have BZ := Lib.hid <| six_below (g := w.heap.size) (a := .string n') (b := (.slice a1' W'.length c1')) (c := .string lo') (d := .string up') (e := (.slice a4' (eL ok C []).length c4')) (f := (.slice a5' E'.length c5')) (qbelow_step hb1.out) (Nat.le_refl _)
  have BK := Lib.hid (LBlk.mk (lrow_cells blk8).1 (lrow_cells blk8).2.1 (lrow_cells blk8).2.2.1 (lrow_cells blk8).2.2.2.1 (lrow_cells blk8).2.2.2.2.1 (lrow_cells blk8).2.2.2.2.2)
  have Q1 := Lib.hid q1
  clear q1 NI blk8 LV hb1
  go_upto_region 2 with (fail)
  obtain ⟨w2, hw2⟩ : ∃ w2, ((((((w1.setCell ⟨w.heap.size, 0, none⟩ (.string n')).setCell ⟨w.heap.size, 1, none⟩ (.slice a1' W'.length c1')).setCell ⟨w.heap.size, 2, none⟩ (.string lo')).setCell ⟨w.heap.size, 3, none⟩ (.string up')).setCell ⟨w.heap.size, 4, none⟩ (.slice a4' (eL ok C []).length c4')).setCell ⟨w.heap.size, 5, none⟩ (.slice a5' E'.length c5')) = w2 := ⟨_, rfl⟩
  rw [hw2] at BK LW BZ ⊢
  clear hw2 d0 d1 d2 d3 d4 d5 e0 e1 e2 e3 e4 e5 z1 Q1
  go_wp2_with fail
  refine (weights_any n' lo' up' (.slice a1' W'.length c1') (.slice a4' (eL ok C []).length c4') (.slice a5' E'.length c5') W' _ E' a w.heap.size w2 BK.out LW.out KW.out KE.out SA.out).mono ?_
  rintro e w3 ⟨x, rfl, R1, hb3⟩
  go_wp2_with fail
  refine (weights_any n' lo' up' (.slice a1' W'.length c1') (.slice a4' (eL ok C []).length c4') (.slice a5' E'.length c5') W' _ E' b w.heap.size w3 (BK.out.below hb3.out) (LW.out.below hb3.out) KW.out KE.out SB.out).mono ?_
  rintro e w4 ⟨y, rfl, R2, hb4⟩
  obtain ⟨X, hX⟩ : ∃ X, wts W' (fstE (E'.map El.pr)) a.data.toList = X := ⟨_, rfl⟩
  obtain ⟨Y, hY⟩ : ∃ Y, wts W' (fstE (E'.map El.pr)) b.data.toList = Y := ⟨_, rfl⟩
  have mX := wts_len W' (fstE (E'.map El.pr)) _ a.data.toList (Nat.le_refl _)
  have mY := wts_len W' (fstE (E'.map El.pr)) _ b.data.toList (Nat.le_refl _)
  rw [hX] at R1 mX
  rw [hY] at R2 mY
  have CS : Hid (cmpS W' (fstE (E'.map El.pr)) a.data.toList b.data.toList = if ordI X Y = 0 then ordI (bys a.data.toList) (bys b.data.toList) else ordI X Y) := Lib.hid (by unfold cmpS; rw [hX, hY])
  have lX : X.length ≤ 1048576 := Nat.le_trans mX SA.out
  have lY : Y.length ≤ 1048576 := Nat.le_trans mY SB.out
  obtain ⟨ax, capx, rfl, hcx⟩ := irow_cells (irow_below R1.out hb4.out)
  obtain ⟨ay, capy, rfl, hcy⟩ := irow_cells R2.out
  have B4 := Lib.hid ((BZ.out.trans (hb3.out.mono BZ.out.size)).trans (hb4.out.mono (Nat.le_trans BZ.out.size hb3.out.size)))
  have HCX := Lib.hid hcx
  have HCY := Lib.hid hcy
  clear mX mY hX hY hcx hcy R1 R2 BK LW hb3 hb4 BZ VA LO HW' HE' KW KE
  go_wp2_with fail
  go_loopw [25] (fun i wr => ∃ k : Nat, k ≤ X.length ∧ k ≤ Y.length ∧ i = .int .i64 k ∧ Hid (X.take k = Y.take k) ∧ Hid (Below w4.heap.size w4 wr)) (fun i _ => X.length - (intOf i).toNat)
  case atStart => exact ⟨0, Nat.zero_le _, Nat.zero_le _, rfl, Lib.hid rfl, Lib.hid (Below.refl _ _)⟩
  case round =>
    obtain ⟨k, hk1, hk2, rfl, TK, BK⟩ := hrel
    by_cases hlt : k < X.length ∧ k < Y.length
    · obtain ⟨h1, h2⟩ := hlt
      have tm : decide ((k : Int) < min (X.length : Int) (Y.length : Int)) = true := by rw [decide_eq_true_eq]; omega
      obtain ⟨x, hx⟩ : ∃ x, X[k]? = some x := ⟨_, List.getElem?_eq_getElem h1⟩
      obtain ⟨y, hy⟩ : ∃ y, Y[k]? = some y := ⟨_, List.getElem?_eq_getElem h2⟩
      obtain ⟨g, rfl, hg, hc⟩ := HCX.out k x hx
      obtain ⟨g2, rfl, hg2, hc2⟩ := HCY.out k y hy
      have r1 := (BK.out.cell (p := ⟨g, k, none⟩) hg).trans hc
      have r2 := (BK.out.cell (p := ⟨g2, k, none⟩) hg2).trans hc2
      obtain ⟨o1, o2, o3⟩ := ordI_at TK.out hx hy
      clear hx hy hc hc2
      rcases (show x < y ∨ y < x ∨ x = y by omega) with hxy | hxy | hxy
      · have O := Lib.hid (o1 hxy)
        have t1 : decide (x < y) = true := decide_eq_true hxy
        clear o1 o2 o3 hxy
        go_wp2_with fail
        go_quiet (fail)
        go_wp2_with fail
        go_ret
        exact cmpr_mk (by rw [CS.out, O.out]; rfl) (B4.out.trans ((qbelow_drewN BK.out _).mono B4.out.size))
      · have O := Lib.hid (o2 hxy)
        have t1 : decide (x < y) = false := decide_eq_false (by omega)
        have t2 : decide (y < x) = true := decide_eq_true hxy
        clear o1 o2 o3 hxy
        go_wp2_with fail
        go_quiet (fail)
        go_wp2_with fail
        go_quiet (fail)
        go_wp2_with fail
        go_ret
        exact cmpr_mk (by rw [CS.out, O.out]; rfl) (B4.out.trans ((qbelow_drewN (qbelow_drewN BK.out _) _).mono B4.out.size))
      · have O := Lib.hid (o3 hxy)
        subst hxy
        have t1 : decide (x < x) = false := decide_eq_false (by omega)
        clear o1 o2 o3
        go_wp2_with fail
        go_quiet (fail)
        go_wp2_with fail
        go_quiet (fail)
        go_wp2_with fail
        go_roundw
        case rel => exact ⟨k + 1, h1, h2, by go_num, O, Lib.hid (qbelow_drewN BK.out _)⟩
        case measure => simp [intOf]; omega
    · have tm : decide ((k : Int) < min (X.length : Int) (Y.length : Int)) = false := by rw [decide_eq_false_iff_not]; omega
      obtain ⟨o1, o2, o3⟩ := ordI_end TK.out hk1 hk2 (by omega)
      have BN := Lib.hid (B4.out.trans (BK.out.mono B4.out.size))
      clear HCX HCY TK BK
      rcases (show X.length < Y.length ∨ Y.length < X.length ∨ X.length = Y.length by omega) with hxy | hxy | hxy
      · have O := Lib.hid (o1 hxy)
        clear o1 o2 o3
        go_wp2_with fail
        go_ret
        exact cmpr_mk (by rw [CS.out, O.out]; rfl) BN.out
      · have O := Lib.hid (o2 hxy)
        clear o1 o2 o3
        go_wp2_with fail
        go_ret
        exact cmpr_mk (by rw [CS.out, O.out]; rfl) BN.out
      · have O := Lib.hid (o3 hxy)
        have t1 : Y.length ≤ X.length := by omega
        have t2 : X.length ≤ Y.length := by omega
        have CB := Lib.hid (compareBytes_ord a.data.toList b.data.toList)
        clear o1 o2 o3 hlt hk1 hk2
        have HXY := Lib.hid hxy
        clear hxy
        go_wp2_with (go_at_call 49; refine (Tryd.strings_Compare a b _).mono ?_; rintro e w' ⟨rfl, rfl⟩)
        go_ret
        exact cmpr_mk (by rw [CS.out, O.out, if_pos rfl, CB.out]) BN.out
end Go.Proofs.YtjngkapfngempaaDoor
