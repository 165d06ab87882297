/- plain: the order of lists of numbers; the weights of the collating elements of a string; the comparison of strings in a locale -/
import Derived.Test.YtbhdhcnbagjmcaaDoorQplain
import Derived.Lib.Bytealg
namespace Go.Proofs.YtbhdhcnbagjmcaaDoor
namespace Lcl
/-- -1, 0 or 1 for two lists of numbers -/
def ordI : List Int → List Int → Int
  | [], [] => 0
  | [], _ :: _ => -1
  | _ :: _, [] => 1
  | x :: a, y :: b => if x < y then -1 else if y < x then 1 else ordI a b
theorem ordI_vals : ∀ a b : List Int, ordI a b = -1 ∨ ordI a b = 0 ∨ ordI a b = 1
  | [], [] => .inr (.inl rfl)
  | [], _ :: _ => .inl rfl
  | _ :: _, [] => .inr (.inr rfl)
  | x :: a, y :: b => by
    unfold ordI
    split
    · exact .inl rfl
    · split
      · exact .inr (.inr rfl)
      · exact ordI_vals a b
theorem ordI_swap : ∀ a b : List Int, ordI b a = - ordI a b
  | [], [] => rfl
  | [], _ :: _ => rfl
  | _ :: _, [] => rfl
  | x :: a, y :: b => by
    unfold ordI
    by_cases h1 : x < y
    · rw [if_pos h1, if_neg (by omega), if_pos h1]; rfl
    · by_cases h2 : y < x
      · rw [if_pos h2, if_neg h1, if_pos h2]
      · rw [if_neg h2, if_neg h1, if_neg h1, if_neg h2]; exact ordI_swap a b
theorem ordI_refl : ∀ a : List Int, ordI a a = 0
  | [] => rfl
  | x :: a => by unfold ordI; rw [if_neg (by omega), if_neg (by omega)]; exact ordI_refl a
theorem ordI_eq : ∀ a b : List Int, ordI a b = 0 → a = b
  | [], [], _ => rfl
  | [], _ :: _, h => by cases h
  | _ :: _, [], h => by cases h
  | x :: a, y :: b, h => by
    unfold ordI at h
    split at h
    · cases h
    · split at h
      · cases h
      · rw [ordI_eq a b h, show x = y by omega]
theorem neg_le : (-1 : Int) ≤ 0 := by decide
theorem one_le : ¬ (1 : Int) ≤ 0 := by decide
theorem ordI_trans : ∀ a b c : List Int, ordI a b ≤ 0 → ordI b c ≤ 0 → ordI a c ≤ 0 ∧ (ordI a c = 0 → ordI a b = 0 ∧ ordI b c = 0)
  | [], [], [], _, _ => ⟨by decide, fun _ => ⟨rfl, rfl⟩⟩
  | [], [], _ :: _, _, _ => ⟨neg_le, fun h => by cases h⟩
  | [], _ :: _, [], _, h => absurd h one_le
  | [], _ :: _, _ :: _, _, _ => ⟨neg_le, fun h => by cases h⟩
  | _ :: _, [], _, h, _ => absurd h one_le
  | _ :: _, _ :: _, [], _, h => absurd h one_le
  | x :: a, y :: b, z :: c, h1, h2 => by
    unfold ordI at h1 h2 ⊢
    by_cases e1 : x < y
    · by_cases e2 : y < z
      · rw [if_pos (show x < z by omega)]; exact ⟨by decide, fun h => by cases h⟩
      · by_cases e3 : z < y
        · rw [if_neg e2, if_pos e3] at h2; exact absurd h2 (by decide)
        · rw [if_pos (show x < z by omega)]; exact ⟨by decide, fun h => by cases h⟩
    · by_cases e2 : y < x
      · rw [if_neg e1, if_pos e2] at h1; exact absurd h1 (by decide)
      · rw [if_neg e1, if_neg e2] at h1
        have exy : x = y := by omega
        subst exy
        by_cases e3 : x < z
        · rw [if_pos e3]; exact ⟨by decide, fun h => by cases h⟩
        · by_cases e4 : z < x
          · rw [if_neg e3, if_pos e4] at h2; exact absurd h2 (by decide)
          · rw [if_neg e3, if_neg e4] at h2
            obtain ⟨g1, g2⟩ := ordI_trans a b c h1 h2
            rw [if_neg e3, if_neg e4, if_neg e1, if_neg e1, if_neg e3, if_neg e4]
            exact ⟨g1, g2⟩
/-- the bytes as numbers -/
def bys (l : List UInt8) : List Int := l.map fun c => (c.toNat : Int)
theorem bys_inj {a b : List UInt8} (h : bys a = bys b) : a = b := by
  refine (List.map_inj_right fun x y hxy => ?_).1 h
  apply UInt8.toNat_inj.1
  exact Int.ofNat_inj.1 hxy
theorem compareBytes_ord : ∀ a b : List UInt8, Lib.compareBytes a b = ordI (bys a) (bys b)
  | [], [] => rfl
  | [], _ :: _ => rfl
  | _ :: _, [] => rfl
  | x :: a, y :: b => by
    have e1 : (x < y) = ((x.toNat : Int) < (y.toNat : Int)) := by rw [UInt8.lt_iff_toNat_lt]; simp
    have e2 : (y < x) = ((y.toNat : Int) < (x.toNat : Int)) := by rw [UInt8.lt_iff_toNat_lt]; simp
    show (if x < y then (-1 : Int) else if y < x then 1 else Lib.compareBytes a b) = ordI ((x.toNat : Int) :: bys a) ((y.toNat : Int) :: bys b)
    rw [compareBytes_ord a b]
    conv => rhs; unfold ordI
    simp only [e1, e2]
/-- the collating element with a text: the first one, the last one -/
def fstE (l : List (ByteArray × Int)) (x : List UInt8) : Option Int := (l.find? fun p => p.1.data.toList == x).map (·.2)
def lstE (l : List (ByteArray × Int)) (x : List UInt8) : Option Int := l.foldl (fun a p => if p.1.data.toList = x then some p.2 else a) none
theorem lstE_snoc (l : List (ByteArray × Int)) (p : ByteArray × Int) (x : List UInt8) : lstE (l ++ [p]) x = if p.1.data.toList = x then some p.2 else lstE l x := by
  unfold lstE; rw [List.foldl_append]; rfl
theorem elsB_cons {seen : List (List UInt8)} {x : ByteArray × Int} {r : List (ByteArray × Int)} (h : elsB seen (x :: r) = true) : x.1.size = 2 ∧ 0 ≤ x.2 ∧ x.2 ≤ 65535 ∧ ¬ x.1.data.toList ∈ seen ∧ elsB (seen ++ [x.1.data.toList]) r = true := by
  unfold elsB elB at h
  simp only [Bool.and_eq_true, decide_eq_true_eq, Bool.not_eq_true', decide_eq_false_iff_not] at h
  exact ⟨h.1.1.1, h.1.1.2.1, h.1.1.2.2, h.1.2, h.2⟩
theorem elsB_seen : ∀ (l : List (ByteArray × Int)) (seen : List (List UInt8)), elsB seen l = true → ∀ p ∈ l, ¬ p.1.data.toList ∈ seen
  | [], _, _, _, hp => by cases hp
  | x :: r, seen, h, p, hp => by
    obtain ⟨_, _, _, h4, h5⟩ := elsB_cons h
    rcases List.mem_cons.1 hp with rfl | hp
    · exact h4
    · exact fun hs => elsB_seen r _ h5 p hp (List.mem_append_left _ hs)
theorem elsB_two : ∀ (l : List (ByteArray × Int)) (seen : List (List UInt8)), elsB seen l = true → ∀ p ∈ l, p.1.size = 2
  | [], _, _, _, hp => by cases hp
  | x :: r, seen, h, p, hp => by
    obtain ⟨h1, _, _, _, h5⟩ := elsB_cons h
    rcases List.mem_cons.1 hp with rfl | hp
    · exact h1
    · exact elsB_two r _ h5 p hp
theorem fold_miss (x : List UInt8) : ∀ (l : List (ByteArray × Int)) (a : Option Int), (∀ p ∈ l, p.1.data.toList ≠ x) → l.foldl (fun a p => if p.1.data.toList = x then some p.2 else a) a = a
  | [], _, _ => rfl
  | p :: r, a, h => by
    rw [List.foldl_cons, if_neg (h p List.mem_cons_self)]
    exact fold_miss x r a fun q hq => h q (List.mem_cons_of_mem _ hq)
/-- texts that differ: the last one is the first one -/
theorem lst_fst (x : List UInt8) : ∀ (l : List (ByteArray × Int)) (seen : List (List UInt8)), elsB seen l = true → lstE l x = fstE l x
  | [], _, _ => rfl
  | p :: r, seen, h => by
    obtain ⟨_, _, _, _, h5⟩ := elsB_cons h
    unfold lstE fstE
    rw [List.foldl_cons, List.find?_cons]
    by_cases e : p.1.data.toList = x
    · rw [if_pos e, beq_iff_eq.2 e]
      rw [fold_miss x r _ fun q hq hqx => elsB_seen r _ h5 q hq (by rw [hqx, ← e]; simp)]
      rfl
    · rw [if_neg e, beq_eq_false_iff_ne.2 e]
      exact lst_fst x r _ h5
/-- the weights of the collating elements of a string -/
def wts (W : List Int) (f : List UInt8 → Option Int) : List UInt8 → List Int
  | [] => []
  | [c] => [W.getD c.toNat 0]
  | c :: d :: r => match f [c, d] with
    | some n => n :: wts W f r
    | none => W.getD c.toNat 0 :: wts W f (d :: r)
theorem wts_len (W : List Int) (f : List UInt8 → Option Int) : ∀ (n : Nat) (l : List UInt8), l.length ≤ n → (wts W f l).length ≤ l.length := by
  intro n
  induction n with
  | zero => intro l h; rw [List.eq_nil_of_length_eq_zero (by omega : l.length = 0)]; exact Nat.le_refl _
  | succ n ih =>
    intro l h
    match l with
    | [] => exact Nat.le_refl _
    | [c] => exact Nat.le_refl _
    | c :: d :: r =>
      rw [List.length_cons, List.length_cons] at h
      unfold wts
      split
      · have := ih r (by omega)
        simp only [List.length_cons]; omega
      · have := ih (d :: r) (by simp only [List.length_cons]; omega)
        simp only [List.length_cons] at this ⊢; omega
theorem wts_one (W : List Int) (f : List UInt8 → Option Int) (l : List UInt8) (k : Nat) (c : UInt8) (h : l[k]? = some c) (hn : k + 1 = l.length) : wts W f (l.drop k) = W.getD c.toNat 0 :: wts W f (l.drop (k + 1)) := by
  obtain ⟨hk, e⟩ := List.getElem?_eq_some_iff.1 h
  rw [List.drop_eq_getElem_cons hk, e, List.drop_of_length_le (by omega)]
  rfl
theorem wts_two (W : List Int) (f : List UInt8 → Option Int) (l : List UInt8) (k : Nat) (c d : UInt8) (h : l[k]? = some c) (h2 : l[k + 1]? = some d) :
    wts W f (l.drop k) = match f [c, d] with | some n => n :: wts W f (l.drop (k + 2)) | none => W.getD c.toNat 0 :: wts W f (l.drop (k + 1)) := by
  obtain ⟨hk, e⟩ := List.getElem?_eq_some_iff.1 h
  obtain ⟨hk2, e2⟩ := List.getElem?_eq_some_iff.1 h2
  rw [List.drop_eq_getElem_cons hk, e, List.drop_eq_getElem_cons hk2, e2]
  rfl
/-- the comparison of two strings -/
def cmpS (W : List Int) (f : List UInt8 → Option Int) (a b : List UInt8) : Int :=
  if ordI (wts W f a) (wts W f b) = 0 then ordI (bys a) (bys b) else ordI (wts W f a) (wts W f b)
theorem cmpS_vals (W : List Int) (f : List UInt8 → Option Int) (a b : List UInt8) : cmpS W f a b = -1 ∨ cmpS W f a b = 0 ∨ cmpS W f a b = 1 := by
  unfold cmpS; split <;> exact ordI_vals _ _
theorem cmpS_swap (W : List Int) (f : List UInt8 → Option Int) (a b : List UInt8) : cmpS W f b a = - cmpS W f a b := by
  unfold cmpS
  rw [ordI_swap (wts W f a) (wts W f b), ordI_swap (bys a) (bys b)]
  by_cases h : ordI (wts W f a) (wts W f b) = 0
  · rw [if_pos h, if_pos (by omega)]
  · rw [if_neg h, if_neg (by omega)]
theorem cmpS_refl (W : List Int) (f : List UInt8 → Option Int) (a : List UInt8) : cmpS W f a a = 0 := by
  unfold cmpS; rw [if_pos (ordI_refl _)]; exact ordI_refl _
theorem cmpS_eq (W : List Int) (f : List UInt8 → Option Int) (a b : List UInt8) (h : cmpS W f a b = 0) : a = b := by
  unfold cmpS at h
  split at h
  · exact bys_inj (ordI_eq _ _ h)
  · rename_i h'; exact absurd h h'
theorem cmpS_trans (W : List Int) (f : List UInt8 → Option Int) (a b c : List UInt8) (h1 : cmpS W f a b ≤ 0) (h2 : cmpS W f b c ≤ 0) : cmpS W f a c ≤ 0 ∧ (cmpS W f a c = 0 → cmpS W f a b = 0 ∧ cmpS W f b c = 0) := by
  have v1 := ordI_vals (wts W f a) (wts W f b)
  have v2 := ordI_vals (wts W f b) (wts W f c)
  have v3 := ordI_vals (wts W f a) (wts W f c)
  have g1 : ordI (wts W f a) (wts W f b) ≤ 0 := by unfold cmpS at h1; split at h1 <;> omega
  have g2 : ordI (wts W f b) (wts W f c) ≤ 0 := by unfold cmpS at h2; split at h2 <;> omega
  obtain ⟨t1, t2⟩ := ordI_trans _ _ _ g1 g2
  refine ⟨?_, fun h => ?_⟩
  · by_cases e : ordI (wts W f a) (wts W f c) = 0
    · obtain ⟨e1, e2⟩ := t2 e
      unfold cmpS at h1 h2 ⊢
      rw [if_pos e1] at h1
      rw [if_pos e2] at h2
      rw [if_pos e]
      exact (ordI_trans _ _ _ h1 h2).1
    · unfold cmpS; rw [if_neg e]; exact t1
  · have e : ordI (wts W f a) (wts W f c) = 0 := by
      unfold cmpS at h
      split at h
      · assumption
      · rename_i h'; exact absurd h h'
    obtain ⟨e1, e2⟩ := t2 e
    unfold cmpS at h1 h2 h ⊢
    rw [if_pos e1] at h1
    rw [if_pos e2] at h2
    rw [if_pos e] at h
    rw [if_pos e1, if_pos e2]
    exact (ordI_trans _ _ _ h1 h2).2 h
end Lcl
end Go.Proofs.YtbhdhcnbagjmcaaDoor
