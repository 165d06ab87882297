/- the text of a decimal number and its parse are inverse: parts -/
import Derived.Test.YtjngkapfngempaaDoorByt6
namespace Byt
open Go Dcm
theorem toNat_48 (k : Nat) (h : k < 10) : (UInt8.ofNat (48 + k)).toNat = 48 + k := by
  rw [UInt8.toNat_ofNat']; omega
theorem dg_48 (k : Nat) (h : k < 10) : dg (UInt8.ofNat (48 + k)) = true := by
  unfold dg; rw [toNat_48 k h]; simp; omega
theorem dv_48 (k : Nat) (h : k < 10) : dv (UInt8.ofNat (48 + k)) = k := by
  unfold dv; rw [toNat_48 k h]; omega
theorem dg_dec : ∀ (n : Nat), ∀ c ∈ Lib.decDigits n, dg c = true := by
  intro n
  induction n using Nat.strongRecOn with
  | _ n ih =>
    intro c hc
    rw [Lib.decDigits] at hc
    split at hc
    · rename_i h
      simp only [List.mem_singleton] at hc
      subst hc; exact dg_48 n h
    · rcases List.mem_append.1 hc with hc | hc
      · exact ih (n / 10) (by omega) c hc
      · simp only [List.mem_singleton] at hc
        subst hc; exact dg_48 _ (by omega)
theorem dec_ne (n : Nat) : Lib.decDigits n ≠ [] := by
  rw [Lib.decDigits]; split <;> simp
/-- no leading zero -/
theorem dec_head : ∀ (n : Nat), 1 ≤ n → (Lib.decDigits n)[0]? ≠ some 48 := by
  intro n
  induction n using Nat.strongRecOn with
  | _ n ih =>
    intro h0 hc
    rw [Lib.decDigits] at hc
    split at hc
    · rename_i h
      simp only [List.getElem?_cons_zero, Option.some.injEq] at hc
      have := toNat_48 n h
      rw [hc] at this
      have e : (48 : UInt8).toNat = 48 := rfl
      omega
    · rename_i h
      have hl : 0 < (Lib.decDigits (n / 10)).length := List.length_pos_iff.2 (dec_ne _)
      rw [List.getElem?_append_left hl] at hc
      exact ih (n / 10) (by omega) (by omega) hc
theorem dec_len (n : Nat) : 1 < (Lib.decDigits n).length → 1 ≤ n := by
  intro h
  apply Decidable.byContradiction
  intro h0
  obtain rfl : n = 0 := by omega
  rw [Lib.decDigits, dif_pos (by decide)] at h
  simp at h
theorem val_app : ∀ (a : List UInt8) (c : UInt8) (d : Int), val (a ++ [c]) d = match val a d with | none => none | some v => if 1000000000 < 10 * v + dv c then none else some (10 * v + dv c) := by
  intro a
  induction a with
  | nil => intro c d; rfl
  | cons x r ih =>
    intro c d
    simp only [List.cons_append, val]
    split
    · rfl
    · exact ih c _
theorem val_dec : ∀ (n : Nat), n ≤ 1000000000 → val (Lib.decDigits n) 0 = some (n : Int) := by
  intro n
  induction n using Nat.strongRecOn with
  | _ n ih =>
    intro hn
    rw [Lib.decDigits]
    split
    · rename_i h
      simp only [val]
      rw [dv_48 n h, if_neg (by omega)]; simp
    · rename_i h
      rw [val_app, ih (n / 10) (by omega) (by omega)]
      simp only
      rw [dv_48 _ (by omega), if_neg (by omega)]
      congr 1; omega
theorem of_dv (c : UInt8) (h : dg c = true) : ∃ k : Nat, k < 10 ∧ dv c = k ∧ c = UInt8.ofNat (48 + k) := by
  simp [dg] at h
  refine ⟨c.toNat - 48, by omega, by unfold dv; omega, ?_⟩
  apply UInt8.toNat_inj.1
  rw [toNat_48 _ (by omega)]; omega
/-- digits without a leading zero are the digits of their value -/
theorem dec_val : ∀ (m : Nat) (a : List UInt8), a.length = m → (∀ c ∈ a, dg c = true) → a ≠ [] → a[0]? ≠ some 48 → ∀ v, val a 0 = some v → ∃ n : Nat, 1 ≤ n ∧ v = n ∧ Lib.decDigits n = a := by
  intro m
  induction m with
  | zero => intro a hm _ h0; exact absurd (List.eq_nil_of_length_eq_zero hm) h0
  | succ m ih =>
    intro a hm hd h0 hz v hv
    obtain ⟨b, c, rfl⟩ : ∃ b c, a = b ++ [c] := ⟨a.dropLast, a.getLast h0, (List.dropLast_concat_getLast h0).symm⟩
    obtain ⟨k, hk, hkv, hkc⟩ := of_dv c (hd c (by simp))
    by_cases hb : b = []
    · subst hb
      simp only [List.nil_append, val] at hv
      rw [hkv] at hv
      split at hv
      · cases hv
      · injection hv with hv
        have hk0 : k ≠ 0 := by
          rintro rfl
          apply hz; rw [hkc]; rfl
        refine ⟨k, by omega, by omega, ?_⟩
        rw [Lib.decDigits, dif_pos hk, hkc]; rfl
    · have hl : 0 < b.length := List.length_pos_iff.2 hb
      rw [val_app] at hv
      split at hv
      · cases hv
      · rename_i u hu
        rw [List.getElem?_append_left hl] at hz
        obtain ⟨n, hn, rfl, hnb⟩ := ih b (by simp at hm; omega) (fun x hx => hd x (List.mem_append_left _ hx)) hb hz u hu
        split at hv
        · cases hv
        · injection hv with hv
          refine ⟨10 * n + k, by omega, by omega, ?_⟩
          rw [Lib.decDigits, dif_neg (by omega), show (10 * n + k) / 10 = n from by omega, show (10 * n + k) % 10 = k from by omega, hnb, hkc]
theorem dec_val' (a : List UInt8) (hd : ∀ c ∈ a, dg c = true) (h0 : a ≠ []) (hz : ¬ (1 < a.length ∧ a[0]? = some 48)) (v : Int) (hv : val a 0 = some v) : ∃ n : Nat, v = n ∧ Lib.decDigits n = a := by
  by_cases h : a[0]? = some 48
  · have hl : a.length = 1 := by
      have : 0 < a.length := List.length_pos_iff.2 h0
      have : ¬ 1 < a.length := fun h1 => hz ⟨h1, h⟩
      omega
    match a, hl with
    | [c], _ =>
      simp only [List.getElem?_cons_zero, Option.some.injEq] at h
      subst h
      refine ⟨0, ?_, ?_⟩
      · simp [val, dv] at hv; exact hv.symm
      · rw [Lib.decDigits, dif_pos (by decide)]; rfl
  · obtain ⟨n, _, h1, h2⟩ := dec_val _ a rfl hd h0 h v hv
    exact ⟨n, h1, h2⟩
theorem dgt_nat (n : Nat) : (dgt n).toNat = 48 + n % 10 := by unfold dgt; exact toNat_48 _ (by omega)
theorem dg_dgt (n : Nat) : dg (dgt n) = true := dg_48 _ (by omega)
theorem dv_dgt (n : Nat) : dv (dgt n) = ((n % 10 : Nat) : Int) := dv_48 _ (by omega)
theorem dgt_of (c : UInt8) (n : Nat) (_ : dg c = true) (he : dv c = ((n % 10 : Nat) : Int)) : dgt n = c := by
  apply UInt8.toNat_inj.1
  rw [dgt_nat]; unfold dv at he; omega
theorem dg_low (i : Nat) : ∀ n, ∀ c ∈ low i n, dg c = true := by
  induction i with
  | zero => intro n c hc; cases hc
  | succ i ih =>
    intro n c hc
    rcases List.mem_append.1 hc with hc | hc
    · exact ih _ c hc
    · simp only [List.mem_singleton] at hc
      subst hc; exact dg_dgt n
theorem fr_low (n : Nat) (h : n < 10000) : fr 4 (low 4 n) 0 = n := by
  rw [low4]
  simp only [fr, dv_dgt]; omega
theorem fr_zero : ∀ (k : Nat) (l : List UInt8) (d : Int), fr k (l ++ [48]) d = fr k l d := by
  intro k
  induction k with
  | zero => intro l d; rfl
  | succ k ih =>
    intro l d
    cases l with
    | nil =>
      show fr k [] (10 * d + dv 48) = fr k [] (10 * d)
      have : dv 48 = 0 := rfl
      rw [this, Int.add_zero]
    | cons c r => exact ih r _
theorem trim_split : ∀ (m : Nat) (l : List UInt8), l.length = m → (trimZ l = l ∨ ∃ b, l = b ++ [48] ∧ trimZ l = trimZ b) := by
  intro m l _
  by_cases h0 : l = []
  · left; subst h0; rfl
  · obtain ⟨b, c, rfl⟩ : ∃ b c, l = b ++ [c] := ⟨l.dropLast, l.getLast h0, (List.dropLast_concat_getLast h0).symm⟩
    by_cases hc : c = 48
    · right; subst hc; exact ⟨b, rfl, trimZ_hit b⟩
    · left; exact trimZ_miss b c hc
/-- what trimming keeps -/
theorem trim_keep : ∀ (m : Nat) (l : List UInt8), l.length = m → (∀ k d, fr k (trimZ l) d = fr k l d) ∧ (∀ c ∈ trimZ l, c ∈ l) ∧ (trimZ l).length ≤ l.length ∧ endsBy (trimZ l) 48 = false := by
  intro m
  induction m with
  | zero => intro l hl; rw [List.eq_nil_of_length_eq_zero hl]; exact ⟨fun _ _ => rfl, fun _ h => h, Nat.le_refl _, rfl⟩
  | succ m ih =>
    intro l hl
    obtain ⟨b, c, rfl⟩ : ∃ b c, l = b ++ [c] := by
      have h0 : l ≠ [] := by rintro rfl; simp at hl
      exact ⟨l.dropLast, l.getLast h0, (List.dropLast_concat_getLast h0).symm⟩
    by_cases hc : c = 48
    · subst hc
      obtain ⟨h1, h2, h3, h4⟩ := ih b (by simp at hl; omega)
      rw [trimZ_hit]
      exact ⟨fun k d => by rw [h1, fr_zero], fun c hc => List.mem_append_left _ (h2 c hc), by simp; omega, h4⟩
    · rw [trimZ_miss b c hc]
      refine ⟨fun _ _ => rfl, fun _ h => h, Nat.le_refl _, ?_⟩
      unfold endsBy; simp [hc]
theorem frac_ok (n : Nat) (h : n < 10000) (h0 : n ≠ 0) : okF (trimZ (low 4 n)) = true ∧ fr 4 (trimZ (low 4 n)) 0 = n ∧ (∀ c ∈ trimZ (low 4 n), dg c = true) := by
  obtain ⟨h1, h2, h3, h4⟩ := trim_keep _ (low 4 n) rfl
  have hd : ∀ c ∈ trimZ (low 4 n), dg c = true := fun c hc => dg_low 4 n c (h2 c hc)
  have hne := low4_ne n h h0
  have hr : ∀ l : List UInt8, (∀ c ∈ l, dg c = true) → run dg l = l.length := by
    intro l
    induction l with
    | nil => intro _; rfl
    | cons c r ih => intro h; simp only [run]; rw [if_pos (h c (by simp)), ih fun x hx => h x (by simp [hx])]; rfl
  have hp : 0 < (trimZ (low 4 n)).length := List.length_pos_iff.2 hne
  rw [low_length] at h3
  refine ⟨?_, by rw [h1, fr_low n h], hd⟩
  unfold okF
  rw [hr _ hd, h4]
  simp; omega
theorem ends_snoc (b : List UInt8) (c : UInt8) (h : endsBy (b ++ [c]) 48 = false) : c ≠ 48 := by
  rintro rfl
  simp [endsBy] at h
/-- a fraction is the text of its value -/
theorem frac_back (f : List UInt8) (hd : ∀ c ∈ f, dg c = true) (h : okF f = true) : ∃ n : Nat, n < 10000 ∧ n ≠ 0 ∧ fr 4 f 0 = n ∧ trimZ (low 4 n) = f := by
  have hb := fr4_bd f hd
  obtain ⟨n, hn⟩ := Int.eq_ofNat_of_zero_le hb.1
  unfold okF at h
  simp only [Bool.and_eq_true, decide_eq_true_eq, Bool.not_eq_true'] at h
  obtain ⟨⟨⟨l1, l2⟩, _⟩, he⟩ := h
  have key : ∀ c : UInt8, dg c = true → c ≠ 48 → dv c ≠ 0 := by
    intro c hc hn h0
    apply hn
    obtain ⟨k, _, hk, rfl⟩ := of_dv c hc
    have : k = 0 := by omega
    subst this; rfl
  refine ⟨n, by omega, ?_, hn, ?_⟩
  all_goals
    match f, l1, l2 with
    | [a], _, _ =>
      have da := dv_bd a (hd a (by simp))
      have ne := key a (hd a (by simp)) (ends_snoc [] a he)
      have na := ends_snoc [] a he
      simp only [fr] at hn
      first
        | (rintro rfl; omega)
        | (rw [low4, dgt_of a _ (hd a (by simp)) (by omega), show dgt (n / 10 / 10) = 48 from dgt_of 48 _ rfl (by show (0 : Int) = _; omega), show dgt (n / 10) = 48 from dgt_of 48 _ rfl (by show (0 : Int) = _; omega), show dgt n = 48 from dgt_of 48 _ rfl (by show (0 : Int) = _; omega)]
           rw [show [a, 48, 48, 48] = [a, 48, 48] ++ [48] from rfl, trimZ_hit, show [a, 48, 48] = [a, 48] ++ [48] from rfl, trimZ_hit, show [a, 48] = [a] ++ [48] from rfl, trimZ_hit]
           exact trimZ_miss [] a na)
    | [a, b], _, _ =>
      have da := dv_bd a (hd a (by simp))
      have db := dv_bd b (hd b (by simp))
      have ne := key b (hd b (by simp)) (ends_snoc [a] b he)
      have na := ends_snoc [a] b he
      simp only [fr] at hn
      first
        | (rintro rfl; omega)
        | (rw [low4, dgt_of a _ (hd a (by simp)) (by omega), dgt_of b _ (hd b (by simp)) (by omega), show dgt (n / 10) = 48 from dgt_of 48 _ rfl (by show (0 : Int) = _; omega), show dgt n = 48 from dgt_of 48 _ rfl (by show (0 : Int) = _; omega)]
           rw [show [a, b, 48, 48] = [a, b, 48] ++ [48] from rfl, trimZ_hit, show [a, b, 48] = [a, b] ++ [48] from rfl, trimZ_hit]
           exact trimZ_miss [a] b na)
    | [a, b, c], _, _ =>
      have da := dv_bd a (hd a (by simp))
      have db := dv_bd b (hd b (by simp))
      have dc := dv_bd c (hd c (by simp))
      have ne := key c (hd c (by simp)) (ends_snoc [a, b] c he)
      have na := ends_snoc [a, b] c he
      simp only [fr] at hn
      first
        | (rintro rfl; omega)
        | (rw [low4, dgt_of a _ (hd a (by simp)) (by omega), dgt_of b _ (hd b (by simp)) (by omega), dgt_of c _ (hd c (by simp)) (by omega), show dgt n = 48 from dgt_of 48 _ rfl (by show (0 : Int) = _; omega)]
           rw [show [a, b, c, 48] = [a, b, c] ++ [48] from rfl, trimZ_hit]
           exact trimZ_miss [a, b] c na)
    | [a, b, c, d], _, _ =>
      have da := dv_bd a (hd a (by simp))
      have db := dv_bd b (hd b (by simp))
      have dc := dv_bd c (hd c (by simp))
      have dd := dv_bd d (hd d (by simp))
      have ne := key d (hd d (by simp)) (ends_snoc [a, b, c] d he)
      have na := ends_snoc [a, b, c] d he
      simp only [fr] at hn
      first
        | (rintro rfl; omega)
        | (rw [low4, dgt_of a _ (hd a (by simp)) (by omega), dgt_of b _ (hd b (by simp)) (by omega), dgt_of c _ (hd c (by simp)) (by omega), dgt_of d _ (hd d (by simp)) (by omega)]
           exact trimZ_miss [a, b, c] d na)
theorem run_all_dg : ∀ l : List UInt8, (∀ c ∈ l, dg c = true) → run dg l = l.length := by
  intro l
  induction l with
  | nil => intro _; rfl
  | cons c r ih => intro h; simp only [run]; rw [if_pos (h c (by simp)), ih fun x hx => h x (by simp [hx])]; rfl
/-- the digits at the beginning, where what follows does not begin with a digit -/
theorem run_app : ∀ (a t : List UInt8), (∀ c ∈ a, dg c = true) → (∀ c, t[0]? = some c → dg c = false) → run dg (a ++ t) = a.length := by
  intro a t
  induction a with
  | nil =>
    intro _ h
    cases t with
    | nil => rfl
    | cons c r => simp only [List.nil_append, run]; rw [h c rfl]; rfl
  | cons c r ih =>
    intro h h'
    simp only [List.cons_append, run]
    rw [if_pos (h c (by simp)), ih (fun x hx => h x (by simp [hx])) h']; rfl
end Byt
