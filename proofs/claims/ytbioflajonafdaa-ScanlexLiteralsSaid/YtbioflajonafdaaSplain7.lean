/- plain: strings, numbers and patterns between their signs are one token -/
import Derived.Test.YtbioflajonafdaaPb
import Derived.Test.YtbioflajonafdaaUplain
import Derived.Test.YtbioflajonafdaaPa
namespace Go.Proofs.Ytbioflajonafdaa
open Go.RowKit
open Tx
/-- the escaped form with a backslash ahead of each double quote -/
def qesc1 (c : UInt8) : List UInt8 := if c = 34 then [92, 34] else esc1 c
def qesc (l : List UInt8) : List UInt8 := l.flatMap qesc1
def qq (l : List UInt8) : List UInt8 := l.flatMap fun c => if c = 34 then [92, 34] else [c]
theorem qq_one (c : UInt8) : qq (esc1 c) = qesc1 c := by
  unfold qesc1
  by_cases h : c = 34
  · subst h; rfl
  · rw [if_neg h]
    by_cases h0 : escL c ≠ 0
    · rcases esc_cases c h0 with ⟨h, e⟩ | ⟨h, e⟩ | ⟨h, e⟩ | ⟨h, e⟩ | ⟨h, e⟩ | ⟨h, e⟩ | ⟨h, e⟩ <;> (rw [e]; rfl)
    · by_cases h1 : c = 92
      · subst h1; rfl
      · by_cases h2 : 32 ≤ c.toNat ∧ c.toNat ≤ 126
        · have e : esc1 c = [c] := by unfold esc1; rw [if_neg h0, if_neg h1, if_pos h2]
          rw [e]; simp [qq, h]
        · have e : esc1 c = 92 :: oct3 c := by unfold esc1; rw [if_neg h0, if_neg h1, if_neg h2]
          have := UInt8.toNat_lt c
          have q : ∀ k : Nat, k ≤ 7 → UInt8.ofNat (48 + k) ≠ 34 := by
            intro k hk x
            have := congrArg UInt8.toNat x
            rw [UInt8.toNat_ofNat'] at this
            have h34 : (34 : UInt8).toNat = 34 := rfl
            omega
          rw [e]
          simp only [qq, oct3, List.flatMap_cons, List.flatMap_nil]
          rw [if_neg (q _ (by omega)), if_neg (q _ (by omega)), if_neg (q _ (by omega))]
          rfl
theorem qq_esc (l : List UInt8) : qq (esc l) = qesc l := by
  induction l with
  | nil => rfl
  | cons c r ih =>
    have e1 : esc (c :: r) = esc1 c ++ esc r := by simp [esc]
    have e2 : qesc (c :: r) = qesc1 c ++ qesc r := by simp [qesc]
    rw [e1, e2, ← qq_one, ← ih]; simp [qq]
theorem une_q1 (c : UInt8) (r : List UInt8) (i : Nat) : ∃ j, une (qesc1 c ++ r).length (qesc1 c ++ r) i = (match une r.length r j with | .ok l => .ok (c :: l) | .error k => .error k) := by
  unfold qesc1
  by_cases h : c = 34
  · subst h; exact ⟨i + 2, une_two 34 34 r i rfl rfl rfl⟩
  · rw [if_neg h]; exact une_esc1 c r i
theorem une_q : ∀ (l : List UInt8) (i : Nat), une (qesc l).length (qesc l) i = .ok l := by
  intro l
  induction l with
  | nil => intro i; rfl
  | cons c r ih =>
    intro i
    have e : qesc (c :: r) = qesc1 c ++ qesc r := by simp [qesc]
    obtain ⟨j, hj⟩ := une_q1 c (qesc r) i
    rw [e, hj, ih j]
theorem pk_of {s : ByteArray} {i : Nat} {c : UInt8} {r : List UInt8} (h : s.data.toList.drop i = c :: r) : pk s i = c.toNat := by rw [pk_drop, h]; rfl
theorem lt_of {s : ByteArray} {i : Nat} {c : UInt8} {r : List UInt8} (h : s.data.toList.drop i = c :: r) : i < s.size := by
  by_cases hl : i < s.size
  · exact hl
  · rw [List.drop_of_length_le (by rw [← size_len]; omega)] at h; cases h
theorem drop_tail {s : ByteArray} {i : Nat} {c : UInt8} {r : List UInt8} (h : s.data.toList.drop i = c :: r) : s.data.toList.drop (i + 1) = r := by
  rw [← List.drop_drop, h]; rfl
theorem clz_plain {s : ByteArray} {q i : Nat} {c : UInt8} {r : List UInt8} (h : s.data.toList.drop i = c :: r) (h1 : c.toNat ≠ q) (h2 : c.toNat ≠ 10) (h3 : c.toNat ≠ 92) : clz s q i = clz s q (i + 1) := by
  rw [clz_eq, if_neg (by have := lt_of h; omega), pk_of h, if_neg h1, if_neg h2, if_neg h3]
theorem clz_pair {s : ByteArray} {q i : Nat} {d : UInt8} {r : List UInt8} (h : s.data.toList.drop i = 92 :: d :: r) (h1 : 92 ≠ q) (h2 : d.toNat ≠ 10) : clz s q i = clz s q (i + 2) := by
  have h9 : UInt8.toNat 92 = 92 := rfl
  rw [clz_eq, if_neg (by have := lt_of h; omega), pk_of h, h9, if_neg h1, if_neg (by decide), if_pos rfl, pk_of (drop_tail h), if_neg h2]
theorem clz_q1 {s : ByteArray} {i : Nat} {c : UInt8} {r : List UInt8} (h : s.data.toList.drop i = qesc1 c ++ r) : clz s 34 i = clz s 34 (i + (qesc1 c).length) := by
  revert h
  unfold qesc1
  by_cases h : c = 34
  · rw [if_pos h]; intro h; exact clz_pair h (by decide) (by decide)
  rw [if_neg h]
  by_cases h0 : escL c ≠ 0
  · rcases esc_cases c h0 with ⟨h, e⟩ | ⟨h, e⟩ | ⟨h, e⟩ | ⟨h, e⟩ | ⟨h, e⟩ | ⟨h, e⟩ | ⟨h, e⟩ <;> (rw [e]; intro h; exact clz_pair h (by decide) (by decide))
  by_cases h1 : c = 92
  · subst h1; intro h; exact clz_pair h (by decide) (by decide)
  by_cases h2 : 32 ≤ c.toNat ∧ c.toNat ≤ 126
  · have e : esc1 c = [c] := by unfold esc1; rw [if_neg h0, if_neg h1, if_pos h2]
    rw [e]; intro hd
    refine clz_plain hd (fun x => h ?_) (by omega) (fun x => h1 ?_)
    · exact UInt8.toNat_inj.mp x
    · exact UInt8.toNat_inj.mp x
  · have e : esc1 c = 92 :: oct3 c := by unfold esc1; rw [if_neg h0, if_neg h1, if_neg h2]
    rw [e]; intro hd
    have := UInt8.toNat_lt c
    have q : ∀ k : Nat, k ≤ 7 → (UInt8.ofNat (48 + k)).toNat = 48 + k := by
      intro k hk
      rw [UInt8.toNat_ofNat']; omega
    have a1 := q (c.toNat / 64) (by omega)
    have a2 := q (c.toNat / 8 % 8) (by omega)
    have a3 := q (c.toNat % 8) (by omega)
    unfold oct3 at hd
    have d2 := drop_tail (drop_tail hd)
    have d3 := drop_tail d2
    rw [clz_pair hd (by decide) (by rw [a1]; omega), clz_plain d2 (by rw [a2]; omega) (by rw [a2]; omega) (by rw [a2]; omega), clz_plain d3 (by rw [a3]; omega) (by rw [a3]; omega) (by rw [a3]; omega)]
    rfl
theorem clz_q {s : ByteArray} {z : List UInt8} : ∀ (l : List UInt8) (i : Nat), s.data.toList.drop i = qesc l ++ (34 :: z) → clz s 34 i = some (i + (qesc l).length) := by
  intro l
  induction l with
  | nil =>
    intro i h
    have h : s.data.toList.drop i = 34 :: z := h
    rw [clz_eq, if_neg (by have := lt_of h; omega), pk_of h, if_pos (by decide)]; rfl
  | cons c r ih =>
    intro i h
    have e : qesc (c :: r) = qesc1 c ++ qesc r := by simp [qesc]
    rw [e, List.append_assoc] at h
    rw [clz_q1 h, ih (i + (qesc1 c).length) (by rw [← List.drop_drop, h, List.drop_left]), e, List.length_append, Nat.add_assoc]
/-- a program of one token -/
theorem run_one {s : ByteArray} {k : Int} {t : ByteArray} {n : Int} (h0 : s.size ≠ 0) (h1 : sk1 s 0 = none) (h2 : tokM s 0 [] = .tk k t n s.size) : runM s 0 [] = .ok [⟨k, t, n, 0⟩, endT s] := by
  rw [runM_at [] (by omega) h1, if_neg (by omega), h2]
  show runM s s.size ([] ++ [⟨k, t, n, ((0 : Nat) : Int)⟩]) = _
  rw [runM_at _ (Nat.le_refl _) (by unfold sk1; rw [if_pos (Nat.le_refl _)]), if_pos (Nat.le_refl _)]
  rfl
theorem lit_str (s u : ByteArray) (hu : u.data.toList = 34 :: (qq (esc s.data.toList) ++ [34])) : runM u 0 [] = .ok [⟨2, s, 0, 0⟩, endT u] := by
  rw [qq_esc] at hu
  have d0 : u.data.toList.drop 0 = 34 :: (qesc s.data.toList ++ [34]) := hu
  have us : u.size = (qesc s.data.toList).length + 2 := by rw [size_len, hu]; simp
  have z := clz_q s.data.toList 1 (drop_tail d0)
  have p0 := pk_of d0
  refine run_one (by omega) (by unfold sk1; rw [if_neg (by omega), p0, if_neg (by decide), if_neg (by rintro ⟨x, -⟩; exact absurd x (by decide)), if_neg (by decide)]) ?_
  unfold tokM
  rw [p0, if_neg (by decide), if_neg (by rintro (x | ⟨x, -⟩) <;> exact absurd x (by decide)), if_neg (by decide), if_pos (by decide)]
  unfold quoM
  rw [z]
  simp only
  rw [if_neg (by decide)]
  have e : (u.extract 1 (1 + (qesc s.data.toList).length)).data.toList = qesc s.data.toList := by
    rw [Byt.ext_mid, drop_tail d0, show 1 + (qesc s.data.toList).length - 1 = (qesc s.data.toList).length by omega, List.take_left]
  rw [e, show unesc (qesc s.data.toList) = .ok s.data.toList from une_q _ 0]
  simp only
  rw [show (⟨s.data.toList.toArray⟩ : ByteArray) = s by obtain ⟨⟨l⟩⟩ := s; rfl, show 1 + (qesc s.data.toList).length + 1 = u.size by omega]
theorem clz_pat {s : ByteArray} {z : List UInt8} : ∀ (l : List UInt8) (i : Nat), (∀ c ∈ l, c.toNat ≠ 47 ∧ c.toNat ≠ 92 ∧ c.toNat ≠ 10) → s.data.toList.drop i = l ++ (47 :: z) → clz s 47 i = some (i + l.length) := by
  intro l
  induction l with
  | nil =>
    intro i _ h
    have h : s.data.toList.drop i = 47 :: z := h
    rw [clz_eq, if_neg (by have := lt_of h; omega), pk_of h, if_pos (by decide)]; rfl
  | cons c r ih =>
    intro i hc h
    have hc0 := hc c (by simp)
    rw [clz_plain h hc0.1 hc0.2.2 hc0.2.1, ih (i + 1) (fun x hx => hc x (by simp [hx])) (drop_tail h), List.length_cons]
    congr 1; omega
theorem lit_pat (s u : ByteArray) (hc : ∀ c ∈ s.data.toList, c.toNat ≠ 47 ∧ c.toNat ≠ 92 ∧ c.toNat ≠ 10) (hu : u.data.toList = 47 :: (s.data.toList ++ [47])) : runM u 0 [] = .ok [⟨3, s, 0, 0⟩, endT u] := by
  have d0 : u.data.toList.drop 0 = 47 :: (s.data.toList ++ [47]) := hu
  have us : u.size = s.data.toList.length + 2 := by rw [size_len, hu]; simp
  have z := clz_pat s.data.toList 1 hc (drop_tail d0)
  have p0 := pk_of d0
  refine run_one (by omega) (by unfold sk1; rw [if_neg (by omega), p0, if_neg (by decide), if_neg (by rintro ⟨x, -⟩; exact absurd x (by decide)), if_neg (by decide)]) ?_
  unfold tokM
  rw [p0, if_neg (by decide), if_neg (by rintro (x | ⟨x, -⟩) <;> exact absurd x (by decide)), if_neg (by decide), if_neg (by decide), if_pos ⟨by decide, rfl⟩]
  unfold quoM
  rw [z]
  simp only
  rw [if_pos trivial]
  have e : u.extract 1 (1 + s.data.toList.length) = s := by
    apply bext
    rw [Byt.ext_mid, drop_tail d0, show 1 + s.data.toList.length - 1 = s.data.toList.length by omega, List.take_left]
  rw [e, show 1 + s.data.toList.length + 1 = u.size by omega]
theorem dec_len10 : ∀ (k n : Nat), n < 10 ^ k → 1 ≤ k → (Lib.decDigits n).length ≤ k := by
  intro k
  induction k with
  | zero => intro n _ h; omega
  | succ k ih =>
    intro n hn _
    rw [Lib.decDigits]
    by_cases h : n < 10
    · rw [dif_pos h]; simp
    · rw [dif_neg h, List.length_append]
      have hk : 1 ≤ k := by
        cases k with
        | zero => simp at hn; omega
        | succ k => omega
      have := ih (n / 10) (by rw [Nat.pow_succ] at hn; omega) hk
      simp only [List.length_singleton]; omega
theorem fmt_shape (d : Int) (h0 : 0 ≤ d) (h1 : d ≤ 10000000000000) : (Byt.fmtL d).length ≤ 15 ∧ ∃ c r, Byt.fmtL d = c :: r ∧ Byt.dg c = true := by
  have hn : Dcm.near d = d := by unfold Dcm.near; omega
  unfold Byt.fmtL
  rw [hn, if_neg (by omega), List.nil_append]
  obtain ⟨W, hW⟩ : ∃ W, d.natAbs / 10000 = W := ⟨_, rfl⟩
  obtain ⟨f, hf⟩ : ∃ f, d.natAbs % 10000 = f := ⟨_, rfl⟩
  rw [hW, hf]
  have e1 := dec_len10 10 W (by omega) (by omega)
  have e2 := (Byt.trim_keep _ (Byt.low 4 f) rfl).2.2.1
  rw [Byt.low_length] at e2
  refine ⟨?_, ?_⟩
  · rw [List.length_append]
    have e4 : (if f = 0 then [] else 46 :: Byt.trimZ (Byt.low 4 f)).length ≤ 5 := by
      split
      · simp
      · simp; omega
    omega
  · cases hd : Lib.decDigits W with
    | nil => exact absurd hd (Byt.dec_ne W)
    | cons c r => exact ⟨c, _, rfl, Byt.dg_dec W c (by rw [hd]; simp)⟩
theorem lit_num (d : Int) (u : ByteArray) (h0 : 0 ≤ d) (h1 : d ≤ 10000000000000) (hu : u.data.toList = Byt.fmtL d) : runM u 0 [] = .ok [⟨1, ⟨#[]⟩, d, 0⟩, endT u] := by
  obtain ⟨hl, c, r, hc, hd⟩ := fmt_shape d h0 h1
  obtain ⟨l, B⟩ := Byt.fmt_back d (by omega) h1
  have e := B.fm
  have d0 : u.data.toList.drop 0 = c :: r := by rw [List.drop_zero, hu, hc]
  have p0 := pk_of d0
  have us := lt_of d0
  have ul : u.size = l.length := by rw [size_len, hu, e]
  rw [e] at hl
  have dd : dgn (pk u 0) = true := by rw [p0]; exact hd
  have d1 : 48 ≤ pk u 0 ∧ pk u 0 ≤ 57 := by
    unfold dgn at dd; simpa using dd
  refine run_one (by omega) (by unfold sk1; rw [if_neg (by omega), if_neg (by omega), if_neg (by omega), if_neg (by omega)]) ?_
  unfold tokM
  rw [if_neg (by omega), if_pos (.inl dd)]
  unfold numM
  rw [List.drop_zero, hu, e, B.qn, B.qv, if_neg (by omega), ul, Nat.zero_add]
end Go.Proofs.Ytbioflajonafdaa
