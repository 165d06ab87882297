/- plain lists of bytes -/
import Derived.Lib.IndexBytes
namespace Byt
open Go
/-- the length of the longest beginning of bytes of one kind -/
def run (p : UInt8 → Bool) : List UInt8 → Nat
  | [] => 0
  | c :: r => if p c then run p r + 1 else 0
theorem run_le (p : UInt8 → Bool) (l : List UInt8) : run p l ≤ l.length := by
  induction l with
  | nil => simp [run]
  | cons c r ih => simp only [run]; split <;> simp <;> omega
def dg (c : UInt8) : Bool := decide (48 ≤ c.toNat) && decide (c.toNat ≤ 57)
theorem dg_cases (c : UInt8) : (dg c = true ∧ (48 : Int) ≤ (c.toNat : Int) ∧ (c.toNat : Int) ≤ 57) ∨ (dg c = false ∧ (c.toNat : Int) < 48) ∨ (dg c = false ∧ (48 : Int) ≤ (c.toNat : Int) ∧ (57 : Int) < (c.toNat : Int)) := by
  unfold dg
  by_cases h1 : 48 ≤ c.toNat
  · by_cases h2 : c.toNat ≤ 57
    · left; simp [h1, h2]; omega
    · right; right; simp [h2]; omega
  · right; left; simp [h1]; omega
def bl (c : UInt8) : Bool := decide (c.toNat = 32) || decide (c.toNat = 9)
theorem size_len (s : ByteArray) : s.size = s.data.toList.length := Lib.size_eq s
theorem drop_lt (s : ByteArray) (k : Nat) (h : k < s.size) : s.data.toList.drop k = s[k] :: s.data.toList.drop (k + 1) := by
  rw [List.drop_eq_getElem_cons (by rw [← size_len]; exact h)]; rfl
theorem drop_ge (s : ByteArray) (k : Nat) (h : s.size ≤ k) : s.data.toList.drop k = [] := List.drop_eq_nil_of_le (by rw [← size_len]; exact h)
theorem run_lt (p : UInt8 → Bool) (s : ByteArray) (k : Nat) (h : k < s.size) : run p (s.data.toList.drop k) = if p s[k] then run p (s.data.toList.drop (k + 1)) + 1 else 0 := by
  rw [drop_lt s k h]; rfl
theorem run_ge (p : UInt8 → Bool) (s : ByteArray) (k : Nat) (h : s.size ≤ k) : run p (s.data.toList.drop k) = 0 := by
  rw [drop_ge s k h]; rfl
theorem ext_to (s : ByteArray) (a : Nat) : (s.extract a s.size).data.toList = s.data.toList.drop a := Lib.extract_to_end s a
theorem ext_mid (s : ByteArray) (a b : Nat) : (s.extract a b).data.toList = (s.data.toList.drop a).take (b - a) := Lib.extract_data s a b
/-- the value of a digit -/
def dv (c : UInt8) : Int := (c.toNat : Int) - 48
theorem dv_bd (c : UInt8) (h : dg c = true) : 0 ≤ dv c ∧ dv c ≤ 9 := by
  simp [dg] at h; unfold dv; omega
/-- the whole part: none if it is beyond 10^9 -/
def val : List UInt8 → Int → Option Int
  | [], d => some d
  | c :: r, d => if 1000000000 < 10 * d + dv c then none else val r (10 * d + dv c)
/-- so many digits of a list, zeros where it has ended -/
def fr : Nat → List UInt8 → Int → Int
  | 0, _, d => d
  | k + 1, [], d => fr k [] (10 * d)
  | k + 1, c :: r, d => fr k r (10 * d + dv c)
def pow10 : Nat → Int
  | 0 => 1
  | k + 1 => 10 * pow10 k
theorem fr_lin (k : Nat) : ∀ (l : List UInt8) (d : Int), fr k l d = d * pow10 k + fr k l 0 := by
  induction k with
  | zero => intro l d; simp [fr, pow10]
  | succ k ih =>
    intro l d
    cases l with
    | nil => simp only [fr, pow10]; rw [ih [] (10 * d), ih [] (10 * 0)]; simp; rw [Int.mul_comm 10 d, Int.mul_assoc]
    | cons c r =>
      simp only [fr, pow10]; rw [ih r (10 * d + dv c), ih r (10 * 0 + dv c)]
      simp only [Int.mul_zero, Int.zero_add, Int.add_mul]
      rw [Int.mul_comm 10 d, Int.mul_assoc]; omega
theorem fr4 (l : List UInt8) (d : Int) : fr 4 l d = d * 10000 + fr 4 l 0 := fr_lin 4 l d
theorem fr_bd (k : Nat) : ∀ (l : List UInt8) (_ : ∀ c ∈ l, dg c = true), 0 ≤ fr k l 0 ∧ fr k l 0 ≤ pow10 k - 1 := by
  induction k with
  | zero => intro l _; simp [fr, pow10]
  | succ k ih =>
    intro l hl
    cases l with
    | nil =>
      have := ih [] (by simp)
      simp only [fr, pow10, Int.mul_zero]
      omega
    | cons c r =>
      have h1 := ih r (fun x hx => hl x (List.mem_cons_of_mem _ hx))
      have h2 := dv_bd c (hl c (List.mem_cons_self ..))
      simp only [fr, pow10, Int.mul_zero, Int.zero_add]
      rw [fr_lin]
      have hp : 0 ≤ pow10 k := by omega
      have h3 : 0 ≤ dv c * pow10 k := Int.mul_nonneg h2.1 hp
      have h4 : dv c * pow10 k ≤ 9 * pow10 k := Int.mul_le_mul_of_nonneg_right h2.2 hp
      omega
theorem fr4_bd (l : List UInt8) (hl : ∀ c ∈ l, dg c = true) : 0 ≤ fr 4 l 0 ∧ fr 4 l 0 ≤ 9999 := by
  have := fr_bd 4 l hl
  have e : pow10 4 = 10000 := rfl
  omega
theorem val_bd : ∀ (l : List UInt8) (d v : Int), (∀ c ∈ l, dg c = true) → 0 ≤ d → d ≤ 1000000000 → val l d = some v → 0 ≤ v ∧ v ≤ 1000000000 := by
  intro l
  induction l with
  | nil => intro d v _ h0 h1 h; simp only [val, Option.some.injEq] at h; omega
  | cons c r ih =>
    intro d v hl h0 h1 h
    have h2 := dv_bd c (hl c (List.mem_cons_self ..))
    simp only [val] at h
    split at h
    · cases h
    · exact ih _ v (fun x hx => hl x (List.mem_cons_of_mem _ hx)) (by omega) (by omega) h
theorem mem_run (p : UInt8 → Bool) : ∀ (l : List UInt8) (c : UInt8), c ∈ l.take (run p l) → p c = true := by
  intro l
  induction l with
  | nil => intro c h; simp [run] at h
  | cons x r ih =>
    intro c h
    simp only [run] at h
    split at h
    · rename_i hx
      simp only [List.take_succ_cons, List.mem_cons] at h
      rcases h with rfl | h
      · exact hx
      · exact ih c h
    · simp at h
end Byt
namespace Byt
open Go
theorem mem_get (s : ByteArray) (k : Nat) (h : k < s.size) : s[k] ∈ s.data.toList := by
  have := List.getElem_mem (l := s.data.toList) (n := k) (by rw [← size_len]; exact h)
  exact this
theorem dig_get (s : ByteArray) (hd : ∀ c ∈ s.data.toList, dg c = true) (k : Nat) (h : k < s.size) : (48 : Int) ≤ (s[k].toNat : Int) ∧ (s[k].toNat : Int) ≤ 57 := by
  have := hd _ (mem_get s k h)
  rcases dg_cases s[k] with ⟨_, h1⟩ | ⟨h2, _⟩ | ⟨h2, _⟩
  · exact h1
  · rw [h2] at this; cases this
  · rw [h2] at this; cases this
theorem val_lt (s : ByteArray) (k : Nat) (d : Int) (h : k < s.size) : val (s.data.toList.drop k) d = if 1000000000 < 10 * d + ((s[k].toNat : Int) - 48) then none else val (s.data.toList.drop (k + 1)) (10 * d + ((s[k].toNat : Int) - 48)) := by
  rw [drop_lt s k h]; rfl
theorem val_ge (s : ByteArray) (k : Nat) (d : Int) (h : s.size ≤ k) : val (s.data.toList.drop k) d = some d := by
  rw [drop_ge s k h]; rfl
theorem fr_lt (s : ByteArray) (j k : Nat) (d : Int) (h : k < s.size) : fr (j + 1) (s.data.toList.drop k) d = fr j (s.data.toList.drop (k + 1)) (10 * d + ((s[k].toNat : Int) - 48)) := by
  rw [drop_lt s k h]; rfl
theorem fr_ge (s : ByteArray) (j k : Nat) (d : Int) (h : s.size ≤ k) : fr (j + 1) (s.data.toList.drop k) d = fr j (s.data.toList.drop (k + 1)) (10 * d) := by
  rw [drop_ge s k h, drop_ge s (k + 1) (by omega)]; rfl
theorem pow10_le (k : Nat) (h : k ≤ 4) : 1 ≤ pow10 k ∧ pow10 k ≤ 10000 := by
  rcases (show k = 0 ∨ k = 1 ∨ k = 2 ∨ k = 3 ∨ k = 4 from by omega) with rfl | rfl | rfl | rfl | rfl <;> decide
theorem pow10_lt (k : Nat) (h : k < 4) : pow10 k ≤ 1000 := by
  rcases (show k = 0 ∨ k = 1 ∨ k = 2 ∨ k = 3 from by omega) with rfl | rfl | rfl | rfl <;> decide
/-- the loop over the four digits of a fraction that begins at v -/
structure FrI (l : List UInt8) (v : Int) (k : Nat) (d : Int) : Prop where
  eq : fr (4 - k) (l.drop k) d = fr 4 l v
  lo : 0 ≤ d
  hi : d < (v + 1) * pow10 k
theorem FrI.start (l : List UInt8) (v : Int) (h : 0 ≤ v) : FrI l v 0 v := ⟨rfl, h, by simp [pow10]; omega⟩
theorem FrI.bd {l : List UInt8} {v : Int} {k : Nat} {d : Int} (h : FrI l v k d) (hk : k < 4) (h0 : 0 ≤ v) : d ≤ (v + 1) * 1000 := by
  have h1 := h.hi
  have h2 : (v + 1) * pow10 k ≤ (v + 1) * 1000 := Int.mul_le_mul_of_nonneg_left (pow10_lt k hk) (by omega)
  omega
theorem FrI.hit {s : ByteArray} {v : Int} {k : Nat} {d : Int} (hd : ∀ c ∈ s.data.toList, dg c = true) (h : FrI s.data.toList v k d) (hk : k < 4) (hs : k < s.size) :
    FrI s.data.toList v (k + 1) (10 * d + ((s[k].toNat : Int) - 48)) := by
  obtain ⟨h1, h2, h3⟩ := h
  have hc := dig_get s hd k hs
  refine ⟨?_, by omega, ?_⟩
  · rw [← h1, show 4 - k = (4 - (k + 1)) + 1 from by omega, fr_lt s _ k d hs]
  · simp only [pow10]
    rw [show (v + 1) * (10 * pow10 k) = 10 * ((v + 1) * pow10 k) from by rw [Int.mul_left_comm]]
    omega
theorem FrI.miss {s : ByteArray} {v : Int} {k : Nat} {d : Int} (h : FrI s.data.toList v k d) (hk : k < 4) (hs : s.size ≤ k) : FrI s.data.toList v (k + 1) (10 * d) := by
  obtain ⟨h1, h2, h3⟩ := h
  refine ⟨?_, by omega, ?_⟩
  · rw [← h1, show 4 - k = (4 - (k + 1)) + 1 from by omega, fr_ge s _ k d hs]
  · simp only [pow10]
    rw [show (v + 1) * (10 * pow10 k) = 10 * ((v + 1) * pow10 k) from by rw [Int.mul_left_comm]]
    omega
theorem FrI.done {l : List UInt8} {v d : Int} (h : FrI l v 4 d) : d = fr 4 l v := h.eq
/-- the loop over the whole part -/
structure VaI (l : List UInt8) (k : Nat) (d : Int) : Prop where
  eq : val (l.drop k) d = val l 0
  lo : 0 ≤ d
  hi : d ≤ 1000000000
theorem VaI.start (l : List UInt8) : VaI l 0 0 := ⟨rfl, by decide, by decide⟩
theorem VaI.stop {s : ByteArray} {k : Nat} {d : Int} (h : VaI s.data.toList k d) (hs : k < s.size) (hb : 1000000000 < 10 * d + ((s[k].toNat : Int) - 48)) : val s.data.toList 0 = none := by
  rw [← h.eq, val_lt s k d hs, if_pos hb]
theorem VaI.step {s : ByteArray} {k : Nat} {d : Int} (hd : ∀ c ∈ s.data.toList, dg c = true) (h : VaI s.data.toList k d) (hs : k < s.size) (hb : ¬ 1000000000 < 10 * d + ((s[k].toNat : Int) - 48)) :
    VaI s.data.toList (k + 1) (10 * d + ((s[k].toNat : Int) - 48)) := by
  have hc := dig_get s hd k hs
  have h2 := h.lo
  exact ⟨by rw [← h.eq, val_lt s k d hs, if_neg hb], by omega, by omega⟩
theorem VaI.done {s : ByteArray} {k : Nat} {d : Int} (h : VaI s.data.toList k d) (hs : s.size ≤ k) : val s.data.toList 0 = some d := by
  rw [← h.eq, val_ge s k d hs]
def valueV (a f : List UInt8) : Int := match val a 0 with
  | none => 10000000000001
  | some v => min 10000000000001 (v * 10000 + fr 4 f 0)
def numberV (a f : List UInt8) : Int := match val a 0 with
  | none => 0
  | some v => fr 4 f v
def numberB (a f : List UInt8) : Bool := match val a 0 with
  | none => false
  | some v => decide (fr 4 f v ≤ 10000000000000)
end Byt
