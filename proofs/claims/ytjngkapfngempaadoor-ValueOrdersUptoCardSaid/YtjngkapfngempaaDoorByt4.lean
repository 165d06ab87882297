/- the number at the beginning of a text -/
import Derived.Test.YtjngkapfngempaaDoorByt3
namespace Byt
open Go Dcm
def preP (l : List UInt8) : Nat := if isAt l (run bl l) 45 || isAt l (run bl l) 43 then run bl l + 1 else run bl l
def preNeg (l : List UInt8) : Bool := isAt l (run bl l) 45
def preM (l : List UInt8) : Nat := run dg (l.drop (preP l))
def preK (l : List UInt8) : Nat := run dg (l.drop (preP l + preM l + 1))
def preU (l : List UInt8) : Bool := isAt l (preP l + preM l) 46 && (decide (0 < preM l) || decide (0 < preK l))
def preEmpty (l : List UInt8) : Bool := decide (preM l = 0) && !preU l
def preF (l : List UInt8) : List UInt8 := if preU l then (l.drop (preP l + preM l + 1)).take (preK l) else []
def preA (l : List UInt8) : Int := min 10000000000000 (valueV ((l.drop (preP l)).take (preM l)) (preF l))
def preV (l : List UInt8) : Int := if preEmpty l then 0 else if preNeg l then -(preA l) else preA l
def preN (l : List UInt8) : Nat := if preEmpty l then 0 else if preU l then preP l + preM l + 1 + preK l else preP l + preM l
structure PreI (l : List UInt8) (neg dot : Bool) (p n k : Nat) : Prop where
  hp : preP l = p
  hneg : preNeg l = neg
  hn : run dg (l.drop p) = n
  hk : run dg (l.drop (p + n + 1)) = k
  hd : isAt l (p + n) 46 = dot
variable {l : List UInt8} {neg dot : Bool} {p n k : Nat}
theorem PreI.m (h : PreI l neg dot p n k) : preM l = n := by unfold preM; rw [h.hp, h.hn]
theorem PreI.k' (h : PreI l neg dot p n k) : preK l = k := by unfold preK; rw [h.m, h.hp, h.hk]
theorem PreI.u (h : PreI l neg dot p n k) : preU l = (dot && (decide (0 < n) || decide (0 < k))) := by unfold preU; rw [h.m, h.k', h.hp, h.hd]
theorem PreI.empty (h : PreI l neg dot p n k) (h0 : n = 0) (h1 : dot = false ∨ k = 0) : preV l = 0 ∧ preN l = 0 := by
  have hu : preU l = false := by rw [h.u, h0]; rcases h1 with h1 | h1 <;> simp [h1]
  have he : preEmpty l = true := by unfold preEmpty; rw [h.m, hu, h0]; rfl
  unfold preV preN
  rw [he]; exact ⟨rfl, rfl⟩
theorem PreI.use (h : PreI l neg true p n k) (h0 : 0 < n ∨ 0 < k) : preV l = (if neg then -(min 10000000000000 (valueV ((l.drop p).take n) ((l.drop (p + n + 1)).take k))) else min 10000000000000 (valueV ((l.drop p).take n) ((l.drop (p + n + 1)).take k))) ∧ preN l = p + n + 1 + k := by
  have hu : preU l = true := by rw [h.u]; simpa using h0
  have he : preEmpty l = false := by unfold preEmpty; rw [hu]; simp
  unfold preV preN preA preF
  rw [he, hu, h.hneg, h.m, h.k', h.hp]; exact ⟨rfl, rfl⟩
theorem PreI.nouse (h : PreI l neg false p n k) (h0 : 0 < n) : preV l = (if neg then -(min 10000000000000 (valueV ((l.drop p).take n) [])) else min 10000000000000 (valueV ((l.drop p).take n) [])) ∧ preN l = p + n := by
  have hu : preU l = false := by rw [h.u]; rfl
  have he : preEmpty l = false := by unfold preEmpty; rw [hu, h.m]; simp; omega
  unfold preV preN preA preF
  rw [he, hu, h.hneg, h.m, h.hp]; exact ⟨rfl, rfl⟩
theorem run_hit (q : UInt8 → Bool) : ∀ (l : List UInt8) (j : Nat), j < run q l → ∃ c, l[j]? = some c ∧ q c = true := by
  intro l
  induction l with
  | nil => intro j h; simp [run] at h
  | cons x r ih =>
    intro j h
    simp only [run] at h
    split at h
    · rename_i hx
      cases j with
      | zero => exact ⟨x, rfl, hx⟩
      | succ j => exact ih j (by omega)
    · omega
theorem run_miss (q : UInt8 → Bool) : ∀ (l : List UInt8) (c : UInt8), l[run q l]? = some c → q c = false := by
  intro l
  induction l with
  | nil => intro c h; simp at h
  | cons x r ih =>
    intro c h
    simp only [run] at h
    split at h
    · exact ih c (by simpa using h)
    · rename_i hx
      simp at h
      subst h
      simpa using hx
theorem bl_hit (s : ByteArray) (j : Nat) (h : j < run bl s.data.toList) : ∃ hs : j < s.size, (s[j].toNat : Int) = 32 ∨ (s[j].toNat : Int) = 9 := by
  have hs : j < s.size := Nat.lt_of_lt_of_le h (run_le_size _ _)
  obtain ⟨c, h1, h2⟩ := run_hit bl _ j h
  rw [get_list s j hs] at h1
  injection h1 with h1
  refine ⟨hs, ?_⟩
  rw [h1]
  simp [bl] at h2
  omega
theorem bl_miss (s : ByteArray) (h : run bl s.data.toList < s.size) : ¬ ((s[run bl s.data.toList].toNat : Int) = 32) ∧ ¬ ((s[run bl s.data.toList].toNat : Int) = 9) := by
  have := run_miss bl _ _ (get_list s _ h)
  simp [bl] at this
  omega
theorem fr_take (j : Nat) : ∀ (l : List UInt8) (d : Int), fr j (l.take j) d = fr j l d := by
  induction j with
  | zero => intro l d; rfl
  | succ j ih =>
    intro l d
    cases l with
    | nil => rfl
    | cons c r => simp only [List.take_succ_cons, fr]; exact ih r _
theorem number_take (a f : List UInt8) : numberV a (f.take 4) = numberV a f ∧ numberB a (f.take 4) = numberB a f := by
  unfold numberV numberB
  cases val a 0 with
  | none => exact ⟨rfl, rfl⟩
  | some v => simp only; rw [fr_take]; exact ⟨rfl, rfl⟩
theorem num_min (a f : List UInt8) (hb : numberB a f = true) : min 10000000000000 (valueV a f) = numberV a f := by
  obtain ⟨h1, h2⟩ := num_ok a f hb
  rw [h1]; omega
theorem num_max (a f : List UInt8) (hb : numberB a f = false) : min 10000000000000 (valueV a f) = 10000000000000 := by
  rw [num_no a f hb]; rfl
end Byt
