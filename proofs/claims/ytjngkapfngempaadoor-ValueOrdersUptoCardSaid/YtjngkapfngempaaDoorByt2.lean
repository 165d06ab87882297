/- the text of a number -/
import Derived.Test.YtjngkapfngempaaDoorByt
import Derived.Test.YtjngkapfngempaaDoorPlain
namespace Byt
open Go Dcm
def wholeP (l : List UInt8) : List UInt8 := l.take (run dg l)
def fracP (l : List UInt8) : List UInt8 := l.drop (run dg l + 1)
def isAt (l : List UInt8) (k : Nat) (c : UInt8) : Bool := decide (l[k]? = some c)
def endsBy (l : List UInt8) (c : UInt8) : Bool := decide (l.getLast? = some c)
def okF (f : List UInt8) : Bool := decide (1 ≤ f.length) && decide (f.length ≤ 4) && decide (run dg f = f.length) && !(endsBy f 48)
def okP (l : List UInt8) : Bool :=
  !(decide (run dg l = 0)) && !(decide (1 < run dg l) && isAt l 0 48) && (decide (run dg l = l.length) || (isAt l (run dg l) 46 && okF (fracP l)))
theorem get_list (s : ByteArray) (k : Nat) (h : k < s.size) : s.data.toList[k]? = some s[k] := by
  rw [List.getElem?_eq_getElem (by rw [← size_len]; exact h)]; rfl
theorem get_some (s : ByteArray) (k : Nat) (h : k < s.size) (c : UInt8) : s.data.toList[k]? = some c ↔ (s[k].toNat : Int) = (c.toNat : Int) := by
  rw [get_list s k h]
  constructor
  · intro h'; injection h' with h'; rw [h']
  · intro h'; congr 1; apply UInt8.toNat_inj.1; omega
theorem last_some (s : ByteArray) (h : s.size - 1 < s.size) (c : UInt8) : s.data.toList.getLast? = some c ↔ (s[s.size - 1].toNat : Int) = (c.toNat : Int) := by
  rw [← get_some s (s.size - 1) h, List.getLast?_eq_getElem?, ← size_len]
theorem isAt_t (s : ByteArray) (k : Nat) (h : k < s.size) (c : UInt8) (h' : (s[k].toNat : Int) = (c.toNat : Int)) : isAt s.data.toList k c = true := by
  unfold isAt; rw [decide_eq_true_eq]; exact (get_some s k h c).2 h'
theorem isAt_f (s : ByteArray) (k : Nat) (h : k < s.size) (c : UInt8) (h' : ¬ (s[k].toNat : Int) = (c.toNat : Int)) : isAt s.data.toList k c = false := by
  unfold isAt; rw [decide_eq_false_iff_not]; exact fun h2 => h' ((get_some s k h c).1 h2)
theorem isAt_e (s : ByteArray) (k : Nat) (h : s.size ≤ k) (c : UInt8) : isAt s.data.toList k c = false := by
  unfold isAt; rw [decide_eq_false_iff_not, List.getElem?_eq_none (by rw [← size_len]; exact h)]; simp
theorem ends_t (s : ByteArray) (h : s.size - 1 < s.size) (c : UInt8) (h' : (s[s.size - 1].toNat : Int) = (c.toNat : Int)) : endsBy s.data.toList c = true := by
  unfold endsBy; rw [decide_eq_true_eq]; exact (last_some s h c).2 h'
theorem ends_f (s : ByteArray) (h : s.size - 1 < s.size) (c : UInt8) (h' : ¬ (s[s.size - 1].toNat : Int) = (c.toNat : Int)) : endsBy s.data.toList c = false := by
  unfold endsBy; rw [decide_eq_false_iff_not]; exact fun h2 => h' ((last_some s h c).1 h2)
theorem run_le_size (p : UInt8 → Bool) (s : ByteArray) : run p s.data.toList ≤ s.size := by rw [size_len]; exact run_le _ _
/-- the parse of a whole text -/
def negL (l : List UInt8) : Bool := isAt l 0 45
def restL (l : List UInt8) : List UInt8 := if negL l then l.drop 1 else l
def parseOk (l : List UInt8) : Bool := okP (restL l) && !(negL l && decide (restL l = [48]))
def parseN (l : List UInt8) : Int := valueV (wholeP (restL l)) (fracP (restL l))
def parseV (l : List UInt8) : Int := if parseOk l then fitV (if negL l then -(parseN l) else parseN l) else 0
def parseE (l : List UInt8) : Int := if parseOk l then fitE (if negL l then -(parseN l) else parseN l) else 1
end Byt
