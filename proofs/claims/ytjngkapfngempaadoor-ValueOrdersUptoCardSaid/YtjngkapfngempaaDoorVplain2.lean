/- plain: the results of operations on numbers -/
import Derived.Test.YtjngkapfngempaaDoorVplain
import Derived.Test.YtjngkapfngempaaDoorPlain2
namespace Vl
open Go Dcm Byt
/-- the operator: 0 .. 5, or 6 where it is none -/
def opN (op : List UInt8) : Nat := if op = [43] then 0 else if op = [45] then 1 else if op = [42] then 2 else if op = [47] then 3 else if op = [37] then 4 else if op = [94] then 5 else 6
def arV (o : Nat) (x y : Int) : Int := if o = 0 then addV x y else if o = 1 then subV x y else if o = 2 then mulV x y else if o = 3 then divV x y else if o = 4 then modV x y else if o = 5 then powV x (toInt y) else 0
def arE (o : Nat) (x y : Int) : Int := if o = 0 then addE x y else if o = 1 then subE x y else if o = 2 then mulE x y else if o = 3 then divE x y else if o = 4 then modE x y else if o = 5 then powE x (toInt y) else 7
theorem op_cases (op : ByteArray) : (opN op.data.toList = 0 ∧ op = ⟨#[43]⟩) ∨ (opN op.data.toList = 1 ∧ op = ⟨#[45]⟩) ∨ (opN op.data.toList = 2 ∧ op = ⟨#[42]⟩) ∨ (opN op.data.toList = 3 ∧ op = ⟨#[47]⟩) ∨ (opN op.data.toList = 4 ∧ op = ⟨#[37]⟩) ∨ (opN op.data.toList = 5 ∧ op = ⟨#[94]⟩) ∨
    (opN op.data.toList = 6 ∧ op.data.toList ≠ [43] ∧ op.data.toList ≠ [45] ∧ op.data.toList ≠ [42] ∧ op.data.toList ≠ [47] ∧ op.data.toList ≠ [37] ∧ op.data.toList ≠ [94]) := by
  obtain ⟨⟨l⟩⟩ := op
  show (opN l = 0 ∧ _) ∨ _
  by_cases h0 : l = [43]
  · subst h0; exact .inl ⟨rfl, rfl⟩
  by_cases h1 : l = [45]
  · subst h1; exact .inr (.inl ⟨rfl, rfl⟩)
  by_cases h2 : l = [42]
  · subst h2; exact .inr (.inr (.inl ⟨rfl, rfl⟩))
  by_cases h3 : l = [47]
  · subst h3; exact .inr (.inr (.inr (.inl ⟨rfl, rfl⟩)))
  by_cases h4 : l = [37]
  · subst h4; exact .inr (.inr (.inr (.inr (.inl ⟨rfl, rfl⟩))))
  by_cases h5 : l = [94]
  · subst h5; exact .inr (.inr (.inr (.inr (.inr (.inl ⟨rfl, rfl⟩)))))
  refine .inr (.inr (.inr (.inr (.inr (.inr ⟨?_, h0, h1, h2, h3, h4, h5⟩)))))
  unfold opN
  rw [if_neg h0, if_neg h1, if_neg h2, if_neg h3, if_neg h4, if_neg h5]
end Vl
