/- walks: the reference's Parse -/
import Derived.Test.YtjngkapfngempaaDoorWj
import Derived.Test.YtjngkapfngempaaDoorByt3
namespace Go.Proofs.YtjngkapfngempaaDoor
open Go.RowKit
open Dcm Byt
set_option linter.unusedVariables false
theorem rdigits_is (s : ByteArray) (a : Int) (A n K : Nat) (w : World) (hs : s.size ≤ 9223372036854775807) (ha : a = (A : Int)) (hA : A ≤ s.size) (hn : run dg (s.data.toList.drop A) = n) (hK : K = A + n) :
    Calls Tryd.prog 52 #[.string s, .int .i64 a] w fun e w' => e = .returned (.int .i64 (K : Int)) ∧ w = w' := by
  subst ha hn hK; exact rdigits_any s A w hs hA
theorem number_e (s : ByteArray) (w : World) (hs : s.size ≤ 9223372036854775807) (hd : Hid (∀ c ∈ s.data.toList, dg c = true)) :
    Calls Tryd.prog 53 #[.string s, .string { data := #[] }] w fun e w' => e = .returned (.tuple #[.int .i64 (numberV s.data.toList []), .bool (numberB s.data.toList [])]) ∧ w = w' :=
  number_any s { data := #[] } w hs (by decide) hd (Lib.hid (by simp))
theorem get_drop2 (s t : ByteArray) (F n K : Nat) (ht : t.data.toList = s.data.toList.drop F) (hn : n < t.size) (hK : K < s.size) (e : K = F + n) : t[n].toNat = s[K].toNat := by
  have h1 := get_list t n hn
  rw [ht, List.getElem?_drop, ← e, get_list s K hK] at h1
  injection h1 with h1
  rw [h1]
theorem get_drop (s t : ByteArray) (F : Nat) (ht : t.data.toList = s.data.toList.drop F) (hn : 0 < t.size) (hK : F < s.size) : t[0].toNat = s[F].toNat := get_drop2 s t F 0 F ht hn hK rfl
end Go.Proofs.YtjngkapfngempaaDoor
