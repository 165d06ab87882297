/- walks -/
import Derived.Test.YtbioflajonafdaaRows
import Derived.Test.YtbioflajonafdaaPa
import Derived.WalkKit
import Derived.WalkSpells
import Derived.WalkLawsBesides
import Derived.Lib.Hide
namespace Go.Proofs.Ytbioflajonafdaa
open Go.RowKit
open Dcm

theorem ret_int {k : IntKind} {a b : Int} (h : a = b) : Ending.returned (.int k a) = .returned (.int k b) := by rw [h]
theorem ret_bool {a b : Bool} (h : a = b) : Ending.returned (.bool a) = .returned (.bool b) := by rw [h]
theorem ret_ii {k l : IntKind} {a b c d : Int} (h : a = b) (h' : c = d) : Ending.returned (.tuple #[.int k a, .int l c]) = .returned (.tuple #[.int k b, .int l d]) := by rw [h, h']

theorem rnear_any (d : Int) (w : World) :
    Calls Try.prog 32 #[.int .i64 d] w fun e w' => e = .returned (.int .i64 (near d)) ∧ w = w' := by
  go_enter Try.func32, Try.ntmps32
  go_wp2
  all_goals go_ret
  all_goals exact ⟨ret_int (by unfold near; omega), rfl⟩
theorem rsize_any (d : Int) (w : World) (h1 : -10000000000000 ≤ d) (h2 : d ≤ 10000000000000) :
    Calls Try.prog 33 #[.int .i64 d] w fun e w' => e = .returned (.int .i64 (sz d)) ∧ w = w' := by
  go_enter Try.func33, Try.ntmps33
  go_wp2
  all_goals go_ret
  all_goals exact ⟨ret_int (by unfold sz; omega), rfl⟩
theorem w64 {n : Int} (h1 : -1000000000000000000 ≤ n) (h2 : n ≤ 1000000000000000000) : wrap64 n = n := by unfold wrap64; omega
theorem wdiv {x b : Int} (h : -1000000000000000000 ≤ x ∧ x ≤ 1000000000000000000) : wrap64 (x.tdiv b) = x.tdiv b :=
  w64 (tdiv_bd x b _ h.1 h.2).1 (tdiv_bd x b _ h.1 h.2).2
theorem wmod {x b : Int} (h : -100000000000000000 ≤ x ∧ x ≤ 100000000000000000) : wrap64 (x - wrap64 (wrap64 (x.tdiv b) * b)) = x.tmod b := by
  have := tmod_bd x b _ h.1 h.2
  rw [wdiv (by omega), tdiv_mul, w64 (n := x - x.tmod b) (by omega) (by omega), w64 (n := x - (x - x.tmod b)) (by omega) (by omega)]
  omega
end Go.Proofs.Ytbioflajonafdaa
