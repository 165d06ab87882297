/- walks: the distance of two places -/
import Derived.Test.YtnkpigibjicmaaaDoorVs
namespace Go.Proofs.YtnkpigibjicmaaaDoor
open Go.RowKit Go.Maps
open Pt
theorem far_any (a b : Int) (w : World) (h1 : -1152921504606846976 ≤ a ∧ a ≤ 1152921504606846976) (h2 : -1152921504606846976 ≤ b ∧ b ≤ 1152921504606846976) :
    Calls Tryd.prog 63 #[.int .i64 a, .int .i64 b] w fun e w' => e = .returned (.int .i64 (Pt.far a b)) ∧ w' = w := by
  have e1 : IntKind.i64.wrap (a - b) = a - b := IntWalk.i64_in _ (by omega)
  have e2 : IntKind.i64.wrap (b - a) = b - a := IntWalk.i64_in _ (by omega)
  have m : Hid (max (a - b) (b - a) = Pt.far a b) := Lib.hid (by unfold Pt.far; split <;> omega)
  go_enter Tryd.func63, Tryd.ntmps63
  go_wp2_with fail
  go_ret
  exact ⟨by rw [← m.out]; rfl, rfl⟩
end Go.Proofs.YtnkpigibjicmaaaDoor
