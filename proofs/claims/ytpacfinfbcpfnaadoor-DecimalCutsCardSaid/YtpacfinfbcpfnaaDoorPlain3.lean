/- plain laws of decimal numbers -/
import Derived.Test.YtpacfinfbcpfnaaDoorPlain2
namespace Dcm
/-- what DecimalNearest tests, at a unit u of a number d that is valid -/
structure Near (d p u r : Int) : Prop where
  un : unitI p = u
  eq : roundD d p = r
  lo : -10000000000000 ≤ r
  hi : r ≤ 10000000000000
  md : r.tmod u = 0
  half : 2 * sz (r - d) ≤ u
  again : roundD r p = r
  tie : 2 * sz (r - d) < u ∨ sz d < sz r
theorem round_u (d p u : Int) (h1 : -10000000000000 ≤ d) (h2 : d ≤ 10000000000000) (hu : unitI p = u) :
    roundD d p = if d < 0 then -((-d + u / 2) / u * u) else (d + u / 2) / u * u := by
  unfold roundD; rw [near_eq3 d h1 h2, hu]
theorem nearest (d p u : Int) (h1 : -10000000000000 ≤ d) (h2 : d ≤ 10000000000000) (hu : unitI p = u) (hc : u = 10000 ∨ u = 1000 ∨ u = 100 ∨ u = 10 ∨ u = 1) :
    ∃ r, Near d p u r := by
  have e := round_u d p u h1 h2 hu
  refine ⟨roundD d p, hu, rfl, ?_, ?_, ?_, ?_, ?_, ?_⟩
  all_goals (rcases hc with rfl | rfl | rfl | rfl | rfl)
  all_goals (by_cases hn : d < 0)
  all_goals simp only [hn, if_true, if_false] at e
  all_goals first
    | (rw [e]; omega)
    | (rw [e]; unfold sz; omega)
    | (rw [e, Int.tmod_eq_emod_of_nonneg (by omega)]; omega)
    | (rw [e, Int.neg_tmod, Int.tmod_eq_emod_of_nonneg (by omega)]; omega)
    | (rw [round_u _ p _ (by rw [e]; omega) (by rw [e]; omega) hu, e]; split <;> omega)
end Dcm
