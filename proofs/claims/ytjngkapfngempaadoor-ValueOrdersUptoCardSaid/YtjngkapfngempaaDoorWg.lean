/- walks: rounding -/
import Derived.Test.YtjngkapfngempaaDoorWa
import Derived.Test.YtjngkapfngempaaDoorPlain2
namespace Go.Proofs.YtjngkapfngempaaDoor
open Go.RowKit
open Dcm
structure Units (w : World) : Prop where
  u0 : w.cell? ⟨0, 0, none⟩ = some (.int .i64 10000)
  u1 : w.cell? ⟨0, 1, none⟩ = some (.int .i64 1000)
  u2 : w.cell? ⟨0, 2, none⟩ = some (.int .i64 100)
  u3 : w.cell? ⟨0, 3, none⟩ = some (.int .i64 10)
  u4 : w.cell? ⟨0, 4, none⟩ = some (.int .i64 1)
theorem Units.drewN {w : World} (h : Units w) (n : Nat) : Units (w.drewN n) := ⟨h.u0, h.u1, h.u2, h.u3, h.u4⟩
theorem unit_cases (p : Int) : (p ≤ 0 ∧ unitI p = 10000) ∨ (p = 1 ∧ unitI p = 1000) ∨ (p = 2 ∧ unitI p = 100) ∨ (p = 3 ∧ unitI p = 10) ∨ (4 ≤ p ∧ unitI p = 1) := by
  unfold unitI
  by_cases h0 : p ≤ 0
  · simp [h0]
  · by_cases h1 : p = 1
    · simp [h1]
    · by_cases h2 : p = 2
      · simp [h2]
      · by_cases h3 : p = 3
        · simp [h3]
        · simp [h0, h1, h2, h3]; omega
theorem round_lt (d p : Int) (h : near d < 0) : roundD d p = -((-(near d) + (unitI p) / 2) / (unitI p) * (unitI p)) := by
  have := (near_neg d).1 h
  simp [roundD, this]
theorem round_ge (d p : Int) (h : 0 ≤ near d) : roundD d p = (near d + (unitI p) / 2) / (unitI p) * (unitI p) := by
  have : ¬ d < 0 := fun h' => by have := (near_neg d).2 h'; omega
  simp [roundD, this]

theorem round_lt' (d p N u : Int) (hN : near d = N) (h : N < 0) (hu : unitI p = u) : roundD d p = -((-N + u / 2) / u * u) := by rw [← hN, ← hu]; exact round_lt d p (by rw [hN]; exact h)
theorem round_ge' (d p N u : Int) (hN : near d = N) (h : 0 ≤ N) (hu : unitI p = u) : roundD d p = (N + u / 2) / u * u := by rw [← hN, ← hu]; exact round_ge d p (by rw [hN]; exact h)
theorem near_is (d N : Int) (w : World) (hN : near d = N) :
    Calls Tryd.prog 54 #[.int .i64 d] w fun e w' => e = .returned (.int .i64 N) ∧ w = w' := by rw [← hN]; exact near_any d w
theorem rnear_is (d N : Int) (w : World) (hN : near d = N) :
    Calls Tryd.prog 56 #[.int .i64 d] w fun e w' => e = .returned (.int .i64 N) ∧ w = w' := by rw [← hN]; exact rnear_any d w
def unitN (k : Nat) : Int := unitI k
theorem unitN_0 : unitN 0 = 10000 := rfl
theorem unitN_1 : unitN 1 = 1000 := rfl
theorem unitN_2 : unitN 2 = 100 := rfl
theorem unitN_3 : unitN 3 = 10 := rfl
theorem unitN_4 : unitN 4 = 1 := rfl
theorem unit_stop (p : Int) (k : Nat) (hk : k ≤ 4) (h1 : k = 0 ∨ (k : Int) ≤ p) (h2 : k = 4 ∨ p ≤ k) : unitN k = unitI p := by
  unfold unitN
  rcases h1 with rfl | h1
  · rcases h2 with h2 | h2
    · omega
    · rcases unit_cases p with ⟨hp, e⟩ | ⟨rfl, e⟩ | ⟨rfl, e⟩ | ⟨rfl, e⟩ | ⟨hp, e⟩ <;> first | omega | (rw [e]; rfl)
  · rcases h2 with rfl | h2
    · rcases unit_cases p with ⟨hp, e⟩ | ⟨rfl, e⟩ | ⟨rfl, e⟩ | ⟨rfl, e⟩ | ⟨hp, e⟩ <;> first | omega | (rw [e]; rfl)
    · rw [show p = (k : Int) from by omega]
theorem rround_lt (N : Int) (h : N < 0) : sz N = -N := by unfold sz; omega
theorem rround_ge (N : Int) (h : 0 ≤ N) : sz N = N := by unfold sz; omega
theorem rsize_is (N S : Int) (w : World) (h : sz N = S) (h1 : -10000000000000 ≤ N) (h2 : N ≤ 10000000000000) :
    Calls Tryd.prog 57 #[.int .i64 N] w fun e w' => e = .returned (.int .i64 S) ∧ w = w' := by rw [← h]; exact rsize_any N w h1 h2
end Go.Proofs.YtjngkapfngempaaDoor
