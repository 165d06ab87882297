/- plain: what Parse returns, reckoned -/
import Derived.Test.YtlhagpfpcdedpaaDoorHr
namespace Go.Proofs.YtlhagpfpcdedpaaDoor
namespace Shp
/-- the loop with a bound that falls -/
def iterM {α : Type} (mu : α → Nat) (step : α → Option α) : Nat → α → α
  | 0, x => x
  | n + 1, x => match step x with
    | none => x
    | some y => if mu y < mu x then iterM mu step n y else x
def iterF {α : Type} (mu : α → Nat) (step : α → Option α) (x : α) : α := iterM mu step (mu x + 1) x
theorem iterM_eq {α : Type} (mu : α → Nat) (step : α → Option α) : ∀ (n : Nat) (x : α), mu x < n → iterM mu step n x = iter mu step x
  | 0, x, h => absurd h (Nat.not_lt_zero _)
  | n + 1, x, h => by
    rw [iterM, iter]
    cases hs : step x with
    | none => rfl
    | some y =>
      simp only
      by_cases hm : mu y < mu x
      · rw [if_pos hm, if_pos hm]; exact iterM_eq mu step n y (by omega)
      · rw [if_neg hm, if_neg hm]
theorem iter_F : @iter = @iterF := by
  funext α mu step x
  exact (iterM_eq mu step _ x (by omega)).symm
/-- a script of the examples -/
def awA : ByteArray := ⟨#[97, 32, 39, 98, 32, 99, 39, 32, 62, 32, 100, 32, 38, 38, 32, 33, 32, 101, 32, 124, 32, 102]⟩
def awB : ByteArray := ⟨#[97, 32, 124, 32, 124, 32, 98]⟩
theorem awA_is : paR awA = ([⟨[⟨[97], [[98, 32, 99]], [(2, [100])], 0⟩], false, 1⟩, ⟨[⟨[101], [], [], 17⟩, ⟨[102], [], [], 21⟩], true, 2⟩], 0, 0) := by
  unfold paR paS paI pa1 plS plI pl1 plB cmS cmI cm1 rdq sepN lfS lf1 rd nx skS tokS wordS wdS wd1 Shp.part quP quS
  rw [iter_F]
  kernel_rfl
theorem awB_is : paR awB = ([], 1, 4) := by
  unfold paR paS paI pa1 plS plI pl1 plB cmS cmI cm1 rdq sepN lfS lf1 rd nx skS tokS wordS wdS wd1 Shp.part quP quS
  rw [iter_F]
  kernel_rfl
end Shp
end Go.Proofs.YtlhagpfpcdedpaaDoor
