/- Stretches put in or taken out, in numbers alone. -/
import Derived.Test.YtjekgnoonlglcaaDoorSlotsPlays
namespace Go.Proofs.YtjekgnoonlglcaaDoor.PutR
open Go.Proofs.YtjekgnoonlglcaaDoor.Base Go.Proofs.YtjekgnoonlglcaaDoor.SetMath Go.Proofs.YtjekgnoonlglcaaDoor.SetAll Go.Proofs.YtjekgnoonlglcaaDoor.SlotsPlays
/-- What putting in (P) or taking out (not P) a stretch leaves. -/
def putR (P : Bool) (f : Nat → Bool) (a d : Nat) : Nat → Bool := fun y => if a ≤ y ∧ y < a + d then P else f y
def putS (P : Bool) (f : Nat → Bool) (x : Nat) : Nat → Bool := fun y => if y = x then P else f y
theorem putR_0 (P : Bool) (f : Nat → Bool) (a : Nat) : putR P f a 0 = f := by funext y; unfold putR; rw [if_neg (by omega)]
theorem putR_at (P : Bool) (f : Nat → Bool) (a d : Nat) : putR P f a d (a + d) = f (a + d) := by unfold putR; rw [if_neg (by omega)]
theorem putR_s (P : Bool) (f : Nat → Bool) (a d : Nat) : putS P (putR P f a d) (a + d) = putR P f a (d + 1) := by
  funext y; unfold putS putR
  by_cases hy : y = a + d
  · rw [if_pos hy, if_pos (by omega)]
  · rw [if_neg hy]
    by_cases h2 : a ≤ y ∧ y < a + d
    · rw [if_pos h2, if_pos (by omega)]
    · rw [if_neg h2, if_neg (by omega)]
theorem putS_self (P : Bool) (f : Nat → Bool) (x : Nat) (h : f x = P) : putS P f x = f := by
  funext y; unfold putS; split
  · rename_i e; rw [e, h]
  · rfl
theorem putR_true (f : Nat → Bool) (a d : Nat) : putR true f a d = addR f a d := rfl
theorem putR_false (f : Nat → Bool) (a d : Nat) : putR false f a d = subR f a d := rfl
theorem putS_true (f : Nat → Bool) (a : Nat) : putS true f a = addS f a := rfl
theorem putS_false (f : Nat → Bool) (a : Nat) : putS false f a = subS f a := rfl
theorem step_cv (f : Nat → Bool) (a j : Nat) : decide (0 < cntR f a (j + 1)) = (decide (0 < cntR f a j) || f (a + j)) ∧ decide (cntR f a (j + 1) = j + 1) = (decide (cntR f a j = j) && f (a + j)) := by
  have hl := cntR_le f a j
  rw [cntR_s]
  cases f (a + j)
  · constructor
    · simp
    · simp; omega
  · constructor
    · simp
    · simp
theorem cntR_put_full (f : Nat → Bool) (a d : Nat) : cntR (putR true f a d) a d = d := (cntR_full _ a d).2 fun i hi => by unfold putR; rw [if_pos (by omega)]
theorem cntR_put_none (f : Nat → Bool) (a d : Nat) : cntR (putR false f a d) a d = 0 := by
  have := (cntR_pos (putR false f a d) a d)
  cases h : cntR (putR false f a d) a d with
  | zero => rfl
  | succ n =>
    obtain ⟨i, hi, hf⟩ := this.1 (by omega)
    unfold putR at hf
    rw [if_pos (by omega)] at hf
    cases hf
/-- How many a stretch changes. -/
theorem cntR_chg_s (P : Bool) (f : Nat → Bool) (a d : Nat) : cntR (fun y => f y != P) a (d + 1) = cntR (fun y => f y != P) a d + if f (a + d) != P then 1 else 0 := cntR_s _ a d
end Go.Proofs.YtjekgnoonlglcaaDoor.PutR
