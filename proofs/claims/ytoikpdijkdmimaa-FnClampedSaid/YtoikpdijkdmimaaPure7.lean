/-
  Plain facts on clamp. No program is in sight here.
-/
import Derived.Test.YtoikpdijkdmimaaPure
namespace Go.Proofs.Ytoikpdijkdmimaa.P
theorem clamp_bad (n a b : Int) (h : b < a) : clamp n a b = a := by
  unfold clamp
  rw [if_pos (.inr h)]
theorem clamp_in (n a b : Int) (h : ¬ b < a) : a ≤ clamp n a b ∧ clamp n a b ≤ b := by
  unfold clamp
  split
  · omega
  · split <;> omega
theorem clamp_same (n a b : Int) (h : a ≤ n ∧ n ≤ b) : clamp n a b = n := by
  unfold clamp
  rw [if_neg (by omega), if_neg (by omega)]
theorem clamp_twice (n a b : Int) (h : ¬ b < a) : clamp (clamp n a b) a b = clamp n a b := clamp_same _ _ _ (clamp_in n a b h)
theorem clamp_735 : clamp 7 3 5 = 5 := by decide
end Go.Proofs.Ytoikpdijkdmimaa.P
