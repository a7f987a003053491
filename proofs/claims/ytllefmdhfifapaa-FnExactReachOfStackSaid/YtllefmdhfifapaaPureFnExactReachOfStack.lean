/- For all whole numbers the program's ReachOfStack and the reference's answer alike. Conditions: the argument is a number of 64 bits. -/
import Derived.Test.YtllefmdhfifapaaPFnExactReachOfStackx1
namespace Go.Proofs.Ytllefmdhfifapaa.Pure
open Go.RowKit Go.Proofs.Ytllefmdhfifapaa.PFnExactReachOfStack Go.Proofs.YtllefmdhfifapaaW.PrintWords Go.Proofs.YtllefmdhfifapaaW.PrintLast

def inB (a b c : Int) : Bool := decide (b ≤ a ∧ a ≤ c)
theorem inB_true {a b c : Int} (h : inB a b c = true) : b ≤ a ∧ a ≤ c := of_decide_eq_true h
theorem in_eq (a b c : Int) : spec_l1In.f a b c = some (inB a b c) := by
  unfold spec_l1In.f inB
  by_cases h : a ≥ b
  · rw [if_pos h]; congr 1; rw [decide_eq_decide]; omega
  · rw [if_neg h]; congr 1; symm; rw [decide_eq_false_iff_not]; omega
theorem within_eq (a b c : Int) : impl_within.f a b c = some (inB a b c) := by
  unfold impl_within.f inB
  by_cases h : b ≤ a
  · rw [if_pos h]; congr 1; rw [decide_eq_decide]; omega
  · rw [if_neg h]; congr 1; symm; rw [decide_eq_false_iff_not]; omega
theorem FnExactReachOfStack : laws_FnExactReachOfStack.Pure := by
  intro a0 _
  by_cases h : 1 ≤ a0 ∧ a0 ≤ 12
  · refine ⟨100, ?_⟩
    have hc : a0 = 1 ∨ a0 = 2 ∨ a0 = 3 ∨ a0 = 4 ∨ a0 = 5 ∨ a0 = 6 ∨ a0 = 7 ∨ a0 = 8 ∨ a0 = 9 ∨ a0 = 10 ∨ a0 = 11 ∨ a0 = 12 := by omega
    rcases hc with rfl | rfl | rfl | rfl | rfl | rfl | rfl | rfl | rfl | rfl | rfl | rfl <;> decide +kernel
  · refine ⟨0, ?_⟩
    unfold laws_FnExactReachOfStack.f spec_ReachOfStack.f impl_ReachOfStack.f
    have hb : inB a0 1 12 = false := decide_eq_false h
    simp [in_eq, within_eq, hb]

end Go.Proofs.Ytllefmdhfifapaa.Pure
