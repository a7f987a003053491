/- For all whole numbers the program's CanSpan and the reference's answer alike. Conditions: each argument is a number of 64 bits. -/
import Derived.Test.YtllefmdhfifapaaPFnExactCanSpanx1
namespace Go.Proofs.Ytllefmdhfifapaa.Pure
open Go.RowKit Go.Proofs.Ytllefmdhfifapaa.PFnExactCanSpan Go.Proofs.YtllefmdhfifapaaW.PrintWords Go.Proofs.YtllefmdhfifapaaW.PrintLast

def inB (a b c : Int) : Bool := decide (b ≤ a ∧ a ≤ c)
theorem inB_true {a b c : Int} (h : inB a b c = true) : b ≤ a ∧ a ≤ c := of_decide_eq_true h
theorem in_eq (a b c : Int) : spec_l1In.f a b c = some (inB a b c) := by
  unfold spec_l1In.f inB
  by_cases h : a ≥ b
  · rw [if_pos h]; congr 1; rw [decide_eq_decide]; omega
  · rw [if_neg h]; congr 1; symm; rw [decide_eq_false_iff_not]; omega
theorem within_eq (a b c : Int) : impl_within.f a b c = some (inB a b c) := by
  unfold impl_within.f inB
  by_cases h : b ≤ a
  · rw [if_pos h]; congr 1; rw [decide_eq_decide]; omega
  · rw [if_neg h]; congr 1; symm; rw [decide_eq_false_iff_not]; omega
theorem FnExactCanSpan : laws_FnExactCanSpan.Pure := by
  intro a0 a1 a2 _ _ _
  unfold laws_FnExactCanSpan.f spec_CanSpan.f impl_CanSpan.f spec_plRest.f spec_plSpans.f impl_isRest.f
  simp only [in_eq, within_eq, Option.bind_some]
  cases inB a0 1 100 <;> cases inB a1 1 100 <;> cases inB a2 0 10 <;> simp

end Go.Proofs.Ytllefmdhfifapaa.Pure
