/- For all whole numbers the program's LongestOver and the reference's answer alike. Conditions: each argument is a number of 64 bits. -/
import Derived.Test.YtllefmdhfifapaaPFnExactLongestOverx1
namespace Go.Proofs.Ytllefmdhfifapaa.Pure
open Go.RowKit Go.Proofs.Ytllefmdhfifapaa.PFnExactLongestOver Go.Proofs.YtllefmdhfifapaaW.PrintWords Go.Proofs.YtllefmdhfifapaaW.PrintLast

def inB (a b c : Int) : Bool := decide (b ≤ a ∧ a ≤ c)
theorem inB_true {a b c : Int} (h : inB a b c = true) : b ≤ a ∧ a ≤ c := of_decide_eq_true h
theorem in_eq (a b c : Int) : spec_l1In.f a b c = some (inB a b c) := by
  unfold spec_l1In.f inB
  by_cases h : a ≥ b
  · rw [if_pos h]; congr 1; rw [decide_eq_decide]; omega
  · rw [if_neg h]; congr 1; symm; rw [decide_eq_false_iff_not]; omega
theorem within_eq (a b c : Int) : impl_within.f a b c = some (inB a b c) := by
  unfold impl_within.f inB
  by_cases h : b ≤ a
  · rw [if_pos h]; congr 1; rw [decide_eq_decide]; omega
  · rw [if_neg h]; congr 1; symm; rw [decide_eq_false_iff_not]; omega
theorem common_some (d : Nat) : ∀ (k : Nat) (a b : Int), 0 ≤ a → 0 ≤ b → b ≤ d → d < k → (0 < a ∨ 0 < b) → ∃ g, impl_common.l0 k a b = some g ∧ 0 < g := by
  induction d with
  | zero =>
    intro k a b ha hb hd hk hab
    obtain ⟨k, rfl⟩ : ∃ m, k = m + 1 := ⟨k - 1, by omega⟩
    refine ⟨a, ?_, by omega⟩
    simp only [impl_common.l0]; rw [if_neg (by omega)]
  | succ d ih =>
    intro k a b ha hb hd hk hab
    obtain ⟨k, rfl⟩ : ∃ m, k = m + 1 := ⟨k - 1, by omega⟩
    by_cases hb0 : b > 0
    · have hm := Int.tmod_nonneg b ha
      have hl : Int.tmod a b < b := Int.tmod_lt_of_pos a hb0
      obtain ⟨g, hg, hp⟩ := ih k b (Int.tmod a b) hb hm (by omega) (by omega) (Or.inl hb0)
      refine ⟨g, ?_, hp⟩
      simp only [impl_common.l0]; rw [if_pos hb0, if_neg (by omega)]; exact hg
    · refine ⟨a, ?_, by omega⟩
      simp only [impl_common.l0]; rw [if_neg hb0]
theorem common_pos (k : Nat) (a b : Int) (h : 0 < b) : impl_common.l0 (k + 1) a b = impl_common.l0 k b (Int.tmod a b) := by
  simp only [impl_common.l0]; rw [if_pos h, if_neg (by omega)]
theorem common_zero (k : Nat) (a : Int) : impl_common.l0 (k + 1) a 0 = some a := by
  simp only [impl_common.l0]; rw [if_neg (by omega)]
theorem low_eq (x0 x1 : Int) : ∀ (k : Nat) (a b : Int), spec_plLow.l0 k x0 x1 a b = (impl_common.l0 k a b).bind fun t => if t = 0 then none else some (wrap64 (Int.tdiv x0 t), wrap64 (Int.tdiv x1 t)) := by
  intro k
  induction k with
  | zero => intro a b; rfl
  | succ k ih =>
    intro a b
    simp only [spec_plLow.l0, impl_common.l0]
    by_cases hb : b > 0
    · rw [if_pos hb, if_pos hb, if_neg (by omega), if_neg (by omega)]; exact ih _ _
    · rw [if_neg hb, if_neg hb]; rfl
theorem low_f (k : Nat) (a b : Int) : spec_plLow.f k a b = impl_lowest.f k a b := low_eq a b k a b
theorem lowest_some (k : Nat) (a b : Int) (ha : 0 ≤ a) (hb : 0 ≤ b) (hab : 0 < a ∨ 0 < b) (hk : b < k) : ∃ r, impl_lowest.f k a b = some r := by
  obtain ⟨g, hg, hp⟩ := common_some b.toNat k a b ha hb (by omega) (by omega) hab
  refine ⟨(wrap64 (Int.tdiv a g), wrap64 (Int.tdiv b g)), ?_⟩
  unfold impl_lowest.f impl_common.f
  rw [hg]; simp only [Option.bind_some]; rw [if_neg (by omega)]
theorem FnExactLongestOver : laws_FnExactLongestOver.Pure := by
  intro a0 a1 a2 _ _ _
  cases h0 : inB a0 1 100
  · exact ⟨0, by unfold laws_FnExactLongestOver.f spec_LongestOver.f impl_LongestOver.f impl_isLaid.f; simp [in_eq, within_eq, h0]⟩
  cases h1 : inB a1 1 1000
  · exact ⟨0, by unfold laws_FnExactLongestOver.f spec_LongestOver.f impl_LongestOver.f spec_plWeight.f impl_isLaid.f; simp [in_eq, within_eq, h0, h1]⟩
  cases h2 : inB a2 1 1000
  · exact ⟨0, by unfold laws_FnExactLongestOver.f spec_LongestOver.f impl_LongestOver.f spec_plWeight.f impl_isLaid.f; simp [in_eq, within_eq, h0, h1, h2]⟩
  have g0 := inB_true h0; have g1 := inB_true h1; have g2 := inB_true h2
  have p0 : 0 ≤ a1 * a0 := Int.mul_nonneg (by omega) (by omega)
  have p1 : a1 * a0 ≤ 1000 * 100 := Int.mul_le_mul g1.2 g0.2 (by omega) (by omega)
  have e0 : wrap64 (a1 * a0) = a1 * a0 := by unfold wrap64; omega
  have e1 : wrap64 (2 * wrap64 (a1 + a2)) = 2 * (a1 + a2) := by unfold wrap64; omega
  obtain ⟨r, hr⟩ := lowest_some 4001 (a1 * a0) (2 * (a1 + a2)) p0 (by omega) (Or.inr (by omega)) (by omega)
  refine ⟨4001, ?_⟩
  unfold laws_FnExactLongestOver.f spec_LongestOver.f impl_LongestOver.f spec_plWeight.f impl_isLaid.f
  simp [in_eq, within_eq, h0, h1, h2, low_f, e0, e1, hr]

end Go.Proofs.Ytllefmdhfifapaa.Pure
