/- For all whole numbers the program's SafeWalk and the reference's answer alike. Conditions: each argument is a number of 64 bits. -/
import Derived.Test.YtllefmdhfifapaaPFnExactSafeWalkx1
namespace Go.Proofs.Ytllefmdhfifapaa.Pure
open Go.RowKit Go.Proofs.Ytllefmdhfifapaa.PFnExactSafeWalk Go.Proofs.YtllefmdhfifapaaW.PrintWords Go.Proofs.YtllefmdhfifapaaW.PrintLast

def inB (a b c : Int) : Bool := decide (b ≤ a ∧ a ≤ c)
theorem inB_true {a b c : Int} (h : inB a b c = true) : b ≤ a ∧ a ≤ c := of_decide_eq_true h
theorem in_eq (a b c : Int) : spec_l1In.f a b c = some (inB a b c) := by
  unfold spec_l1In.f inB
  by_cases h : a ≥ b
  · rw [if_pos h]; congr 1; rw [decide_eq_decide]; omega
  · rw [if_neg h]; congr 1; symm; rw [decide_eq_false_iff_not]; omega
theorem within_eq (a b c : Int) : impl_within.f a b c = some (inB a b c) := by
  unfold impl_within.f inB
  by_cases h : b ≤ a
  · rw [if_pos h]; congr 1; rw [decide_eq_decide]; omega
  · rw [if_neg h]; congr 1; symm; rw [decide_eq_false_iff_not]; omega
theorem common_some (d : Nat) : ∀ (k : Nat) (a b : Int), 0 ≤ a → 0 ≤ b → b ≤ d → d < k → (0 < a ∨ 0 < b) → ∃ g, impl_common.l0 k a b = some g ∧ 0 < g := by
  induction d with
  | zero =>
    intro k a b ha hb hd hk hab
    obtain ⟨k, rfl⟩ : ∃ m, k = m + 1 := ⟨k - 1, by omega⟩
    refine ⟨a, ?_, by omega⟩
    simp only [impl_common.l0]; rw [if_neg (by omega)]
  | succ d ih =>
    intro k a b ha hb hd hk hab
    obtain ⟨k, rfl⟩ : ∃ m, k = m + 1 := ⟨k - 1, by omega⟩
    by_cases hb0 : b > 0
    · have hm := Int.tmod_nonneg b ha
      have hl : Int.tmod a b < b := Int.tmod_lt_of_pos a hb0
      obtain ⟨g, hg, hp⟩ := ih k b (Int.tmod a b) hb hm (by omega) (by omega) (Or.inl hb0)
      refine ⟨g, ?_, hp⟩
      simp only [impl_common.l0]; rw [if_pos hb0, if_neg (by omega)]; exact hg
    · refine ⟨a, ?_, by omega⟩
      simp only [impl_common.l0]; rw [if_neg hb0]
theorem common_pos (k : Nat) (a b : Int) (h : 0 < b) : impl_common.l0 (k + 1) a b = impl_common.l0 k b (Int.tmod a b) := by
  simp only [impl_common.l0]; rw [if_pos h, if_neg (by omega)]
theorem common_zero (k : Nat) (a : Int) : impl_common.l0 (k + 1) a 0 = some a := by
  simp only [impl_common.l0]; rw [if_neg (by omega)]
theorem low_eq (x0 x1 : Int) : ∀ (k : Nat) (a b : Int), spec_plLow.l0 k x0 x1 a b = (impl_common.l0 k a b).bind fun t => if t = 0 then none else some (wrap64 (Int.tdiv x0 t), wrap64 (Int.tdiv x1 t)) := by
  intro k
  induction k with
  | zero => intro a b; rfl
  | succ k ih =>
    intro a b
    simp only [spec_plLow.l0, impl_common.l0]
    by_cases hb : b > 0
    · rw [if_pos hb, if_pos hb, if_neg (by omega), if_neg (by omega)]; exact ih _ _
    · rw [if_neg hb, if_neg hb]; rfl
theorem low_f (k : Nat) (a b : Int) : spec_plLow.f k a b = impl_lowest.f k a b := low_eq a b k a b
theorem lowest_some (k : Nat) (a b : Int) (ha : 0 ≤ a) (hb : 0 ≤ b) (hab : 0 < a ∨ 0 < b) (hk : b < k) : ∃ r, impl_lowest.f k a b = some r := by
  obtain ⟨g, hg, hp⟩ := common_some b.toNat k a b ha hb (by omega) (by omega) hab
  refine ⟨(wrap64 (Int.tdiv a g), wrap64 (Int.tdiv b g)), ?_⟩
  unfold impl_lowest.f impl_common.f
  rw [hg]; simp only [Option.bind_some]; rw [if_neg (by omega)]
theorem SafeWalk_in (a0 a1 a2 a3 : Int) (h0 : 1 ≤ a0 ∧ a0 ≤ 100) (h1 : 0 ≤ a1 ∧ a1 ≤ Int.tdiv a0 2) (h2 : 1 ≤ a2 ∧ a2 ≤ 1000) (h3 : 1 ≤ a3 ∧ a3 ≤ 1000) :
    ∃ k r, spec_SafeWalk.j0 k a0 a1 a2 a3 false = some r ∧ impl_SafeWalk.j0 k a0 a1 a2 a3 false = some r := by
  have hd : Int.tdiv a0 2 = a0 / 2 := Int.tdiv_eq_ediv_of_nonneg (by omega)
  rw [hd] at h1
  have w1 : wrap64 (2 * a1) = 2 * a1 := by unfold wrap64; omega
  have w2 : wrap64 (a0 - 2 * a1) = a0 - 2 * a1 := by unfold wrap64; omega
  have w3 : wrap64 (2 * a3) = 2 * a3 := by unfold wrap64; omega
  have p0 : 0 ≤ a2 * (a0 - 2 * a1) := Int.mul_nonneg (by omega) (by omega)
  have p1 : a2 * (a0 - 2 * a1) ≤ 1000 * 100 := Int.mul_le_mul h2.2 (by omega) (by omega) (by omega)
  have q0 : 0 ≤ a1 * (2 * a3) := Int.mul_nonneg (by omega) (by omega)
  have q1 : a1 * (2 * a3) ≤ 100 * 2000 := Int.mul_le_mul (by omega) (by omega) (by omega) (by omega)
  have w4 : wrap64 (a2 * (a0 - 2 * a1)) = a2 * (a0 - 2 * a1) := by unfold wrap64; omega
  have w5 : wrap64 (a1 * (2 * a3)) = a1 * (2 * a3) := by unfold wrap64; omega
  obtain ⟨n, hn⟩ : ∃ n, a2 * (a0 - 2 * a1) = n := ⟨_, rfl⟩
  rw [hn] at p0 p1 w4
  by_cases hgt : n > a1 * (2 * a3)
  · refine ⟨4, (a1, 1, true), ?_, ?_⟩
    · simp only [spec_SafeWalk.j0, w1, w2, w3, hn, w4, w5]
      rw [if_neg (by simp), if_pos (by omega)]
    · simp only [impl_SafeWalk.j0, w1, w2, w3, hn, w4, w5]
      rw [if_neg (by simp), if_pos hgt]
      have t1 : Int.tmod a1 1 = 0 := Int.tmod_one a1
      have t2 : Int.tdiv a1 1 = a1 := Int.tdiv_one a1
      have t3 : wrap64 a1 = a1 := by unfold wrap64; omega
      have t5 : wrap64 1 = 1 := by unfold wrap64; omega
      have c1 : impl_common.f 3 a1 1 = some 1 := by
        unfold impl_common.f
        show impl_common.l0 (1 + 1 + 1) a1 1 = some 1
        rw [common_pos _ _ _ (by omega), t1, common_zero]
      unfold impl_lowest.f
      rw [c1]; simp only [Option.bind_some]; rw [if_neg (by omega), t2, Int.tdiv_one, t3, t5]; rfl
  · by_cases heq : n = a1 * (2 * a3)
    · refine ⟨2003, (a1, 1, true), ?_, ?_⟩
      · simp only [spec_SafeWalk.j0, w1, w2, w3, hn, w4, w5]
        rw [if_neg (by simp), if_pos (by omega)]
      · simp only [impl_SafeWalk.j0, w1, w2, w3, hn, w4, w5]
        rw [if_neg (by simp), if_neg hgt]
        have t1 : Int.tmod n (2 * a3) = 0 := by rw [heq]; exact Int.mul_tmod_left a1 (2 * a3)
        have t2 : Int.tdiv n (2 * a3) = a1 := by rw [heq]; exact Int.mul_tdiv_cancel a1 (by omega)
        have t3 : Int.tdiv (2 * a3) (2 * a3) = 1 := Int.tdiv_self (by omega)
        have t4 : wrap64 a1 = a1 := by unfold wrap64; omega
        have t5 : wrap64 1 = 1 := by unfold wrap64; omega
        have c1 : impl_common.f 2002 n (2 * a3) = some (2 * a3) := by
          unfold impl_common.f
          show impl_common.l0 (2000 + 1 + 1) n (2 * a3) = some (2 * a3)
          rw [common_pos _ _ _ (by omega), t1, common_zero]
        unfold impl_lowest.f
        rw [c1]; simp only [Option.bind_some]; rw [if_neg (by omega), t2, t3, t4, t5]; rfl
    · obtain ⟨r, hr⟩ := lowest_some 2002 n (2 * a3) p0 (by omega) (Or.inr (by omega)) (by omega)
      refine ⟨2003, (r.1, r.2, true), ?_, ?_⟩
      · simp only [spec_SafeWalk.j0, w1, w2, w3, hn, w4, w5]
        rw [if_neg (by simp), if_neg (by omega), low_f, hr]; rfl
      · simp only [impl_SafeWalk.j0, w1, w2, w3, hn, w4, w5]
        rw [if_neg (by simp), if_neg hgt, hr]; rfl
theorem FnExactSafeWalk : laws_FnExactSafeWalk.Pure := by
  intro a0 a1 a2 a3 _ _ _ _
  cases h0 : inB a0 1 100
  · exact ⟨1, by unfold laws_FnExactSafeWalk.f spec_SafeWalk.f impl_SafeWalk.f impl_isLaid.f; simp [in_eq, within_eq, h0, spec_SafeWalk.j0, impl_SafeWalk.j0]⟩
  have g0 := inB_true h0
  have hd : Int.tdiv a0 2 = a0 / 2 := Int.tdiv_eq_ediv_of_nonneg (by omega)
  have hw : wrap64 (Int.tdiv a0 2) = Int.tdiv a0 2 := by rw [hd]; unfold wrap64; omega
  cases h2 : inB a2 1 1000
  · refine ⟨1, ?_⟩
    unfold laws_FnExactSafeWalk.f spec_SafeWalk.f impl_SafeWalk.f spec_plWeight.f impl_isLaid.f
    cases h1 : inB a1 0 (Int.tdiv a0 2) <;> simp only [in_eq, within_eq, hw, h0, h1, h2, Option.bind_some, if_true] <;> simp [spec_SafeWalk.j0, impl_SafeWalk.j0]
  cases h3 : inB a3 1 1000
  · refine ⟨1, ?_⟩
    unfold laws_FnExactSafeWalk.f spec_SafeWalk.f impl_SafeWalk.f spec_plWeight.f impl_isLaid.f
    cases h1 : inB a1 0 (Int.tdiv a0 2) <;> simp only [in_eq, within_eq, hw, h0, h1, h2, h3, Option.bind_some, if_true] <;> simp [spec_SafeWalk.j0, impl_SafeWalk.j0]
  cases h1 : inB a1 0 (Int.tdiv a0 2)
  · refine ⟨1, ?_⟩
    unfold laws_FnExactSafeWalk.f spec_SafeWalk.f impl_SafeWalk.f spec_plWeight.f impl_isLaid.f
    simp only [in_eq, within_eq, hw, h0, h1, h2, h3, Option.bind_some, if_true]; simp [spec_SafeWalk.j0, impl_SafeWalk.j0]
  obtain ⟨k, r, hs, hi⟩ := SafeWalk_in a0 a1 a2 a3 g0 (inB_true h1) (inB_true h2) (inB_true h3)
  refine ⟨k, ?_⟩
  unfold laws_FnExactSafeWalk.f spec_SafeWalk.f impl_SafeWalk.f spec_plWeight.f impl_isLaid.f
  simp only [in_eq, within_eq, hw, h0, h1, h2, h3, Option.bind_some, if_true, Bool.not_true, hs, hi]
  simp

end Go.Proofs.Ytllefmdhfifapaa.Pure
