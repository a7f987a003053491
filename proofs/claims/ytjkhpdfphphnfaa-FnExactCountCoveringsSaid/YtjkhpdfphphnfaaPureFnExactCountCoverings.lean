/- For all lists of numbers and each rest the program's CountCoverings and the reference's answer alike, and the lists stay. Conditions: each list takes at most 140737488351232 bytes, the rest is a number of 64 bits. -/
import Derived.Test.YtjkhpdfphphnfaaPFnExactCountCoveringsx
namespace Go.Proofs.Ytjkhpdfphphnfaa.Pure
open Go.RowKit Go.Proofs.Ytjkhpdfphphnfaa.PFnExactCountCoverings Go.Proofs.YtjkhpdfphphnfaaW.PrintWords Go.Proofs.YtjkhpdfphphnfaaW.PrintLast Go.Proofs.YtjkhpdfphphnfaaW.PrintMore

set_option linter.unusedVariables false
set_option linter.unusedSimpArgs false
def inB (a b c : Int) : Bool := decide (b ≤ a ∧ a ≤ c)
theorem inB_true {a b c : Int} (h : inB a b c = true) : b ≤ a ∧ a ≤ c := of_decide_eq_true h
theorem inB_mk {a b c : Int} (h : b ≤ a ∧ a ≤ c) : inB a b c = true := decide_eq_true h
theorem inB_not {a b c : Int} (h : ¬ (b ≤ a ∧ a ≤ c)) : inB a b c = false := decide_eq_false h
theorem inB_false {a b c : Int} (h : inB a b c = false) : ¬ (b ≤ a ∧ a ≤ c) := of_decide_eq_false h
theorem in_eq (a b c : Int) : spec_l1In.f a b c = some (inB a b c) := by
  unfold spec_l1In.f inB
  by_cases h : a ≥ b
  · rw [if_pos h]; congr 1; rw [decide_eq_decide]; omega
  · rw [if_neg h]; congr 1; symm; rw [decide_eq_false_iff_not]; omega
theorem within_eq (a b c : Int) : impl_within.f a b c = some (inB a b c) := by
  unfold impl_within.f inB
  by_cases h : b ≤ a
  · rw [if_pos h]; congr 1; rw [decide_eq_decide]; omega
  · rw [if_neg h]; congr 1; symm; rw [decide_eq_false_iff_not]; omega
theorem w64 {x : Int} (h0 : -9223372036854775808 ≤ x) (h1 : x < 9223372036854775808) : wrap64 x = x := by unfold wrap64; omega
theorem rd_mid (pre rest : List Int) (x i : Int) (h : i = pre.length) : rd (pre ++ x :: rest) i = x := by
  subst h; unfold rd; simp
theorem rd_mem (l : List Int) (x : Int) (h : x ∈ l) : ∃ i : Int, 0 ≤ i ∧ i < l.length ∧ rd l i = x := by
  obtain ⟨n, hn, e⟩ := List.mem_iff_getElem.1 h
  refine ⟨n, by omega, by omega, ?_⟩
  unfold rd
  rw [List.getD_eq_getElem?_getD, show ((n : Int)).toNat = n by omega, List.getElem?_eq_getElem hn, e]; rfl
theorem toIntS_l0 (l : List Int) (hl : l.length < 4611686018427387904) (d : Nat) : ∀ (k : Nat) (pre suf : List Int) (i : Int), pre.length = suf.length → i = pre.length → (∃ rest, l = pre ++ rest ∧ rest.length = d ∧ ∃ zs : List Int, suf ++ zs = suf ++ zs) → d < k → ∀ z : List Int, z.length = l.length → z.take pre.length = pre → laws_toIntS.l0 k l z i = some l := by
  induction d with
  | zero =>
    intro k pre suf i _ hi h hk z hz hzp
    obtain ⟨rest, rfl, hr, _⟩ := h
    obtain ⟨k, rfl⟩ : ∃ m, k = m + 1 := ⟨k - 1, by omega⟩
    obtain rfl : rest = [] := List.eq_nil_of_length_eq_zero hr
    simp only [laws_toIntS.l0]
    rw [List.append_nil] at hz ⊢
    rw [if_neg (by omega)]
    congr 1
    rw [← hzp, List.take_of_length_le (by omega)]
  | succ d ih =>
    intro k pre suf i hps hi h hk z hz hzp
    obtain ⟨rest, rfl, hr, _⟩ := h
    obtain ⟨k, rfl⟩ : ∃ m, k = m + 1 := ⟨k - 1, by omega⟩
    obtain ⟨x, rest, rfl⟩ : ∃ x r, rest = x :: r := by
      cases rest with
      | nil => simp at hr
      | cons x r => exact ⟨x, r, rfl⟩
    simp only [List.length_cons] at hr
    simp only [List.length_append, List.length_cons] at hz hl
    simp only [laws_toIntS.l0]
    rw [if_pos (by simp; omega), if_pos (by omega), if_pos (by omega), w64 (by omega) (by omega)]
    have hrd : rd (pre ++ x :: rest) i = x := by subst hi; unfold rd; simp
    rw [hrd]
    refine ih k (pre ++ [x]) (suf ++ [x]) (i + 1) (by simp [hps]) (by simp; omega) ⟨rest, by simp, by omega, [], rfl⟩ (by omega) _ (by simp [hz]) ?_
    subst hi
    have e : ((pre.length : Int)).toNat = pre.length := by simp
    rw [e, List.length_append, List.length_singleton, List.take_set, List.take_add_one, hzp, List.getElem?_eq_getElem (by omega)]
    simp
theorem toIntS_eq (l : List Int) (hl : l.length ≤ 35184372088832) {k : Nat} (hk : l.length < k) : laws_toIntS.f k l = some l := by
  unfold laws_toIntS.f
  rw [if_pos (by omega), if_pos (by simp; omega)]
  exact toIntS_l0 l (by omega) l.length k [] [] 0 rfl rfl ⟨l, rfl, rfl, [], rfl⟩ hk _ (by simp) rfl
theorem eqIntS_l0 (l : List Int) (hl : l.length < 4611686018427387904) (d : Nat) : ∀ (k : Nat) (i : Int), 0 ≤ i → (l.length : Int) - i ≤ d → d < k → laws_eqIntS.l0 k l l i = some true := by
  induction d with
  | zero =>
    intro k i h0 hd hk
    obtain ⟨k, rfl⟩ : ∃ m, k = m + 1 := ⟨k - 1, by omega⟩
    simp only [laws_eqIntS.l0]; rw [if_neg (by omega)]
  | succ d ih =>
    intro k i h0 hd hk
    obtain ⟨k, rfl⟩ : ∃ m, k = m + 1 := ⟨k - 1, by omega⟩
    simp only [laws_eqIntS.l0]
    by_cases hlt : i < (l.length : Int)
    · rw [if_pos hlt, if_pos h0, if_pos hlt, if_pos trivial, w64 (by omega) (by omega)]
      exact ih k (i + 1) (by omega) (by omega) (by omega)
    · rw [if_neg hlt]
theorem eqIntS_self (l : List Int) (hl : l.length < 4611686018427387904) {k : Nat} (hk : l.length < k) : laws_eqIntS.f k l l = some true := by
  unfold laws_eqIntS.f
  rw [if_pos rfl]
  exact eqIntS_l0 l hl l.length k 0 (by omega) (by omega) hk
/-- Planks, or gaps: 1..7 of them, each 1..100. -/
def PG (l : List Int) : Prop := (1 ≤ l.length ∧ l.length ≤ 7) ∧ ∀ i : Int, 0 ≤ i → i < l.length → 1 ≤ rd l i ∧ rd l i ≤ 100
theorem PG.mem {l : List Int} (h : PG l) : ∀ x ∈ l, 1 ≤ x ∧ x ≤ 100 := fun x hx => by
  obtain ⟨i, h0, h1, e⟩ := rd_mem l x hx
  rw [← e]; exact h.2 i h0 h1
theorem l1All_true (l : List Int) (hl : l.length ≤ 100) (lo hi : Int) (d : Nat) : ∀ (k : Nat) (i : Int), 0 ≤ i → (l.length : Int) - i ≤ d → d < k → (∀ j : Int, i ≤ j → j < l.length → lo ≤ rd l j ∧ rd l j ≤ hi) → spec_l1All.l0 k lo hi l (l.length : Int) i = some true := by
  induction d with
  | zero =>
    intro k i h0 hd hk h
    obtain ⟨k, rfl⟩ : ∃ m, k = m + 1 := ⟨k - 1, by omega⟩
    simp only [spec_l1All.l0]; rw [if_neg (by omega)]
  | succ d ih =>
    intro k i h0 hd hk h
    obtain ⟨k, rfl⟩ : ∃ m, k = m + 1 := ⟨k - 1, by omega⟩
    simp only [spec_l1All.l0]
    by_cases hlt : i < (l.length : Int)
    · rw [if_pos hlt, if_pos h0, if_pos hlt, in_eq, inB_mk (h i (by omega) hlt), w64 (by omega) (by omega)]
      exact ih k (i + 1) (by omega) (by omega) (by omega) (fun j h1 h2 => h j (by omega) h2)
    · rw [if_neg hlt]
theorem l1All_false (l : List Int) (hl : l.length ≤ 100) (lo hi : Int) (d : Nat) : ∀ (k : Nat) (i : Int), 0 ≤ i → (l.length : Int) - i ≤ d → d < k → (¬ ∀ j : Int, i ≤ j → j < l.length → lo ≤ rd l j ∧ rd l j ≤ hi) → spec_l1All.l0 k lo hi l (l.length : Int) i = some false := by
  induction d with
  | zero => intro k i h0 hd hk h; exact absurd (fun j h1 h2 => by omega) h
  | succ d ih =>
    intro k i h0 hd hk h
    obtain ⟨k, rfl⟩ : ∃ m, k = m + 1 := ⟨k - 1, by omega⟩
    simp only [spec_l1All.l0]
    by_cases hlt : i < (l.length : Int)
    · rw [if_pos hlt, if_pos h0, if_pos hlt, in_eq, w64 (by omega) (by omega)]
      by_cases hi1 : lo ≤ rd l i ∧ rd l i ≤ hi
      · rw [inB_mk hi1]
        exact ih k (i + 1) (by omega) (by omega) (by omega) (fun g => h (fun j h1 h2 => if e : j = i then by rw [e]; exact hi1 else g j (by omega) h2))
      · rw [inB_not hi1]; rfl
    · exact absurd (fun j h1 h2 => by omega) h
theorem within_true (l : List Int) (hl : l.length ≤ 100) (lo hi : Int) (d : Nat) : ∀ (k : Nat) (i : Int), 0 ≤ i → (l.length : Int) - i ≤ d → d < k → (∀ j : Int, i ≤ j → j < l.length → lo ≤ rd l j ∧ rd l j ≤ hi) → impl_areWithin.l0 l lo hi k i = some true := by
  induction d with
  | zero =>
    intro k i h0 hd hk h
    obtain ⟨k, rfl⟩ : ∃ m, k = m + 1 := ⟨k - 1, by omega⟩
    simp only [impl_areWithin.l0]; rw [if_neg (by omega)]
  | succ d ih =>
    intro k i h0 hd hk h
    obtain ⟨k, rfl⟩ : ∃ m, k = m + 1 := ⟨k - 1, by omega⟩
    simp only [impl_areWithin.l0]
    by_cases hlt : i < (l.length : Int)
    · rw [if_pos hlt, if_pos h0, within_eq, inB_mk (h i (by omega) hlt), w64 (by omega) (by omega)]
      exact ih k (i + 1) (by omega) (by omega) (by omega) (fun j h1 h2 => h j (by omega) h2)
    · rw [if_neg hlt]
theorem within_false (l : List Int) (hl : l.length ≤ 100) (lo hi : Int) (d : Nat) : ∀ (k : Nat) (i : Int), 0 ≤ i → (l.length : Int) - i ≤ d → d < k → (¬ ∀ j : Int, i ≤ j → j < l.length → lo ≤ rd l j ∧ rd l j ≤ hi) → impl_areWithin.l0 l lo hi k i = some false := by
  induction d with
  | zero => intro k i h0 hd hk h; exact absurd (fun j h1 h2 => by omega) h
  | succ d ih =>
    intro k i h0 hd hk h
    obtain ⟨k, rfl⟩ : ∃ m, k = m + 1 := ⟨k - 1, by omega⟩
    simp only [impl_areWithin.l0]
    by_cases hlt : i < (l.length : Int)
    · rw [if_pos hlt, if_pos h0, within_eq, w64 (by omega) (by omega)]
      by_cases hi1 : lo ≤ rd l i ∧ rd l i ≤ hi
      · rw [inB_mk hi1]
        exact ih k (i + 1) (by omega) (by omega) (by omega) (fun g => h (fun j h1 h2 => if e : j = i then by rw [e]; exact hi1 else g j (by omega) h2))
      · rw [inB_not hi1]; rfl
    · exact absurd (fun j h1 h2 => by omega) h
theorem plGood_true {l : List Int} (h : PG l) {k : Nat} (hk : 8 ≤ k) : spec_plGood.f k l = some true := by
  have h1 : (1 : Int) ≤ (l.length : Int) ∧ (l.length : Int) ≤ 7 := by have := h.1; omega
  have h2 := l1All_true l (by have := h.1; omega) 1 100 7 k 0 (by omega) (by omega) (by omega) h.2
  unfold spec_plGood.f spec_l1All.f
  rw [in_eq, inB_mk h1]
  simp only [Option.bind_some, if_true, h2]
theorem plGood_false {l : List Int} (h : ¬ PG l) {k : Nat} (hk : 8 ≤ k) : spec_plGood.f k l = some false := by
  by_cases h1 : (1 : Int) ≤ (l.length : Int) ∧ (l.length : Int) ≤ 7
  · have h2 := l1All_false l (by omega) 1 100 7 k 0 (by omega) (by omega) (by omega) (fun g => h ⟨by omega, g⟩)
    unfold spec_plGood.f spec_l1All.f
    rw [in_eq, inB_mk h1]
    simp only [Option.bind_some, if_true, h2]
  · unfold spec_plGood.f
    rw [in_eq, inB_not h1]; rfl
theorem arePlanks_true {l : List Int} (h : PG l) : impl_ArePlanks.f l = some true := by
  have h1 : (1 : Int) ≤ (l.length : Int) ∧ (l.length : Int) ≤ 7 := by have := h.1; omega
  have h2 := within_true l (by have := h.1; omega) 1 100 l.length (l.length + 1) 0 (by omega) (by omega) (by omega) h.2
  unfold impl_ArePlanks.f impl_areWithin.f
  rw [within_eq, inB_mk h1]
  simp only [Option.bind_some, if_true, h2]
theorem arePlanks_false {l : List Int} (h : ¬ PG l) : impl_ArePlanks.f l = some false := by
  by_cases h1 : (1 : Int) ≤ (l.length : Int) ∧ (l.length : Int) ≤ 7
  · have h2 := within_false l (by omega) 1 100 l.length (l.length + 1) 0 (by omega) (by omega) (by omega) (fun g => h ⟨by omega, g⟩)
    unfold impl_ArePlanks.f impl_areWithin.f
    rw [within_eq, inB_mk h1]
    simp only [Option.bind_some, if_true, h2]
  · unfold impl_ArePlanks.f
    rw [within_eq, inB_not h1]; rfl
def Asked (g p : List Int) (r : Int) : Prop := PG g ∧ PG p ∧ 0 ≤ r ∧ r ≤ 10
theorem asked_true {g p : List Int} {r : Int} (h : Asked g p r) {k : Nat} (hk : 8 ≤ k) : spec_plAsked.f k g p r = some true := by
  unfold spec_plAsked.f spec_plRest.f
  rw [plGood_true h.1 hk, plGood_true h.2.1 hk, in_eq, inB_mk h.2.2]; rfl
theorem asked_false {g p : List Int} {r : Int} (h : ¬ Asked g p r) {k : Nat} (hk : 8 ≤ k) : spec_plAsked.f k g p r = some false := by
  unfold spec_plAsked.f spec_plRest.f
  by_cases h1 : PG g
  · by_cases h2 : PG p
    · rw [plGood_true h1 hk, plGood_true h2 hk, in_eq, inB_not (fun c => h ⟨h1, h2, c⟩)]; rfl
    · rw [plGood_true h1 hk, plGood_false h2 hk]; rfl
  · rw [plGood_false h1 hk]; rfl
theorem spanned_true {g p : List Int} {r : Int} (h : Asked g p r) : impl_areSpanned.f g p r = some true := by
  unfold impl_areSpanned.f impl_isRest.f
  rw [arePlanks_true h.1, arePlanks_true h.2.1, within_eq, inB_mk h.2.2]; rfl
theorem spanned_false {g p : List Int} {r : Int} (h : ¬ Asked g p r) : impl_areSpanned.f g p r = some false := by
  unfold impl_areSpanned.f impl_isRest.f
  by_cases h1 : PG g
  · by_cases h2 : PG p
    · rw [arePlanks_true h1, arePlanks_true h2, within_eq, inB_not (fun c => h ⟨h1, h2, c⟩)]; rfl
    · rw [arePlanks_true h1, arePlanks_false h2]; rfl
  · rw [arePlanks_false h1]; rfl
theorem law_of (g p : List Int) (r x : Int) (b : Bool) (hg : ¬ (g.length : Int) > 1048576) (hp : ¬ (p.length : Int) > 1048576) (hs : ∀ k, 1048600 ≤ k → spec_CountCoverings.f k g p r = some (x, b)) (hi : ∀ k, 1048600 ≤ k → impl_CountCoverings.f g p r = some (x, b)) : ∃ k, laws_FnExactCountCoverings.f k g p r = some true := by
  obtain ⟨k, hk⟩ : ∃ k : Nat, 1048600 ≤ k := ⟨1048600, Nat.le_refl _⟩
  have hs1 := hs (k + 1) (by omega)
  have hi1 := hi (k + 1) (by omega)
  have t1 := toIntS_eq g (by omega) (show g.length < k + 1 by omega)
  have t2 := toIntS_eq p (by omega) (show p.length < k + 1 by omega)
  have t3 := toIntS_eq g (by omega) (show g.length < k by omega)
  have t4 := toIntS_eq p (by omega) (show p.length < k by omega)
  have e1 := eqIntS_self g (by omega) (show g.length < k by omega)
  have e2 := eqIntS_self p (by omega) (show p.length < k by omega)
  refine ⟨k + 1, ?_⟩
  unfold laws_FnExactCountCoverings.f
  rw [if_neg hg, if_neg hp]
  simp [t1, t2, hs1, hi1, laws_FnExactCountCoverings.j0, t3, t4, e1, e2]
theorem bounds {g p : List Int} {r : Int} (h : Asked g p r) : covB g p r := by
  obtain ⟨⟨⟨g1, g2⟩, g3⟩, ⟨⟨p1, p2⟩, p3⟩, r1, r2⟩ := h
  exact ⟨⟨g1, g2⟩, ⟨p1, p2⟩, ⟨r1, by omega⟩, fun i hi => by have := g3 (i : Int) (by omega) (by omega); omega, fun i hi => by have := p3 (i : Int) (by omega) (by omega); omega⟩
theorem FnExactCountCoverings : laws_FnExactCountCoverings.Pure := by
  intro g p r _ _ _ _ _ _ _
  by_cases h1 : (g.length : Int) > 1048576
  · exact ⟨0, by unfold laws_FnExactCountCoverings.f; rw [if_pos h1]⟩
  by_cases h2 : (p.length : Int) > 1048576
  · exact ⟨0, by unfold laws_FnExactCountCoverings.f; rw [if_neg h1, if_pos h2]⟩
  by_cases ha : Asked g p r
  · refine law_of g p r (cov g p r g.length [] 0) true h1 h2 (fun k hk => ?_) (fun k hk => ?_)
    · unfold spec_CountCoverings.f
      rw [asked_true ha (by omega), Option.bind_some, if_pos rfl, if_pos (bounds ha)]
    · unfold impl_CountCoverings.f
      rw [spanned_true ha, Option.bind_some, if_pos rfl, if_pos (bounds ha)]
  · refine law_of g p r 0 false h1 h2 (fun k hk => ?_) (fun k hk => ?_)
    · unfold spec_CountCoverings.f
      rw [asked_false ha (by omega)]; rfl
    · unfold impl_CountCoverings.f
      rw [spanned_false ha]; rfl

end Go.Proofs.Ytjkhpdfphphnfaa.Pure
