/- For all lists of numbers and each rest the program's PlankForAll and the reference's answer alike, and the lists stay. Conditions: each list takes at most 140737488351232 bytes, the rest is a number of 64 bits. -/
import Derived.Test.YthekpfnijkhgjaaPFnExactPlankForAllx
namespace Go.Proofs.Ythekpfnijkhgjaa.Pure
open Go.RowKit Go.Proofs.Ythekpfnijkhgjaa.PFnExactPlankForAll Go.Proofs.YthekpfnijkhgjaaW.PrintWords Go.Proofs.YthekpfnijkhgjaaW.PrintLast Go.Proofs.YthekpfnijkhgjaaW.PrintMore

set_option linter.unusedVariables false
set_option linter.unusedSimpArgs false
def inB (a b c : Int) : Bool := decide (b ≤ a ∧ a ≤ c)
theorem inB_true {a b c : Int} (h : inB a b c = true) : b ≤ a ∧ a ≤ c := of_decide_eq_true h
theorem inB_mk {a b c : Int} (h : b ≤ a ∧ a ≤ c) : inB a b c = true := decide_eq_true h
theorem inB_not {a b c : Int} (h : ¬ (b ≤ a ∧ a ≤ c)) : inB a b c = false := decide_eq_false h
theorem inB_false {a b c : Int} (h : inB a b c = false) : ¬ (b ≤ a ∧ a ≤ c) := of_decide_eq_false h
theorem in_eq (a b c : Int) : spec_l1In.f a b c = some (inB a b c) := by
  unfold spec_l1In.f inB
  by_cases h : a ≥ b
  · rw [if_pos h]; congr 1; rw [decide_eq_decide]; omega
  · rw [if_neg h]; congr 1; symm; rw [decide_eq_false_iff_not]; omega
theorem within_eq (a b c : Int) : impl_within.f a b c = some (inB a b c) := by
  unfold impl_within.f inB
  by_cases h : b ≤ a
  · rw [if_pos h]; congr 1; rw [decide_eq_decide]; omega
  · rw [if_neg h]; congr 1; symm; rw [decide_eq_false_iff_not]; omega
theorem w64 {x : Int} (h0 : -9223372036854775808 ≤ x) (h1 : x < 9223372036854775808) : wrap64 x = x := by unfold wrap64; omega
theorem rd_mid (pre rest : List Int) (x i : Int) (h : i = pre.length) : rd (pre ++ x :: rest) i = x := by
  subst h; unfold rd; simp
theorem rd_mem (l : List Int) (x : Int) (h : x ∈ l) : ∃ i : Int, 0 ≤ i ∧ i < l.length ∧ rd l i = x := by
  obtain ⟨n, hn, e⟩ := List.mem_iff_getElem.1 h
  refine ⟨n, by omega, by omega, ?_⟩
  unfold rd
  rw [List.getD_eq_getElem?_getD, show ((n : Int)).toNat = n by omega, List.getElem?_eq_getElem hn, e]; rfl
theorem toIntS_l0 (l : List Int) (hl : l.length < 4611686018427387904) (d : Nat) : ∀ (k : Nat) (pre suf : List Int) (i : Int), pre.length = suf.length → i = pre.length → (∃ rest, l = pre ++ rest ∧ rest.length = d ∧ ∃ zs : List Int, suf ++ zs = suf ++ zs) → d < k → ∀ z : List Int, z.length = l.length → z.take pre.length = pre → laws_toIntS.l0 k l z i = some l := by
  induction d with
  | zero =>
    intro k pre suf i _ hi h hk z hz hzp
    obtain ⟨rest, rfl, hr, _⟩ := h
    obtain ⟨k, rfl⟩ : ∃ m, k = m + 1 := ⟨k - 1, by omega⟩
    obtain rfl : rest = [] := List.eq_nil_of_length_eq_zero hr
    simp only [laws_toIntS.l0]
    rw [List.append_nil] at hz ⊢
    rw [if_neg (by omega)]
    congr 1
    rw [← hzp, List.take_of_length_le (by omega)]
  | succ d ih =>
    intro k pre suf i hps hi h hk z hz hzp
    obtain ⟨rest, rfl, hr, _⟩ := h
    obtain ⟨k, rfl⟩ : ∃ m, k = m + 1 := ⟨k - 1, by omega⟩
    obtain ⟨x, rest, rfl⟩ : ∃ x r, rest = x :: r := by
      cases rest with
      | nil => simp at hr
      | cons x r => exact ⟨x, r, rfl⟩
    simp only [List.length_cons] at hr
    simp only [List.length_append, List.length_cons] at hz hl
    simp only [laws_toIntS.l0]
    rw [if_pos (by simp; omega), if_pos (by omega), if_pos (by omega), w64 (by omega) (by omega)]
    have hrd : rd (pre ++ x :: rest) i = x := by subst hi; unfold rd; simp
    rw [hrd]
    refine ih k (pre ++ [x]) (suf ++ [x]) (i + 1) (by simp [hps]) (by simp; omega) ⟨rest, by simp, by omega, [], rfl⟩ (by omega) _ (by simp [hz]) ?_
    subst hi
    have e : ((pre.length : Int)).toNat = pre.length := by simp
    rw [e, List.length_append, List.length_singleton, List.take_set, List.take_add_one, hzp, List.getElem?_eq_getElem (by omega)]
    simp
theorem toIntS_eq (l : List Int) (hl : l.length ≤ 35184372088832) {k : Nat} (hk : l.length < k) : laws_toIntS.f k l = some l := by
  unfold laws_toIntS.f
  rw [if_pos (by omega), if_pos (by simp; omega)]
  exact toIntS_l0 l (by omega) l.length k [] [] 0 rfl rfl ⟨l, rfl, rfl, [], rfl⟩ hk _ (by simp) rfl
theorem eqIntS_l0 (l : List Int) (hl : l.length < 4611686018427387904) (d : Nat) : ∀ (k : Nat) (i : Int), 0 ≤ i → (l.length : Int) - i ≤ d → d < k → laws_eqIntS.l0 k l l i = some true := by
  induction d with
  | zero =>
    intro k i h0 hd hk
    obtain ⟨k, rfl⟩ : ∃ m, k = m + 1 := ⟨k - 1, by omega⟩
    simp only [laws_eqIntS.l0]; rw [if_neg (by omega)]
  | succ d ih =>
    intro k i h0 hd hk
    obtain ⟨k, rfl⟩ : ∃ m, k = m + 1 := ⟨k - 1, by omega⟩
    simp only [laws_eqIntS.l0]
    by_cases hlt : i < (l.length : Int)
    · rw [if_pos hlt, if_pos h0, if_pos hlt, if_pos trivial, w64 (by omega) (by omega)]
      exact ih k (i + 1) (by omega) (by omega) (by omega)
    · rw [if_neg hlt]
theorem eqIntS_self (l : List Int) (hl : l.length < 4611686018427387904) {k : Nat} (hk : l.length < k) : laws_eqIntS.f k l l = some true := by
  unfold laws_eqIntS.f
  rw [if_pos rfl]
  exact eqIntS_l0 l hl l.length k 0 (by omega) (by omega) hk
/-- Planks, or gaps: 1..7 of them, each 1..100. -/
def PG (l : List Int) : Prop := (1 ≤ l.length ∧ l.length ≤ 7) ∧ ∀ i : Int, 0 ≤ i → i < l.length → 1 ≤ rd l i ∧ rd l i ≤ 100
theorem PG.mem {l : List Int} (h : PG l) : ∀ x ∈ l, 1 ≤ x ∧ x ≤ 100 := fun x hx => by
  obtain ⟨i, h0, h1, e⟩ := rd_mem l x hx
  rw [← e]; exact h.2 i h0 h1
theorem l1All_true (l : List Int) (hl : l.length ≤ 100) (lo hi : Int) (d : Nat) : ∀ (k : Nat) (i : Int), 0 ≤ i → (l.length : Int) - i ≤ d → d < k → (∀ j : Int, i ≤ j → j < l.length → lo ≤ rd l j ∧ rd l j ≤ hi) → spec_l1All.l0 k lo hi l (l.length : Int) i = some true := by
  induction d with
  | zero =>
    intro k i h0 hd hk h
    obtain ⟨k, rfl⟩ : ∃ m, k = m + 1 := ⟨k - 1, by omega⟩
    simp only [spec_l1All.l0]; rw [if_neg (by omega)]
  | succ d ih =>
    intro k i h0 hd hk h
    obtain ⟨k, rfl⟩ : ∃ m, k = m + 1 := ⟨k - 1, by omega⟩
    simp only [spec_l1All.l0]
    by_cases hlt : i < (l.length : Int)
    · rw [if_pos hlt, if_pos h0, if_pos hlt, in_eq, inB_mk (h i (by omega) hlt), w64 (by omega) (by omega)]
      exact ih k (i + 1) (by omega) (by omega) (by omega) (fun j h1 h2 => h j (by omega) h2)
    · rw [if_neg hlt]
theorem l1All_false (l : List Int) (hl : l.length ≤ 100) (lo hi : Int) (d : Nat) : ∀ (k : Nat) (i : Int), 0 ≤ i → (l.length : Int) - i ≤ d → d < k → (¬ ∀ j : Int, i ≤ j → j < l.length → lo ≤ rd l j ∧ rd l j ≤ hi) → spec_l1All.l0 k lo hi l (l.length : Int) i = some false := by
  induction d with
  | zero => intro k i h0 hd hk h; exact absurd (fun j h1 h2 => by omega) h
  | succ d ih =>
    intro k i h0 hd hk h
    obtain ⟨k, rfl⟩ : ∃ m, k = m + 1 := ⟨k - 1, by omega⟩
    simp only [spec_l1All.l0]
    by_cases hlt : i < (l.length : Int)
    · rw [if_pos hlt, if_pos h0, if_pos hlt, in_eq, w64 (by omega) (by omega)]
      by_cases hi1 : lo ≤ rd l i ∧ rd l i ≤ hi
      · rw [inB_mk hi1]
        exact ih k (i + 1) (by omega) (by omega) (by omega) (fun g => h (fun j h1 h2 => if e : j = i then by rw [e]; exact hi1 else g j (by omega) h2))
      · rw [inB_not hi1]; rfl
    · exact absurd (fun j h1 h2 => by omega) h
theorem within_true (l : List Int) (hl : l.length ≤ 100) (lo hi : Int) (d : Nat) : ∀ (k : Nat) (i : Int), 0 ≤ i → (l.length : Int) - i ≤ d → d < k → (∀ j : Int, i ≤ j → j < l.length → lo ≤ rd l j ∧ rd l j ≤ hi) → impl_areWithin.l0 l lo hi k i = some true := by
  induction d with
  | zero =>
    intro k i h0 hd hk h
    obtain ⟨k, rfl⟩ : ∃ m, k = m + 1 := ⟨k - 1, by omega⟩
    simp only [impl_areWithin.l0]; rw [if_neg (by omega)]
  | succ d ih =>
    intro k i h0 hd hk h
    obtain ⟨k, rfl⟩ : ∃ m, k = m + 1 := ⟨k - 1, by omega⟩
    simp only [impl_areWithin.l0]
    by_cases hlt : i < (l.length : Int)
    · rw [if_pos hlt, if_pos h0, within_eq, inB_mk (h i (by omega) hlt), w64 (by omega) (by omega)]
      exact ih k (i + 1) (by omega) (by omega) (by omega) (fun j h1 h2 => h j (by omega) h2)
    · rw [if_neg hlt]
theorem within_false (l : List Int) (hl : l.length ≤ 100) (lo hi : Int) (d : Nat) : ∀ (k : Nat) (i : Int), 0 ≤ i → (l.length : Int) - i ≤ d → d < k → (¬ ∀ j : Int, i ≤ j → j < l.length → lo ≤ rd l j ∧ rd l j ≤ hi) → impl_areWithin.l0 l lo hi k i = some false := by
  induction d with
  | zero => intro k i h0 hd hk h; exact absurd (fun j h1 h2 => by omega) h
  | succ d ih =>
    intro k i h0 hd hk h
    obtain ⟨k, rfl⟩ : ∃ m, k = m + 1 := ⟨k - 1, by omega⟩
    simp only [impl_areWithin.l0]
    by_cases hlt : i < (l.length : Int)
    · rw [if_pos hlt, if_pos h0, within_eq, w64 (by omega) (by omega)]
      by_cases hi1 : lo ≤ rd l i ∧ rd l i ≤ hi
      · rw [inB_mk hi1]
        exact ih k (i + 1) (by omega) (by omega) (by omega) (fun g => h (fun j h1 h2 => if e : j = i then by rw [e]; exact hi1 else g j (by omega) h2))
      · rw [inB_not hi1]; rfl
    · exact absurd (fun j h1 h2 => by omega) h
theorem plGood_true {l : List Int} (h : PG l) {k : Nat} (hk : 8 ≤ k) : spec_plGood.f k l = some true := by
  have h1 : (1 : Int) ≤ (l.length : Int) ∧ (l.length : Int) ≤ 7 := by have := h.1; omega
  have h2 := l1All_true l (by have := h.1; omega) 1 100 7 k 0 (by omega) (by omega) (by omega) h.2
  unfold spec_plGood.f spec_l1All.f
  rw [in_eq, inB_mk h1]
  simp only [Option.bind_some, if_true, h2]
theorem plGood_false {l : List Int} (h : ¬ PG l) {k : Nat} (hk : 8 ≤ k) : spec_plGood.f k l = some false := by
  by_cases h1 : (1 : Int) ≤ (l.length : Int) ∧ (l.length : Int) ≤ 7
  · have h2 := l1All_false l (by omega) 1 100 7 k 0 (by omega) (by omega) (by omega) (fun g => h ⟨by omega, g⟩)
    unfold spec_plGood.f spec_l1All.f
    rw [in_eq, inB_mk h1]
    simp only [Option.bind_some, if_true, h2]
  · unfold spec_plGood.f
    rw [in_eq, inB_not h1]; rfl
theorem arePlanks_true {l : List Int} (h : PG l) : impl_ArePlanks.f l = some true := by
  have h1 : (1 : Int) ≤ (l.length : Int) ∧ (l.length : Int) ≤ 7 := by have := h.1; omega
  have h2 := within_true l (by have := h.1; omega) 1 100 l.length (l.length + 1) 0 (by omega) (by omega) (by omega) h.2
  unfold impl_ArePlanks.f impl_areWithin.f
  rw [within_eq, inB_mk h1]
  simp only [Option.bind_some, if_true, h2]
theorem arePlanks_false {l : List Int} (h : ¬ PG l) : impl_ArePlanks.f l = some false := by
  by_cases h1 : (1 : Int) ≤ (l.length : Int) ∧ (l.length : Int) ≤ 7
  · have h2 := within_false l (by omega) 1 100 l.length (l.length + 1) 0 (by omega) (by omega) (by omega) (fun g => h ⟨by omega, g⟩)
    unfold impl_ArePlanks.f impl_areWithin.f
    rw [within_eq, inB_mk h1]
    simp only [Option.bind_some, if_true, h2]
  · unfold impl_ArePlanks.f
    rw [within_eq, inB_not h1]; rfl
def Asked (g p : List Int) (r : Int) : Prop := PG g ∧ PG p ∧ 0 ≤ r ∧ r ≤ 10
theorem asked_true {g p : List Int} {r : Int} (h : Asked g p r) {k : Nat} (hk : 8 ≤ k) : spec_plAsked.f k g p r = some true := by
  unfold spec_plAsked.f spec_plRest.f
  rw [plGood_true h.1 hk, plGood_true h.2.1 hk, in_eq, inB_mk h.2.2]; rfl
theorem asked_false {g p : List Int} {r : Int} (h : ¬ Asked g p r) {k : Nat} (hk : 8 ≤ k) : spec_plAsked.f k g p r = some false := by
  unfold spec_plAsked.f spec_plRest.f
  by_cases h1 : PG g
  · by_cases h2 : PG p
    · rw [plGood_true h1 hk, plGood_true h2 hk, in_eq, inB_not (fun c => h ⟨h1, h2, c⟩)]; rfl
    · rw [plGood_true h1 hk, plGood_false h2 hk]; rfl
  · rw [plGood_false h1 hk]; rfl
theorem spanned_true {g p : List Int} {r : Int} (h : Asked g p r) : impl_areSpanned.f g p r = some true := by
  unfold impl_areSpanned.f impl_isRest.f
  rw [arePlanks_true h.1, arePlanks_true h.2.1, within_eq, inB_mk h.2.2]; rfl
theorem spanned_false {g p : List Int} {r : Int} (h : ¬ Asked g p r) : impl_areSpanned.f g p r = some false := by
  unfold impl_areSpanned.f impl_isRest.f
  by_cases h1 : PG g
  · by_cases h2 : PG p
    · rw [arePlanks_true h1, arePlanks_true h2, within_eq, inB_not (fun c => h ⟨h1, h2, c⟩)]; rfl
    · rw [arePlanks_true h1, arePlanks_false h2]; rfl
  · rw [arePlanks_false h1]; rfl
/-- The greatest of numbers. -/
def maxF : List Int → Int → Int
  | [], m => m
  | x :: rest, m => maxF rest (if m < x then x else m)
theorem maxF_in (l : List Int) : ∀ m : Int, 0 ≤ m → m ≤ 100 → (∀ x ∈ l, 1 ≤ x ∧ x ≤ 100) → 0 ≤ maxF l m ∧ maxF l m ≤ 100 := by
  induction l with
  | nil => intro m h0 h1 _; exact ⟨h0, h1⟩
  | cons x l ih =>
    intro m h0 h1 h
    have hx := h x List.mem_cons_self
    exact ih _ (by split <;> omega) (by split <;> omega) (fun y hy => h y (List.mem_cons_of_mem _ hy))
theorem max_l0 (L : List Int) (hL : L.length ≤ 7) (rest : List Int) : ∀ (k : Nat) (pre : List Int) (m i : Int), L = pre ++ rest → i = pre.length → rest.length < k → slices_Max_int_int.l0 k L m i = some (maxF rest m) := by
  induction rest with
  | nil =>
    intro k pre m i hp hi hk
    obtain ⟨k, rfl⟩ : ∃ q, k = q + 1 := ⟨k - 1, by omega⟩
    have : L.length = pre.length := by rw [hp]; simp
    simp only [slices_Max_int_int.l0]
    rw [if_neg (by omega)]; rfl
  | cons x rest ih =>
    intro k pre m i hp hi hk
    simp only [List.length_cons] at hk
    obtain ⟨k, rfl⟩ : ∃ q, k = q + 1 := ⟨k - 1, by omega⟩
    have hlen : L.length = pre.length + (rest.length + 1) := by rw [hp]; simp
    have hrd : rd L i = x := by rw [hp]; exact rd_mid _ _ _ _ hi
    simp only [slices_Max_int_int.l0]
    rw [if_pos (by omega), if_pos (by omega), hrd, w64 (x := i + 1) (by omega) (by omega)]
    exact ih k (pre ++ [x]) _ (i + 1) (by rw [hp]; simp) (by simp; omega) (by omega)
theorem max_eq (g : List Int) (h : PG g) {k : Nat} (hk : 8 ≤ k) : slices_Max_int_int.f k g = some (maxF g 0) := by
  obtain ⟨h1, h2⟩ := h
  obtain ⟨x, rest, rfl⟩ : ∃ x r, g = x :: r := by
    cases g with
    | nil => simp at h1
    | cons x r => exact ⟨x, r, rfl⟩
  have hx := (PG.mem ⟨h1, h2⟩) x List.mem_cons_self
  unfold slices_Max_int_int.f
  simp only [List.length_cons] at h1
  rw [if_neg (by simp only [List.length_cons]; omega), if_pos (by simp only [List.length_cons]; omega)]
  have e : rd (x :: rest) 0 = x := rfl
  rw [e, max_l0 (x :: rest) (by simp; omega) rest k [x] x 1 rfl rfl (by omega)]
  simp only [maxF]
  rw [if_pos (by omega)]
theorem widest_l0 (p : List Int) (r : Int) (L : List Int) (hL : L.length ≤ 7) (rest : List Int) : ∀ (k : Nat) (pre : List Int) (m i : Int), L = pre ++ rest → i = pre.length → spec_PlankForAll.l0 (k + rest.length + 1) p r m L (L.length : Int) i = spec_PlankForAll.l1 k p r (maxF rest m) (-1) p (p.length : Int) 0 := by
  induction rest with
  | nil =>
    intro k pre m i hp hi
    have : L.length = pre.length := by rw [hp]; simp
    simp only [List.length_nil, spec_PlankForAll.l0]
    rw [if_neg (by omega)]; rfl
  | cons x rest ih =>
    intro k pre m i hp hi
    have hlen : L.length = pre.length + (rest.length + 1) := by rw [hp]; simp
    have hrd : rd L i = x := by rw [hp]; exact rd_mid _ _ _ _ hi
    have hmost : spec_l1Most.f m x = some (if m < x then x else m) := by
      unfold spec_l1Most.f
      by_cases h : m > x
      · rw [if_pos h, if_neg (by omega)]
      · rw [if_neg h]
        by_cases h2 : m < x
        · rw [if_pos h2]
        · rw [if_neg h2]; congr 1; omega
    show spec_PlankForAll.l0 ((k + rest.length + 1) + 1) p r m L (L.length : Int) i = _
    simp only [spec_PlankForAll.l0]
    rw [if_pos (by omega), if_pos (by omega), if_pos (by omega), hrd, hmost, w64 (x := i + 1) (by omega) (by omega)]
    simp only [Option.bind_some]
    exact ih k (pre ++ [x]) _ (i + 1) (by rw [hp]; simp) (by simp; omega)
theorem best_l1 (g : List Int) (hg : PG g) (r : Int) (hr : 0 ≤ r ∧ r ≤ 10) (L : List Int) (hL : L.length ≤ 7) (rest : List Int) : ∀ (k1 k2 : Nat) (pre : List Int) (best i : Int), L = pre ++ rest → i = pre.length → -1 ≤ best → best < L.length → rest.length < k1 → rest.length + 8 < k2 →
    ∃ z, spec_PlankForAll.l1 k1 L r (maxF g 0) best L (L.length : Int) i = some z ∧ impl_PlankForAll.l0 k2 g L r best L (L.length : Int) i = some z := by
  have hM := maxF_in g 0 (by omega) (by omega) hg.mem
  induction rest with
  | nil =>
    intro k1 k2 pre best i hp hi hb0 hb1 hk1 hk2
    obtain ⟨k1, rfl⟩ : ∃ q, k1 = q + 1 := ⟨k1 - 1, by omega⟩
    obtain ⟨k2, rfl⟩ : ∃ q, k2 = q + 1 := ⟨k2 - 1, by omega⟩
    have : L.length = pre.length := by rw [hp]; simp
    have hni : ¬ i < (L.length : Int) := by omega
    simp only [spec_PlankForAll.l1, impl_PlankForAll.l0]
    simp only [if_neg hni]
    by_cases hb : best < 0
    · simp only [if_pos hb]; exact ⟨_, rfl, rfl⟩
    · simp only [if_neg hb]; exact ⟨_, rfl, rfl⟩
  | cons x rest ih =>
    intro k1 k2 pre best i hp hi hb0 hb1 hk1 hk2
    simp only [List.length_cons] at hk1 hk2
    obtain ⟨k1, rfl⟩ : ∃ q, k1 = q + 1 := ⟨k1 - 1, by omega⟩
    obtain ⟨k2, rfl⟩ : ∃ q, k2 = q + 1 := ⟨k2 - 1, by omega⟩
    have hlen : L.length = pre.length + (rest.length + 1) := by rw [hp]; simp
    have hrd : rd L i = x := by rw [hp]; exact rd_mid _ _ _ _ hi
    have e1 : wrap64 (maxF g 0 + wrap64 (2 * r)) = maxF g 0 + 2 * r := by rw [w64 (x := 2 * r) (by omega) (by omega), w64 (by omega) (by omega)]
    have hgo := fun b hb0 hb1 => ih k1 k2 (pre ++ [x]) b (i + 1) (by rw [hp]; simp) (by simp; omega) hb0 hb1 (by omega) (by omega)
    have hi0 : 0 ≤ i := by omega
    have hi1 : i < (L.length : Int) := by omega
    have hmx := max_eq g hg (show 8 ≤ k2 by omega)
    have hw : wrap64 (i + 1) = i + 1 := w64 (by omega) (by omega)
    have hsp : spec_plSpans.f (maxF g 0) x r = some (decide (x ≥ maxF g 0 + 2 * r)) := by unfold spec_plSpans.f; rw [e1]
    simp only [spec_PlankForAll.l1, impl_PlankForAll.l0]
    simp only [if_pos hi0, if_pos hi1, hrd, hmx, hw, hsp, e1, Option.bind_some]
    by_cases hs : x ≥ maxF g 0 + 2 * r
    · simp only [decide_eq_true hs, if_pos hs, if_true]
      by_cases hb : best < 0
      · simp only [if_pos hb]; exact hgo i (by omega) hi1
      · have hb2 : 0 ≤ best := by omega
        simp only [if_neg hb, if_pos hb2, if_pos hb1]
        by_cases hc : x < rd L best
        · simp only [if_pos hc]; exact hgo i (by omega) hi1
        · simp only [if_neg hc]; exact hgo best hb0 hb1
    · rw [if_neg (by simpa using hs), if_neg hs]; exact hgo best hb0 hb1
theorem law_of (g p : List Int) (r x : Int) (b : Bool) (hg : ¬ (g.length : Int) > 1048576) (hp : ¬ (p.length : Int) > 1048576) (hs : ∀ k, 1048600 ≤ k → spec_PlankForAll.f k g p r = some (x, b)) (hi : ∀ k, 1048600 ≤ k → impl_PlankForAll.f k g p r = some (x, b)) : ∃ k, laws_FnExactPlankForAll.f k g p r = some true := by
  obtain ⟨k, hk⟩ : ∃ k : Nat, 1048600 ≤ k := ⟨1048600, Nat.le_refl _⟩
  have hs1 := hs (k + 1) (by omega)
  have hi1 := hi (k + 1) (by omega)
  have t1 := toIntS_eq g (by omega) (show g.length < k + 1 by omega)
  have t2 := toIntS_eq p (by omega) (show p.length < k + 1 by omega)
  have t3 := toIntS_eq g (by omega) (show g.length < k by omega)
  have t4 := toIntS_eq p (by omega) (show p.length < k by omega)
  have e1 := eqIntS_self g (by omega) (show g.length < k by omega)
  have e2 := eqIntS_self p (by omega) (show p.length < k by omega)
  refine ⟨k + 1, ?_⟩
  unfold laws_FnExactPlankForAll.f
  rw [if_neg hg, if_neg hp]
  simp [t1, t2, hs1, hi1, laws_FnExactPlankForAll.j0, t3, t4, e1, e2]
theorem FnExactPlankForAll : laws_FnExactPlankForAll.Pure := by
  intro g p r _ _ _ _ _ _ _
  by_cases h1 : (g.length : Int) > 1048576
  · exact ⟨0, by unfold laws_FnExactPlankForAll.f; rw [if_pos h1]⟩
  by_cases h2 : (p.length : Int) > 1048576
  · exact ⟨0, by unfold laws_FnExactPlankForAll.f; rw [if_neg h1, if_pos h2]⟩
  by_cases ha : Asked g p r
  · have hp7 := ha.2.1.1.2
    have hg7 := ha.1.1.2
    obtain ⟨z, hz1, hz2⟩ := best_l1 g ha.1 r ha.2.2 p hp7 p 100 100 [] (-1) 0 rfl rfl (by omega) (by omega) (by omega) (by omega)
    refine law_of g p r z.1 z.2 h1 h2 (fun k hk => ?_) (fun k hk => ?_)
    · have hk8 : 8 ≤ k := by omega
      obtain ⟨q, hq⟩ : ∃ q, k = q + g.length + 1 := ⟨k - g.length - 1, by omega⟩
      have hq100 : 100 ≤ q := by omega
      have hm : spec_PlankForAll.l1 q p r (maxF g 0) (-1) p (p.length : Int) 0 = some z := at_rounds (g := fun k => spec_PlankForAll.l1 k p r (maxF g 0) (-1) p (p.length : Int) 0) (fun k => (spec_PlankForAll.mono_l k).2 _ _ _ _ _ _ _) hq100 hz1
      unfold spec_PlankForAll.f
      rw [asked_true ha hk8]
      simp only [Option.bind_some, if_true]
      rw [hq, widest_l0 p r g hg7 g q [] 0 0 rfl rfl, hm]
    · have hk100 : 100 ≤ k := by omega
      have hm : impl_PlankForAll.l0 k g p r (-1) p (p.length : Int) 0 = some z := at_rounds (g := fun k => impl_PlankForAll.l0 k g p r (-1) p (p.length : Int) 0) (fun k => impl_PlankForAll.mono_l k _ _ _ _ _ _ _) hk100 hz2
      unfold impl_PlankForAll.f
      rw [spanned_true ha]
      simp only [Option.bind_some, if_true, hm]
  · refine law_of g p r 0 false h1 h2 (fun k hk => ?_) (fun k hk => ?_)
    · have hk8 : 8 ≤ k := by omega
      unfold spec_PlankForAll.f
      rw [asked_false ha hk8]; rfl
    · unfold impl_PlankForAll.f
      rw [spanned_false ha]; rfl

end Go.Proofs.Ythekpfnijkhgjaa.Pure
