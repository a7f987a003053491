/- For all lists of numbers, each gap, rest and lap the program's FirstJoined and the reference's answer alike, the list stays, and the result is memory of its own. Conditions: the list takes at most 140737488351232 bytes, the numbers are numbers of 64 bits. -/
import Derived.Test.YtjkhpdfphphnfaaPFnExactFirstJoinedx
namespace Go.Proofs.Ytjkhpdfphphnfaa.Pure
open Go.RowKit Go.Proofs.Ytjkhpdfphphnfaa.PFnExactFirstJoined Go.Proofs.YtjkhpdfphphnfaaW.PrintWords Go.Proofs.YtjkhpdfphphnfaaW.PrintLast Go.Proofs.YtjkhpdfphphnfaaW.PrintMore

set_option linter.unusedVariables false
set_option linter.unusedSimpArgs false
def inB (a b c : Int) : Bool := decide (b ≤ a ∧ a ≤ c)
theorem inB_true {a b c : Int} (h : inB a b c = true) : b ≤ a ∧ a ≤ c := of_decide_eq_true h
theorem inB_mk {a b c : Int} (h : b ≤ a ∧ a ≤ c) : inB a b c = true := decide_eq_true h
theorem inB_not {a b c : Int} (h : ¬ (b ≤ a ∧ a ≤ c)) : inB a b c = false := decide_eq_false h
theorem inB_false {a b c : Int} (h : inB a b c = false) : ¬ (b ≤ a ∧ a ≤ c) := of_decide_eq_false h
theorem in_eq (a b c : Int) : spec_l1In.f a b c = some (inB a b c) := by
  unfold spec_l1In.f inB
  by_cases h : a ≥ b
  · rw [if_pos h]; congr 1; rw [decide_eq_decide]; omega
  · rw [if_neg h]; congr 1; symm; rw [decide_eq_false_iff_not]; omega
theorem within_eq (a b c : Int) : impl_within.f a b c = some (inB a b c) := by
  unfold impl_within.f inB
  by_cases h : b ≤ a
  · rw [if_pos h]; congr 1; rw [decide_eq_decide]; omega
  · rw [if_neg h]; congr 1; symm; rw [decide_eq_false_iff_not]; omega
theorem w64 {x : Int} (h0 : -9223372036854775808 ≤ x) (h1 : x < 9223372036854775808) : wrap64 x = x := by unfold wrap64; omega
theorem rd_mid (pre rest : List Int) (x i : Int) (h : i = pre.length) : rd (pre ++ x :: rest) i = x := by
  subst h; unfold rd; simp
theorem rd_mem (l : List Int) (x : Int) (h : x ∈ l) : ∃ i : Int, 0 ≤ i ∧ i < l.length ∧ rd l i = x := by
  obtain ⟨n, hn, e⟩ := List.mem_iff_getElem.1 h
  refine ⟨n, by omega, by omega, ?_⟩
  unfold rd
  rw [List.getD_eq_getElem?_getD, show ((n : Int)).toNat = n by omega, List.getElem?_eq_getElem hn, e]; rfl
theorem toIntS_l0 (l : List Int) (hl : l.length < 4611686018427387904) (d : Nat) : ∀ (k : Nat) (pre suf : List Int) (i : Int), pre.length = suf.length → i = pre.length → (∃ rest, l = pre ++ rest ∧ rest.length = d ∧ ∃ zs : List Int, suf ++ zs = suf ++ zs) → d < k → ∀ z : List Int, z.length = l.length → z.take pre.length = pre → laws_toIntS.l0 k l z i = some l := by
  induction d with
  | zero =>
    intro k pre suf i _ hi h hk z hz hzp
    obtain ⟨rest, rfl, hr, _⟩ := h
    obtain ⟨k, rfl⟩ : ∃ m, k = m + 1 := ⟨k - 1, by omega⟩
    obtain rfl : rest = [] := List.eq_nil_of_length_eq_zero hr
    simp only [laws_toIntS.l0]
    rw [List.append_nil] at hz ⊢
    rw [if_neg (by omega)]
    congr 1
    rw [← hzp, List.take_of_length_le (by omega)]
  | succ d ih =>
    intro k pre suf i hps hi h hk z hz hzp
    obtain ⟨rest, rfl, hr, _⟩ := h
    obtain ⟨k, rfl⟩ : ∃ m, k = m + 1 := ⟨k - 1, by omega⟩
    obtain ⟨x, rest, rfl⟩ : ∃ x r, rest = x :: r := by
      cases rest with
      | nil => simp at hr
      | cons x r => exact ⟨x, r, rfl⟩
    simp only [List.length_cons] at hr
    simp only [List.length_append, List.length_cons] at hz hl
    simp only [laws_toIntS.l0]
    rw [if_pos (by simp; omega), if_pos (by omega), if_pos (by omega), w64 (by omega) (by omega)]
    have hrd : rd (pre ++ x :: rest) i = x := by subst hi; unfold rd; simp
    rw [hrd]
    refine ih k (pre ++ [x]) (suf ++ [x]) (i + 1) (by simp [hps]) (by simp; omega) ⟨rest, by simp, by omega, [], rfl⟩ (by omega) _ (by simp [hz]) ?_
    subst hi
    have e : ((pre.length : Int)).toNat = pre.length := by simp
    rw [e, List.length_append, List.length_singleton, List.take_set, List.take_add_one, hzp, List.getElem?_eq_getElem (by omega)]
    simp
theorem toIntS_eq (l : List Int) (hl : l.length ≤ 35184372088832) {k : Nat} (hk : l.length < k) : laws_toIntS.f k l = some l := by
  unfold laws_toIntS.f
  rw [if_pos (by omega), if_pos (by simp; omega)]
  exact toIntS_l0 l (by omega) l.length k [] [] 0 rfl rfl ⟨l, rfl, rfl, [], rfl⟩ hk _ (by simp) rfl
theorem eqIntS_l0 (l : List Int) (hl : l.length < 4611686018427387904) (d : Nat) : ∀ (k : Nat) (i : Int), 0 ≤ i → (l.length : Int) - i ≤ d → d < k → laws_eqIntS.l0 k l l i = some true := by
  induction d with
  | zero =>
    intro k i h0 hd hk
    obtain ⟨k, rfl⟩ : ∃ m, k = m + 1 := ⟨k - 1, by omega⟩
    simp only [laws_eqIntS.l0]; rw [if_neg (by omega)]
  | succ d ih =>
    intro k i h0 hd hk
    obtain ⟨k, rfl⟩ : ∃ m, k = m + 1 := ⟨k - 1, by omega⟩
    simp only [laws_eqIntS.l0]
    by_cases hlt : i < (l.length : Int)
    · rw [if_pos hlt, if_pos h0, if_pos hlt, if_pos trivial, w64 (by omega) (by omega)]
      exact ih k (i + 1) (by omega) (by omega) (by omega)
    · rw [if_neg hlt]
theorem eqIntS_self (l : List Int) (hl : l.length < 4611686018427387904) {k : Nat} (hk : l.length < k) : laws_eqIntS.f k l l = some true := by
  unfold laws_eqIntS.f
  rw [if_pos rfl]
  exact eqIntS_l0 l hl l.length k 0 (by omega) (by omega) hk
theorem rd_set (l : List Int) (i j v : Int) (h0 : 0 ≤ i) (h1 : i < l.length) (h2 : 0 ≤ j) : rd (l.set i.toNat v) j = if j = i then v else rd l j := by
  unfold rd
  rw [List.getD_eq_getElem?_getD, List.getD_eq_getElem?_getD, List.getElem?_set]
  by_cases e : j = i
  · subst e; rw [if_pos rfl, if_pos rfl, if_pos (by omega)]; rfl
  · rw [if_neg e, if_neg (by omega)]
theorem markIntS_l0 (d : Nat) : ∀ (k : Nat) (l : List Int) (v i : Int), l.length < 4611686018427387904 → 0 ≤ i → i ≤ l.length → (l.length : Int) - i ≤ d → d < k → 0 ≤ v → v + ((l.length : Int) - i) < 9223372036854775807 →
    ∃ m, laws_markIntS.l0 k l v i = some (v + ((l.length : Int) - i), m) ∧ m.length = l.length ∧ (∀ j : Int, 0 ≤ j → j < i → rd m j = rd l j) ∧ ∀ j : Int, i ≤ j → j < l.length → rd m j = v + (j - i) := by
  induction d with
  | zero =>
    intro k l v i hl h0 hi hd hk hv hb
    obtain ⟨k, rfl⟩ : ∃ m, k = m + 1 := ⟨k - 1, by omega⟩
    refine ⟨l, ?_, rfl, fun _ _ _ => rfl, fun j h1 h2 => by omega⟩
    simp only [laws_markIntS.l0]; rw [if_neg (by omega)]; congr 2; omega
  | succ d ih =>
    intro k l v i hl h0 hi hd hk hv hb
    obtain ⟨k, rfl⟩ : ∃ m, k = m + 1 := ⟨k - 1, by omega⟩
    simp only [laws_markIntS.l0]
    by_cases hlt : i < (l.length : Int)
    · rw [if_pos hlt, if_pos h0, w64 (by omega) (by omega), w64 (by omega) (by omega)]
      have hlen : (l.set i.toNat v).length = l.length := by simp
      obtain ⟨m, hm, hml, hm1, hm2⟩ := ih k (l.set i.toNat v) (v + 1) (i + 1) (by omega) (by omega) (by omega) (by omega) (by omega) (by omega) (by omega)
      rw [hlen] at hm hml hm2
      refine ⟨m, by rw [hm]; congr 2; omega, hml, ?_, ?_⟩
      · intro j h1 h2
        rw [hm1 j h1 (by omega), rd_set l i j v h0 hlt h1, if_neg (by omega)]
      · intro j h1 h2
        by_cases e : j = i
        · subst e; rw [hm1 j h0 (by omega), rd_set l j j v h0 hlt h0, if_pos rfl]; omega
        · rw [hm2 j (by omega) h2]; omega
    · rw [if_neg hlt]
      exact ⟨l, by congr 2; omega, rfl, fun _ _ _ => rfl, fun j h1 h2 => by omega⟩
theorem heldIntS_l0 (m : List Int) (hl : m.length < 4611686018427387904) (d : Nat) : ∀ (k : Nat) (v i : Int), 0 ≤ i → i ≤ m.length → (m.length : Int) - i ≤ d → d < k → 0 ≤ v → v + ((m.length : Int) - i) < 9223372036854775807 → (∀ j : Int, i ≤ j → j < m.length → rd m j = v + (j - i)) → laws_heldIntS.l0 k m v i = some (v + ((m.length : Int) - i)) := by
  induction d with
  | zero =>
    intro k v i h0 hi hd hk hv hb h
    obtain ⟨k, rfl⟩ : ∃ m, k = m + 1 := ⟨k - 1, by omega⟩
    simp only [laws_heldIntS.l0]; rw [if_neg (by omega)]; congr 1; omega
  | succ d ih =>
    intro k v i h0 hi hd hk hv hb h
    obtain ⟨k, rfl⟩ : ∃ m, k = m + 1 := ⟨k - 1, by omega⟩
    simp only [laws_heldIntS.l0]
    by_cases hlt : i < (m.length : Int)
    · rw [if_pos hlt, if_pos h0, if_pos (by rw [h i (by omega) hlt]; omega), w64 (by omega) (by omega), w64 (by omega) (by omega), ih k (v + 1) (i + 1) (by omega) (by omega) (by omega) (by omega) (by omega) (by omega) (fun j h1 h2 => by rw [h j (by omega) h2]; omega)]
      congr 1; omega
    · rw [if_neg hlt]; congr 1; omega
theorem mark_held (l : List Int) (hl : l.length < 2000000) : ∃ m, m.length = l.length ∧ (∀ k, l.length < k → laws_markIntS.f k l 1 = some (1 + (l.length : Int), m)) ∧ ∀ k, l.length < k → laws_heldIntS.f k m 1 = some (1 + (l.length : Int)) := by
  obtain ⟨m, hm, hml, _, hm2⟩ := markIntS_l0 l.length (l.length + 1) l 1 0 (by omega) (by omega) (by omega) (by omega) (by omega) (by omega) (by omega)
  refine ⟨m, hml, fun k hk => ?_, fun k hk => ?_⟩
  · have := at_rounds (g := fun k => laws_markIntS.f k l 1) (fun k => laws_markIntS.mono l 1 k) (show l.length + 1 ≤ k by omega) hm
    rw [this]; congr 2 <;> omega
  · unfold laws_heldIntS.f
    rw [heldIntS_l0 m (by omega) m.length k 1 0 (by omega) (by omega) (by omega) (by omega) (by omega) (by omega) (fun j h1 h2 => hm2 j h1 (by omega))]
    congr 1; omega
/-- Planks, or gaps: 1..7 of them, each 1..100. -/
def PG (l : List Int) : Prop := (1 ≤ l.length ∧ l.length ≤ 7) ∧ ∀ i : Int, 0 ≤ i → i < l.length → 1 ≤ rd l i ∧ rd l i ≤ 100
theorem PG.mem {l : List Int} (h : PG l) : ∀ x ∈ l, 1 ≤ x ∧ x ≤ 100 := fun x hx => by
  obtain ⟨i, h0, h1, e⟩ := rd_mem l x hx
  rw [← e]; exact h.2 i h0 h1
theorem l1All_true (l : List Int) (hl : l.length ≤ 100) (lo hi : Int) (d : Nat) : ∀ (k : Nat) (i : Int), 0 ≤ i → (l.length : Int) - i ≤ d → d < k → (∀ j : Int, i ≤ j → j < l.length → lo ≤ rd l j ∧ rd l j ≤ hi) → spec_l1All.l0 k lo hi l (l.length : Int) i = some true := by
  induction d with
  | zero =>
    intro k i h0 hd hk h
    obtain ⟨k, rfl⟩ : ∃ m, k = m + 1 := ⟨k - 1, by omega⟩
    simp only [spec_l1All.l0]; rw [if_neg (by omega)]
  | succ d ih =>
    intro k i h0 hd hk h
    obtain ⟨k, rfl⟩ : ∃ m, k = m + 1 := ⟨k - 1, by omega⟩
    simp only [spec_l1All.l0]
    by_cases hlt : i < (l.length : Int)
    · rw [if_pos hlt, if_pos h0, if_pos hlt, in_eq, inB_mk (h i (by omega) hlt), w64 (by omega) (by omega)]
      exact ih k (i + 1) (by omega) (by omega) (by omega) (fun j h1 h2 => h j (by omega) h2)
    · rw [if_neg hlt]
theorem l1All_false (l : List Int) (hl : l.length ≤ 100) (lo hi : Int) (d : Nat) : ∀ (k : Nat) (i : Int), 0 ≤ i → (l.length : Int) - i ≤ d → d < k → (¬ ∀ j : Int, i ≤ j → j < l.length → lo ≤ rd l j ∧ rd l j ≤ hi) → spec_l1All.l0 k lo hi l (l.length : Int) i = some false := by
  induction d with
  | zero => intro k i h0 hd hk h; exact absurd (fun j h1 h2 => by omega) h
  | succ d ih =>
    intro k i h0 hd hk h
    obtain ⟨k, rfl⟩ : ∃ m, k = m + 1 := ⟨k - 1, by omega⟩
    simp only [spec_l1All.l0]
    by_cases hlt : i < (l.length : Int)
    · rw [if_pos hlt, if_pos h0, if_pos hlt, in_eq, w64 (by omega) (by omega)]
      by_cases hi1 : lo ≤ rd l i ∧ rd l i ≤ hi
      · rw [inB_mk hi1]
        exact ih k (i + 1) (by omega) (by omega) (by omega) (fun g => h (fun j h1 h2 => if e : j = i then by rw [e]; exact hi1 else g j (by omega) h2))
      · rw [inB_not hi1]; rfl
    · exact absurd (fun j h1 h2 => by omega) h
theorem within_true (l : List Int) (hl : l.length ≤ 100) (lo hi : Int) (d : Nat) : ∀ (k : Nat) (i : Int), 0 ≤ i → (l.length : Int) - i ≤ d → d < k → (∀ j : Int, i ≤ j → j < l.length → lo ≤ rd l j ∧ rd l j ≤ hi) → impl_areWithin.l0 l lo hi k i = some true := by
  induction d with
  | zero =>
    intro k i h0 hd hk h
    obtain ⟨k, rfl⟩ : ∃ m, k = m + 1 := ⟨k - 1, by omega⟩
    simp only [impl_areWithin.l0]; rw [if_neg (by omega)]
  | succ d ih =>
    intro k i h0 hd hk h
    obtain ⟨k, rfl⟩ : ∃ m, k = m + 1 := ⟨k - 1, by omega⟩
    simp only [impl_areWithin.l0]
    by_cases hlt : i < (l.length : Int)
    · rw [if_pos hlt, if_pos h0, within_eq, inB_mk (h i (by omega) hlt), w64 (by omega) (by omega)]
      exact ih k (i + 1) (by omega) (by omega) (by omega) (fun j h1 h2 => h j (by omega) h2)
    · rw [if_neg hlt]
theorem within_false (l : List Int) (hl : l.length ≤ 100) (lo hi : Int) (d : Nat) : ∀ (k : Nat) (i : Int), 0 ≤ i → (l.length : Int) - i ≤ d → d < k → (¬ ∀ j : Int, i ≤ j → j < l.length → lo ≤ rd l j ∧ rd l j ≤ hi) → impl_areWithin.l0 l lo hi k i = some false := by
  induction d with
  | zero => intro k i h0 hd hk h; exact absurd (fun j h1 h2 => by omega) h
  | succ d ih =>
    intro k i h0 hd hk h
    obtain ⟨k, rfl⟩ : ∃ m, k = m + 1 := ⟨k - 1, by omega⟩
    simp only [impl_areWithin.l0]
    by_cases hlt : i < (l.length : Int)
    · rw [if_pos hlt, if_pos h0, within_eq, w64 (by omega) (by omega)]
      by_cases hi1 : lo ≤ rd l i ∧ rd l i ≤ hi
      · rw [inB_mk hi1]
        exact ih k (i + 1) (by omega) (by omega) (by omega) (fun g => h (fun j h1 h2 => if e : j = i then by rw [e]; exact hi1 else g j (by omega) h2))
      · rw [inB_not hi1]; rfl
    · exact absurd (fun j h1 h2 => by omega) h
theorem plGood_true {l : List Int} (h : PG l) {k : Nat} (hk : 8 ≤ k) : spec_plGood.f k l = some true := by
  have h1 : (1 : Int) ≤ (l.length : Int) ∧ (l.length : Int) ≤ 7 := by have := h.1; omega
  have h2 := l1All_true l (by have := h.1; omega) 1 100 7 k 0 (by omega) (by omega) (by omega) h.2
  unfold spec_plGood.f spec_l1All.f
  rw [in_eq, inB_mk h1]
  simp only [Option.bind_some, if_true, h2]
theorem plGood_false {l : List Int} (h : ¬ PG l) {k : Nat} (hk : 8 ≤ k) : spec_plGood.f k l = some false := by
  by_cases h1 : (1 : Int) ≤ (l.length : Int) ∧ (l.length : Int) ≤ 7
  · have h2 := l1All_false l (by omega) 1 100 7 k 0 (by omega) (by omega) (by omega) (fun g => h ⟨by omega, g⟩)
    unfold spec_plGood.f spec_l1All.f
    rw [in_eq, inB_mk h1]
    simp only [Option.bind_some, if_true, h2]
  · unfold spec_plGood.f
    rw [in_eq, inB_not h1]; rfl
theorem arePlanks_true {l : List Int} (h : PG l) : impl_ArePlanks.f l = some true := by
  have h1 : (1 : Int) ≤ (l.length : Int) ∧ (l.length : Int) ≤ 7 := by have := h.1; omega
  have h2 := within_true l (by have := h.1; omega) 1 100 l.length (l.length + 1) 0 (by omega) (by omega) (by omega) h.2
  unfold impl_ArePlanks.f impl_areWithin.f
  rw [within_eq, inB_mk h1]
  simp only [Option.bind_some, if_true, h2]
theorem arePlanks_false {l : List Int} (h : ¬ PG l) : impl_ArePlanks.f l = some false := by
  by_cases h1 : (1 : Int) ≤ (l.length : Int) ∧ (l.length : Int) ≤ 7
  · have h2 := within_false l (by omega) 1 100 l.length (l.length + 1) 0 (by omega) (by omega) (by omega) (fun g => h ⟨by omega, g⟩)
    unfold impl_ArePlanks.f impl_areWithin.f
    rw [within_eq, inB_mk h1]
    simp only [Option.bind_some, if_true, h2]
  · unfold impl_ArePlanks.f
    rw [within_eq, inB_not h1]; rfl
theorem min_l0 (L : List Int) (hL : L.length ≤ 7) (rest : List Int) : ∀ (k : Nat) (pre : List Int) (m i : Int), L = pre ++ rest → i = pre.length → rest.length < k → ∃ z, slices_Min_int_int.l0 k L m i = some z ∧ z ≤ m ∧ (∀ x ∈ rest, z ≤ x) ∧ (z = m ∨ z ∈ rest) := by
  induction rest with
  | nil =>
    intro k pre m i hp hi hk
    obtain ⟨k, rfl⟩ : ∃ q, k = q + 1 := ⟨k - 1, by omega⟩
    have : L.length = pre.length := by rw [hp]; simp
    refine ⟨m, ?_, Int.le_refl _, fun x hx => by simp at hx, .inl rfl⟩
    simp only [slices_Min_int_int.l0]
    rw [if_neg (by omega)]
  | cons x rest ih =>
    intro k pre m i hp hi hk
    simp only [List.length_cons] at hk
    obtain ⟨k, rfl⟩ : ∃ q, k = q + 1 := ⟨k - 1, by omega⟩
    have hlen : L.length = pre.length + (rest.length + 1) := by rw [hp]; simp
    have hrd : rd L i = x := by rw [hp]; exact rd_mid _ _ _ _ hi
    have hmn : mn m x ≤ m ∧ mn m x ≤ x ∧ (mn m x = m ∨ mn m x = x) := by unfold mn; split <;> omega
    obtain ⟨z, hz, h1, h2, h3⟩ := ih k (pre ++ [x]) (mn m x) (i + 1) (by rw [hp]; simp) (by simp; omega) (by omega)
    refine ⟨z, ?_, by omega, fun y hy => ?_, ?_⟩
    · simp only [slices_Min_int_int.l0]
      rw [if_pos (by omega), if_pos (by omega), hrd, w64 (x := i + 1) (by omega) (by omega)]
      exact hz
    · rcases List.mem_cons.1 hy with e | e
      · omega
      · exact h2 y e
    · rcases h3 with e | e
      · rcases hmn.2.2 with e2 | e2
        · exact .inl (by omega)
        · exact .inr (by rw [e, e2]; exact List.mem_cons_self)
      · exact .inr (List.mem_cons_of_mem _ e)
theorem min_eq (p : List Int) (h : PG p) {k : Nat} (hk : 8 ≤ k) : ∃ z, slices_Min_int_int.f k p = some z ∧ (∀ x ∈ p, z ≤ x) ∧ z ∈ p := by
  obtain ⟨h1, h2⟩ := h
  obtain ⟨x, rest, rfl⟩ : ∃ x r, p = x :: r := by
    cases p with
    | nil => simp at h1
    | cons x r => exact ⟨x, r, rfl⟩
  simp only [List.length_cons] at h1
  obtain ⟨z, hz, h3, h4, h5⟩ := min_l0 (x :: rest) (by simp; omega) rest k [x] x 1 rfl rfl (by omega)
  refine ⟨z, ?_, fun y hy => ?_, ?_⟩
  · unfold slices_Min_int_int.f
    rw [if_neg (by simp only [List.length_cons]; omega), if_pos (by simp only [List.length_cons]; omega)]
    exact hz
  · rcases List.mem_cons.1 hy with e | e
    · omega
    · exact h4 y e
  · rcases h5 with e | e
    · rw [e]; exact List.mem_cons_self
    · exact List.mem_cons_of_mem _ e
def Lap (p : List Int) (lap : Int) : Prop := PG p ∧ (0 ≤ lap ∧ lap ≤ 10) ∧ ∀ x ∈ p, lap < x
theorem lap_true {p : List Int} {lap : Int} (h : Lap p lap) {k : Nat} (hk : 8 ≤ k) : spec_plLap.f k p lap = some true := by
  have e1 : wrap64 (lap + 1) = lap + 1 := w64 (by have := h.2.1; omega) (by have := h.2.1; omega)
  have h7 := h.1.1
  have h2 := l1All_true p (by omega) (lap + 1) 100 7 k 0 (by omega) (by omega) (by omega) (fun j h0 h1 => by
    have hm : rd p j ∈ p := by
      unfold rd; rw [List.getD_eq_getElem?_getD, List.getElem?_eq_getElem (by omega)]; simp
    have h3 := h.2.2 _ hm; have h4 := h.1.2 j h0 h1
    omega)
  unfold spec_plLap.f spec_plRest.f spec_l1All.f
  rw [plGood_true h.1 hk, in_eq, inB_mk h.2.1, e1]
  simp only [Option.bind_some, if_true, h2]
theorem lap_false {p : List Int} {lap : Int} (h : ¬ Lap p lap) {k : Nat} (hk : 8 ≤ k) : spec_plLap.f k p lap = some false := by
  by_cases h1 : PG p
  · by_cases h2 : 0 ≤ lap ∧ lap ≤ 10
    · have e1 : wrap64 (lap + 1) = lap + 1 := w64 (by omega) (by omega)
      have h7 := h1.1
      have h3 := l1All_false p (by omega) (lap + 1) 100 7 k 0 (by omega) (by omega) (by omega) (fun g => h ⟨h1, h2, fun x hx => by
        obtain ⟨i, i0, i1, e⟩ := rd_mem p x hx
        have := g i i0 i1; omega⟩)
      unfold spec_plLap.f spec_plRest.f spec_l1All.f
      rw [plGood_true h1 hk, in_eq, inB_mk h2, e1]
      simp only [Option.bind_some, if_true, h3]
    · unfold spec_plLap.f spec_plRest.f
      rw [plGood_true h1 hk, in_eq, inB_not h2]; rfl
  · unfold spec_plLap.f
    rw [plGood_false h1 hk]; rfl
theorem joined_true {p : List Int} {lap : Int} (h : Lap p lap) {k : Nat} (hk : 8 ≤ k) : impl_areJoined.f k p lap = some true := by
  obtain ⟨z, hz, _, hzm⟩ := min_eq p h.1 hk
  have hlt := h.2.2 z hzm
  unfold impl_areJoined.f impl_isRest.f
  rw [arePlanks_true h.1, within_eq, inB_mk h.2.1, hz]
  simp only [Option.bind_some, if_true]
  rw [decide_eq_true (show z > lap from hlt)]
theorem joined_false {p : List Int} {lap : Int} (h : ¬ Lap p lap) {k : Nat} (hk : 8 ≤ k) : impl_areJoined.f k p lap = some false := by
  unfold impl_areJoined.f impl_isRest.f
  by_cases h1 : PG p
  · by_cases h2 : 0 ≤ lap ∧ lap ≤ 10
    · obtain ⟨z, hz, hall, _⟩ := min_eq p h1 hk
      rw [arePlanks_true h1, within_eq, inB_mk h2, hz]
      simp only [Option.bind_some, if_true]
      rw [decide_eq_false (show ¬ z > lap from fun hlt => h ⟨h1, h2, fun x hx => by have := hall x hx; omega⟩)]
    · rw [arePlanks_true h1, within_eq, inB_not h2]; rfl
  · rw [arePlanks_false h1]; rfl
/-- Of two answers the shorter one, the first if they are alike. -/
def bt2 : Option (List Int) → Option (List Int) → Option (List Int)
  | none, b => b
  | some a, none => some a
  | some a, some b => if b.length < a.length then some b else some a
theorem bt2_none (a : Option (List Int)) : bt2 a none = a := by cases a <;> rfl
theorem bt2_assoc (a b c : Option (List Int)) : bt2 (bt2 a b) c = bt2 a (bt2 b c) := by
  cases a with
  | none => rfl
  | some a =>
    cases b with
    | none => rfl
    | some b =>
      cases c with
      | none => rw [bt2_none, bt2_none]
      | some c =>
        simp only [bt2]
        by_cases h1 : b.length < a.length
        · by_cases h2 : c.length < b.length
          · rw [if_pos h1, if_pos h2]; simp only [bt2]; rw [if_pos h2, if_pos (by omega)]
          · rw [if_pos h1, if_neg h2]; simp only [bt2]; rw [if_neg h2, if_pos h1]
        · by_cases h2 : c.length < b.length
          · rw [if_neg h1, if_pos h2]
          · rw [if_neg h1, if_neg h2]; simp only [bt2]; rw [if_neg (by omega), if_neg h1]
theorem bt2_map (p : List Int) (a b : Option (List Int)) : (bt2 a b).map (p ++ ·) = bt2 (a.map (p ++ ·)) (b.map (p ++ ·)) := by
  cases a with
  | none => rfl
  | some a =>
    cases b with
    | none => rfl
    | some b =>
      simp only [bt2, Option.map_some, List.length_append]
      by_cases h : b.length < a.length
      · rw [if_pos h, if_pos (by omega)]; rfl
      · rw [if_neg h, if_neg (by omega)]; rfl
/-- The best way to go on from the last d planks. -/
def lf (lap : Int) (pl : List Int) : Nat → Int → Option (List Int)
  | 0, _ => none
  | d + 1, need => bt2 ((bt2 (if need - rd pl ((pl.length : Int) - ((d + 1 : Nat) : Int)) + lap ≤ 0 then some [] else none) (lf lap pl d (need - rd pl ((pl.length : Int) - ((d + 1 : Nat) : Int)) + lap))).map ([((pl.length : Int) - ((d + 1 : Nat) : Int))] ++ ·)) (lf lap pl d need)
theorem upd_eq (gap lap rest : Int) (list : List Int) (i long : Int) (best : Option (List Int)) : impl_FirstJoined.upd gap lap rest (list ++ [i]) long best = bt2 best (if gap + 2 * rest - lap - long + lap * (((list ++ [i]).length : Nat) : Int) ≤ 0 then some (list ++ [i]) else none) := by
  unfold impl_FirstJoined.upd
  have e : lap * (((list ++ [i]).length : Nat) : Int) = lap * ((((list ++ [i]).length : Nat) : Int) - 1) + lap := by rw [Int.mul_sub, Int.mul_one]; omega
  rw [e]
  have hl : 0 < (list ++ [i]).length := by simp
  by_cases h : gap + 2 * rest ≤ long - lap * ((((list ++ [i]).length : Nat) : Int) - 1)
  · rw [if_pos ⟨hl, h⟩, if_pos (by omega)]
    cases best <;> rfl
  · rw [if_neg (fun c => h c.2), if_neg (by omega), bt2_none]
theorem lo_eq (gap lap rest : Int) (pl : List Int) (d : Nat) : ∀ (list : List Int) (long : Int) (best : Option (List Int)), impl_FirstJoined.lo gap lap rest pl d list long best = bt2 best ((lf lap pl d (gap + 2 * rest - lap - long + lap * (list.length : Int))).map (list ++ ·)) := by
  induction d with
  | zero => intro list long best; simp only [impl_FirstJoined.lo, lf, Option.map_none]; rw [bt2_none]
  | succ d ih =>
    intro list long best
    simp only [impl_FirstJoined.lo, lf]
    obtain ⟨i, hi⟩ : ∃ i : Int, (pl.length : Int) - ((d + 1 : Nat) : Int) = i := ⟨_, rfl⟩
    obtain ⟨x, hx⟩ : ∃ x : Int, rd pl i = x := ⟨_, rfl⟩
    rw [hi, hx, ih, ih, upd_eq]
    obtain ⟨z, hz⟩ : ∃ z : Int, lap * (list.length : Int) = z := ⟨_, rfl⟩
    have e : lap * (((list ++ [i]).length : Nat) : Int) = z + lap := by
      rw [← hz, List.length_append, List.length_singleton, show ((list.length + 1 : Nat) : Int) = (list.length : Int) + 1 by omega, Int.mul_add, Int.mul_one]
    rw [e, hz]
    have e2 : gap + 2 * rest - lap - (long + x) + (z + lap) = gap + 2 * rest - lap - long + z - x + lap := by omega
    rw [e2]
    obtain ⟨n', hn'⟩ : ∃ n' : Int, gap + 2 * rest - lap - long + z - x + lap = n' := ⟨_, rfl⟩
    rw [hn', bt2_assoc, bt2_assoc, bt2_map list]
    congr 1
    rw [← bt2_assoc]
    congr 1
    rw [bt2_map, bt2_map]
    congr 1
    · by_cases h : n' ≤ 0
      · rw [if_pos h, if_pos h]; rfl
      · rw [if_neg h, if_neg h]; rfl
    · cases lf lap pl d n' <;> simp
/-- The first list of so many planks from the last d ones that is long enough. -/
def jl (lap : Int) (pl : List Int) : Nat → Nat → Int → Option (List Int)
  | _, 0, need => if need ≤ 0 then some [] else none
  | 0, _ + 1, _ => none
  | d + 1, m + 1, need =>
    match jl lap pl d m (need - rd pl ((pl.length : Int) - ((d + 1 : Nat) : Int)) + lap) with
    | some r => some (((pl.length : Int) - ((d + 1 : Nat) : Int)) :: r)
    | none => jl lap pl d (m + 1) need
theorem jl_len (lap : Int) (pl : List Int) (d : Nat) : ∀ (m : Nat) (need : Int) (x : List Int), jl lap pl d m need = some x → x.length = m ∧ m ≤ d := by
  induction d with
  | zero =>
    intro m need x h
    cases m with
    | zero => simp only [jl] at h; split at h <;> simp_all
    | succ m => simp [jl] at h
  | succ d ih =>
    intro m need x h
    cases m with
    | zero => simp only [jl] at h; split at h <;> simp_all
    | succ m =>
      simp only [jl] at h
      split at h
      · rename_i r hr
        obtain rfl := Option.some.inj h
        have := ih _ _ _ hr
        simp; omega
      · have := ih _ _ _ h; omega
theorem lf_spec (lap : Int) (pl : List Int) (d : Nat) : ∀ (need : Int), (∀ x, lf lap pl d need = some x → jl lap pl d x.length need = some x ∧ 1 ≤ x.length ∧ ∀ m, 1 ≤ m → m < x.length → jl lap pl d m need = none) ∧ (lf lap pl d need = none → ∀ m, 1 ≤ m → jl lap pl d m need = none) := by
  induction d with
  | zero =>
    intro need
    refine ⟨fun x h => by simp [lf] at h, fun _ m hm => ?_⟩
    obtain ⟨m, rfl⟩ : ∃ q, m = q + 1 := ⟨m - 1, by omega⟩
    rfl
  | succ d ih =>
    intro need
    simp only [lf]
    obtain ⟨i, hi⟩ : ∃ i : Int, (pl.length : Int) - ((d + 1 : Nat) : Int) = i := ⟨_, rfl⟩
    obtain ⟨n', hn'⟩ : ∃ n' : Int, need - rd pl i + lap = n' := ⟨_, rfl⟩
    rw [hi, hn']
    -- what the look with plank i says
    have hA : ∀ r : Option (List Int), bt2 (if n' ≤ 0 then some [] else none) (lf lap pl d n') = r → (∀ x, r = some x → jl lap pl d x.length n' = some x ∧ ∀ m, m < x.length → jl lap pl d m n' = none) ∧ (r = none → ∀ m, jl lap pl d m n' = none) := by
      intro r hr
      have h0 : jl lap pl d 0 n' = if n' ≤ 0 then some [] else none := by cases d <;> rfl
      by_cases c : n' ≤ 0
      · rw [if_pos c] at hr h0
        have : r = some [] := by
          rw [← hr]
          cases lf lap pl d n' <;> simp [bt2]
        subst this
        refine ⟨fun x hx => ?_, fun hx => by cases hx⟩
        obtain rfl := Option.some.inj hx
        exact ⟨h0, fun m hm => by simp at hm⟩
      · rw [if_neg c] at hr h0
        simp only [bt2] at hr
        subst hr
        obtain ⟨g1, g2⟩ := ih n'
        refine ⟨fun x hx => ?_, fun hx m => ?_⟩
        · obtain ⟨q1, _, q3⟩ := g1 x hx
          refine ⟨q1, fun m hm => ?_⟩
          cases m with
          | zero => exact h0
          | succ m => exact q3 (m + 1) (by omega) hm
        · cases m with
          | zero => exact h0
          | succ m => exact g2 hx (m + 1) (by omega)
    obtain ⟨A, hAe⟩ : ∃ A, bt2 (if n' ≤ 0 then some [] else none) (lf lap pl d n') = A := ⟨_, rfl⟩
    obtain ⟨a1, a2⟩ := hA A hAe
    rw [hAe]
    obtain ⟨b1, b2⟩ := ih need
    obtain ⟨B, hB⟩ : ∃ B, lf lap pl d need = B := ⟨_, rfl⟩
    rw [hB] at b1 b2 ⊢
    have hst : ∀ m, jl lap pl (d + 1) (m + 1) need = match jl lap pl d m n' with | some r => some (i :: r) | none => jl lap pl d (m + 1) need := by
      intro m; simp only [jl]; rw [hi, hn']
    cases A with
    | none =>
      have ha := a2 rfl
      simp only [Option.map_none, bt2]
      have hst' : ∀ m, 1 ≤ m → jl lap pl (d + 1) m need = jl lap pl d m need := by
        intro m hm
        obtain ⟨m, rfl⟩ : ∃ q, m = q + 1 := ⟨m - 1, by omega⟩
        rw [hst, ha m]
      refine ⟨fun x hx => ?_, fun hx m hm => ?_⟩
      · obtain ⟨q1, q2, q3⟩ := b1 x hx
        exact ⟨by rw [hst' _ q2]; exact q1, q2, fun m hm hm2 => by rw [hst' _ hm]; exact q3 m hm hm2⟩
      · rw [hst' _ hm]; exact b2 hx m hm
    | some x =>
      obtain ⟨ax, am⟩ := a1 x rfl
      have hone : jl lap pl (d + 1) (x.length + 1) need = some (i :: x) := by rw [hst, ax]
      cases B with
      | none =>
        simp only [Option.map_some, bt2]
        refine ⟨fun y hy => ?_, fun hy => by cases hy⟩
        obtain rfl := Option.some.inj hy
        refine ⟨by simpa using hone, by simp, fun m hm hm2 => ?_⟩
        obtain ⟨m, rfl⟩ : ∃ q, m = q + 1 := ⟨m - 1, by omega⟩
        simp at hm2
        rw [hst, am m (by omega)]
        exact b2 rfl _ (by omega)
      | some y =>
        obtain ⟨q1, q2, q3⟩ := b1 y rfl
        simp only [Option.map_some, bt2, List.length_append, List.length_singleton]
        refine ⟨fun z hz => ?_, fun hz => by split at hz <;> cases hz⟩
        by_cases c : y.length < 1 + x.length
        · rw [if_pos c] at hz
          obtain rfl := Option.some.inj hz
          obtain ⟨n, hn⟩ : ∃ n, y.length = n + 1 := ⟨y.length - 1, by omega⟩
          refine ⟨by rw [hn, hst, am n (by omega)]; rw [hn] at q1; exact q1, q2, fun m hm hm2 => ?_⟩
          obtain ⟨m, rfl⟩ : ∃ q, m = q + 1 := ⟨m - 1, by omega⟩
          rw [hst, am m (by omega)]
          exact q3 (m + 1) hm hm2
        · rw [if_neg c] at hz
          obtain rfl := Option.some.inj hz
          refine ⟨by simpa [Nat.add_comm] using hone, by simp, fun m hm hm2 => ?_⟩
          obtain ⟨m, rfl⟩ : ∃ q, m = q + 1 := ⟨m - 1, by omega⟩
          simp at hm2
          rw [hst, am m (by omega)]
          exact q3 (m + 1) hm (by omega)
def outJ : Option (List Int) → List Int × Bool
  | none => ([], false)
  | some l => (l, true)
theorem rd_in {p : List Int} (h : PG p) (i : Int) (h0 : 0 ≤ i) (h1 : i < (p.length : Int)) : 1 ≤ rd p i ∧ rd p i ≤ 100 := by
  exact h.2 i h0 h1
theorem join_eq (p : List Int) (hp : PG p) (lap : Int) (hl : 0 ≤ lap ∧ lap ≤ 10) (d : Nat) :
    (∀ (k m : Nat) (need : Int), 2 * d < k → d ≤ p.length → -5000 + 200 * (d : Int) ≤ need → need ≤ 5000 - 200 * (d : Int) → (m : Int) < 1000 → spec_plJoin.l0 k need p lap (((m + 1 : Nat) : Int)) ((p.length : Int) - (d : Int)) = some (outJ (jl lap p d (m + 1) need))) ∧
    (∀ (k m : Nat) (need : Int), 2 * d + 1 < k → d ≤ p.length → -5000 + 200 * (d : Int) ≤ need → need ≤ 5000 - 200 * (d : Int) → (m : Int) < 1000 → spec_plJoin.f k need p lap ((p.length : Int) - (d : Int)) (m : Int) = some (outJ (jl lap p d m need))) := by
  have h7 := hp.1
  induction d with
  | zero =>
    have hL : ∀ (k m : Nat) (need : Int), 2 * 0 < k → spec_plJoin.l0 k need p lap (((m + 1 : Nat) : Int)) ((p.length : Int) - ((0 : Nat) : Int)) = some (outJ (jl lap p 0 (m + 1) need)) := by
      intro k m need hk
      obtain ⟨k, rfl⟩ : ∃ q, k = q + 1 := ⟨k - 1, by omega⟩
      simp only [spec_plJoin.l0]
      rw [if_neg (by omega)]; rfl
    refine ⟨fun k m need hk _ _ _ _ => hL k m need hk, fun k m need hk _ _ _ _ => ?_⟩
    obtain ⟨k, rfl⟩ : ∃ q, k = q + 1 := ⟨k - 1, by omega⟩
    simp only [spec_plJoin.f]
    cases m with
    | zero =>
      rw [if_pos (by omega)]
      simp only [jl]
      by_cases c : need ≤ 0
      · rw [if_pos c, decide_eq_true c]; rfl
      · rw [if_neg c, decide_eq_false c]; rfl
    | succ m => rw [if_neg (by omega)]; exact hL k m need (by omega)
  | succ d ih =>
    obtain ⟨ihL, ihF⟩ := ih
    have hL : ∀ (k m : Nat) (need : Int), 2 * (d + 1) < k → d + 1 ≤ p.length → -5000 + 200 * ((d + 1 : Nat) : Int) ≤ need → need ≤ 5000 - 200 * ((d + 1 : Nat) : Int) → (m : Int) < 1000 → spec_plJoin.l0 k need p lap (((m + 1 : Nat) : Int)) ((p.length : Int) - ((d + 1 : Nat) : Int)) = some (outJ (jl lap p (d + 1) (m + 1) need)) := by
      intro k m need hk hd h0 h1 hm
      obtain ⟨k, rfl⟩ : ∃ q, k = q + 1 := ⟨k - 1, by omega⟩
      simp only [spec_plJoin.l0, jl]
      obtain ⟨i, hi⟩ : ∃ i : Int, (p.length : Int) - ((d + 1 : Nat) : Int) = i := ⟨_, rfl⟩
      obtain ⟨x, hx⟩ : ∃ x : Int, rd p i = x := ⟨_, rfl⟩
      have hxr := rd_in hp i (by omega) (by omega)
      have hi1 : i + 1 = (p.length : Int) - (d : Int) := by omega
      rw [hi, hx]
      rw [hx] at hxr
      rw [if_pos (by omega), if_pos (by omega), w64 (x := need - x) (by omega) (by omega), w64 (x := need - x + lap) (by omega) (by omega), w64 (x := i + 1) (by omega) (by omega), w64 (x := ((m + 1 : Nat) : Int) - 1) (by omega) (by omega), show ((m + 1 : Nat) : Int) - 1 = (m : Int) by omega, hi1, ihF k m (need - x + lap) (by omega) (by omega) (by omega) (by omega) hm]
      simp only [Option.bind_some]
      cases hj : jl lap p d m (need - x + lap) with
      | none =>
        rw [if_neg (show ¬ (outJ none).2 = true by simp [outJ])]
        exact ihL k m need (by omega) (by omega) (by omega) (by omega) hm
      | some r =>
        have hr := jl_len lap p d m _ r hj
        rw [if_pos (show (outJ (some r)).2 = true from rfl), if_pos (by simp [outJ]; omega)]
        rfl
    refine ⟨hL, fun k m need hk hd h0 h1 hm => ?_⟩
    obtain ⟨k, rfl⟩ : ∃ q, k = q + 1 := ⟨k - 1, by omega⟩
    simp only [spec_plJoin.f]
    cases m with
    | zero =>
      rw [if_pos (by omega)]
      simp only [jl]
      by_cases c : need ≤ 0
      · rw [if_pos c, decide_eq_true c]; rfl
      · rw [if_neg c, decide_eq_false c]; rfl
    | succ m => rw [if_neg (by omega)]; exact hL k m need (by omega) hd h0 h1 (by omega)
theorem few_l0 (gap rest lap : Int) (p : List Int) (hp : PG p) (hl : 0 ≤ lap ∧ lap ≤ 10) (hg : 1 ≤ gap ∧ gap ≤ 100) (hr : 0 ≤ rest ∧ rest ≤ 10) (t : Nat) : ∀ (k many : Nat), 1 ≤ many → many + t = p.length + 1 → t + 20 < k → (∀ m, 1 ≤ m → m < many → jl lap p p.length m (gap + 2 * rest - lap) = none) → spec_plFew.l0 k gap p rest lap (many : Int) = some (outJ (lf lap p p.length (gap + 2 * rest - lap))) := by
  have h7 := hp.1
  obtain ⟨s1, s2⟩ := lf_spec lap p p.length (gap + 2 * rest - lap)
  induction t with
  | zero =>
    intro k many h1 ht hk hn
    obtain ⟨k, rfl⟩ : ∃ q, k = q + 1 := ⟨k - 1, by omega⟩
    simp only [spec_plFew.l0]
    rw [if_neg (by omega)]
    cases hf : lf lap p p.length (gap + 2 * rest - lap) with
    | none => rfl
    | some x =>
      obtain ⟨q1, q2, _⟩ := s1 x hf
      have := jl_len lap p p.length _ _ _ q1
      rw [hn x.length q2 (by omega)] at q1
      cases q1
  | succ t ih =>
    intro k many h1 ht hk hn
    obtain ⟨k, rfl⟩ : ∃ q, k = q + 1 := ⟨k - 1, by omega⟩
    simp only [spec_plFew.l0]
    have hj := (join_eq p hp lap hl p.length).2 k many (gap + 2 * rest - lap) (by omega) (Nat.le_refl _) (by omega) (by omega) (by omega)
    rw [Int.sub_self] at hj
    rw [if_pos (by omega), w64 (x := 2 * rest) (by omega) (by omega), w64 (x := gap + 2 * rest) (by omega) (by omega), w64 (x := gap + 2 * rest - lap) (by omega) (by omega), w64 (x := (many : Int) + 1) (by omega) (by omega), hj]
    simp only [Option.bind_some]
    cases hx : jl lap p p.length many (gap + 2 * rest - lap) with
    | none =>
      rw [if_neg (show ¬ (outJ none).2 = true by simp [outJ])]
      have := ih k (many + 1) (by omega) (by omega) (by omega) (fun m hm hm2 => by
        by_cases e : m = many
        · rw [e]; exact hx
        · exact hn m hm (by omega))
      rw [show ((many + 1 : Nat) : Int) = (many : Int) + 1 by omega] at this
      exact this
    | some x =>
      have hxl := (jl_len lap p p.length _ _ _ hx).1
      rw [if_pos (show (outJ (some x)).2 = true from rfl)]
      cases hf : lf lap p p.length (gap + 2 * rest - lap) with
      | none => rw [s2 hf many h1] at hx; cases hx
      | some y =>
        obtain ⟨q1, q2, q3⟩ := s1 y hf
        have e : y.length = many := by
          rcases Nat.lt_trichotomy y.length many with c | c | c
          · rw [hn _ q2 c] at q1; cases q1
          · exact c
          · rw [q3 _ h1 c] at hx; cases hx
        rw [e, hx] at q1
        rw [Option.some.inj q1]; rfl
def need0 (gap rest lap : Int) : Int := gap + 2 * rest - lap
def AskedJ (gap rest lap : Int) (p : List Int) : Prop := (1 ≤ gap ∧ gap ≤ 100) ∧ Lap p lap ∧ 0 ≤ rest ∧ rest ≤ 10
theorem lo_few (gap lap rest : Int) (p : List Int) : impl_FirstJoined.out (impl_FirstJoined.lo gap lap rest p p.length [] 0 none) = outJ (lf lap p p.length (gap + 2 * rest - lap)) := by
  rw [lo_eq]
  have e : gap + 2 * rest - lap - 0 + lap * ((([] : List Int).length : Nat) : Int) = gap + 2 * rest - lap := by simp
  rw [e]
  cases lf lap p p.length (gap + 2 * rest - lap) <;> simp [bt2, impl_FirstJoined.out, outJ]
theorem first_yes (gap rest lap : Int) (p : List Int) (h : AskedJ gap rest lap p) (k : Nat) (hk : 100 ≤ k) : impl_FirstJoined.f k gap p rest lap = some (outJ (lf lap p p.length (gap + 2 * rest - lap))) := by
  obtain ⟨h1, h2, h3⟩ := h
  have h7 := h2.1.1
  have hl := h2.2.1
  unfold impl_FirstJoined.f impl_isRest.f
  rw [within_eq, inB_mk h1, joined_true h2 (by omega), within_eq, inB_mk h3]
  simp only [Option.bind_some, if_true]
  rw [if_pos ⟨by omega, by omega, by omega, by omega, fun i hi => by have := rd_in h2.1 i (by omega) (by omega); omega⟩, lo_few]
theorem first_no (gap rest lap : Int) (p : List Int) (h : ¬ AskedJ gap rest lap p) (k : Nat) (hk : 100 ≤ k) : impl_FirstJoined.f k gap p rest lap = some ([], false) := by
  unfold impl_FirstJoined.f impl_isRest.f
  by_cases h1 : 1 ≤ gap ∧ gap ≤ 100
  · by_cases h2 : Lap p lap
    · rw [within_eq, inB_mk h1, joined_true h2 (by omega), within_eq, inB_not (fun h3 => h ⟨h1, h2, h3⟩)]; rfl
    · rw [within_eq, inB_mk h1, joined_false h2 (by omega)]; rfl
  · rw [within_eq, inB_not h1]; rfl
theorem spec_yes (gap rest lap : Int) (p : List Int) (h : AskedJ gap rest lap p) (k : Nat) (hk : 100 ≤ k) : spec_FirstJoined.f k gap p rest lap = some ( (outJ (lf lap p p.length (gap + 2 * rest - lap)))) := by
  obtain ⟨h1, h2, h3⟩ := h
  have h7 := h2.1.1
  have hf := few_l0 gap rest lap p h2.1 h2.2.1 h1 h3 p.length k 1 (by omega) (by omega) (by omega) (fun m hm hm2 => by omega)
  unfold spec_FirstJoined.f spec_plRest.f spec_plFew.f
  rw [in_eq, inB_mk h1, lap_true h2 (by omega), in_eq, inB_mk h3]
  simp only [Option.bind_some, if_true]
  rw [show ((1 : Nat) : Int) = 1 from rfl] at hf
  rw [hf]; rfl
theorem spec_no (gap rest lap : Int) (p : List Int) (h : ¬ AskedJ gap rest lap p) (k : Nat) (hk : 100 ≤ k) : spec_FirstJoined.f k gap p rest lap = some ( ([], false)) := by
  unfold spec_FirstJoined.f spec_plRest.f
  by_cases h1 : 1 ≤ gap ∧ gap ≤ 100
  · by_cases h2 : Lap p lap
    · rw [in_eq, inB_mk h1, lap_true h2 (by omega), in_eq, inB_not (fun h3 => h ⟨h1, h2, h3⟩)]; rfl
    · rw [in_eq, inB_mk h1, lap_false h2 (by omega)]; rfl
  · rw [in_eq, inB_not h1]; rfl
theorem law_of (gap : Int) (p : List Int) (rest lap : Int) (L : List Int) (b : Bool) (hL : L.length < 3000) (hp : ¬ (p.length : Int) > 1048576) (hs : ∀ k, 1048600 ≤ k → spec_FirstJoined.f k gap p rest lap = some (L, b)) (hi : ∀ k, 1048600 ≤ k → impl_FirstJoined.f k gap p rest lap = some (L, b)) : ∃ k, laws_FnExactFirstJoined.f k gap p rest lap = some true := by
  obtain ⟨m, hml, hm, hh⟩ := mark_held L (by omega)
  obtain ⟨n, hnl, hn, _⟩ := mark_held p (by omega)
  obtain ⟨k, hk⟩ : ∃ k : Nat, 1048600 ≤ k := ⟨1048600, Nat.le_refl _⟩
  have s3 := hs (k + 1 + 1 + 1) (by omega)
  have i3 := hi (k + 1 + 1 + 1) (by omega)
  have i1 := hi (k + 1) (by omega)
  have t3 := toIntS_eq p (by omega) (show p.length < k + 1 + 1 + 1 by omega)
  have t2 := toIntS_eq p (by omega) (show p.length < k + 1 + 1 by omega)
  have t1 := toIntS_eq p (by omega) (show p.length < k + 1 by omega)
  have ep := eqIntS_self p (by omega) (show p.length < k + 1 + 1 by omega)
  have e3 := eqIntS_self L (by omega) (show L.length < k + 1 + 1 + 1 by omega)
  have e2 := eqIntS_self L (by omega) (show L.length < k + 1 + 1 by omega)
  have e1 := eqIntS_self L (by omega) (show L.length < k + 1 by omega)
  have n2 := hn (k + 1 + 1) (by omega)
  have m1 := hm (k + 1) (by omega)
  have h1 := hh (k + 1) (by omega)
  have h0 := hh k (by omega)
  have c1 : ¬ (1 + (L.length : Int)) < 0 := by omega
  have c2 : ¬ (1 + (p.length : Int)) < 0 := by omega
  refine ⟨k + 1 + 1 + 1, ?_⟩
  unfold laws_FnExactFirstJoined.f
  rw [if_neg hp]
  simp only [t3, s3, i3, Option.bind_some, e3, if_true, bne_self_eq_false, laws_FnExactFirstJoined.j0, t2, ep, n2, if_neg c2, e2, laws_FnExactFirstJoined.j1, m1, h1, if_neg c1, t1, i1, e1, laws_FnExactFirstJoined.j2, h0]
  simp
theorem FnExactFirstJoined : laws_FnExactFirstJoined.Pure := by
  intro gap p rest lap _ _ _ _ _ _
  by_cases h2 : (p.length : Int) > 1048576
  · exact ⟨0, by unfold laws_FnExactFirstJoined.f; rw [if_pos h2]⟩
  by_cases ha : AskedJ gap rest lap p
  · have h7 := ha.2.1.1.1
    obtain ⟨r, hr⟩ : ∃ r, lf lap p p.length (gap + 2 * rest - lap) = r := ⟨_, rfl⟩
    have hlen : (outJ r).1.length < 3000 := by
      cases r with
      | none => simp [outJ]
      | some x =>
        have q := (lf_spec lap p p.length (gap + 2 * rest - lap)).1 x hr
        have := jl_len lap p p.length _ _ _ q.1
        simp only [outJ]; omega
    refine law_of gap p rest lap (outJ r).1 (outJ r).2 hlen h2 (fun k hk => ?_) (fun k hk => ?_)
    · rw [spec_yes gap rest lap p ha k (by omega), hr]
    · rw [first_yes gap rest lap p ha k (by omega), hr]
  · refine law_of gap p rest lap [] false (by simp) h2 (fun k hk => ?_) (fun k hk => ?_)
    · exact spec_no gap rest lap p ha k (by omega)
    · exact first_no gap rest lap p ha k (by omega)

end Go.Proofs.Ytjkhpdfphphnfaa.Pure
