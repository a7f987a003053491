/- For all lists of numbers and each lap the program's JoinedLength and the reference's answer alike, and the list stays. Conditions: the list takes at most 140737488351232 bytes, the lap is a number of 64 bits. -/
import Derived.Test.YthekpfnijkhgjaaPFnExactJoinedLengthx
namespace Go.Proofs.Ythekpfnijkhgjaa.Pure
open Go.RowKit Go.Proofs.Ythekpfnijkhgjaa.PFnExactJoinedLength Go.Proofs.YthekpfnijkhgjaaW.PrintWords Go.Proofs.YthekpfnijkhgjaaW.PrintLast Go.Proofs.YthekpfnijkhgjaaW.PrintMore

set_option linter.unusedVariables false
set_option linter.unusedSimpArgs false
def inB (a b c : Int) : Bool := decide (b ≤ a ∧ a ≤ c)
theorem inB_true {a b c : Int} (h : inB a b c = true) : b ≤ a ∧ a ≤ c := of_decide_eq_true h
theorem inB_mk {a b c : Int} (h : b ≤ a ∧ a ≤ c) : inB a b c = true := decide_eq_true h
theorem inB_not {a b c : Int} (h : ¬ (b ≤ a ∧ a ≤ c)) : inB a b c = false := decide_eq_false h
theorem inB_false {a b c : Int} (h : inB a b c = false) : ¬ (b ≤ a ∧ a ≤ c) := of_decide_eq_false h
theorem in_eq (a b c : Int) : spec_l1In.f a b c = some (inB a b c) := by
  unfold spec_l1In.f inB
  by_cases h : a ≥ b
  · rw [if_pos h]; congr 1; rw [decide_eq_decide]; omega
  · rw [if_neg h]; congr 1; symm; rw [decide_eq_false_iff_not]; omega
theorem within_eq (a b c : Int) : impl_within.f a b c = some (inB a b c) := by
  unfold impl_within.f inB
  by_cases h : b ≤ a
  · rw [if_pos h]; congr 1; rw [decide_eq_decide]; omega
  · rw [if_neg h]; congr 1; symm; rw [decide_eq_false_iff_not]; omega
theorem w64 {x : Int} (h0 : -9223372036854775808 ≤ x) (h1 : x < 9223372036854775808) : wrap64 x = x := by unfold wrap64; omega
theorem rd_mid (pre rest : List Int) (x i : Int) (h : i = pre.length) : rd (pre ++ x :: rest) i = x := by
  subst h; unfold rd; simp
theorem rd_mem (l : List Int) (x : Int) (h : x ∈ l) : ∃ i : Int, 0 ≤ i ∧ i < l.length ∧ rd l i = x := by
  obtain ⟨n, hn, e⟩ := List.mem_iff_getElem.1 h
  refine ⟨n, by omega, by omega, ?_⟩
  unfold rd
  rw [List.getD_eq_getElem?_getD, show ((n : Int)).toNat = n by omega, List.getElem?_eq_getElem hn, e]; rfl
theorem toIntS_l0 (l : List Int) (hl : l.length < 4611686018427387904) (d : Nat) : ∀ (k : Nat) (pre suf : List Int) (i : Int), pre.length = suf.length → i = pre.length → (∃ rest, l = pre ++ rest ∧ rest.length = d ∧ ∃ zs : List Int, suf ++ zs = suf ++ zs) → d < k → ∀ z : List Int, z.length = l.length → z.take pre.length = pre → laws_toIntS.l0 k l z i = some l := by
  induction d with
  | zero =>
    intro k pre suf i _ hi h hk z hz hzp
    obtain ⟨rest, rfl, hr, _⟩ := h
    obtain ⟨k, rfl⟩ : ∃ m, k = m + 1 := ⟨k - 1, by omega⟩
    obtain rfl : rest = [] := List.eq_nil_of_length_eq_zero hr
    simp only [laws_toIntS.l0]
    rw [List.append_nil] at hz ⊢
    rw [if_neg (by omega)]
    congr 1
    rw [← hzp, List.take_of_length_le (by omega)]
  | succ d ih =>
    intro k pre suf i hps hi h hk z hz hzp
    obtain ⟨rest, rfl, hr, _⟩ := h
    obtain ⟨k, rfl⟩ : ∃ m, k = m + 1 := ⟨k - 1, by omega⟩
    obtain ⟨x, rest, rfl⟩ : ∃ x r, rest = x :: r := by
      cases rest with
      | nil => simp at hr
      | cons x r => exact ⟨x, r, rfl⟩
    simp only [List.length_cons] at hr
    simp only [List.length_append, List.length_cons] at hz hl
    simp only [laws_toIntS.l0]
    rw [if_pos (by simp; omega), if_pos (by omega), if_pos (by omega), w64 (by omega) (by omega)]
    have hrd : rd (pre ++ x :: rest) i = x := by subst hi; unfold rd; simp
    rw [hrd]
    refine ih k (pre ++ [x]) (suf ++ [x]) (i + 1) (by simp [hps]) (by simp; omega) ⟨rest, by simp, by omega, [], rfl⟩ (by omega) _ (by simp [hz]) ?_
    subst hi
    have e : ((pre.length : Int)).toNat = pre.length := by simp
    rw [e, List.length_append, List.length_singleton, List.take_set, List.take_add_one, hzp, List.getElem?_eq_getElem (by omega)]
    simp
theorem toIntS_eq (l : List Int) (hl : l.length ≤ 35184372088832) {k : Nat} (hk : l.length < k) : laws_toIntS.f k l = some l := by
  unfold laws_toIntS.f
  rw [if_pos (by omega), if_pos (by simp; omega)]
  exact toIntS_l0 l (by omega) l.length k [] [] 0 rfl rfl ⟨l, rfl, rfl, [], rfl⟩ hk _ (by simp) rfl
theorem eqIntS_l0 (l : List Int) (hl : l.length < 4611686018427387904) (d : Nat) : ∀ (k : Nat) (i : Int), 0 ≤ i → (l.length : Int) - i ≤ d → d < k → laws_eqIntS.l0 k l l i = some true := by
  induction d with
  | zero =>
    intro k i h0 hd hk
    obtain ⟨k, rfl⟩ : ∃ m, k = m + 1 := ⟨k - 1, by omega⟩
    simp only [laws_eqIntS.l0]; rw [if_neg (by omega)]
  | succ d ih =>
    intro k i h0 hd hk
    obtain ⟨k, rfl⟩ : ∃ m, k = m + 1 := ⟨k - 1, by omega⟩
    simp only [laws_eqIntS.l0]
    by_cases hlt : i < (l.length : Int)
    · rw [if_pos hlt, if_pos h0, if_pos hlt, if_pos trivial, w64 (by omega) (by omega)]
      exact ih k (i + 1) (by omega) (by omega) (by omega)
    · rw [if_neg hlt]
theorem eqIntS_self (l : List Int) (hl : l.length < 4611686018427387904) {k : Nat} (hk : l.length < k) : laws_eqIntS.f k l l = some true := by
  unfold laws_eqIntS.f
  rw [if_pos rfl]
  exact eqIntS_l0 l hl l.length k 0 (by omega) (by omega) hk
/-- Planks, or gaps: 1..7 of them, each 1..100. -/
def PG (l : List Int) : Prop := (1 ≤ l.length ∧ l.length ≤ 7) ∧ ∀ i : Int, 0 ≤ i → i < l.length → 1 ≤ rd l i ∧ rd l i ≤ 100
theorem PG.mem {l : List Int} (h : PG l) : ∀ x ∈ l, 1 ≤ x ∧ x ≤ 100 := fun x hx => by
  obtain ⟨i, h0, h1, e⟩ := rd_mem l x hx
  rw [← e]; exact h.2 i h0 h1
theorem l1All_true (l : List Int) (hl : l.length ≤ 100) (lo hi : Int) (d : Nat) : ∀ (k : Nat) (i : Int), 0 ≤ i → (l.length : Int) - i ≤ d → d < k → (∀ j : Int, i ≤ j → j < l.length → lo ≤ rd l j ∧ rd l j ≤ hi) → spec_l1All.l0 k lo hi l (l.length : Int) i = some true := by
  induction d with
  | zero =>
    intro k i h0 hd hk h
    obtain ⟨k, rfl⟩ : ∃ m, k = m + 1 := ⟨k - 1, by omega⟩
    simp only [spec_l1All.l0]; rw [if_neg (by omega)]
  | succ d ih =>
    intro k i h0 hd hk h
    obtain ⟨k, rfl⟩ : ∃ m, k = m + 1 := ⟨k - 1, by omega⟩
    simp only [spec_l1All.l0]
    by_cases hlt : i < (l.length : Int)
    · rw [if_pos hlt, if_pos h0, if_pos hlt, in_eq, inB_mk (h i (by omega) hlt), w64 (by omega) (by omega)]
      exact ih k (i + 1) (by omega) (by omega) (by omega) (fun j h1 h2 => h j (by omega) h2)
    · rw [if_neg hlt]
theorem l1All_false (l : List Int) (hl : l.length ≤ 100) (lo hi : Int) (d : Nat) : ∀ (k : Nat) (i : Int), 0 ≤ i → (l.length : Int) - i ≤ d → d < k → (¬ ∀ j : Int, i ≤ j → j < l.length → lo ≤ rd l j ∧ rd l j ≤ hi) → spec_l1All.l0 k lo hi l (l.length : Int) i = some false := by
  induction d with
  | zero => intro k i h0 hd hk h; exact absurd (fun j h1 h2 => by omega) h
  | succ d ih =>
    intro k i h0 hd hk h
    obtain ⟨k, rfl⟩ : ∃ m, k = m + 1 := ⟨k - 1, by omega⟩
    simp only [spec_l1All.l0]
    by_cases hlt : i < (l.length : Int)
    · rw [if_pos hlt, if_pos h0, if_pos hlt, in_eq, w64 (by omega) (by omega)]
      by_cases hi1 : lo ≤ rd l i ∧ rd l i ≤ hi
      · rw [inB_mk hi1]
        exact ih k (i + 1) (by omega) (by omega) (by omega) (fun g => h (fun j h1 h2 => if e : j = i then by rw [e]; exact hi1 else g j (by omega) h2))
      · rw [inB_not hi1]; rfl
    · exact absurd (fun j h1 h2 => by omega) h
theorem within_true (l : List Int) (hl : l.length ≤ 100) (lo hi : Int) (d : Nat) : ∀ (k : Nat) (i : Int), 0 ≤ i → (l.length : Int) - i ≤ d → d < k → (∀ j : Int, i ≤ j → j < l.length → lo ≤ rd l j ∧ rd l j ≤ hi) → impl_areWithin.l0 l lo hi k i = some true := by
  induction d with
  | zero =>
    intro k i h0 hd hk h
    obtain ⟨k, rfl⟩ : ∃ m, k = m + 1 := ⟨k - 1, by omega⟩
    simp only [impl_areWithin.l0]; rw [if_neg (by omega)]
  | succ d ih =>
    intro k i h0 hd hk h
    obtain ⟨k, rfl⟩ : ∃ m, k = m + 1 := ⟨k - 1, by omega⟩
    simp only [impl_areWithin.l0]
    by_cases hlt : i < (l.length : Int)
    · rw [if_pos hlt, if_pos h0, within_eq, inB_mk (h i (by omega) hlt), w64 (by omega) (by omega)]
      exact ih k (i + 1) (by omega) (by omega) (by omega) (fun j h1 h2 => h j (by omega) h2)
    · rw [if_neg hlt]
theorem within_false (l : List Int) (hl : l.length ≤ 100) (lo hi : Int) (d : Nat) : ∀ (k : Nat) (i : Int), 0 ≤ i → (l.length : Int) - i ≤ d → d < k → (¬ ∀ j : Int, i ≤ j → j < l.length → lo ≤ rd l j ∧ rd l j ≤ hi) → impl_areWithin.l0 l lo hi k i = some false := by
  induction d with
  | zero => intro k i h0 hd hk h; exact absurd (fun j h1 h2 => by omega) h
  | succ d ih =>
    intro k i h0 hd hk h
    obtain ⟨k, rfl⟩ : ∃ m, k = m + 1 := ⟨k - 1, by omega⟩
    simp only [impl_areWithin.l0]
    by_cases hlt : i < (l.length : Int)
    · rw [if_pos hlt, if_pos h0, within_eq, w64 (by omega) (by omega)]
      by_cases hi1 : lo ≤ rd l i ∧ rd l i ≤ hi
      · rw [inB_mk hi1]
        exact ih k (i + 1) (by omega) (by omega) (by omega) (fun g => h (fun j h1 h2 => if e : j = i then by rw [e]; exact hi1 else g j (by omega) h2))
      · rw [inB_not hi1]; rfl
    · exact absurd (fun j h1 h2 => by omega) h
theorem plGood_true {l : List Int} (h : PG l) {k : Nat} (hk : 8 ≤ k) : spec_plGood.f k l = some true := by
  have h1 : (1 : Int) ≤ (l.length : Int) ∧ (l.length : Int) ≤ 7 := by have := h.1; omega
  have h2 := l1All_true l (by have := h.1; omega) 1 100 7 k 0 (by omega) (by omega) (by omega) h.2
  unfold spec_plGood.f spec_l1All.f
  rw [in_eq, inB_mk h1]
  simp only [Option.bind_some, if_true, h2]
theorem plGood_false {l : List Int} (h : ¬ PG l) {k : Nat} (hk : 8 ≤ k) : spec_plGood.f k l = some false := by
  by_cases h1 : (1 : Int) ≤ (l.length : Int) ∧ (l.length : Int) ≤ 7
  · have h2 := l1All_false l (by omega) 1 100 7 k 0 (by omega) (by omega) (by omega) (fun g => h ⟨by omega, g⟩)
    unfold spec_plGood.f spec_l1All.f
    rw [in_eq, inB_mk h1]
    simp only [Option.bind_some, if_true, h2]
  · unfold spec_plGood.f
    rw [in_eq, inB_not h1]; rfl
theorem arePlanks_true {l : List Int} (h : PG l) : impl_ArePlanks.f l = some true := by
  have h1 : (1 : Int) ≤ (l.length : Int) ∧ (l.length : Int) ≤ 7 := by have := h.1; omega
  have h2 := within_true l (by have := h.1; omega) 1 100 l.length (l.length + 1) 0 (by omega) (by omega) (by omega) h.2
  unfold impl_ArePlanks.f impl_areWithin.f
  rw [within_eq, inB_mk h1]
  simp only [Option.bind_some, if_true, h2]
theorem arePlanks_false {l : List Int} (h : ¬ PG l) : impl_ArePlanks.f l = some false := by
  by_cases h1 : (1 : Int) ≤ (l.length : Int) ∧ (l.length : Int) ≤ 7
  · have h2 := within_false l (by omega) 1 100 l.length (l.length + 1) 0 (by omega) (by omega) (by omega) (fun g => h ⟨by omega, g⟩)
    unfold impl_ArePlanks.f impl_areWithin.f
    rw [within_eq, inB_mk h1]
    simp only [Option.bind_some, if_true, h2]
  · unfold impl_ArePlanks.f
    rw [within_eq, inB_not h1]; rfl
theorem min_l0 (L : List Int) (hL : L.length ≤ 7) (rest : List Int) : ∀ (k : Nat) (pre : List Int) (m i : Int), L = pre ++ rest → i = pre.length → rest.length < k → ∃ z, slices_Min_int_int.l0 k L m i = some z ∧ z ≤ m ∧ (∀ x ∈ rest, z ≤ x) ∧ (z = m ∨ z ∈ rest) := by
  induction rest with
  | nil =>
    intro k pre m i hp hi hk
    obtain ⟨k, rfl⟩ : ∃ q, k = q + 1 := ⟨k - 1, by omega⟩
    have : L.length = pre.length := by rw [hp]; simp
    refine ⟨m, ?_, Int.le_refl _, fun x hx => by simp at hx, .inl rfl⟩
    simp only [slices_Min_int_int.l0]
    rw [if_neg (by omega)]
  | cons x rest ih =>
    intro k pre m i hp hi hk
    simp only [List.length_cons] at hk
    obtain ⟨k, rfl⟩ : ∃ q, k = q + 1 := ⟨k - 1, by omega⟩
    have hlen : L.length = pre.length + (rest.length + 1) := by rw [hp]; simp
    have hrd : rd L i = x := by rw [hp]; exact rd_mid _ _ _ _ hi
    have hmn : mn m x ≤ m ∧ mn m x ≤ x ∧ (mn m x = m ∨ mn m x = x) := by unfold mn; split <;> omega
    obtain ⟨z, hz, h1, h2, h3⟩ := ih k (pre ++ [x]) (mn m x) (i + 1) (by rw [hp]; simp) (by simp; omega) (by omega)
    refine ⟨z, ?_, by omega, fun y hy => ?_, ?_⟩
    · simp only [slices_Min_int_int.l0]
      rw [if_pos (by omega), if_pos (by omega), hrd, w64 (x := i + 1) (by omega) (by omega)]
      exact hz
    · rcases List.mem_cons.1 hy with e | e
      · omega
      · exact h2 y e
    · rcases h3 with e | e
      · rcases hmn.2.2 with e2 | e2
        · exact .inl (by omega)
        · exact .inr (by rw [e, e2]; exact List.mem_cons_self)
      · exact .inr (List.mem_cons_of_mem _ e)
theorem min_eq (p : List Int) (h : PG p) {k : Nat} (hk : 8 ≤ k) : ∃ z, slices_Min_int_int.f k p = some z ∧ (∀ x ∈ p, z ≤ x) ∧ z ∈ p := by
  obtain ⟨h1, h2⟩ := h
  obtain ⟨x, rest, rfl⟩ : ∃ x r, p = x :: r := by
    cases p with
    | nil => simp at h1
    | cons x r => exact ⟨x, r, rfl⟩
  simp only [List.length_cons] at h1
  obtain ⟨z, hz, h3, h4, h5⟩ := min_l0 (x :: rest) (by simp; omega) rest k [x] x 1 rfl rfl (by omega)
  refine ⟨z, ?_, fun y hy => ?_, ?_⟩
  · unfold slices_Min_int_int.f
    rw [if_neg (by simp only [List.length_cons]; omega), if_pos (by simp only [List.length_cons]; omega)]
    exact hz
  · rcases List.mem_cons.1 hy with e | e
    · omega
    · exact h4 y e
  · rcases h5 with e | e
    · rw [e]; exact List.mem_cons_self
    · exact List.mem_cons_of_mem _ e
def Lap (p : List Int) (lap : Int) : Prop := PG p ∧ (0 ≤ lap ∧ lap ≤ 10) ∧ ∀ x ∈ p, lap < x
theorem lap_true {p : List Int} {lap : Int} (h : Lap p lap) {k : Nat} (hk : 8 ≤ k) : spec_plLap.f k p lap = some true := by
  have e1 : wrap64 (lap + 1) = lap + 1 := w64 (by have := h.2.1; omega) (by have := h.2.1; omega)
  have h7 := h.1.1
  have h2 := l1All_true p (by omega) (lap + 1) 100 7 k 0 (by omega) (by omega) (by omega) (fun j h0 h1 => by
    have hm : rd p j ∈ p := by
      unfold rd; rw [List.getD_eq_getElem?_getD, List.getElem?_eq_getElem (by omega)]; simp
    have h3 := h.2.2 _ hm; have h4 := h.1.2 j h0 h1
    omega)
  unfold spec_plLap.f spec_plRest.f spec_l1All.f
  rw [plGood_true h.1 hk, in_eq, inB_mk h.2.1, e1]
  simp only [Option.bind_some, if_true, h2]
theorem lap_false {p : List Int} {lap : Int} (h : ¬ Lap p lap) {k : Nat} (hk : 8 ≤ k) : spec_plLap.f k p lap = some false := by
  by_cases h1 : PG p
  · by_cases h2 : 0 ≤ lap ∧ lap ≤ 10
    · have e1 : wrap64 (lap + 1) = lap + 1 := w64 (by omega) (by omega)
      have h7 := h1.1
      have h3 := l1All_false p (by omega) (lap + 1) 100 7 k 0 (by omega) (by omega) (by omega) (fun g => h ⟨h1, h2, fun x hx => by
        obtain ⟨i, i0, i1, e⟩ := rd_mem p x hx
        have := g i i0 i1; omega⟩)
      unfold spec_plLap.f spec_plRest.f spec_l1All.f
      rw [plGood_true h1 hk, in_eq, inB_mk h2, e1]
      simp only [Option.bind_some, if_true, h3]
    · unfold spec_plLap.f spec_plRest.f
      rw [plGood_true h1 hk, in_eq, inB_not h2]; rfl
  · unfold spec_plLap.f
    rw [plGood_false h1 hk]; rfl
theorem joined_true {p : List Int} {lap : Int} (h : Lap p lap) {k : Nat} (hk : 8 ≤ k) : impl_areJoined.f k p lap = some true := by
  obtain ⟨z, hz, _, hzm⟩ := min_eq p h.1 hk
  have hlt := h.2.2 z hzm
  unfold impl_areJoined.f impl_isRest.f
  rw [arePlanks_true h.1, within_eq, inB_mk h.2.1, hz]
  simp only [Option.bind_some, if_true]
  rw [decide_eq_true (show z > lap from hlt)]
theorem joined_false {p : List Int} {lap : Int} (h : ¬ Lap p lap) {k : Nat} (hk : 8 ≤ k) : impl_areJoined.f k p lap = some false := by
  unfold impl_areJoined.f impl_isRest.f
  by_cases h1 : PG p
  · by_cases h2 : 0 ≤ lap ∧ lap ≤ 10
    · obtain ⟨z, hz, hall, _⟩ := min_eq p h1 hk
      rw [arePlanks_true h1, within_eq, inB_mk h2, hz]
      simp only [Option.bind_some, if_true]
      rw [decide_eq_false (show ¬ z > lap from fun hlt => h ⟨h1, h2, fun x hx => by have := hall x hx; omega⟩)]
    · rw [arePlanks_true h1, within_eq, inB_not h2]; rfl
  · rw [arePlanks_false h1]; rfl
def sumD (lap : Int) : List Int → Int
  | [] => 0
  | x :: r => (x - lap) + sumD lap r
theorem sumD_eq (lap : Int) (l : List Int) : sumD lap l = sumD 0 l - lap * (l.length : Int) := by
  induction l with
  | nil => simp [sumD]
  | cons x l ih =>
    have e : lap * ((l.length : Int) + 1) = lap * (l.length : Int) + lap := by rw [Int.mul_add, Int.mul_one]
    simp only [sumD, List.length_cons]
    rw [ih, show (((l.length + 1 : Nat) : Nat) : Int) = (l.length : Int) + 1 by omega, e]
    omega
theorem sumD_in (lap : Int) (hl : 0 ≤ lap ∧ lap ≤ 10) (l : List Int) : (∀ x ∈ l, 1 ≤ x ∧ x ≤ 100) → -(10 * (l.length : Int)) ≤ sumD lap l ∧ sumD lap l ≤ 100 * (l.length : Int) := by
  induction l with
  | nil => intro _; simp [sumD]
  | cons x l ih =>
    intro h
    have := ih (fun y hy => h y (List.mem_cons_of_mem _ hy)); have hx := h x List.mem_cons_self
    simp only [sumD, List.length_cons]
    omega
theorem specSum (lap : Int) (hl : 0 ≤ lap ∧ lap ≤ 10) (L : List Int) (hL : L.length ≤ 7) (rest : List Int) : ∀ (k : Nat) (pre : List Int) (acc i : Int), L = pre ++ rest → i = pre.length → (∀ x ∈ rest, 1 ≤ x ∧ x ≤ 100) → -5000 ≤ acc → acc ≤ 5000 - 200 * (rest.length : Int) → -3000 + 20 * (rest.length : Int) ≤ acc → rest.length < k → spec_JoinedLength.l0 k lap acc L (L.length : Int) i = some (acc + sumD lap rest, true) := by
  induction rest with
  | nil =>
    intro k pre acc i hp hi h h0 h1 h2 hk
    obtain ⟨k, rfl⟩ : ∃ q, k = q + 1 := ⟨k - 1, by omega⟩
    have : L.length = pre.length := by rw [hp]; simp
    simp only [spec_JoinedLength.l0, sumD]
    rw [if_neg (by omega)]; simp
  | cons x rest ih =>
    intro k pre acc i hp hi h h0 h1 h2 hk
    simp only [List.length_cons] at hk h1 h2
    obtain ⟨k, rfl⟩ : ∃ q, k = q + 1 := ⟨k - 1, by omega⟩
    have hlen : L.length = pre.length + (rest.length + 1) := by rw [hp]; simp
    have hrd : rd L i = x := by rw [hp]; exact rd_mid _ _ _ _ hi
    have hx := h x List.mem_cons_self
    simp only [spec_JoinedLength.l0, sumD]
    rw [if_pos (by omega), if_pos (by omega), if_pos (by omega), hrd, w64 (x := x - lap) (by omega) (by omega), w64 (x := acc + (x - lap)) (by omega) (by omega), w64 (x := i + 1) (by omega) (by omega)]
    rw [ih k (pre ++ [x]) _ (i + 1) (by rw [hp]; simp) (by simp; omega) (fun y hy => h y (List.mem_cons_of_mem _ hy)) (by omega) (by omega) (by omega) (by omega)]
    congr 2; omega
theorem implSum (L : List Int) (hL : L.length ≤ 7) (rest : List Int) : ∀ (k : Nat) (pre : List Int) (acc i : Int), L = pre ++ rest → i = pre.length → (∀ x ∈ rest, 1 ≤ x ∧ x ≤ 100) → -5000 ≤ acc → acc ≤ 5000 - 200 * (rest.length : Int) → rest.length < k → impl_sum.l0 k acc L (L.length : Int) i = some (acc + sumD 0 rest) := by
  induction rest with
  | nil =>
    intro k pre acc i hp hi h h0 h1 hk
    obtain ⟨k, rfl⟩ : ∃ q, k = q + 1 := ⟨k - 1, by omega⟩
    have : L.length = pre.length := by rw [hp]; simp
    simp only [impl_sum.l0, sumD]
    rw [if_neg (by omega)]; simp
  | cons x rest ih =>
    intro k pre acc i hp hi h h0 h1 hk
    simp only [List.length_cons] at hk h1
    obtain ⟨k, rfl⟩ : ∃ q, k = q + 1 := ⟨k - 1, by omega⟩
    have hlen : L.length = pre.length + (rest.length + 1) := by rw [hp]; simp
    have hrd : rd L i = x := by rw [hp]; exact rd_mid _ _ _ _ hi
    have hx := h x List.mem_cons_self
    simp only [impl_sum.l0, sumD]
    rw [if_pos (by omega), if_pos (by omega), if_pos (by omega), hrd, w64 (x := acc + x) (by omega) (by omega), w64 (x := i + 1) (by omega) (by omega)]
    rw [ih k (pre ++ [x]) _ (i + 1) (by rw [hp]; simp) (by simp; omega) (fun y hy => h y (List.mem_cons_of_mem _ hy)) (by omega) (by omega) (by omega)]
    congr 1; omega
theorem law_of (p : List Int) (lap x : Int) (b : Bool) (hp : ¬ (p.length : Int) > 1048576) (hs : ∀ k, 1048600 ≤ k → spec_JoinedLength.f k p lap = some (x, b)) (hi : ∀ k, 1048600 ≤ k → impl_JoinedLength.f k p lap = some (x, b)) : ∃ k, laws_FnExactJoinedLength.f k p lap = some true := by
  obtain ⟨k, hk⟩ : ∃ k : Nat, 1048600 ≤ k := ⟨1048600, Nat.le_refl _⟩
  have hs1 := hs (k + 1) (by omega)
  have hi1 := hi (k + 1) (by omega)
  have t2 := toIntS_eq p (by omega) (show p.length < k + 1 by omega)
  have t4 := toIntS_eq p (by omega) (show p.length < k by omega)
  have e2 := eqIntS_self p (by omega) (show p.length < k by omega)
  refine ⟨k + 1, ?_⟩
  unfold laws_FnExactJoinedLength.f
  rw [if_neg hp]
  simp [t2, hs1, hi1, laws_FnExactJoinedLength.j0, t4, e2]
theorem FnExactJoinedLength : laws_FnExactJoinedLength.Pure := by
  intro p lap _ _ _ _
  by_cases h2 : (p.length : Int) > 1048576
  · exact ⟨0, by unfold laws_FnExactJoinedLength.f; rw [if_pos h2]⟩
  by_cases ha : Lap p lap
  · have hp7 := ha.1.1
    have hl := ha.2.1
    have hm := ha.1.mem
    have hin := sumD_in 0 (by omega) p hm
    have hpr0 : 0 ≤ lap * ((p.length : Int) - 1) := Int.mul_nonneg (by omega) (by omega)
    have hpr1 : lap * ((p.length : Int) - 1) ≤ 10 * 6 := Int.mul_le_mul (by omega) (by omega) (by omega) (by omega)
    have hpr2 : lap * ((p.length : Int) - 1) = lap * (p.length : Int) - lap := by rw [Int.mul_sub, Int.mul_one]
    refine law_of p lap (lap + sumD lap p) true h2 (fun k hk => ?_) (fun k hk => ?_)
    · have hk8 : 8 ≤ k := by omega
      have hsum := specSum lap hl p hp7.2 p k [] lap 0 rfl rfl hm (by omega) (by omega) (by omega) (by omega)
      unfold spec_JoinedLength.f
      rw [lap_true ha hk8]
      simp only [Option.bind_some, if_true, hsum]
    · have hk8 : 8 ≤ k := by omega
      have hsum := implSum p hp7.2 p k [] 0 0 rfl rfl hm (by omega) (by omega) (by omega)
      have e1 : wrap64 ((p.length : Int) - 1) = (p.length : Int) - 1 := w64 (by omega) (by omega)
      have e2 : wrap64 (lap * ((p.length : Int) - 1)) = lap * ((p.length : Int) - 1) := w64 (by omega) (by omega)
      have e3 : wrap64 (0 + sumD 0 p - lap * ((p.length : Int) - 1)) = lap + sumD lap p := by
        rw [w64 (by omega) (by omega), sumD_eq lap p]; omega
      unfold impl_JoinedLength.f impl_sum.f
      rw [joined_true ha hk8]
      simp only [Option.bind_some, if_true, hsum, e1, e2, e3]
  · refine law_of p lap 0 false h2 (fun k hk => ?_) (fun k hk => ?_)
    · have hk8 : 8 ≤ k := by omega
      unfold spec_JoinedLength.f
      rw [lap_false ha hk8]; rfl
    · have hk8 : 8 ≤ k := by omega
      unfold impl_JoinedLength.f
      rw [joined_false ha hk8]; rfl

end Go.Proofs.Ythekpfnijkhgjaa.Pure
