/- For every text the program's StonesOf and the reference's answer alike, and the result is memory of its own. Conditions: the text takes at most 140737488351232 bytes. -/
import Derived.Test.YtlcgimeebhoefaaDoorPFnExactStonesOfx
namespace Go.Proofs.YtlcgimeebhoefaaDoor.Pure
open Go.RowKit Go.Proofs.YtlcgimeebhoefaaDoor.PFnExactStonesOf Go.Proofs.YtlcgimeebhoefaaDoorW.PrintWords Go.Proofs.YtlcgimeebhoefaaDoorW.PrintLast Go.Proofs.YtlcgimeebhoefaaDoorW.PrintMore

set_option linter.unusedVariables false
set_option linter.unusedSimpArgs false
def inB (a b c : Int) : Bool := decide (b ≤ a ∧ a ≤ c)
theorem inB_true {a b c : Int} (h : inB a b c = true) : b ≤ a ∧ a ≤ c := of_decide_eq_true h
theorem inB_mk {a b c : Int} (h : b ≤ a ∧ a ≤ c) : inB a b c = true := decide_eq_true h
theorem inB_not {a b c : Int} (h : ¬ (b ≤ a ∧ a ≤ c)) : inB a b c = false := decide_eq_false h
theorem inB_false {a b c : Int} (h : inB a b c = false) : ¬ (b ≤ a ∧ a ≤ c) := of_decide_eq_false h
theorem in_eq (a b c : Int) : spec_l1In.f a b c = some (inB a b c) := by
  unfold spec_l1In.f inB
  by_cases h : a ≥ b
  · rw [if_pos h]; congr 1; rw [decide_eq_decide]; omega
  · rw [if_neg h]; congr 1; symm; rw [decide_eq_false_iff_not]; omega
theorem within_eq (a b c : Int) : impl_within.f a b c = some (inB a b c) := by
  unfold impl_within.f inB
  by_cases h : b ≤ a
  · rw [if_pos h]; congr 1; rw [decide_eq_decide]; omega
  · rw [if_neg h]; congr 1; symm; rw [decide_eq_false_iff_not]; omega
theorem w64 {x : Int} (h0 : -9223372036854775808 ≤ x) (h1 : x < 9223372036854775808) : wrap64 x = x := by unfold wrap64; omega
/-- A river: 1..40 signs, each a stone or water. -/
def Good (s : ByteArray) : Prop := (1 ≤ s.size ∧ s.size ≤ 40) ∧ ∀ i : Int, 0 ≤ i → i < s.size → bt s i = 111 ∨ bt s i = 46
theorem rvGood_l0_true (s : ByteArray) (hs : s.size ≤ 40) (d : Nat) : ∀ (k : Nat) (i : Int), 0 ≤ i → (s.size : Int) - i ≤ d → d < k → (∀ j : Int, i ≤ j → j < s.size → bt s j = 111 ∨ bt s j = 46) → spec_rvGood.l0 k s i = some true := by
  induction d with
  | zero =>
    intro k i h0 hd hk h
    obtain ⟨k, rfl⟩ : ∃ m, k = m + 1 := ⟨k - 1, by omega⟩
    simp only [spec_rvGood.l0]; rw [if_neg (by omega)]
  | succ d ih =>
    intro k i h0 hd hk h
    obtain ⟨k, rfl⟩ : ∃ m, k = m + 1 := ⟨k - 1, by omega⟩
    simp only [spec_rvGood.l0]
    by_cases hlt : i < (s.size : Int)
    · rw [if_pos hlt, if_pos h0, w64 (by omega) (by omega)]
      have hr := ih k (i + 1) (by omega) (by omega) (by omega) (fun j h1 h2 => h j (by omega) h2)
      rw [hr]
      rcases h i (by omega) hlt with e | e
      · rw [if_pos e]
      · rw [if_neg (by omega), if_pos e]
    · rw [if_neg hlt]
theorem rvGood_l0_false (s : ByteArray) (hs : s.size ≤ 40) (d : Nat) : ∀ (k : Nat) (i : Int), 0 ≤ i → (s.size : Int) - i ≤ d → d < k → (¬ ∀ j : Int, i ≤ j → j < s.size → bt s j = 111 ∨ bt s j = 46) → spec_rvGood.l0 k s i = some false := by
  induction d with
  | zero =>
    intro k i h0 hd hk h
    exact absurd (fun j h1 h2 => absurd h1 (by omega)) h
  | succ d ih =>
    intro k i h0 hd hk h
    obtain ⟨k, rfl⟩ : ∃ m, k = m + 1 := ⟨k - 1, by omega⟩
    simp only [spec_rvGood.l0]
    by_cases hlt : i < (s.size : Int)
    · rw [if_pos hlt, if_pos h0, w64 (by omega) (by omega)]
      by_cases e1 : bt s i = 111
      · rw [if_pos e1]
        exact ih k (i + 1) (by omega) (by omega) (by omega) (fun g => h (fun j h1 h2 => if c : j = i then by rw [c]; exact .inl e1 else g j (by omega) h2))
      · rw [if_neg e1]
        by_cases e2 : bt s i = 46
        · rw [if_pos e2]
          exact ih k (i + 1) (by omega) (by omega) (by omega) (fun g => h (fun j h1 h2 => if c : j = i then by rw [c]; exact .inr e2 else g j (by omega) h2))
        · rw [if_neg e2]
    · exact absurd (fun j h1 h2 => absurd h2 (by omega)) h
theorem rvGood_true {s : ByteArray} (hg : Good s) {k : Nat} (hk : 41 < k) : spec_rvGood.f k s = some true := by
  unfold spec_rvGood.f
  obtain ⟨h1, h2⟩ := hg
  rw [in_eq, inB_mk ⟨by omega, by omega⟩]
  exact rvGood_l0_true s h1.2 s.size k 0 (by omega) (by omega) (by omega) h2
theorem rvGood_false {s : ByteArray} (hg : ¬ Good s) {k : Nat} (hk : 41 < k) : spec_rvGood.f k s = some false := by
  unfold spec_rvGood.f
  rw [in_eq]
  cases hb : inB (s.size : Int) 1 40
  · rfl
  · have h1 := inB_true hb
    exact rvGood_l0_false s (by omega) s.size k 0 (by omega) (by omega) (by omega) (fun h => hg ⟨⟨by omega, by omega⟩, h⟩)
theorem bt_list (s : ByteArray) (i : Nat) (h : i < s.data.toList.length) : bt s (i : Int) = ((s.data.toList[i]'h).toNat : Int) := by
  have h' : i < s.size := by simpa using h
  unfold bt
  rw [dif_pos (by simpa using h')]
  rfl
theorem dropWhile_nil {α : Type} (p : α → Bool) (l : List α) : l.dropWhile p = [] ↔ ∀ x ∈ l, p x = true := by
  induction l with
  | nil => simp
  | cons a l ih =>
    rw [List.dropWhile_cons]
    by_cases h : p a = true
    · rw [if_pos h, ih]; simp [h]
    · rw [if_neg h]; simp [h]
theorem trimS_nil (l cs : List UInt8) : Lib.trimS l cs = [] ↔ ∀ x ∈ l, cs.contains x = true := by
  unfold Lib.trimS Lib.trimLeftS Lib.trimRightS
  rw [dropWhile_nil]
  constructor
  · intro h x hx
    by_cases hall : ∀ y ∈ l.reverse, cs.contains y = true
    · exact hall x (by simpa using hx)
    · exfalso
      have hne : l.reverse.dropWhile (cs.contains ·) ≠ [] := fun e => hall ((dropWhile_nil _ _).1 e)
      obtain ⟨y, ys, hy⟩ : ∃ y ys, l.reverse.dropWhile (cs.contains ·) = y :: ys := by
        cases e : l.reverse.dropWhile (cs.contains ·) with
        | nil => exact absurd e hne
        | cons y ys => exact ⟨y, ys, rfl⟩
      have hp := List.head?_dropWhile_not (cs.contains ·) l.reverse
      rw [hy] at hp
      have := h y (by rw [hy]; simp)
      simp at hp this
      exact hp this
  · intro h x hx
    rw [List.mem_reverse] at hx
    exact h x (by simpa using (List.dropWhile_sublist _).subset hx)
theorem trim_river (s : ByteArray) (hs : s.size ≤ 9223372036854775807) : ∃ t : ByteArray, strings_Trim.f s (⟨#[111, 46]⟩ : ByteArray) = some t ∧ (t.toList = [] ↔ ∀ i : Int, 0 ≤ i → i < s.size → bt s i = 111 ∨ bt s i = 46) := by
  refine ⟨⟨(Lib.trimS s.data.toList [111, 46]).toArray⟩, ?_, ?_⟩
  · unfold strings_Trim.f
    rw [if_pos ⟨hs, by decide, by decide⟩]
  · rw [Lib.toList_data]
    show (Lib.trimS s.data.toList [111, 46]).toArray.toList = [] ↔ _
    rw [show (Lib.trimS s.data.toList [111, 46]).toArray.toList = Lib.trimS s.data.toList [111, 46] from rfl, trimS_nil]
    constructor
    · intro h i h0 h1
      have hi : i.toNat < s.data.toList.length := by
        have : s.data.toList.length = s.size := by simp
        omega
      have hb := bt_list s i.toNat hi
      rw [show ((i.toNat : Nat) : Int) = i by omega] at hb
      have := h _ (List.getElem_mem hi)
      rw [hb]
      simp at this
      rcases this with e | e <;> simp [e]
    · intro h x hx
      obtain ⟨n, hn, rfl⟩ := List.mem_iff_getElem.1 hx
      have hb := bt_list s n hn
      have hlt : n < s.size := by simpa using hn
      have := h n (by omega) (by omega)
      rw [hb] at this
      simp
      rcases this with e | e
      · left; apply UInt8.toNat_inj.1; simpa using Int.ofNat.inj e
      · right; apply UInt8.toNat_inj.1; simpa using Int.ofNat.inj e
theorem isRiver_true {s : ByteArray} (hg : Good s) : impl_IsRiver.f s = some true := by
  unfold impl_IsRiver.f
  obtain ⟨h1, h2⟩ := hg
  obtain ⟨t, ht, hiff⟩ := trim_river s (by omega)
  rw [within_eq, inB_mk ⟨by omega, by omega⟩]
  simp only [Option.bind_some, if_true, ht]
  rw [hiff.2 h2]; rfl
theorem isRiver_false {s : ByteArray} (hg : ¬ Good s) : impl_IsRiver.f s = some false := by
  unfold impl_IsRiver.f
  rw [within_eq]
  cases hb : inB (s.size : Int) 1 40
  · rfl
  · have h1 := inB_true hb
    obtain ⟨t, ht, hiff⟩ := trim_river s (by omega)
    simp only [Option.bind_some, if_true, ht]
    congr 1
    cases hc : (t.toList == ([] : List UInt8)) with
    | false => rfl
    | true => exact absurd ⟨⟨by omega, by omega⟩, hiff.1 (by simpa using hc)⟩ hg
/-- Does one stand on this place? -/
def stB (s : ByteArray) (p : Int) : Bool := decide (p = 0) || decide (p = (s.size : Int) + 1) || (bt s (p - 1) == 111)
theorem rvStand_eq (s : ByteArray) (hs : s.size ≤ 40) (p : Int) (h0 : 0 ≤ p) (h1 : p ≤ (s.size : Int) + 1) : spec_rvStand.f s p = some (stB s p) := by
  unfold spec_rvStand.f stB
  rw [w64 (x := (s.size : Int) + 1) (by omega) (by omega), w64 (x := p - 1) (by omega) (by omega)]
  by_cases e0 : p = 0
  · rw [if_pos e0]; simp [e0]
  · rw [if_neg e0]
    by_cases e1 : p = (s.size : Int) + 1
    · rw [if_pos e1]; simp [e1]
    · rw [if_neg e1, if_pos (by omega), if_pos (by omega)]; simp [e0, e1]
/-- The places from p on, so many of them, on which one stands. -/
def stFrom (s : ByteArray) : Nat → Int → List Int
  | 0, _ => []
  | d + 1, p => if stB s p = true then p :: stFrom s d (p + 1) else stFrom s d (p + 1)
theorem stFrom_mem (s : ByteArray) (d : Nat) : ∀ (p x : Int), x ∈ stFrom s d p ↔ (p ≤ x ∧ x < p + d) ∧ stB s x = true := by
  induction d with
  | zero => intro p x; simp [stFrom]; omega
  | succ d ih =>
    intro p x
    simp only [stFrom]
    by_cases h : stB s p = true
    · rw [if_pos h, List.mem_cons, ih]
      constructor
      · rintro (e | ⟨h1, h2⟩)
        · subst e; exact ⟨⟨by omega, by omega⟩, h⟩
        · exact ⟨⟨by omega, by omega⟩, h2⟩
      · rintro ⟨h1, h2⟩
        by_cases e : x = p
        · exact .inl e
        · exact .inr ⟨⟨by omega, by omega⟩, h2⟩
    · rw [if_neg h, ih]
      constructor
      · rintro ⟨h1, h2⟩; exact ⟨⟨by omega, by omega⟩, h2⟩
      · rintro ⟨h1, h2⟩
        have : x ≠ p := fun e => h (e ▸ h2)
        exact ⟨⟨by omega, by omega⟩, h2⟩
theorem stFrom_len (s : ByteArray) (d : Nat) : ∀ p : Int, (stFrom s d p).length ≤ d := by
  induction d with
  | zero => intro p; simp [stFrom]
  | succ d ih =>
    intro p
    simp only [stFrom]
    have := ih (p + 1)
    split <;> simp <;> omega
theorem stand_l0 (s : ByteArray) (hs : s.size ≤ 40) (d : Nat) : ∀ (k : Nat) (i : Int) (acc : List Int), 0 ≤ i → (s.size : Int) - i = d → d < k → acc.length + d < 17592186044416 → impl_stand.l0 k s acc (s.size : Int) i = some (acc ++ stFrom s (d + 1) (i + 1)) := by
  induction d with
  | zero =>
    intro k i acc h0 hd hk hl
    obtain ⟨k, rfl⟩ : ∃ m, k = m + 1 := ⟨k - 1, by omega⟩
    obtain rfl : i = (s.size : Int) := by omega
    simp only [impl_stand.l0]
    rw [if_neg (by omega), if_pos (by omega), w64 (by omega) (by omega)]
    simp [stFrom, stB]
  | succ d ih =>
    intro k i acc h0 hd hk hl
    obtain ⟨k, rfl⟩ : ∃ m, k = m + 1 := ⟨k - 1, by omega⟩
    simp only [impl_stand.l0]
    rw [if_pos (by omega), if_pos h0, if_pos (by omega), w64 (by omega) (by omega)]
    have hst : stB s (i + 1) = decide (bt s i = 111) := by
      unfold stB
      rw [show i + 1 - 1 = i by omega]
      have e0 : decide (i + 1 = 0) = false := decide_eq_false (by omega)
      have e1 : decide (i + 1 = (s.size : Int) + 1) = false := decide_eq_false (by omega)
      rw [e0, e1]
      rfl
    have hstep : stFrom s (d + 1 + 1) (i + 1) = if stB s (i + 1) = true then (i + 1) :: stFrom s (d + 1) (i + 1 + 1) else stFrom s (d + 1) (i + 1 + 1) := rfl
    rw [hstep, hst]
    by_cases hb : bt s i = 111
    · rw [if_pos hb, if_pos (by omega), if_pos (decide_eq_true hb), ih k (i + 1) (acc ++ [i + 1]) (by omega) (by omega) (by omega) (by simp; omega)]
      simp
    · rw [if_neg hb, if_neg (by simp [hb]), ih k (i + 1) acc (by omega) (by omega) (by omega) (by omega)]
theorem stand_eq (s : ByteArray) (hs : s.size ≤ 40) {k : Nat} (hk : s.size < k) : impl_stand.f k s = some (0 :: stFrom s (s.size + 1) 1) := by
  unfold impl_stand.f
  rw [stand_l0 s hs s.size k 0 [0] (by omega) (by omega) hk (by simp; omega)]
  rfl
theorem rd_mid (pre rest : List Int) (x i : Int) (h : i = pre.length) : rd (pre ++ x :: rest) i = x := by
  subst h; unfold rd; simp
theorem eqIntS_l0 (l : List Int) (hl : l.length < 4611686018427387904) (d : Nat) : ∀ (k : Nat) (i : Int), 0 ≤ i → (l.length : Int) - i ≤ d → d < k → laws_eqIntS.l0 k l l i = some true := by
  induction d with
  | zero =>
    intro k i h0 hd hk
    obtain ⟨k, rfl⟩ : ∃ m, k = m + 1 := ⟨k - 1, by omega⟩
    simp only [laws_eqIntS.l0]; rw [if_neg (by omega)]
  | succ d ih =>
    intro k i h0 hd hk
    obtain ⟨k, rfl⟩ : ∃ m, k = m + 1 := ⟨k - 1, by omega⟩
    simp only [laws_eqIntS.l0]
    by_cases hlt : i < (l.length : Int)
    · rw [if_pos hlt, if_pos h0, if_pos hlt, if_pos trivial, w64 (by omega) (by omega)]
      exact ih k (i + 1) (by omega) (by omega) (by omega)
    · rw [if_neg hlt]
theorem eqIntS_self (l : List Int) (hl : l.length < 4611686018427387904) {k : Nat} (hk : l.length < k) : laws_eqIntS.f k l l = some true := by
  unfold laws_eqIntS.f
  rw [if_pos rfl]
  exact eqIntS_l0 l hl l.length k 0 (by omega) (by omega) hk
theorem rd_set (l : List Int) (i j v : Int) (h0 : 0 ≤ i) (h1 : i < l.length) (h2 : 0 ≤ j) : rd (l.set i.toNat v) j = if j = i then v else rd l j := by
  unfold rd
  rw [List.getD_eq_getElem?_getD, List.getD_eq_getElem?_getD, List.getElem?_set]
  by_cases e : j = i
  · subst e; rw [if_pos rfl, if_pos rfl, if_pos (by omega)]; rfl
  · rw [if_neg e, if_neg (by omega)]
theorem markIntS_l0 (d : Nat) : ∀ (k : Nat) (l : List Int) (v i : Int), l.length < 4611686018427387904 → 0 ≤ i → i ≤ l.length → (l.length : Int) - i ≤ d → d < k → 0 ≤ v → v + ((l.length : Int) - i) < 9223372036854775807 →
    ∃ m, laws_markIntS.l0 k l v i = some (v + ((l.length : Int) - i), m) ∧ m.length = l.length ∧ (∀ j : Int, 0 ≤ j → j < i → rd m j = rd l j) ∧ ∀ j : Int, i ≤ j → j < l.length → rd m j = v + (j - i) := by
  induction d with
  | zero =>
    intro k l v i hl h0 hi hd hk hv hb
    obtain ⟨k, rfl⟩ : ∃ m, k = m + 1 := ⟨k - 1, by omega⟩
    refine ⟨l, ?_, rfl, fun _ _ _ => rfl, fun j h1 h2 => by omega⟩
    simp only [laws_markIntS.l0]; rw [if_neg (by omega)]; congr 2; omega
  | succ d ih =>
    intro k l v i hl h0 hi hd hk hv hb
    obtain ⟨k, rfl⟩ : ∃ m, k = m + 1 := ⟨k - 1, by omega⟩
    simp only [laws_markIntS.l0]
    by_cases hlt : i < (l.length : Int)
    · rw [if_pos hlt, if_pos h0, w64 (by omega) (by omega), w64 (by omega) (by omega)]
      have hlen : (l.set i.toNat v).length = l.length := by simp
      obtain ⟨m, hm, hml, hm1, hm2⟩ := ih k (l.set i.toNat v) (v + 1) (i + 1) (by omega) (by omega) (by omega) (by omega) (by omega) (by omega) (by omega)
      rw [hlen] at hm hml hm2
      refine ⟨m, by rw [hm]; congr 2; omega, hml, ?_, ?_⟩
      · intro j h1 h2
        rw [hm1 j h1 (by omega), rd_set l i j v h0 hlt h1, if_neg (by omega)]
      · intro j h1 h2
        by_cases e : j = i
        · subst e; rw [hm1 j h0 (by omega), rd_set l j j v h0 hlt h0, if_pos rfl]; omega
        · rw [hm2 j (by omega) h2]; omega
    · rw [if_neg hlt]
      exact ⟨l, by congr 2; omega, rfl, fun _ _ _ => rfl, fun j h1 h2 => by omega⟩
theorem heldIntS_l0 (m : List Int) (hl : m.length < 4611686018427387904) (d : Nat) : ∀ (k : Nat) (v i : Int), 0 ≤ i → i ≤ m.length → (m.length : Int) - i ≤ d → d < k → 0 ≤ v → v + ((m.length : Int) - i) < 9223372036854775807 → (∀ j : Int, i ≤ j → j < m.length → rd m j = v + (j - i)) → laws_heldIntS.l0 k m v i = some (v + ((m.length : Int) - i)) := by
  induction d with
  | zero =>
    intro k v i h0 hi hd hk hv hb h
    obtain ⟨k, rfl⟩ : ∃ m, k = m + 1 := ⟨k - 1, by omega⟩
    simp only [laws_heldIntS.l0]; rw [if_neg (by omega)]; congr 1; omega
  | succ d ih =>
    intro k v i h0 hi hd hk hv hb h
    obtain ⟨k, rfl⟩ : ∃ m, k = m + 1 := ⟨k - 1, by omega⟩
    simp only [laws_heldIntS.l0]
    by_cases hlt : i < (m.length : Int)
    · rw [if_pos hlt, if_pos h0, if_pos (by rw [h i (by omega) hlt]; omega), w64 (by omega) (by omega), w64 (by omega) (by omega), ih k (v + 1) (i + 1) (by omega) (by omega) (by omega) (by omega) (by omega) (by omega) (fun j h1 h2 => by rw [h j (by omega) h2]; omega)]
      congr 1; omega
    · rw [if_neg hlt]; congr 1; omega
theorem mark_held (l : List Int) (hl : l.length < 1000000) : ∃ m, m.length = l.length ∧ (∀ k, l.length < k → laws_markIntS.f k l 1 = some (1 + (l.length : Int), m)) ∧ ∀ k, l.length < k → laws_heldIntS.f k m 1 = some (1 + (l.length : Int)) := by
  obtain ⟨m, hm, hml, _, hm2⟩ := markIntS_l0 l.length (l.length + 1) l 1 0 (by omega) (by omega) (by omega) (by omega) (by omega) (by omega) (by omega)
  refine ⟨m, hml, fun k hk => ?_, fun k hk => ?_⟩
  · have := at_rounds (g := fun k => laws_markIntS.f k l 1) (fun k => laws_markIntS.mono l 1 k) (show l.length + 1 ≤ k by omega) hm
    rw [this]; congr 2 <;> omega
  · unfold laws_heldIntS.f
    rw [heldIntS_l0 m (by omega) m.length k 1 0 (by omega) (by omega) (by omega) (by omega) (by omega) (by omega) (fun j h1 h2 => hm2 j h1 (by omega))]
    congr 1; omega
theorem law_of (s : ByteArray) (L : List Int) (b : Bool) (hL : L.length < 3000) (hb : ¬ (s.size : Int) > 1048576) (hs : ∀ k, 10000 ≤ k → spec_StonesOf.f k s = some (L, b)) (hi : ∀ k, 10000 ≤ k → impl_StonesOf.f k s = some (L, b)) : ∃ k, laws_FnExactStonesOf.f k s = some true := by
  obtain ⟨m, hml, hm, hh⟩ := mark_held L (by omega)
  obtain ⟨k, hk⟩ : ∃ k : Nat, 10000 ≤ k := ⟨10000, Nat.le_refl _⟩
  refine ⟨k + 1 + 1, ?_⟩
  unfold laws_FnExactStonesOf.f
  rw [if_neg hb, hs _ (by omega), hi _ (by omega)]
  simp only [Option.bind_some, eqIntS_self L (by omega) (show L.length < k + 1 + 1 by omega), if_true, bne_self_eq_false]
  simp only [laws_FnExactStonesOf.j0]
  rw [if_neg (by simp), hm (k + 1) (by omega)]
  simp only [Option.bind_some, hh (k + 1) (by omega)]
  rw [if_neg (by omega), if_pos trivial, hi (k + 1) (by omega)]
  simp only [Option.bind_some, eqIntS_self L (by omega) (show L.length < k + 1 by omega), if_true, bne_self_eq_false]
  simp only [laws_FnExactStonesOf.j1]
  rw [if_neg (by simp), hh k (by omega)]
  simp only [Option.bind_some]
  rw [if_neg (by omega), if_pos trivial]
theorem stFrom_last (s : ByteArray) (d : Nat) : ∀ (p : Int), stB s (p + d) = true → stFrom s (d + 1) p = stFrom s d p ++ [p + d] := by
  induction d with
  | zero =>
    intro p h
    have h : stB s p = true := by simpa using h
    simp only [stFrom]
    rw [if_pos h]
    simp
  | succ d ih =>
    intro p h
    have h2 := ih (p + 1) (by rw [show p + 1 + (d : Int) = p + ((d + 1 : Nat) : Int) by omega]; exact h)
    rw [show stFrom s (d + 1 + 1) p = if stB s p = true then p :: stFrom s (d + 1) (p + 1) else stFrom s (d + 1) (p + 1) from rfl, h2, show stFrom s (d + 1) p = if stB s p = true then p :: stFrom s d (p + 1) else stFrom s d (p + 1) from rfl]
    rw [show p + 1 + (d : Int) = p + ((d + 1 : Nat) : Int) by omega]
    split <;> simp
theorem spec_l0 (s : ByteArray) (hs : s.size ≤ 40) (d : Nat) : ∀ (k : Nat) (acc : List Int) (p : Int), 1 ≤ p → p + d = (s.size : Int) + 1 → d < k → acc.length + d < 1000 → spec_StonesOf.l0 k s acc p = some (acc ++ stFrom s d p, true) := by
  induction d with
  | zero =>
    intro k acc p h0 h1 hk ha
    obtain ⟨k, rfl⟩ : ∃ m, k = m + 1 := ⟨k - 1, by omega⟩
    have g : ¬ p ≤ (s.size : Int) := by omega
    simp only [spec_StonesOf.l0]
    rw [if_neg g]; simp [stFrom]
  | succ d ih =>
    intro k acc p h0 h1 hk ha
    obtain ⟨k, rfl⟩ : ∃ m, k = m + 1 := ⟨k - 1, by omega⟩
    have g : p ≤ (s.size : Int) := by omega
    have hw := w64 (x := p + 1) (by omega) (by omega)
    have e := rvStand_eq s hs p (by omega) (by omega)
    have g3 : acc.length < 17592186044416 := by omega
    simp only [spec_StonesOf.l0, stFrom]
    rw [if_pos g, e]
    simp only [Option.bind_some]
    by_cases hst : stB s p = true
    · rw [if_pos hst, if_pos hst, if_pos g3, hw, ih k (acc ++ [p]) (p + 1) (by omega) (by omega) (by omega) (by simp; omega)]
      simp
    · rw [if_neg hst, if_neg hst, hw, ih k acc (p + 1) (by omega) (by omega) (by omega) (by omega)]
theorem impl_cut (s : ByteArray) : ((((0 : Int) :: stFrom s (s.size + 1) 1).take (((0 : Int) :: stFrom s (s.size + 1) 1).length - 1)).drop 1) = stFrom s s.size 1 ∧ 2 ≤ ((0 : Int) :: stFrom s (s.size + 1) 1).length := by
  have h := stFrom_last s s.size 1 (by unfold stB; rw [show (1 : Int) + (s.size : Int) = (s.size : Int) + 1 by omega]; simp)
  rw [h]
  constructor
  · simp
  · simp
theorem FnExactStonesOf : laws_FnExactStonesOf.Pure := by
  intro s _
  by_cases hb : (s.size : Int) > 1048576
  · exact ⟨0, by unfold laws_FnExactStonesOf.f; rw [if_pos hb]⟩
  by_cases hg : Good s
  · have hs := hg.1.2
    have hlen := stFrom_len s s.size 1
    have hlen2 := stFrom_len s (s.size + 1) 1
    refine law_of s (stFrom s s.size 1) true (by omega) hb (fun k hk => ?_) (fun k hk => ?_)
    · have h1 := rvGood_true hg (k := k) (by omega)
      have h2 := spec_l0 s hs s.size k [] 1 (by omega) (by omega) (by omega) (by simp; omega)
      unfold spec_StonesOf.f
      rw [h1]
      simp only [Option.bind_some, if_true, h2, List.nil_append]
    · have h1 := isRiver_true hg
      have h2 := stand_eq s hs (k := k) (by omega)
      obtain ⟨h3, h4⟩ := impl_cut s
      have h5 : ((0 : Int) :: stFrom s (s.size + 1) 1).length ≤ 1000 := by simp; omega
      unfold impl_StonesOf.f
      rw [h1]
      simp only [Option.bind_some, if_true, h2]
      rw [if_pos ⟨h4, h5⟩, h3]
  · refine law_of s [] false (by simp) hb (fun k hk => ?_) (fun k hk => ?_)
    · have h1 := rvGood_false hg (k := k) (by omega)
      unfold spec_StonesOf.f
      rw [h1]; simp
    · have h1 := isRiver_false hg
      unfold impl_StonesOf.f
      rw [h1]; simp

end Go.Proofs.YtlcgimeebhoefaaDoor.Pure
