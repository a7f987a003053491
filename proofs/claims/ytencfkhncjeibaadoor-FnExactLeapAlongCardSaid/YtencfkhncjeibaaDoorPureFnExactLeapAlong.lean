/- For every text and list of numbers the program's LeapAlong and the reference's answer alike, and the list stays. Conditions: text and list take at most 140737488351232 bytes each. -/
import Derived.Test.YtencfkhncjeibaaDoorPFnExactLeapAlongx
namespace Go.Proofs.YtencfkhncjeibaaDoor.Pure
open Go.RowKit Go.Proofs.YtencfkhncjeibaaDoor.PFnExactLeapAlong Go.Proofs.YtencfkhncjeibaaDoorW.PrintWords Go.Proofs.YtencfkhncjeibaaDoorW.PrintLast Go.Proofs.YtencfkhncjeibaaDoorW.PrintMore

def inB (a b c : Int) : Bool := decide (b ≤ a ∧ a ≤ c)
theorem inB_true {a b c : Int} (h : inB a b c = true) : b ≤ a ∧ a ≤ c := of_decide_eq_true h
theorem inB_mk {a b c : Int} (h : b ≤ a ∧ a ≤ c) : inB a b c = true := decide_eq_true h
theorem inB_not {a b c : Int} (h : ¬ (b ≤ a ∧ a ≤ c)) : inB a b c = false := decide_eq_false h
theorem inB_false {a b c : Int} (h : inB a b c = false) : ¬ (b ≤ a ∧ a ≤ c) := of_decide_eq_false h
theorem in_eq (a b c : Int) : spec_l1In.f a b c = some (inB a b c) := by
  unfold spec_l1In.f inB
  by_cases h : a ≥ b
  · rw [if_pos h]; congr 1; rw [decide_eq_decide]; omega
  · rw [if_neg h]; congr 1; symm; rw [decide_eq_false_iff_not]; omega
theorem within_eq (a b c : Int) : impl_within.f a b c = some (inB a b c) := by
  unfold impl_within.f inB
  by_cases h : b ≤ a
  · rw [if_pos h]; congr 1; rw [decide_eq_decide]; omega
  · rw [if_neg h]; congr 1; symm; rw [decide_eq_false_iff_not]; omega
theorem w64 {x : Int} (h0 : -9223372036854775808 ≤ x) (h1 : x < 9223372036854775808) : wrap64 x = x := by unfold wrap64; omega
/-- A river: 1..40 signs, each a stone or water. -/
def Good (s : ByteArray) : Prop := (1 ≤ s.size ∧ s.size ≤ 40) ∧ ∀ i : Int, 0 ≤ i → i < s.size → bt s i = 111 ∨ bt s i = 46
theorem rvGood_l0_true (s : ByteArray) (hs : s.size ≤ 40) (d : Nat) : ∀ (k : Nat) (i : Int), 0 ≤ i → (s.size : Int) - i ≤ d → d < k → (∀ j : Int, i ≤ j → j < s.size → bt s j = 111 ∨ bt s j = 46) → spec_rvGood.l0 k s i = some true := by
  induction d with
  | zero =>
    intro k i h0 hd hk h
    obtain ⟨k, rfl⟩ : ∃ m, k = m + 1 := ⟨k - 1, by omega⟩
    simp only [spec_rvGood.l0]; rw [if_neg (by omega)]
  | succ d ih =>
    intro k i h0 hd hk h
    obtain ⟨k, rfl⟩ : ∃ m, k = m + 1 := ⟨k - 1, by omega⟩
    simp only [spec_rvGood.l0]
    by_cases hlt : i < (s.size : Int)
    · rw [if_pos hlt, if_pos h0, w64 (by omega) (by omega)]
      have hr := ih k (i + 1) (by omega) (by omega) (by omega) (fun j h1 h2 => h j (by omega) h2)
      rw [hr]
      rcases h i (by omega) hlt with e | e
      · rw [if_pos e]
      · rw [if_neg (by omega), if_pos e]
    · rw [if_neg hlt]
theorem rvGood_l0_false (s : ByteArray) (hs : s.size ≤ 40) (d : Nat) : ∀ (k : Nat) (i : Int), 0 ≤ i → (s.size : Int) - i ≤ d → d < k → (¬ ∀ j : Int, i ≤ j → j < s.size → bt s j = 111 ∨ bt s j = 46) → spec_rvGood.l0 k s i = some false := by
  induction d with
  | zero =>
    intro k i h0 hd hk h
    exact absurd (fun j h1 h2 => absurd h1 (by omega)) h
  | succ d ih =>
    intro k i h0 hd hk h
    obtain ⟨k, rfl⟩ : ∃ m, k = m + 1 := ⟨k - 1, by omega⟩
    simp only [spec_rvGood.l0]
    by_cases hlt : i < (s.size : Int)
    · rw [if_pos hlt, if_pos h0, w64 (by omega) (by omega)]
      by_cases e1 : bt s i = 111
      · rw [if_pos e1]
        exact ih k (i + 1) (by omega) (by omega) (by omega) (fun g => h (fun j h1 h2 => if c : j = i then by rw [c]; exact .inl e1 else g j (by omega) h2))
      · rw [if_neg e1]
        by_cases e2 : bt s i = 46
        · rw [if_pos e2]
          exact ih k (i + 1) (by omega) (by omega) (by omega) (fun g => h (fun j h1 h2 => if c : j = i then by rw [c]; exact .inr e2 else g j (by omega) h2))
        · rw [if_neg e2]
    · exact absurd (fun j h1 h2 => absurd h2 (by omega)) h
theorem rvGood_true {s : ByteArray} (hg : Good s) {k : Nat} (hk : 41 < k) : spec_rvGood.f k s = some true := by
  unfold spec_rvGood.f
  obtain ⟨h1, h2⟩ := hg
  rw [in_eq, inB_mk ⟨by omega, by omega⟩]
  exact rvGood_l0_true s h1.2 s.size k 0 (by omega) (by omega) (by omega) h2
theorem rvGood_false {s : ByteArray} (hg : ¬ Good s) {k : Nat} (hk : 41 < k) : spec_rvGood.f k s = some false := by
  unfold spec_rvGood.f
  rw [in_eq]
  cases hb : inB (s.size : Int) 1 40
  · rfl
  · have h1 := inB_true hb
    exact rvGood_l0_false s (by omega) s.size k 0 (by omega) (by omega) (by omega) (fun h => hg ⟨⟨by omega, by omega⟩, h⟩)
theorem bt_list (s : ByteArray) (i : Nat) (h : i < s.data.toList.length) : bt s (i : Int) = ((s.data.toList[i]'h).toNat : Int) := by
  have h' : i < s.size := by simpa using h
  unfold bt
  rw [dif_pos (by simpa using h')]
  rfl
theorem dropWhile_nil {α : Type} (p : α → Bool) (l : List α) : l.dropWhile p = [] ↔ ∀ x ∈ l, p x = true := by
  induction l with
  | nil => simp
  | cons a l ih =>
    rw [List.dropWhile_cons]
    by_cases h : p a = true
    · rw [if_pos h, ih]; simp [h]
    · rw [if_neg h]; simp [h]
theorem trimS_nil (l cs : List UInt8) : Lib.trimS l cs = [] ↔ ∀ x ∈ l, cs.contains x = true := by
  unfold Lib.trimS Lib.trimLeftS Lib.trimRightS
  rw [dropWhile_nil]
  constructor
  · intro h x hx
    by_cases hall : ∀ y ∈ l.reverse, cs.contains y = true
    · exact hall x (by simpa using hx)
    · exfalso
      have hne : l.reverse.dropWhile (cs.contains ·) ≠ [] := fun e => hall ((dropWhile_nil _ _).1 e)
      obtain ⟨y, ys, hy⟩ : ∃ y ys, l.reverse.dropWhile (cs.contains ·) = y :: ys := by
        cases e : l.reverse.dropWhile (cs.contains ·) with
        | nil => exact absurd e hne
        | cons y ys => exact ⟨y, ys, rfl⟩
      have hp := List.head?_dropWhile_not (cs.contains ·) l.reverse
      rw [hy] at hp
      have := h y (by rw [hy]; simp)
      simp at hp this
      exact hp this
  · intro h x hx
    rw [List.mem_reverse] at hx
    exact h x (by simpa using (List.dropWhile_sublist _).subset hx)
theorem trim_river (s : ByteArray) (hs : s.size ≤ 9223372036854775807) : ∃ t : ByteArray, strings_Trim.f s (⟨#[111, 46]⟩ : ByteArray) = some t ∧ (t.toList = [] ↔ ∀ i : Int, 0 ≤ i → i < s.size → bt s i = 111 ∨ bt s i = 46) := by
  refine ⟨⟨(Lib.trimS s.data.toList [111, 46]).toArray⟩, ?_, ?_⟩
  · unfold strings_Trim.f
    rw [if_pos ⟨hs, by decide, by decide⟩]
  · rw [Lib.toList_data]
    show (Lib.trimS s.data.toList [111, 46]).toArray.toList = [] ↔ _
    rw [show (Lib.trimS s.data.toList [111, 46]).toArray.toList = Lib.trimS s.data.toList [111, 46] from rfl, trimS_nil]
    constructor
    · intro h i h0 h1
      have hi : i.toNat < s.data.toList.length := by
        have : s.data.toList.length = s.size := by simp
        omega
      have hb := bt_list s i.toNat hi
      rw [show ((i.toNat : Nat) : Int) = i by omega] at hb
      have := h _ (List.getElem_mem hi)
      rw [hb]
      simp at this
      rcases this with e | e <;> simp [e]
    · intro h x hx
      obtain ⟨n, hn, rfl⟩ := List.mem_iff_getElem.1 hx
      have hb := bt_list s n hn
      have hlt : n < s.size := by simpa using hn
      have := h n (by omega) (by omega)
      rw [hb] at this
      simp
      rcases this with e | e
      · left; apply UInt8.toNat_inj.1; simpa using Int.ofNat.inj e
      · right; apply UInt8.toNat_inj.1; simpa using Int.ofNat.inj e
theorem isRiver_true {s : ByteArray} (hg : Good s) : impl_IsRiver.f s = some true := by
  unfold impl_IsRiver.f
  obtain ⟨h1, h2⟩ := hg
  obtain ⟨t, ht, hiff⟩ := trim_river s (by omega)
  rw [within_eq, inB_mk ⟨by omega, by omega⟩]
  simp only [Option.bind_some, if_true, ht]
  rw [hiff.2 h2]; rfl
theorem isRiver_false {s : ByteArray} (hg : ¬ Good s) : impl_IsRiver.f s = some false := by
  unfold impl_IsRiver.f
  rw [within_eq]
  cases hb : inB (s.size : Int) 1 40
  · rfl
  · have h1 := inB_true hb
    obtain ⟨t, ht, hiff⟩ := trim_river s (by omega)
    simp only [Option.bind_some, if_true, ht]
    congr 1
    cases hc : (t.toList == ([] : List UInt8)) with
    | false => rfl
    | true => exact absurd ⟨⟨by omega, by omega⟩, hiff.1 (by simpa using hc)⟩ hg
/-- Does one stand on this place? -/
def stB (s : ByteArray) (p : Int) : Bool := decide (p = 0) || decide (p = (s.size : Int) + 1) || (bt s (p - 1) == 111)
theorem rvStand_eq (s : ByteArray) (hs : s.size ≤ 40) (p : Int) (h0 : 0 ≤ p) (h1 : p ≤ (s.size : Int) + 1) : spec_rvStand.f s p = some (stB s p) := by
  unfold spec_rvStand.f stB
  rw [w64 (x := (s.size : Int) + 1) (by omega) (by omega), w64 (x := p - 1) (by omega) (by omega)]
  by_cases e0 : p = 0
  · rw [if_pos e0]; simp [e0]
  · rw [if_neg e0]
    by_cases e1 : p = (s.size : Int) + 1
    · rw [if_pos e1]; simp [e1]
    · rw [if_neg e1, if_pos (by omega), if_pos (by omega)]; simp [e0, e1]
/-- The places from p on, so many of them, on which one stands. -/
def stFrom (s : ByteArray) : Nat → Int → List Int
  | 0, _ => []
  | d + 1, p => if stB s p = true then p :: stFrom s d (p + 1) else stFrom s d (p + 1)
theorem stFrom_mem (s : ByteArray) (d : Nat) : ∀ (p x : Int), x ∈ stFrom s d p ↔ (p ≤ x ∧ x < p + d) ∧ stB s x = true := by
  induction d with
  | zero => intro p x; simp [stFrom]; omega
  | succ d ih =>
    intro p x
    simp only [stFrom]
    by_cases h : stB s p = true
    · rw [if_pos h, List.mem_cons, ih]
      constructor
      · rintro (e | ⟨h1, h2⟩)
        · subst e; exact ⟨⟨by omega, by omega⟩, h⟩
        · exact ⟨⟨by omega, by omega⟩, h2⟩
      · rintro ⟨h1, h2⟩
        by_cases e : x = p
        · exact .inl e
        · exact .inr ⟨⟨by omega, by omega⟩, h2⟩
    · rw [if_neg h, ih]
      constructor
      · rintro ⟨h1, h2⟩; exact ⟨⟨by omega, by omega⟩, h2⟩
      · rintro ⟨h1, h2⟩
        have : x ≠ p := fun e => h (e ▸ h2)
        exact ⟨⟨by omega, by omega⟩, h2⟩
theorem stFrom_len (s : ByteArray) (d : Nat) : ∀ p : Int, (stFrom s d p).length ≤ d := by
  induction d with
  | zero => intro p; simp [stFrom]
  | succ d ih =>
    intro p
    simp only [stFrom]
    have := ih (p + 1)
    split <;> simp <;> omega
theorem stand_l0 (s : ByteArray) (hs : s.size ≤ 40) (d : Nat) : ∀ (k : Nat) (i : Int) (acc : List Int), 0 ≤ i → (s.size : Int) - i = d → d < k → acc.length + d < 17592186044416 → impl_stand.l0 k s acc (s.size : Int) i = some (acc ++ stFrom s (d + 1) (i + 1)) := by
  induction d with
  | zero =>
    intro k i acc h0 hd hk hl
    obtain ⟨k, rfl⟩ : ∃ m, k = m + 1 := ⟨k - 1, by omega⟩
    obtain rfl : i = (s.size : Int) := by omega
    simp only [impl_stand.l0]
    rw [if_neg (by omega), if_pos (by omega), w64 (by omega) (by omega)]
    simp [stFrom, stB]
  | succ d ih =>
    intro k i acc h0 hd hk hl
    obtain ⟨k, rfl⟩ : ∃ m, k = m + 1 := ⟨k - 1, by omega⟩
    simp only [impl_stand.l0]
    rw [if_pos (by omega), if_pos h0, if_pos (by omega), w64 (by omega) (by omega)]
    have hst : stB s (i + 1) = decide (bt s i = 111) := by
      unfold stB
      rw [show i + 1 - 1 = i by omega]
      have e0 : decide (i + 1 = 0) = false := decide_eq_false (by omega)
      have e1 : decide (i + 1 = (s.size : Int) + 1) = false := decide_eq_false (by omega)
      rw [e0, e1]
      rfl
    have hstep : stFrom s (d + 1 + 1) (i + 1) = if stB s (i + 1) = true then (i + 1) :: stFrom s (d + 1) (i + 1 + 1) else stFrom s (d + 1) (i + 1 + 1) := rfl
    rw [hstep, hst]
    by_cases hb : bt s i = 111
    · rw [if_pos hb, if_pos (by omega), if_pos (decide_eq_true hb), ih k (i + 1) (acc ++ [i + 1]) (by omega) (by omega) (by omega) (by simp; omega)]
      simp
    · rw [if_neg hb, if_neg (by simp [hb]), ih k (i + 1) acc (by omega) (by omega) (by omega) (by omega)]
theorem stand_eq (s : ByteArray) (hs : s.size ≤ 40) {k : Nat} (hk : s.size < k) : impl_stand.f k s = some (0 :: stFrom s (s.size + 1) 1) := by
  unfold impl_stand.f
  rw [stand_l0 s hs s.size k 0 [0] (by omega) (by omega) hk (by simp; omega)]
  rfl
theorem rd_mid (pre rest : List Int) (x i : Int) (h : i = pre.length) : rd (pre ++ x :: rest) i = x := by
  subst h; unfold rd; simp
theorem toIntS_l0 (l : List Int) (hl : l.length < 4611686018427387904) (d : Nat) : ∀ (k : Nat) (pre suf : List Int) (i : Int), pre.length = suf.length → i = pre.length → (∃ rest, l = pre ++ rest ∧ rest.length = d ∧ ∃ zs : List Int, suf ++ zs = suf ++ zs) → d < k → ∀ z : List Int, z.length = l.length → z.take pre.length = pre → laws_toIntS.l0 k l z i = some l := by
  induction d with
  | zero =>
    intro k pre suf i _ hi h hk z hz hzp
    obtain ⟨rest, rfl, hr, _⟩ := h
    obtain ⟨k, rfl⟩ : ∃ m, k = m + 1 := ⟨k - 1, by omega⟩
    obtain rfl : rest = [] := List.eq_nil_of_length_eq_zero hr
    simp only [laws_toIntS.l0]
    rw [List.append_nil] at hz ⊢
    rw [if_neg (by omega)]
    congr 1
    rw [← hzp, List.take_of_length_le (by omega)]
  | succ d ih =>
    intro k pre suf i hps hi h hk z hz hzp
    obtain ⟨rest, rfl, hr, _⟩ := h
    obtain ⟨k, rfl⟩ : ∃ m, k = m + 1 := ⟨k - 1, by omega⟩
    obtain ⟨x, rest, rfl⟩ : ∃ x r, rest = x :: r := by
      cases rest with
      | nil => simp at hr
      | cons x r => exact ⟨x, r, rfl⟩
    simp only [List.length_cons] at hr
    simp only [List.length_append, List.length_cons] at hz hl
    simp only [laws_toIntS.l0]
    rw [if_pos (by simp; omega), if_pos (by omega), if_pos (by omega), w64 (by omega) (by omega)]
    have hrd : rd (pre ++ x :: rest) i = x := by subst hi; unfold rd; simp
    rw [hrd]
    refine ih k (pre ++ [x]) (suf ++ [x]) (i + 1) (by simp [hps]) (by simp; omega) ⟨rest, by simp, by omega, [], rfl⟩ (by omega) _ (by simp [hz]) ?_
    subst hi
    have e : ((pre.length : Int)).toNat = pre.length := by simp
    rw [e, List.length_append, List.length_singleton, List.take_set, List.take_add_one, hzp, List.getElem?_eq_getElem (by omega)]
    simp
theorem toIntS_eq (l : List Int) (hl : l.length ≤ 35184372088832) {k : Nat} (hk : l.length < k) : laws_toIntS.f k l = some l := by
  unfold laws_toIntS.f
  rw [if_pos (by omega), if_pos (by simp; omega)]
  exact toIntS_l0 l (by omega) l.length k [] [] 0 rfl rfl ⟨l, rfl, rfl, [], rfl⟩ hk _ (by simp) rfl
theorem index_l0 (l : List Int) (a : Int) (hl : l.length < 4611686018427387904) (rest : List Int) : ∀ (k : Nat) (pre : List Int) (i : Int), l = pre ++ rest → i = pre.length → rest.length < k → ∃ r, slices_Index_int_int.l0 k l a (l.length : Int) i = some r ∧ (0 ≤ r ↔ a ∈ rest) := by
  induction rest with
  | nil =>
    intro k pre i hl2 hi hk
    obtain ⟨k, rfl⟩ : ∃ m, k = m + 1 := ⟨k - 1, by omega⟩
    refine ⟨-1, ?_, by simp⟩
    have : l.length = pre.length := by rw [hl2]; simp
    simp only [slices_Index_int_int.l0]; rw [if_neg (by omega)]
  | cons x rest ih =>
    intro k pre i hl2 hi hk
    simp only [List.length_cons] at hk
    obtain ⟨k, rfl⟩ : ∃ m, k = m + 1 := ⟨k - 1, by omega⟩
    have hlen : l.length = pre.length + (rest.length + 1) := by rw [hl2]; simp
    have hrd : rd l i = x := by rw [hl2, hi]; unfold rd; simp
    simp only [slices_Index_int_int.l0]
    rw [if_pos (by omega), if_pos (by omega), if_pos (by omega), hrd]
    by_cases e : a = x
    · rw [if_pos e]; exact ⟨i, rfl, ⟨fun _ => by rw [e]; exact List.mem_cons_self, fun _ => by omega⟩⟩
    · rw [if_neg e, w64 (by omega) (by omega)]
      obtain ⟨r, hr, hiff⟩ := ih k (pre ++ [x]) (i + 1) (by rw [hl2]; simp) (by simp; omega) (by omega)
      exact ⟨r, hr, by rw [hiff, List.mem_cons]; exact ⟨.inr, fun h => h.resolve_left e⟩⟩
theorem contains_eq (l : List Int) (a : Int) (hl : l.length < 4611686018427387904) {k : Nat} (hk : l.length < k) : slices_Contains_int_int.f k l a = some (decide (a ∈ l)) := by
  unfold slices_Contains_int_int.f slices_Index_int_int.f
  obtain ⟨r, hr, hiff⟩ := index_l0 l a hl l k [] 0 rfl rfl hk
  rw [hr]
  simp only [Option.bind_some]
  congr 1
  rw [decide_eq_decide]; exact hiff
theorem eqIntS_l0 (l : List Int) (hl : l.length < 4611686018427387904) (d : Nat) : ∀ (k : Nat) (i : Int), 0 ≤ i → (l.length : Int) - i ≤ d → d < k → laws_eqIntS.l0 k l l i = some true := by
  induction d with
  | zero =>
    intro k i h0 hd hk
    obtain ⟨k, rfl⟩ : ∃ m, k = m + 1 := ⟨k - 1, by omega⟩
    simp only [laws_eqIntS.l0]; rw [if_neg (by omega)]
  | succ d ih =>
    intro k i h0 hd hk
    obtain ⟨k, rfl⟩ : ∃ m, k = m + 1 := ⟨k - 1, by omega⟩
    simp only [laws_eqIntS.l0]
    by_cases hlt : i < (l.length : Int)
    · rw [if_pos hlt, if_pos h0, if_pos hlt, if_pos trivial, w64 (by omega) (by omega)]
      exact ih k (i + 1) (by omega) (by omega) (by omega)
    · rw [if_neg hlt]
theorem eqIntS_self (l : List Int) (hl : l.length < 4611686018427387904) {k : Nat} (hk : l.length < k) : laws_eqIntS.f k l l = some true := by
  unfold laws_eqIntS.f
  rw [if_pos rfl]
  exact eqIntS_l0 l hl l.length k 0 (by omega) (by omega) hk
theorem stand_has (s : ByteArray) (p : Int) (h0 : 0 ≤ p) (h1 : p ≤ (s.size : Int) + 1) : p ∈ (0 : Int) :: stFrom s (s.size + 1) 1 ↔ stB s p = true := by
  rw [List.mem_cons, stFrom_mem]
  constructor
  · rintro (e | ⟨_, h⟩)
    · subst e; rfl
    · exact h
  · intro h
    by_cases e : p = 0
    · exact .inl e
    · exact .inr ⟨⟨by omega, by omega⟩, h⟩
/-- The place to which leaps lead. -/
def alongF (s : ByteArray) : List Int → Int → Int × Bool
  | [], now => (now, true)
  | n :: rest, now => if (1 ≤ n ∧ n ≤ (s.size : Int) + 1 - now) ∧ stB s (now + n) = true then alongF s rest (now + n) else (0, false)
theorem specAlong (s : ByteArray) (hs : s.size ≤ 40) (L : List Int) (hL : L.length ≤ 41) (rest : List Int) : ∀ (k : Nat) (pre : List Int) (now i : Int), L = pre ++ rest → i = pre.length → 0 ≤ now → now ≤ (s.size : Int) + 1 → rest.length < k → spec_LeapAlong.l0 k s now ((s.size : Int) + 1) L (L.length : Int) i = some (alongF s rest now) := by
  induction rest with
  | nil =>
    intro k pre now i hp hi h0 h1 hk
    obtain ⟨k, rfl⟩ : ∃ m, k = m + 1 := ⟨k - 1, by omega⟩
    have : L.length = pre.length := by rw [hp]; simp
    simp only [spec_LeapAlong.l0]
    rw [if_neg (by omega)]; rfl
  | cons n rest ih =>
    intro k pre now i hp hi h0 h1 hk
    simp only [List.length_cons] at hk
    obtain ⟨k, rfl⟩ : ∃ m, k = m + 1 := ⟨k - 1, by omega⟩
    have hlen : L.length = pre.length + (rest.length + 1) := by rw [hp]; simp
    have hrd : rd L i = n := by rw [hp]; exact rd_mid _ _ _ _ hi
    simp only [spec_LeapAlong.l0]
    rw [if_pos (by omega), if_pos (by omega), if_pos (by omega), hrd, in_eq, w64 (x := (s.size : Int) + 1 - now) (by omega) (by omega)]
    simp only [Option.bind_some, alongF]
    by_cases hn : 1 ≤ n ∧ n ≤ (s.size : Int) + 1 - now
    · rw [inB_mk hn, if_pos rfl, w64 (x := now + n) (by omega) (by omega), rvStand_eq s hs _ (by omega) (by omega)]
      simp only [Option.bind_some]
      by_cases hst : stB s (now + n) = true
      · rw [if_pos hst, if_pos ⟨hn, hst⟩, w64 (x := i + 1) (by omega) (by omega)]
        exact ih k (pre ++ [n]) (now + n) (i + 1) (by rw [hp]; simp) (by simp; omega) (by omega) (by omega) (by omega)
      · rw [if_neg hst, if_neg (fun h => hst h.2)]
    · rw [inB_not hn, if_neg (by simp), if_neg (fun h => hn h.1)]
theorem implAlong (s : ByteArray) (hs : s.size ≤ 40) (L : List Int) (hL : L.length ≤ 41) (rest : List Int) : ∀ (k : Nat) (pre : List Int) (now i : Int), L = pre ++ rest → i = pre.length → 0 ≤ now → now ≤ (s.size : Int) + 1 → rest.length + 100 < k → impl_LeapAlong.l0 k s now ((0 : Int) :: stFrom s (s.size + 1) 1) L (L.length : Int) i = some (alongF s rest now) := by
  have hsl := stFrom_len s (s.size + 1) 1
  induction rest with
  | nil =>
    intro k pre now i hp hi h0 h1 hk
    obtain ⟨k, rfl⟩ : ∃ m, k = m + 1 := ⟨k - 1, by omega⟩
    have : L.length = pre.length := by rw [hp]; simp
    simp only [impl_LeapAlong.l0]
    rw [if_neg (by omega)]; rfl
  | cons n rest ih =>
    intro k pre now i hp hi h0 h1 hk
    simp only [List.length_cons] at hk
    obtain ⟨k, rfl⟩ : ∃ m, k = m + 1 := ⟨k - 1, by omega⟩
    have hlen : L.length = pre.length + (rest.length + 1) := by rw [hp]; simp
    have hrd : rd L i = n := by rw [hp]; exact rd_mid _ _ _ _ hi
    simp only [impl_LeapAlong.l0]
    rw [if_pos (by omega), if_pos (by omega), if_pos (by omega), hrd, within_eq, w64 (x := (s.size : Int) + 1) (by omega) (by omega)]
    simp only [Option.bind_some, alongF]
    by_cases hn : 1 ≤ n ∧ n ≤ (s.size : Int) + 1
    · rw [inB_mk hn, if_pos rfl, w64 (x := now + n) (by omega) (by omega), contains_eq _ _ (by simp; omega) (by simp; omega)]
      simp only [Option.bind_some]
      by_cases hc : now + n ∈ (0 : Int) :: stFrom s (s.size + 1) 1
      · have hle : now + n ≤ (s.size : Int) + 1 := by
          rcases List.mem_cons.1 hc with e | e
          · omega
          · have := ((stFrom_mem s _ _ _).1 e).1; omega
        have hst := (stand_has s (now + n) (by omega) hle).1 hc
        rw [if_pos (decide_eq_true hc), if_pos ⟨⟨hn.1, by omega⟩, hst⟩, w64 (x := i + 1) (by omega) (by omega)]
        exact ih k (pre ++ [n]) (now + n) (i + 1) (by rw [hp]; simp) (by simp; omega) (by omega) hle (by omega)
      · rw [if_neg (by simpa using hc), if_neg (fun h => hc ((stand_has s (now + n) (by omega) (by omega)).2 h.2))]
    · rw [inB_not hn, if_neg (by simp), if_neg (fun h => hn ⟨h.1.1, by omega⟩)]
theorem along_law (s : ByteArray) (L : List Int) (x : Int) (b : Bool) (hL : L.length ≤ 1048576) (hb : ¬ (s.size : Int) > 1048576) (hs : ∀ k, 1048600 ≤ k → spec_LeapAlong.f k s L = some (x, b)) (hi : ∀ k, 1048600 ≤ k → impl_LeapAlong.f k s L = some (x, b)) : ∃ k, laws_FnExactLeapAlong.f k s L = some true := by
  obtain ⟨k, hk⟩ : ∃ k : Nat, 1048600 ≤ k := ⟨1048600, Nat.le_refl _⟩
  refine ⟨k + 1, ?_⟩
  unfold laws_FnExactLeapAlong.f
  rw [if_neg hb, if_neg (by omega)]
  simp only [toIntS_eq L (by omega) (show L.length < k + 1 by omega), Option.bind_some, hs (k + 1) (by omega), hi (k + 1) (by omega), if_true, bne_self_eq_false]
  simp only [laws_FnExactLeapAlong.j0]
  rw [if_neg (by simp)]
  simp only [toIntS_eq L (by omega) (show L.length < k by omega), Option.bind_some, eqIntS_self L (by omega) (show L.length < k by omega), if_true]
theorem FnExactLeapAlong : laws_FnExactLeapAlong.Pure := by
  intro s L _ _ _ _
  by_cases hb : (s.size : Int) > 1048576
  · exact ⟨0, by unfold laws_FnExactLeapAlong.f; rw [if_pos hb]⟩
  by_cases hl : (L.length : Int) > 1048576
  · exact ⟨0, by unfold laws_FnExactLeapAlong.f; rw [if_neg hb, if_pos hl]⟩
  by_cases hg : Good s ∧ L.length ≤ 41
  · refine along_law s L (alongF s L 0).1 (alongF s L 0).2 (by omega) hb (fun k hk => ?_) (fun k hk => ?_)
    · obtain ⟨k, rfl⟩ : ∃ m, k = m + 1 := ⟨k - 1, by omega⟩
      unfold spec_LeapAlong.f
      rw [rvGood_true hg.1 (by omega)]
      simp only [Option.bind_some, if_true, spec_LeapAlong.j0]
      have h40 := hg.1.1.2
      rw [if_neg (by simp; omega), w64 (x := (s.size : Int) + 1) (by omega) (by omega)]
      exact specAlong s h40 L hg.2 L k [] 0 0 rfl rfl (by omega) (by omega) (by omega)
    · obtain ⟨k, rfl⟩ : ∃ m, k = m + 1 := ⟨k - 1, by omega⟩
      unfold impl_LeapAlong.f
      rw [isRiver_true hg.1]
      simp only [Option.bind_some, if_true, impl_LeapAlong.j0]
      have h40 := hg.1.1.2
      rw [if_neg (by simp; omega), stand_eq s h40 (by omega)]
      exact implAlong s h40 L hg.2 L k [] 0 0 rfl rfl (by omega) (by omega) (by omega)
  · refine along_law s L 0 false (by omega) hb (fun k hk => ?_) (fun k hk => ?_)
    · obtain ⟨k, rfl⟩ : ∃ m, k = m + 1 := ⟨k - 1, by omega⟩
      unfold spec_LeapAlong.f
      by_cases h1 : Good s
      · rw [rvGood_true h1 (by omega)]
        simp only [Option.bind_some, if_true, spec_LeapAlong.j0]
        rw [if_pos (by have : ¬ L.length ≤ 41 := fun h => hg ⟨h1, h⟩; simp; omega)]
      · rw [rvGood_false h1 (by omega)]
        simp [spec_LeapAlong.j0]
    · obtain ⟨k, rfl⟩ : ∃ m, k = m + 1 := ⟨k - 1, by omega⟩
      unfold impl_LeapAlong.f
      by_cases h1 : Good s
      · rw [isRiver_true h1]
        simp only [Option.bind_some, if_true, impl_LeapAlong.j0]
        rw [if_pos (by have : ¬ L.length ≤ 41 := fun h => hg ⟨h1, h⟩; simp; omega)]
      · rw [isRiver_false h1]
        simp [impl_LeapAlong.j0]

end Go.Proofs.YtencfkhncjeibaaDoor.Pure
