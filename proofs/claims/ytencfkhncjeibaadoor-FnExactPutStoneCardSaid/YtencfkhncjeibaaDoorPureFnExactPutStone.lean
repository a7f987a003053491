/- For every text and number the program's PutStone and the reference's answer alike. Conditions: the text takes at most 140737488351232 bytes, the number is one of 64 bits. -/
import Derived.Test.YtencfkhncjeibaaDoorPFnExactPutStonex
namespace Go.Proofs.YtencfkhncjeibaaDoor.Pure
open Go.RowKit Go.Proofs.YtencfkhncjeibaaDoor.PFnExactPutStone Go.Proofs.YtencfkhncjeibaaDoorW.PrintWords Go.Proofs.YtencfkhncjeibaaDoorW.PrintLast Go.Proofs.YtencfkhncjeibaaDoorW.PrintMore

def inB (a b c : Int) : Bool := decide (b ≤ a ∧ a ≤ c)
theorem inB_true {a b c : Int} (h : inB a b c = true) : b ≤ a ∧ a ≤ c := of_decide_eq_true h
theorem inB_mk {a b c : Int} (h : b ≤ a ∧ a ≤ c) : inB a b c = true := decide_eq_true h
theorem inB_not {a b c : Int} (h : ¬ (b ≤ a ∧ a ≤ c)) : inB a b c = false := decide_eq_false h
theorem inB_false {a b c : Int} (h : inB a b c = false) : ¬ (b ≤ a ∧ a ≤ c) := of_decide_eq_false h
theorem in_eq (a b c : Int) : spec_l1In.f a b c = some (inB a b c) := by
  unfold spec_l1In.f inB
  by_cases h : a ≥ b
  · rw [if_pos h]; congr 1; rw [decide_eq_decide]; omega
  · rw [if_neg h]; congr 1; symm; rw [decide_eq_false_iff_not]; omega
theorem within_eq (a b c : Int) : impl_within.f a b c = some (inB a b c) := by
  unfold impl_within.f inB
  by_cases h : b ≤ a
  · rw [if_pos h]; congr 1; rw [decide_eq_decide]; omega
  · rw [if_neg h]; congr 1; symm; rw [decide_eq_false_iff_not]; omega
theorem w64 {x : Int} (h0 : -9223372036854775808 ≤ x) (h1 : x < 9223372036854775808) : wrap64 x = x := by unfold wrap64; omega
/-- A river: 1..40 signs, each a stone or water. -/
def Good (s : ByteArray) : Prop := (1 ≤ s.size ∧ s.size ≤ 40) ∧ ∀ i : Int, 0 ≤ i → i < s.size → bt s i = 111 ∨ bt s i = 46
theorem rvGood_l0_true (s : ByteArray) (hs : s.size ≤ 40) (d : Nat) : ∀ (k : Nat) (i : Int), 0 ≤ i → (s.size : Int) - i ≤ d → d < k → (∀ j : Int, i ≤ j → j < s.size → bt s j = 111 ∨ bt s j = 46) → spec_rvGood.l0 k s i = some true := by
  induction d with
  | zero =>
    intro k i h0 hd hk h
    obtain ⟨k, rfl⟩ : ∃ m, k = m + 1 := ⟨k - 1, by omega⟩
    simp only [spec_rvGood.l0]; rw [if_neg (by omega)]
  | succ d ih =>
    intro k i h0 hd hk h
    obtain ⟨k, rfl⟩ : ∃ m, k = m + 1 := ⟨k - 1, by omega⟩
    simp only [spec_rvGood.l0]
    by_cases hlt : i < (s.size : Int)
    · rw [if_pos hlt, if_pos h0, w64 (by omega) (by omega)]
      have hr := ih k (i + 1) (by omega) (by omega) (by omega) (fun j h1 h2 => h j (by omega) h2)
      rw [hr]
      rcases h i (by omega) hlt with e | e
      · rw [if_pos e]
      · rw [if_neg (by omega), if_pos e]
    · rw [if_neg hlt]
theorem rvGood_l0_false (s : ByteArray) (hs : s.size ≤ 40) (d : Nat) : ∀ (k : Nat) (i : Int), 0 ≤ i → (s.size : Int) - i ≤ d → d < k → (¬ ∀ j : Int, i ≤ j → j < s.size → bt s j = 111 ∨ bt s j = 46) → spec_rvGood.l0 k s i = some false := by
  induction d with
  | zero =>
    intro k i h0 hd hk h
    exact absurd (fun j h1 h2 => absurd h1 (by omega)) h
  | succ d ih =>
    intro k i h0 hd hk h
    obtain ⟨k, rfl⟩ : ∃ m, k = m + 1 := ⟨k - 1, by omega⟩
    simp only [spec_rvGood.l0]
    by_cases hlt : i < (s.size : Int)
    · rw [if_pos hlt, if_pos h0, w64 (by omega) (by omega)]
      by_cases e1 : bt s i = 111
      · rw [if_pos e1]
        exact ih k (i + 1) (by omega) (by omega) (by omega) (fun g => h (fun j h1 h2 => if c : j = i then by rw [c]; exact .inl e1 else g j (by omega) h2))
      · rw [if_neg e1]
        by_cases e2 : bt s i = 46
        · rw [if_pos e2]
          exact ih k (i + 1) (by omega) (by omega) (by omega) (fun g => h (fun j h1 h2 => if c : j = i then by rw [c]; exact .inr e2 else g j (by omega) h2))
        · rw [if_neg e2]
    · exact absurd (fun j h1 h2 => absurd h2 (by omega)) h
theorem rvGood_true {s : ByteArray} (hg : Good s) {k : Nat} (hk : 41 < k) : spec_rvGood.f k s = some true := by
  unfold spec_rvGood.f
  obtain ⟨h1, h2⟩ := hg
  rw [in_eq, inB_mk ⟨by omega, by omega⟩]
  exact rvGood_l0_true s h1.2 s.size k 0 (by omega) (by omega) (by omega) h2
theorem rvGood_false {s : ByteArray} (hg : ¬ Good s) {k : Nat} (hk : 41 < k) : spec_rvGood.f k s = some false := by
  unfold spec_rvGood.f
  rw [in_eq]
  cases hb : inB (s.size : Int) 1 40
  · rfl
  · have h1 := inB_true hb
    exact rvGood_l0_false s (by omega) s.size k 0 (by omega) (by omega) (by omega) (fun h => hg ⟨⟨by omega, by omega⟩, h⟩)
theorem bt_list (s : ByteArray) (i : Nat) (h : i < s.data.toList.length) : bt s (i : Int) = ((s.data.toList[i]'h).toNat : Int) := by
  have h' : i < s.size := by simpa using h
  unfold bt
  rw [dif_pos (by simpa using h')]
  rfl
theorem dropWhile_nil {α : Type} (p : α → Bool) (l : List α) : l.dropWhile p = [] ↔ ∀ x ∈ l, p x = true := by
  induction l with
  | nil => simp
  | cons a l ih =>
    rw [List.dropWhile_cons]
    by_cases h : p a = true
    · rw [if_pos h, ih]; simp [h]
    · rw [if_neg h]; simp [h]
theorem trimS_nil (l cs : List UInt8) : Lib.trimS l cs = [] ↔ ∀ x ∈ l, cs.contains x = true := by
  unfold Lib.trimS Lib.trimLeftS Lib.trimRightS
  rw [dropWhile_nil]
  constructor
  · intro h x hx
    by_cases hall : ∀ y ∈ l.reverse, cs.contains y = true
    · exact hall x (by simpa using hx)
    · exfalso
      have hne : l.reverse.dropWhile (cs.contains ·) ≠ [] := fun e => hall ((dropWhile_nil _ _).1 e)
      obtain ⟨y, ys, hy⟩ : ∃ y ys, l.reverse.dropWhile (cs.contains ·) = y :: ys := by
        cases e : l.reverse.dropWhile (cs.contains ·) with
        | nil => exact absurd e hne
        | cons y ys => exact ⟨y, ys, rfl⟩
      have hp := List.head?_dropWhile_not (cs.contains ·) l.reverse
      rw [hy] at hp
      have := h y (by rw [hy]; simp)
      simp at hp this
      exact hp this
  · intro h x hx
    rw [List.mem_reverse] at hx
    exact h x (by simpa using (List.dropWhile_sublist _).subset hx)
theorem trim_river (s : ByteArray) (hs : s.size ≤ 9223372036854775807) : ∃ t : ByteArray, strings_Trim.f s (⟨#[111, 46]⟩ : ByteArray) = some t ∧ (t.toList = [] ↔ ∀ i : Int, 0 ≤ i → i < s.size → bt s i = 111 ∨ bt s i = 46) := by
  refine ⟨⟨(Lib.trimS s.data.toList [111, 46]).toArray⟩, ?_, ?_⟩
  · unfold strings_Trim.f
    rw [if_pos ⟨hs, by decide, by decide⟩]
  · rw [Lib.toList_data]
    show (Lib.trimS s.data.toList [111, 46]).toArray.toList = [] ↔ _
    rw [show (Lib.trimS s.data.toList [111, 46]).toArray.toList = Lib.trimS s.data.toList [111, 46] from rfl, trimS_nil]
    constructor
    · intro h i h0 h1
      have hi : i.toNat < s.data.toList.length := by
        have : s.data.toList.length = s.size := by simp
        omega
      have hb := bt_list s i.toNat hi
      rw [show ((i.toNat : Nat) : Int) = i by omega] at hb
      have := h _ (List.getElem_mem hi)
      rw [hb]
      simp at this
      rcases this with e | e <;> simp [e]
    · intro h x hx
      obtain ⟨n, hn, rfl⟩ := List.mem_iff_getElem.1 hx
      have hb := bt_list s n hn
      have hlt : n < s.size := by simpa using hn
      have := h n (by omega) (by omega)
      rw [hb] at this
      simp
      rcases this with e | e
      · left; apply UInt8.toNat_inj.1; simpa using Int.ofNat.inj e
      · right; apply UInt8.toNat_inj.1; simpa using Int.ofNat.inj e
theorem isRiver_true {s : ByteArray} (hg : Good s) : impl_IsRiver.f s = some true := by
  unfold impl_IsRiver.f
  obtain ⟨h1, h2⟩ := hg
  obtain ⟨t, ht, hiff⟩ := trim_river s (by omega)
  rw [within_eq, inB_mk ⟨by omega, by omega⟩]
  simp only [Option.bind_some, if_true, ht]
  rw [hiff.2 h2]; rfl
theorem isRiver_false {s : ByteArray} (hg : ¬ Good s) : impl_IsRiver.f s = some false := by
  unfold impl_IsRiver.f
  rw [within_eq]
  cases hb : inB (s.size : Int) 1 40
  · rfl
  · have h1 := inB_true hb
    obtain ⟨t, ht, hiff⟩ := trim_river s (by omega)
    simp only [Option.bind_some, if_true, ht]
    congr 1
    cases hc : (t.toList == ([] : List UInt8)) with
    | false => rfl
    | true => exact absurd ⟨⟨by omega, by omega⟩, hiff.1 (by simpa using hc)⟩ hg
/-- Does one stand on this place? -/
def stB (s : ByteArray) (p : Int) : Bool := decide (p = 0) || decide (p = (s.size : Int) + 1) || (bt s (p - 1) == 111)
theorem rvStand_eq (s : ByteArray) (hs : s.size ≤ 40) (p : Int) (h0 : 0 ≤ p) (h1 : p ≤ (s.size : Int) + 1) : spec_rvStand.f s p = some (stB s p) := by
  unfold spec_rvStand.f stB
  rw [w64 (x := (s.size : Int) + 1) (by omega) (by omega), w64 (x := p - 1) (by omega) (by omega)]
  by_cases e0 : p = 0
  · rw [if_pos e0]; simp [e0]
  · rw [if_neg e0]
    by_cases e1 : p = (s.size : Int) + 1
    · rw [if_pos e1]; simp [e1]
    · rw [if_neg e1, if_pos (by omega), if_pos (by omega)]; simp [e0, e1]
theorem stB_in (s : ByteArray) (p : Int) (h0 : 1 ≤ p) (h1 : p ≤ s.size) : stB s p = decide (bt s (p - 1) = 111) := by
  unfold stB
  have e0 : decide (p = 0) = false := decide_eq_false (by omega)
  have e1 : decide (p = (s.size : Int) + 1) = false := decide_eq_false (by omega)
  rw [e0, e1]; rfl
theorem put_eq (s : ByteArray) (hs : s.size ≤ 40) (p c : Int) (h0 : 1 ≤ p) (h1 : p ≤ s.size) (hc : (strOfNums [c]).size = 1) : impl_put.f s p c = some (s.extract 0 (p - 1).toNat ++ strOfNums [c] ++ s.extract p.toNat s.size) := by
  have e1 : wrap64 (p - 1) = p - 1 := w64 (by omega) (by omega)
  have e2 : (s.extract 0 (p - 1).toNat).size ≤ 40 := by simp only [ByteArray.size_extract]; omega
  have e3 : (s.extract p.toNat s.size).size ≤ 40 := by simp only [ByteArray.size_extract]; omega
  have e4 : (s.extract 0 (p - 1).toNat ++ strOfNums [c]).size ≤ 41 := by simp only [ByteArray.size_append]; omega
  unfold impl_put.f impl_put.f0
  rw [if_pos (by omega), e1, if_pos (by omega), if_pos (by omega)]
  simp only [Option.bind_some]
  rw [if_pos (by omega), if_pos (by omega), if_pos (by omega), if_pos (by omega)]
theorem law_str (x y : ByteArray) (b : Bool) (h : x = y) : (if y.toList = x.toList then (if (b != b) = true then (some false) else (some true)) else (some false)) = some true := by
  subst h; simp
theorem FnExactPutStone : laws_FnExactPutStone.Pure := by
  intro s p _ _
  obtain ⟨k, hk⟩ : ∃ k : Nat, 43 ≤ k := ⟨43, Nat.le_refl _⟩
  have hk41 : 41 < k := by omega
  refine ⟨k, ?_⟩
  unfold laws_FnExactPutStone.f
  by_cases hb : (s.size : Int) > 1048576
  · rw [if_pos hb]
  rw [if_neg hb]
  by_cases hg : Good s
  rotate_left
  · unfold spec_PutStone.f impl_PutStone.f
    rw [rvGood_false hg hk41, isRiver_false hg]; simp
  have h40 := hg.1.2
  by_cases hp : 1 ≤ p ∧ p ≤ (s.size : Int)
  rotate_left
  · unfold spec_PutStone.f impl_PutStone.f
    rw [rvGood_true hg hk41, isRiver_true hg, in_eq, within_eq, inB_not hp]; simp
  have e1 : wrap64 (p - 1) = p - 1 := w64 (by omega) (by omega)
  have e2 : (s.extract 0 (p - 1).toNat).size + 1 ≤ 9223372036854775807 := by simp only [ByteArray.size_extract]; omega
  have e5 : (⟨#[111]⟩ : ByteArray).size = 1 := rfl
  have e4 : ((s.extract 0 (p - 1).toNat) ++ (⟨#[111]⟩ : ByteArray)).size + (s.extract p.toNat s.size).size ≤ 9223372036854775807 := by
    simp only [ByteArray.size_append, ByteArray.size_extract]; omega
  have e6 : spec_rvStand.f s p = some (decide (bt s (p - 1) = 111)) := by rw [rvStand_eq s h40 p (by omega) (by omega), stB_in s p hp.1 hp.2]
  have e7 : 0 ≤ p - 1 := by omega
  have e8 : p - 1 ≤ (s.size : Int) := by omega
  have e9 : p - 1 < (s.size : Int) := by omega
  have e10 : 0 ≤ p := by omega
  unfold spec_PutStone.f impl_PutStone.f
  rw [rvGood_true hg hk41, isRiver_true hg, in_eq, within_eq, inB_mk hp, e6, e1]
  simp only [Option.bind_some, if_true]
  rw [if_pos e7, if_pos e9]
  by_cases hst : bt s (p - 1) = 111
  · simp [hp.1, hst]
  · rw [if_neg (by simpa using hst), if_neg hst, if_pos e7, if_pos e8, if_pos e2, if_pos e10, if_pos hp.2, if_pos e4, put_eq s h40 p 111 hp.1 hp.2 rfl]
    simp only [Option.bind_some]
    exact law_str _ _ true rfl

end Go.Proofs.YtencfkhncjeibaaDoor.Pure
