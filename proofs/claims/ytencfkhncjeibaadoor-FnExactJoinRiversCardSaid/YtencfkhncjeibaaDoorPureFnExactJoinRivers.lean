/- For every two texts the program's JoinRivers and the reference's answer alike. Conditions: each text takes at most 140737488351232 bytes. -/
import Derived.Test.YtencfkhncjeibaaDoorPFnExactJoinRiversx
namespace Go.Proofs.YtencfkhncjeibaaDoor.Pure
open Go.RowKit Go.Proofs.YtencfkhncjeibaaDoor.PFnExactJoinRivers Go.Proofs.YtencfkhncjeibaaDoorW.PrintWords Go.Proofs.YtencfkhncjeibaaDoorW.PrintLast Go.Proofs.YtencfkhncjeibaaDoorW.PrintMore

def inB (a b c : Int) : Bool := decide (b ≤ a ∧ a ≤ c)
theorem inB_true {a b c : Int} (h : inB a b c = true) : b ≤ a ∧ a ≤ c := of_decide_eq_true h
theorem inB_mk {a b c : Int} (h : b ≤ a ∧ a ≤ c) : inB a b c = true := decide_eq_true h
theorem inB_not {a b c : Int} (h : ¬ (b ≤ a ∧ a ≤ c)) : inB a b c = false := decide_eq_false h
theorem inB_false {a b c : Int} (h : inB a b c = false) : ¬ (b ≤ a ∧ a ≤ c) := of_decide_eq_false h
theorem in_eq (a b c : Int) : spec_l1In.f a b c = some (inB a b c) := by
  unfold spec_l1In.f inB
  by_cases h : a ≥ b
  · rw [if_pos h]; congr 1; rw [decide_eq_decide]; omega
  · rw [if_neg h]; congr 1; symm; rw [decide_eq_false_iff_not]; omega
theorem within_eq (a b c : Int) : impl_within.f a b c = some (inB a b c) := by
  unfold impl_within.f inB
  by_cases h : b ≤ a
  · rw [if_pos h]; congr 1; rw [decide_eq_decide]; omega
  · rw [if_neg h]; congr 1; symm; rw [decide_eq_false_iff_not]; omega
theorem w64 {x : Int} (h0 : -9223372036854775808 ≤ x) (h1 : x < 9223372036854775808) : wrap64 x = x := by unfold wrap64; omega
/-- A river: 1..40 signs, each a stone or water. -/
def Good (s : ByteArray) : Prop := (1 ≤ s.size ∧ s.size ≤ 40) ∧ ∀ i : Int, 0 ≤ i → i < s.size → bt s i = 111 ∨ bt s i = 46
theorem rvGood_l0_true (s : ByteArray) (hs : s.size ≤ 40) (d : Nat) : ∀ (k : Nat) (i : Int), 0 ≤ i → (s.size : Int) - i ≤ d → d < k → (∀ j : Int, i ≤ j → j < s.size → bt s j = 111 ∨ bt s j = 46) → spec_rvGood.l0 k s i = some true := by
  induction d with
  | zero =>
    intro k i h0 hd hk h
    obtain ⟨k, rfl⟩ : ∃ m, k = m + 1 := ⟨k - 1, by omega⟩
    simp only [spec_rvGood.l0]; rw [if_neg (by omega)]
  | succ d ih =>
    intro k i h0 hd hk h
    obtain ⟨k, rfl⟩ : ∃ m, k = m + 1 := ⟨k - 1, by omega⟩
    simp only [spec_rvGood.l0]
    by_cases hlt : i < (s.size : Int)
    · rw [if_pos hlt, if_pos h0, w64 (by omega) (by omega)]
      have hr := ih k (i + 1) (by omega) (by omega) (by omega) (fun j h1 h2 => h j (by omega) h2)
      rw [hr]
      rcases h i (by omega) hlt with e | e
      · rw [if_pos e]
      · rw [if_neg (by omega), if_pos e]
    · rw [if_neg hlt]
theorem rvGood_l0_false (s : ByteArray) (hs : s.size ≤ 40) (d : Nat) : ∀ (k : Nat) (i : Int), 0 ≤ i → (s.size : Int) - i ≤ d → d < k → (¬ ∀ j : Int, i ≤ j → j < s.size → bt s j = 111 ∨ bt s j = 46) → spec_rvGood.l0 k s i = some false := by
  induction d with
  | zero =>
    intro k i h0 hd hk h
    exact absurd (fun j h1 h2 => absurd h1 (by omega)) h
  | succ d ih =>
    intro k i h0 hd hk h
    obtain ⟨k, rfl⟩ : ∃ m, k = m + 1 := ⟨k - 1, by omega⟩
    simp only [spec_rvGood.l0]
    by_cases hlt : i < (s.size : Int)
    · rw [if_pos hlt, if_pos h0, w64 (by omega) (by omega)]
      by_cases e1 : bt s i = 111
      · rw [if_pos e1]
        exact ih k (i + 1) (by omega) (by omega) (by omega) (fun g => h (fun j h1 h2 => if c : j = i then by rw [c]; exact .inl e1 else g j (by omega) h2))
      · rw [if_neg e1]
        by_cases e2 : bt s i = 46
        · rw [if_pos e2]
          exact ih k (i + 1) (by omega) (by omega) (by omega) (fun g => h (fun j h1 h2 => if c : j = i then by rw [c]; exact .inr e2 else g j (by omega) h2))
        · rw [if_neg e2]
    · exact absurd (fun j h1 h2 => absurd h2 (by omega)) h
theorem rvGood_true {s : ByteArray} (hg : Good s) {k : Nat} (hk : 41 < k) : spec_rvGood.f k s = some true := by
  unfold spec_rvGood.f
  obtain ⟨h1, h2⟩ := hg
  rw [in_eq, inB_mk ⟨by omega, by omega⟩]
  exact rvGood_l0_true s h1.2 s.size k 0 (by omega) (by omega) (by omega) h2
theorem rvGood_false {s : ByteArray} (hg : ¬ Good s) {k : Nat} (hk : 41 < k) : spec_rvGood.f k s = some false := by
  unfold spec_rvGood.f
  rw [in_eq]
  cases hb : inB (s.size : Int) 1 40
  · rfl
  · have h1 := inB_true hb
    exact rvGood_l0_false s (by omega) s.size k 0 (by omega) (by omega) (by omega) (fun h => hg ⟨⟨by omega, by omega⟩, h⟩)
theorem bt_list (s : ByteArray) (i : Nat) (h : i < s.data.toList.length) : bt s (i : Int) = ((s.data.toList[i]'h).toNat : Int) := by
  have h' : i < s.size := by simpa using h
  unfold bt
  rw [dif_pos (by simpa using h')]
  rfl
theorem dropWhile_nil {α : Type} (p : α → Bool) (l : List α) : l.dropWhile p = [] ↔ ∀ x ∈ l, p x = true := by
  induction l with
  | nil => simp
  | cons a l ih =>
    rw [List.dropWhile_cons]
    by_cases h : p a = true
    · rw [if_pos h, ih]; simp [h]
    · rw [if_neg h]; simp [h]
theorem trimS_nil (l cs : List UInt8) : Lib.trimS l cs = [] ↔ ∀ x ∈ l, cs.contains x = true := by
  unfold Lib.trimS Lib.trimLeftS Lib.trimRightS
  rw [dropWhile_nil]
  constructor
  · intro h x hx
    by_cases hall : ∀ y ∈ l.reverse, cs.contains y = true
    · exact hall x (by simpa using hx)
    · exfalso
      have hne : l.reverse.dropWhile (cs.contains ·) ≠ [] := fun e => hall ((dropWhile_nil _ _).1 e)
      obtain ⟨y, ys, hy⟩ : ∃ y ys, l.reverse.dropWhile (cs.contains ·) = y :: ys := by
        cases e : l.reverse.dropWhile (cs.contains ·) with
        | nil => exact absurd e hne
        | cons y ys => exact ⟨y, ys, rfl⟩
      have hp := List.head?_dropWhile_not (cs.contains ·) l.reverse
      rw [hy] at hp
      have := h y (by rw [hy]; simp)
      simp at hp this
      exact hp this
  · intro h x hx
    rw [List.mem_reverse] at hx
    exact h x (by simpa using (List.dropWhile_sublist _).subset hx)
theorem trim_river (s : ByteArray) (hs : s.size ≤ 9223372036854775807) : ∃ t : ByteArray, strings_Trim.f s (⟨#[111, 46]⟩ : ByteArray) = some t ∧ (t.toList = [] ↔ ∀ i : Int, 0 ≤ i → i < s.size → bt s i = 111 ∨ bt s i = 46) := by
  refine ⟨⟨(Lib.trimS s.data.toList [111, 46]).toArray⟩, ?_, ?_⟩
  · unfold strings_Trim.f
    rw [if_pos ⟨hs, by decide, by decide⟩]
  · rw [Lib.toList_data]
    show (Lib.trimS s.data.toList [111, 46]).toArray.toList = [] ↔ _
    rw [show (Lib.trimS s.data.toList [111, 46]).toArray.toList = Lib.trimS s.data.toList [111, 46] from rfl, trimS_nil]
    constructor
    · intro h i h0 h1
      have hi : i.toNat < s.data.toList.length := by
        have : s.data.toList.length = s.size := by simp
        omega
      have hb := bt_list s i.toNat hi
      rw [show ((i.toNat : Nat) : Int) = i by omega] at hb
      have := h _ (List.getElem_mem hi)
      rw [hb]
      simp at this
      rcases this with e | e <;> simp [e]
    · intro h x hx
      obtain ⟨n, hn, rfl⟩ := List.mem_iff_getElem.1 hx
      have hb := bt_list s n hn
      have hlt : n < s.size := by simpa using hn
      have := h n (by omega) (by omega)
      rw [hb] at this
      simp
      rcases this with e | e
      · left; apply UInt8.toNat_inj.1; simpa using Int.ofNat.inj e
      · right; apply UInt8.toNat_inj.1; simpa using Int.ofNat.inj e
theorem isRiver_true {s : ByteArray} (hg : Good s) : impl_IsRiver.f s = some true := by
  unfold impl_IsRiver.f
  obtain ⟨h1, h2⟩ := hg
  obtain ⟨t, ht, hiff⟩ := trim_river s (by omega)
  rw [within_eq, inB_mk ⟨by omega, by omega⟩]
  simp only [Option.bind_some, if_true, ht]
  rw [hiff.2 h2]; rfl
theorem isRiver_false {s : ByteArray} (hg : ¬ Good s) : impl_IsRiver.f s = some false := by
  unfold impl_IsRiver.f
  rw [within_eq]
  cases hb : inB (s.size : Int) 1 40
  · rfl
  · have h1 := inB_true hb
    obtain ⟨t, ht, hiff⟩ := trim_river s (by omega)
    simp only [Option.bind_some, if_true, ht]
    congr 1
    cases hc : (t.toList == ([] : List UInt8)) with
    | false => rfl
    | true => exact absurd ⟨⟨by omega, by omega⟩, hiff.1 (by simpa using hc)⟩ hg
theorem bt_append (a b : ByteArray) (i : Int) (h0 : 0 ≤ i) : bt (a ++ b) i = if i < (a.size : Int) then bt a i else bt b (i - a.size) := by
  have hl : (a ++ b).data.toList = a.data.toList ++ b.data.toList := by simp
  have hsz : (a ++ b).size = a.size + b.size := by simp
  have la : a.data.toList.length = a.size := by simp
  have lb : b.data.toList.length = b.size := by simp
  by_cases hlt : i < ((a ++ b).size : Int)
  · have h1 : i.toNat < (a ++ b).data.toList.length := by rw [hl, List.length_append]; omega
    have e := bt_list (a ++ b) i.toNat h1
    rw [show ((i.toNat : Nat) : Int) = i by omega] at e
    rw [e]
    by_cases ha : i < (a.size : Int)
    · rw [if_pos ha]
      have h2 : i.toNat < a.data.toList.length := by omega
      have e2 := bt_list a i.toNat h2
      rw [show ((i.toNat : Nat) : Int) = i by omega] at e2
      rw [e2]
      congr 2
      simp only [hl]
      rw [List.getElem_append_left h2]
    · rw [if_neg ha]
      have h2 : (i - a.size).toNat < b.data.toList.length := by omega
      have e2 := bt_list b (i - a.size).toNat h2
      rw [show (((i - a.size).toNat : Nat) : Int) = i - a.size by omega] at e2
      rw [e2]
      congr 2
      simp only [hl]
      rw [List.getElem_append_right (by omega)]
      congr 1
      omega
  · have n1 : bt (a ++ b) i = 0 := by unfold bt; rw [dif_neg (by omega)]
    rw [n1, if_neg (by omega)]
    unfold bt; rw [dif_neg (by omega)]
theorem good_append (a b : ByteArray) (ha : Good a) (hb : Good b) : Good (a ++ b) ↔ a.size + b.size ≤ 40 := by
  have hsz : (a ++ b).size = a.size + b.size := by simp
  constructor
  · intro h; have := h.1.2; omega
  · intro h
    refine ⟨⟨by have := ha.1.1; omega, by omega⟩, fun i h0 h1 => ?_⟩
    rw [bt_append a b i h0]
    split
    · exact ha.2 i h0 (by assumption)
    · exact hb.2 (i - a.size) (by omega) (by omega)
theorem law_str (x y : ByteArray) (b : Bool) (h : x = y) : (if y.toList = x.toList then (if (b != b) = true then (some false) else (some true)) else (some false)) = some true := by
  subst h; simp
theorem FnExactJoinRivers : laws_FnExactJoinRivers.Pure := by
  intro a b _ _
  obtain ⟨k, hk⟩ : ∃ k : Nat, 43 ≤ k := ⟨43, Nat.le_refl _⟩
  have hk41 : 41 < k := by omega
  refine ⟨k, ?_⟩
  unfold laws_FnExactJoinRivers.f
  by_cases h1 : (a.size : Int) > 1048576
  · rw [if_pos h1]
  rw [if_neg h1]
  by_cases h2 : (b.size : Int) > 1048576
  · rw [if_pos h2]
  rw [if_neg h2]
  by_cases ha : Good a
  rotate_left
  · unfold spec_JoinRivers.f impl_JoinRivers.f
    rw [rvGood_false ha hk41, isRiver_false ha]; simp
  by_cases hb : Good b
  rotate_left
  · unfold spec_JoinRivers.f impl_JoinRivers.f
    rw [rvGood_true ha hk41, isRiver_true ha, rvGood_false hb hk41, isRiver_false hb]; simp
  have e1 : wrap64 ((a.size : Int) + (b.size : Int)) = (a.size : Int) + (b.size : Int) := w64 (by omega) (by omega)
  have e2 : a.size + b.size ≤ 9223372036854775807 := by omega
  by_cases hs : a.size + b.size ≤ 40
  · have e3 : ¬ (a.size : Int) + (b.size : Int) > 40 := by omega
    unfold spec_JoinRivers.f impl_JoinRivers.f
    rw [rvGood_true ha hk41, isRiver_true ha, rvGood_true hb hk41, isRiver_true hb, e1]
    simp only [Option.bind_some, if_true]
    rw [if_neg e3, if_pos hs, if_pos e2, isRiver_true ((good_append a b ha hb).2 hs)]
    simp
  · have e3 : (a.size : Int) + (b.size : Int) > 40 := by omega
    unfold spec_JoinRivers.f impl_JoinRivers.f
    rw [rvGood_true ha hk41, isRiver_true ha, rvGood_true hb hk41, isRiver_true hb, e1]
    simp only [Option.bind_some, if_true]
    rw [if_pos e3, if_pos e2, isRiver_false (fun h => hs ((good_append a b ha hb).1 h))]
    simp

end Go.Proofs.YtencfkhncjeibaaDoor.Pure
