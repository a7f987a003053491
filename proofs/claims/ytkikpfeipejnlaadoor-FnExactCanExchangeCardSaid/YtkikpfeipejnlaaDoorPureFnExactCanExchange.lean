/- For every text the program's CanExchange and the reference's answer alike. Conditions: the text takes at most 140737488351232 bytes. -/
import Derived.Test.YtkikpfeipejnlaaDoorPFnExactCanExchangex
namespace Go.Proofs.YtkikpfeipejnlaaDoor.Pure
open Go.RowKit Go.Proofs.YtkikpfeipejnlaaDoor.PFnExactCanExchange Go.Proofs.YtkikpfeipejnlaaDoorW.PrintWords Go.Proofs.YtkikpfeipejnlaaDoorW.PrintLast Go.Proofs.YtkikpfeipejnlaaDoorW.PrintMore

set_option linter.unusedVariables false
set_option linter.unusedSimpArgs false
def inB (a b c : Int) : Bool := decide (b ≤ a ∧ a ≤ c)
theorem inB_true {a b c : Int} (h : inB a b c = true) : b ≤ a ∧ a ≤ c := of_decide_eq_true h
theorem inB_mk {a b c : Int} (h : b ≤ a ∧ a ≤ c) : inB a b c = true := decide_eq_true h
theorem inB_not {a b c : Int} (h : ¬ (b ≤ a ∧ a ≤ c)) : inB a b c = false := decide_eq_false h
theorem inB_false {a b c : Int} (h : inB a b c = false) : ¬ (b ≤ a ∧ a ≤ c) := of_decide_eq_false h
theorem in_eq (a b c : Int) : spec_l1In.f a b c = some (inB a b c) := by
  unfold spec_l1In.f inB
  by_cases h : a ≥ b
  · rw [if_pos h]; congr 1; rw [decide_eq_decide]; omega
  · rw [if_neg h]; congr 1; symm; rw [decide_eq_false_iff_not]; omega
theorem within_eq (a b c : Int) : impl_within.f a b c = some (inB a b c) := by
  unfold impl_within.f inB
  by_cases h : b ≤ a
  · rw [if_pos h]; congr 1; rw [decide_eq_decide]; omega
  · rw [if_neg h]; congr 1; symm; rw [decide_eq_false_iff_not]; omega
theorem w64 {x : Int} (h0 : -9223372036854775808 ≤ x) (h1 : x < 9223372036854775808) : wrap64 x = x := by unfold wrap64; omega
/-- A pond: 1..9 signs, each a frog of one kind or a free stone. -/
def Pond (s : ByteArray) : Prop := (1 ≤ s.size ∧ s.size ≤ 9) ∧ ∀ i : Int, 0 ≤ i → i < s.size → bt s i = 114 ∨ bt s i = 108 ∨ bt s i = 46
theorem fgGood_l0_true (s : ByteArray) (hs : s.size ≤ 9) (d : Nat) : ∀ (k : Nat) (i : Int), 0 ≤ i → (s.size : Int) - i ≤ d → d < k → (∀ j : Int, i ≤ j → j < s.size → bt s j = 114 ∨ bt s j = 108 ∨ bt s j = 46) → spec_fgGood.l0 k s i = some true := by
  induction d with
  | zero =>
    intro k i h0 hd hk h
    obtain ⟨k, rfl⟩ : ∃ m, k = m + 1 := ⟨k - 1, by omega⟩
    simp only [spec_fgGood.l0]; rw [if_neg (by omega)]
  | succ d ih =>
    intro k i h0 hd hk h
    obtain ⟨k, rfl⟩ : ∃ m, k = m + 1 := ⟨k - 1, by omega⟩
    simp only [spec_fgGood.l0]
    by_cases hlt : i < (s.size : Int)
    · rw [if_pos hlt, if_pos h0, w64 (by omega) (by omega)]
      have hr := ih k (i + 1) (by omega) (by omega) (by omega) (fun j h1 h2 => h j (by omega) h2)
      rw [hr]
      rcases h i (by omega) hlt with e | e | e
      · rw [if_pos e]
      · rw [if_neg (by omega), if_pos e]
      · rw [if_neg (by omega), if_neg (by omega), if_pos e]
    · rw [if_neg hlt]
theorem fgGood_l0_false (s : ByteArray) (hs : s.size ≤ 9) (d : Nat) : ∀ (k : Nat) (i : Int), 0 ≤ i → (s.size : Int) - i ≤ d → d < k → (¬ ∀ j : Int, i ≤ j → j < s.size → bt s j = 114 ∨ bt s j = 108 ∨ bt s j = 46) → spec_fgGood.l0 k s i = some false := by
  induction d with
  | zero =>
    intro k i h0 hd hk h
    exact absurd (fun j h1 h2 => absurd h1 (by omega)) h
  | succ d ih =>
    intro k i h0 hd hk h
    obtain ⟨k, rfl⟩ : ∃ m, k = m + 1 := ⟨k - 1, by omega⟩
    simp only [spec_fgGood.l0]
    by_cases hlt : i < (s.size : Int)
    · rw [if_pos hlt, if_pos h0, w64 (by omega) (by omega)]
      have hgo : (bt s i = 114 ∨ bt s i = 108 ∨ bt s i = 46) → spec_fgGood.l0 k s (i + 1) = some false := fun e => ih k (i + 1) (by omega) (by omega) (by omega) (fun g => h (fun j h1 h2 => if c : j = i then by rw [c]; exact e else g j (by omega) h2))
      by_cases e1 : bt s i = 114
      · rw [if_pos e1]; exact hgo (.inl e1)
      · rw [if_neg e1]
        by_cases e2 : bt s i = 108
        · rw [if_pos e2]; exact hgo (.inr (.inl e2))
        · rw [if_neg e2]
          by_cases e3 : bt s i = 46
          · rw [if_pos e3]; exact hgo (.inr (.inr e3))
          · rw [if_neg e3]
    · exact absurd (fun j h1 h2 => absurd h2 (by omega)) h
theorem fgGood_true {s : ByteArray} (hg : Pond s) {k : Nat} (hk : 10 < k) : spec_fgGood.f k s = some true := by
  unfold spec_fgGood.f
  obtain ⟨h1, h2⟩ := hg
  rw [in_eq, inB_mk ⟨by omega, by omega⟩]
  exact fgGood_l0_true s h1.2 s.size k 0 (by omega) (by omega) (by omega) h2
theorem fgGood_false {s : ByteArray} (hg : ¬ Pond s) {k : Nat} (hk : 10 < k) : spec_fgGood.f k s = some false := by
  unfold spec_fgGood.f
  rw [in_eq]
  cases hb : inB (s.size : Int) 1 9
  · rfl
  · have h1 := inB_true hb
    exact fgGood_l0_false s (by omega) s.size k 0 (by omega) (by omega) (by omega) (fun h => hg ⟨⟨by omega, by omega⟩, h⟩)
theorem bt_list (s : ByteArray) (i : Nat) (h : i < s.data.toList.length) : bt s (i : Int) = ((s.data.toList[i]'h).toNat : Int) := by
  have h' : i < s.size := by simpa using h
  unfold bt
  rw [dif_pos (by simpa using h')]
  rfl
theorem dropWhile_nil {α : Type} (p : α → Bool) (l : List α) : l.dropWhile p = [] ↔ ∀ x ∈ l, p x = true := by
  induction l with
  | nil => simp
  | cons a l ih =>
    rw [List.dropWhile_cons]
    by_cases h : p a = true
    · rw [if_pos h, ih]; simp [h]
    · rw [if_neg h]; simp [h]
theorem trimS_nil (l cs : List UInt8) : Lib.trimS l cs = [] ↔ ∀ x ∈ l, cs.contains x = true := by
  unfold Lib.trimS Lib.trimLeftS Lib.trimRightS
  rw [dropWhile_nil]
  constructor
  · intro h x hx
    by_cases hall : ∀ y ∈ l.reverse, cs.contains y = true
    · exact hall x (by simpa using hx)
    · exfalso
      have hne : l.reverse.dropWhile (cs.contains ·) ≠ [] := fun e => hall ((dropWhile_nil _ _).1 e)
      obtain ⟨y, ys, hy⟩ : ∃ y ys, l.reverse.dropWhile (cs.contains ·) = y :: ys := by
        cases e : l.reverse.dropWhile (cs.contains ·) with
        | nil => exact absurd e hne
        | cons y ys => exact ⟨y, ys, rfl⟩
      have hp := List.head?_dropWhile_not (cs.contains ·) l.reverse
      rw [hy] at hp
      have := h y (by rw [hy]; simp)
      simp at hp this
      exact hp this
  · intro h x hx
    rw [List.mem_reverse] at hx
    exact h x (by simpa using (List.dropWhile_sublist _).subset hx)
theorem trim_pond (s : ByteArray) (hs : s.size ≤ 9223372036854775807) : ∃ t : ByteArray, strings_Trim.f s (⟨#[114, 108, 46]⟩ : ByteArray) = some t ∧ (t.toList = [] ↔ ∀ i : Int, 0 ≤ i → i < s.size → bt s i = 114 ∨ bt s i = 108 ∨ bt s i = 46) := by
  refine ⟨⟨(Lib.trimS s.data.toList [114, 108, 46]).toArray⟩, ?_, ?_⟩
  · unfold strings_Trim.f
    rw [if_pos ⟨hs, by decide, by decide⟩]
  · rw [Lib.toList_data]
    show (Lib.trimS s.data.toList [114, 108, 46]).toArray.toList = [] ↔ _
    rw [show (Lib.trimS s.data.toList [114, 108, 46]).toArray.toList = Lib.trimS s.data.toList [114, 108, 46] from rfl, trimS_nil]
    constructor
    · intro h i h0 h1
      have hi : i.toNat < s.data.toList.length := by
        have : s.data.toList.length = s.size := by simp
        omega
      have hb := bt_list s i.toNat hi
      rw [show ((i.toNat : Nat) : Int) = i by omega] at hb
      have := h _ (List.getElem_mem hi)
      rw [hb]
      simp at this
      rcases this with e | e | e <;> simp [e]
    · intro h x hx
      obtain ⟨n, hn, rfl⟩ := List.mem_iff_getElem.1 hx
      have hb := bt_list s n hn
      have hlt : n < s.size := by simpa using hn
      have := h n (by omega) (by omega)
      rw [hb] at this
      simp
      rcases this with e | e | e
      · left; apply UInt8.toNat_inj.1; simpa using Int.ofNat.inj e
      · right; left; apply UInt8.toNat_inj.1; simpa using Int.ofNat.inj e
      · right; right; apply UInt8.toNat_inj.1; simpa using Int.ofNat.inj e
theorem isPond_true {s : ByteArray} (hg : Pond s) : impl_IsPond.f s = some true := by
  unfold impl_IsPond.f
  obtain ⟨h1, h2⟩ := hg
  obtain ⟨t, ht, hiff⟩ := trim_pond s (by omega)
  rw [within_eq, inB_mk ⟨by omega, by omega⟩]
  simp only [Option.bind_some, if_true, ht]
  rw [hiff.2 h2]; rfl
theorem isPond_false {s : ByteArray} (hg : ¬ Pond s) : impl_IsPond.f s = some false := by
  unfold impl_IsPond.f
  rw [within_eq]
  cases hb : inB (s.size : Int) 1 9
  · rfl
  · have h1 := inB_true hb
    obtain ⟨t, ht, hiff⟩ := trim_pond s (by omega)
    simp only [Option.bind_some, if_true, ht]
    congr 1
    cases hc : (t.toList == ([] : List UInt8)) with
    | false => rfl
    | true => exact absurd ⟨⟨by omega, by omega⟩, hiff.1 (by simpa using hc)⟩ hg
theorem pond_ascii {s : ByteArray} (hg : Pond s) : asciiB s = true := by
  unfold asciiB
  apply List.all_eq_true.2
  intro i hi
  have h1 := List.mem_range.1 hi
  have h2 := hg.2 (i : Int) (by omega) (by omega)
  apply decide_eq_true
  omega
/-- The moves from stone i on, so many stones. -/
def movesF (s : ByteArray) : Nat → Nat → List Int
  | 0, _ => []
  | d + 1, i => if frogTo s (i : Int) ≥ 0 then (i : Int) :: movesF s d (i + 1) else movesF s d (i + 1)
theorem movesF_len (s : ByteArray) (d : Nat) : ∀ i : Nat, (movesF s d i).length ≤ d := by
  induction d with
  | zero => intro i; simp [movesF]
  | succ d ih => intro i; simp only [movesF]; have := ih (i + 1); split <;> simp <;> omega
theorem movesF_mem (s : ByteArray) (d : Nat) : ∀ (i : Nat) (x : Int), x ∈ movesF s d i ↔ ((i : Int) ≤ x ∧ x < (i : Int) + d) ∧ 0 ≤ frogTo s x := by
  induction d with
  | zero => intro i x; simp [movesF]; omega
  | succ d ih =>
    intro i x
    simp only [movesF]
    by_cases h : frogTo s (i : Int) ≥ 0
    · rw [if_pos h, List.mem_cons, ih]
      constructor
      · rintro (e | ⟨h1, h2⟩)
        · subst e; exact ⟨⟨by omega, by omega⟩, h⟩
        · exact ⟨⟨by omega, by omega⟩, h2⟩
      · rintro ⟨h1, h2⟩
        by_cases e : x = (i : Int)
        · exact .inl e
        · exact .inr ⟨⟨by omega, by omega⟩, h2⟩
    · rw [if_neg h, ih]
      constructor
      · rintro ⟨h1, h2⟩; exact ⟨⟨by omega, by omega⟩, h2⟩
      · rintro ⟨h1, h2⟩
        have : x ≠ (i : Int) := fun e => h (e ▸ h2)
        exact ⟨⟨by omega, by omega⟩, h2⟩
def moves (s : ByteArray) : List Int := movesF s s.size 0
theorem fgMoves_l0 (s : ByteArray) (hs : s.size ≤ 9) (d : Nat) : ∀ (k i : Nat) (acc : List Int), i + d = s.size → d < k → acc.length ≤ i → spec_fgMoves.l0 k s acc i = some (acc ++ movesF s d i) := by
  induction d with
  | zero =>
    intro k i acc hi hk ha
    obtain ⟨k, rfl⟩ : ∃ m, k = m + 1 := ⟨k - 1, by omega⟩
    simp only [spec_fgMoves.l0, movesF]
    rw [if_neg (by omega)]; simp
  | succ d ih =>
    intro k i acc hi hk ha
    obtain ⟨k, rfl⟩ : ∃ m, k = m + 1 := ⟨k - 1, by omega⟩
    have ht : spec_fgTo.f s (i : Int) = some (frogTo s (i : Int)) := by unfold spec_fgTo.f; rw [if_pos (by omega)]
    simp only [spec_fgMoves.l0, movesF]
    rw [if_pos (by omega), ht]
    simp only [Option.bind_some]
    by_cases h : frogTo s (i : Int) ≥ 0
    · rw [if_pos h, if_pos h, if_pos (by omega), ih k (i + 1) (acc ++ [(i : Int)]) (by omega) (by omega) (by simp; omega)]
      simp
    · rw [if_neg h, if_neg h, ih k (i + 1) acc (by omega) (by omega) (by omega)]
theorem fgMoves_eq {s : ByteArray} (hg : Pond s) : spec_fgMoves.f s = some (moves s) := by
  have h9 := hg.1.2
  unfold spec_fgMoves.f
  rw [if_pos ⟨by omega, pond_ascii hg⟩, fgMoves_l0 s h9 s.size (s.size + 1) 0 [] (by omega) (by omega) (by simp)]
  rfl
theorem hops_l0 (s : ByteArray) (hs : s.size ≤ 9) (d : Nat) : ∀ (k i : Nat) (acc : List Int), i + d = s.size → d < k → acc.length ≤ i → impl_hops.l0 k s acc (s.size : Int) (i : Int) = some (acc ++ movesF s d i) := by
  induction d with
  | zero =>
    intro k i acc hi hk ha
    obtain ⟨k, rfl⟩ : ∃ m, k = m + 1 := ⟨k - 1, by omega⟩
    simp only [impl_hops.l0, movesF]
    rw [if_neg (by omega)]; simp
  | succ d ih =>
    intro k i acc hi hk ha
    obtain ⟨k, rfl⟩ : ∃ m, k = m + 1 := ⟨k - 1, by omega⟩
    have ht : impl_target.f s (i : Int) = some (frogTo s (i : Int)) := by unfold impl_target.f; rw [if_pos ⟨by omega, by omega, by omega⟩]
    have hw : wrap64 ((i : Int) + 1) = ((i + 1 : Nat) : Int) := by rw [w64 (by omega) (by omega)]; omega
    simp only [impl_hops.l0, movesF]
    rw [if_pos (by omega), ht, hw]
    simp only [Option.bind_some]
    by_cases h : frogTo s (i : Int) ≥ 0
    · rw [if_pos h, if_pos h, if_pos (by omega), ih k (i + 1) (acc ++ [(i : Int)]) (by omega) (by omega) (by simp; omega)]
      simp
    · rw [if_neg h, if_neg h, ih k (i + 1) acc (by omega) (by omega) (by omega)]
theorem hops_eq {s : ByteArray} (hs : s.size ≤ 9) {k : Nat} (hk : 10 < k) : impl_hops.f k s = some (moves s) := by
  unfold impl_hops.f
  rw [show (0 : Int) = ((0 : Nat) : Int) from rfl, hops_l0 s hs s.size k 0 [] (by omega) (by omega) (by simp)]
  rfl
theorem frogTo_in {s : ByteArray} {i : Int} (h : 0 ≤ frogTo s i) : (0 ≤ i ∧ i < (s.size : Int)) ∧ frogTo s i < (s.size : Int) ∧ frogTo s i ≠ i := by
  revert h
  unfold frogTo
  generalize hd : (if bt s i = 108 then (-1 : Int) else 1) = d
  have hd2 : d = -1 ∨ d = 1 := by rw [← hd]; split <;> simp
  clear hd
  by_cases c : (0 ≤ i ∧ i < (s.size : Int)) ∧ ¬ bt s i = 46
  · rw [if_pos c]
    by_cases c1 : (0 ≤ i + d ∧ i + d < (s.size : Int)) ∧ bt s (i + d) = 46
    · rw [if_pos c1]; intro h; exact ⟨c.1, by omega, by omega⟩
    · rw [if_neg c1]
      by_cases c2 : ((0 ≤ i + 2 * d ∧ i + 2 * d < (s.size : Int)) ∧ bt s (i + 2 * d) = 46) ∧ ¬ bt s (i + d) = bt s i
      · rw [if_pos c2]; intro h; exact ⟨c.1, by omega, by omega⟩
      · rw [if_neg c2]; intro h; omega
  · rw [if_neg c]; intro h; omega
/-- How far a move goes: one stone or two. -/
theorem frogTo_far {s : ByteArray} {i : Int} (h : 0 ≤ frogTo s i) : -2 ≤ frogTo s i - i ∧ frogTo s i - i ≤ 2 := by
  revert h
  unfold frogTo
  generalize hd : (if bt s i = 108 then (-1 : Int) else 1) = d
  have hd2 : d = -1 ∨ d = 1 := by rw [← hd]; split <;> simp
  clear hd
  by_cases c : (0 ≤ i ∧ i < (s.size : Int)) ∧ ¬ bt s i = 46
  · rw [if_pos c]
    by_cases c1 : (0 ≤ i + d ∧ i + d < (s.size : Int)) ∧ bt s (i + d) = 46
    · rw [if_pos c1]; intro h; omega
    · rw [if_neg c1]
      by_cases c2 : ((0 ≤ i + 2 * d ∧ i + 2 * d < (s.size : Int)) ∧ bt s (i + 2 * d) = 46) ∧ ¬ bt s (i + d) = bt s i
      · rw [if_pos c2]; intro h; omega
      · rw [if_neg c2]; intro h; omega
  · rw [if_neg c]; intro h; omega
theorem moved_size (s : ByteArray) (i : Int) : (movedB s i).size = s.size := by
  show ((List.range s.size).map (movedAt s i (frogTo s i))).toArray.size = s.size
  rw [List.size_toArray, List.length_map, List.length_range]
theorem bt_in (s : ByteArray) (j : Nat) (h : j < s.size) : bt s (j : Int) = ((s.data.toList.getD j 0).toNat : Int) := by
  rw [bt_list s j (by simpa using h), List.getD_eq_getElem?_getD, List.getElem?_eq_getElem (by simpa using h)]; rfl
theorem bt_moved (s : ByteArray) (i : Int) (j : Nat) (h : j < s.size) (hi : 0 ≤ i ∧ i < (s.size : Int)) : bt (movedB s i) (j : Int) = if (j : Int) = i then 46 else if (j : Int) = frogTo s i then bt s i else bt s (j : Int) := by
  have hm : j < (movedB s i).size := by rw [moved_size]; exact h
  rw [bt_list _ j (by simpa using hm)]
  have e : (movedB s i).data.toList[j]'(by simpa using hm) = movedAt s i (frogTo s i) j := by simp [movedB]
  rw [e]
  unfold movedAt
  by_cases c1 : (j : Int) = i
  · rw [if_pos c1, if_pos c1]; rfl
  · rw [if_neg c1, if_neg c1]
    by_cases c2 : (j : Int) = frogTo s i
    · rw [if_pos c2, if_pos c2, ← bt_in s i.toNat (by omega), show ((i.toNat : Nat) : Int) = i by omega]
    · rw [if_neg c2, if_neg c2, ← bt_in s j h]
theorem pond_moved {s : ByteArray} (hg : Pond s) {i : Int} (hi : 0 ≤ frogTo s i) : Pond (movedB s i) := by
  have h1 := frogTo_in hi
  refine ⟨by rw [moved_size]; exact hg.1, fun j h0 hj => ?_⟩
  rw [moved_size] at hj
  have h := bt_moved s i j.toNat (by omega) h1.1
  rw [show ((j.toNat : Nat) : Int) = j by omega] at h
  rw [h]
  by_cases c1 : j = i
  · rw [if_pos c1]; exact .inr (.inr rfl)
  · rw [if_neg c1]
    by_cases c2 : j = frogTo s i
    · rw [if_pos c2]; exact hg.2 i h1.1.1 h1.1.2
    · rw [if_neg c2]; exact hg.2 j h0 hj
theorem fgTo_eq {s : ByteArray} (hg : Pond s) (i : Int) : spec_fgTo.f s i = some (frogTo s i) := by
  have := hg.1.2
  unfold spec_fgTo.f; rw [if_pos (by omega)]
theorem fgMove_eq {s : ByteArray} (hg : Pond s) {i : Int} (hi : 0 ≤ frogTo s i) : spec_fgMove.f s i = some (movedB s i) := by
  have := hg.1.2
  have h1 := frogTo_in hi
  unfold spec_fgMove.f; rw [if_pos ⟨⟨by omega, pond_ascii hg⟩, h1.1⟩]
theorem hopped_eq {s : ByteArray} (hg : Pond s) {i : Int} (hi : 0 ≤ frogTo s i) : impl_hopped.f s i = some (movedB s i) := by
  have := hg.1.2
  have h1 := frogTo_in hi
  unfold impl_hopped.f; rw [if_pos ⟨⟨by omega, h1.1⟩, hi, h1.2.1⟩]
theorem target_eq {s : ByteArray} (hg : Pond s) {i : Int} (h : 0 ≤ i ∧ i < (s.size : Int)) : impl_target.f s i = some (frogTo s i) := by
  have := hg.1.2
  unfold impl_target.f; rw [if_pos ⟨by omega, h⟩]
theorem frogTo_go {s : ByteArray} {i : Int} (h : 0 ≤ frogTo s i) : bt s (frogTo s i) = 46 ∧ bt s i ≠ 46 ∧ ((bt s i = 108 ∧ (frogTo s i = i - 1 ∨ frogTo s i = i - 2)) ∨ (bt s i ≠ 108 ∧ (frogTo s i = i + 1 ∨ frogTo s i = i + 2))) := by
  revert h
  unfold frogTo
  generalize hd : (if bt s i = 108 then (-1 : Int) else 1) = d
  have hd2 : (bt s i = 108 ∧ d = -1) ∨ (bt s i ≠ 108 ∧ d = 1) := by
    rw [← hd]
    by_cases c : bt s i = 108
    · exact .inl ⟨c, by rw [if_pos c]⟩
    · exact .inr ⟨c, by rw [if_neg c]⟩
  clear hd
  by_cases c : (0 ≤ i ∧ i < (s.size : Int)) ∧ ¬ bt s i = 46
  · rw [if_pos c]
    by_cases c1 : (0 ≤ i + d ∧ i + d < (s.size : Int)) ∧ bt s (i + d) = 46
    · rw [if_pos c1]; intro h
      refine ⟨c1.2, c.2, ?_⟩
      rcases hd2 with ⟨e, rfl⟩ | ⟨e, rfl⟩
      · exact .inl ⟨e, .inl (by omega)⟩
      · exact .inr ⟨e, .inl (by omega)⟩
    · rw [if_neg c1]
      by_cases c2 : ((0 ≤ i + 2 * d ∧ i + 2 * d < (s.size : Int)) ∧ bt s (i + 2 * d) = 46) ∧ ¬ bt s (i + d) = bt s i
      · rw [if_pos c2]; intro h
        refine ⟨c2.1.2, c.2, ?_⟩
        rcases hd2 with ⟨e, rfl⟩ | ⟨e, rfl⟩
        · exact .inl ⟨e, .inr (by omega)⟩
        · exact .inr ⟨e, .inr (by omega)⟩
      · rw [if_neg c2]; intro h; omega
  · rw [if_neg c]; intro h; omega
def sumTo (f : Nat → Int) : Nat → Int
  | 0 => 0
  | n + 1 => sumTo f n + f n
theorem sumTo_congr (f g : Nat → Int) (n : Nat) (h : ∀ j, j < n → f j = g j) : sumTo f n = sumTo g n := by
  induction n with
  | zero => rfl
  | succ n ih => simp only [sumTo]; rw [ih (fun j hj => h j (by omega)), h n (by omega)]
theorem sumTo_upd (f : Nat → Int) (a : Nat) (x : Int) (n : Nat) : sumTo (fun j => if j = a then x else f j) n = sumTo f n + (if a < n then x - f a else 0) := by
  induction n with
  | zero => simp [sumTo]
  | succ n ih =>
    simp only [sumTo]
    rw [ih]
    by_cases h : n = a
    · subst h; rw [if_neg (by omega), if_pos rfl, if_pos (by omega)]; omega
    · rw [if_neg h]
      by_cases h2 : a < n
      · rw [if_pos h2, if_pos (by omega)]; omega
      · rw [if_neg h2, if_neg (by omega)]; omega
theorem sumTo_bound (f : Nat → Int) (n : Nat) (h : ∀ j, j < n → 0 ≤ f j ∧ f j ≤ 8) : 0 ≤ sumTo f n ∧ sumTo f n ≤ 8 * n := by
  induction n with
  | zero => simp [sumTo]
  | succ n ih => simp only [sumTo]; have := ih (fun j hj => h j (by omega)); have := h n (by omega); omega
/-- How far a stone's frog has come. -/
def rk (s : ByteArray) (j : Nat) : Int := if bt s (j : Int) = 114 then (j : Int) else if bt s (j : Int) = 108 then (s.size : Int) - 1 - j else 0
def rank (s : ByteArray) : Int := sumTo (rk s) s.size
theorem rank_bound {s : ByteArray} (hg : Pond s) : 0 ≤ rank s ∧ rank s ≤ 72 := by
  have h9 := hg.1
  have := sumTo_bound (rk s) s.size (fun j hj => by
    unfold rk
    split
    · omega
    · split <;> omega)
  unfold rank; omega
theorem rank_moved {s : ByteArray} (hg : Pond s) {i : Int} (hi : 0 ≤ frogTo s i) : rank s + 1 ≤ rank (movedB s i) := by
  have h1 := frogTo_in hi
  have h2 := frogTo_go hi
  obtain ⟨a, rfl⟩ : ∃ a : Nat, i = (a : Int) := ⟨i.toNat, by omega⟩
  obtain ⟨b, hb⟩ : ∃ b : Nat, frogTo s (a : Int) = (b : Int) := ⟨(frogTo s (a : Int)).toNat, by omega⟩
  have hab : b ≠ a := by intro e; subst e; exact h1.2.2 hb
  have ha : a < s.size := by omega
  have hbs : b < s.size := by omega
  have e : rank (movedB s (a : Int)) = sumTo (fun j => if j = a then (0 : Int) else (fun j => if j = b then (if bt s (a : Int) = 114 then (b : Int) else (s.size : Int) - 1 - b) else rk s j) j) s.size := by
    unfold rank
    rw [moved_size]
    apply sumTo_congr
    intro j hj
    have hm := bt_moved s (a : Int) j hj h1.1
    rw [hb] at hm
    show rk (movedB s (a : Int)) j = (if j = a then (0 : Int) else if j = b then (if bt s (a : Int) = 114 then (b : Int) else (s.size : Int) - 1 - b) else rk s j)
    by_cases c1 : j = a
    · have hm' : bt (movedB s (a : Int)) (j : Int) = 46 := by rw [hm, if_pos (by omega)]
      rw [if_pos c1]
      unfold rk
      rw [hm', if_neg (by decide), if_neg (by decide)]
    · rw [if_neg c1]
      by_cases c2 : j = b
      · have hm' : bt (movedB s (a : Int)) (j : Int) = bt s (a : Int) := by rw [hm, if_neg (by omega), if_pos (by omega)]
        rw [if_pos c2]
        unfold rk
        rw [hm', moved_size]
        have h3 := hg.2 (a : Int) (by omega) (by omega)
        by_cases c3 : bt s (a : Int) = 114
        · rw [if_pos c3, if_pos c3]; omega
        · have c4 : bt s (a : Int) = 108 := by
            rcases h3 with e | e | e
            · exact absurd e c3
            · exact e
            · exact absurd e h2.2.1
          rw [if_neg c3, if_neg c3, if_pos c4]; omega
      · have hm' : bt (movedB s (a : Int)) (j : Int) = bt s (j : Int) := by rw [hm, if_neg (by omega), if_neg (by omega)]
        rw [if_neg c2]
        unfold rk
        rw [hm', moved_size]
  rw [e, sumTo_upd _ a 0 s.size, sumTo_upd _ b _ s.size, if_pos ha, if_pos hbs]
  have r1 : rk s b = 0 := by
    unfold rk
    rw [hb] at h2
    rw [h2.1, if_neg (by decide), if_neg (by decide)]
  rw [if_neg (Ne.symm hab), r1]
  have h3 := hg.2 (a : Int) (by omega) (by omega)
  show sumTo (rk s) s.size + 1 ≤ _
  unfold rk
  by_cases c3 : bt s (a : Int) = 114
  · rw [if_pos c3, if_pos c3]
    rcases h2.2.2 with ⟨e1, e2⟩ | ⟨e1, e2⟩
    · omega
    · omega
  · have c4 : bt s (a : Int) = 108 := by
      rcases h3 with e | e | e
      · exact absurd e c3
      · exact e
      · exact absurd e h2.2.1
    rw [if_neg c3, if_neg c3, if_pos c4]
    rcases h2.2.2 with ⟨e1, e2⟩ | ⟨e1, e2⟩
    · omega
    · exact absurd c4 e1
theorem moves_go {s : ByteArray} {m : Int} (h : m ∈ moves s) : 0 ≤ frogTo s m := ((movesF_mem s s.size 0 m).1 h).2
theorem moves_len (s : ByteArray) : (moves s).length ≤ s.size := movesF_len s s.size 0
/-- How many of the values are less than a. -/
def cntL (a : Nat) : List Nat → Nat
  | [] => 0
  | b :: l => (if b < a then 1 else 0) + cntL a l
/-- How many pairs stand the wrong way: a frog that has still to pass what stands before it. -/
def invN : List Nat → Nat
  | [] => 0
  | a :: l => cntL a l + invN l
/-- How many frogs can move, by the two values behind (p2, p1). -/
def nmv : Nat → Nat → List Nat → Nat
  | _, _, [] => 0
  | p2, p1, a :: l => (if (a == 2 && (l.headD 3 == 1 || (l.headD 3 == 0 && l.tail.headD 3 == 1))) || (a == 0 && (p1 == 1 || (p1 == 2 && p2 == 1))) then 1 else 0) + nmv p1 a l
/-- At most so many moves, by the pairs that stand the wrong way. -/
def bnd (r : Nat) : Nat := [0, 1, 2, 2, 3, 3, 4, 4, 4, 4, 5, 5, 5, 5, 5, 5, 5, 5, 6, 6, 6, 5, 5, 5, 4, 4, 3, 2].getD r 0
def ckl (l : List Nat) : Bool := Nat.ble (nmv 3 3 l) (bnd (invN l)) && Nat.ble (invN l) 27
def ckAll : Nat → List Nat → Bool
  | 0, l => ckl l
  | n + 1, l => ckAll n (0 :: l) && (ckAll n (1 :: l) && ckAll n (2 :: l))
set_option maxRecDepth 100000
theorem cntL_pre (a : Nat) (p X : List Nat) : cntL a (p ++ X) = cntL a p + cntL a X := by
  induction p with
  | nil => simp [cntL]
  | cons b p ih => simp only [List.cons_append, cntL, ih]; omega
theorem inv_pre (p X X' : List Nat) (h : ∀ a, cntL a X = cntL a X') (hk : invN X = invN X' + 1) : invN (p ++ X) = invN (p ++ X') + 1 := by
  induction p with
  | nil => exact hk
  | cons b p ih => simp only [List.cons_append, invN, cntL_pre, h]; omega
theorem inv_slide (p q : List Nat) (x y : Nat) (h : y < x) : invN (p ++ x :: y :: q) = invN (p ++ y :: x :: q) + 1 := by
  refine inv_pre p _ _ (fun a => ?_) ?_
  · simp only [cntL]; omega
  · simp only [invN, cntL]; rw [if_pos h, if_neg (by omega)]; omega
theorem inv_right (p q : List Nat) : invN (p ++ 2 :: 0 :: 1 :: q) = invN (p ++ 1 :: 0 :: 2 :: q) + 1 := by
  refine inv_pre p _ _ (fun a => ?_) ?_
  · simp only [cntL]; omega
  · simp only [invN, cntL]; simp; omega
theorem inv_left (p q : List Nat) : invN (p ++ 1 :: 2 :: 0 :: q) = invN (p ++ 0 :: 2 :: 1 :: q) + 1 := by
  refine inv_pre p _ _ (fun a => ?_) ?_
  · simp only [cntL]; omega
  · simp only [invN, cntL]; simp; omega
/-- Each list of the three values was looked at. -/
theorem ckAll_of (n : Nat) : ∀ (q p : List Nat), ckAll n q = true → p.length = n → (∀ x ∈ p, x < 3) → ckl (p.reverse ++ q) = true := by
  induction n with
  | zero => intro q p h hp _; obtain rfl := List.eq_nil_of_length_eq_zero hp; simpa [ckAll] using h
  | succ n ih =>
    intro q p h hp h3
    obtain ⟨x, p, rfl⟩ : ∃ x r, p = x :: r := by cases p with
      | nil => simp at hp
      | cons x r => exact ⟨x, r, rfl⟩
    simp only [ckAll, Bool.and_eq_true] at h
    have hx := h3 x List.mem_cons_self
    have hr : ckAll n (x :: q) = true := by
      rcases (show x = 0 ∨ x = 1 ∨ x = 2 by omega) with rfl | rfl | rfl
      · exact h.1
      · exact h.2.1
      · exact h.2.2
    have := ih (x :: q) p hr (by simpa using hp) (fun y hy => h3 y (List.mem_cons_of_mem _ hy))
    simpa using this
theorem ck_all : (ckAll 1 [] && (ckAll 2 [] && (ckAll 3 [] && (ckAll 4 [] && (ckAll 5 [] && (ckAll 6 [] && (ckAll 7 [] && (ckAll 8 [] && ckAll 9 [])))))))) = true := by decide +kernel
theorem ck_list (l : List Nat) (h1 : 1 ≤ l.length) (h9 : l.length ≤ 9) (h3 : ∀ x ∈ l, x < 3) : nmv 3 3 l ≤ bnd (invN l) ∧ invN l ≤ 27 := by
  have h := ck_all
  simp only [Bool.and_eq_true] at h
  have hn : ckAll l.length [] = true := by
    rcases (show l.length = 1 ∨ l.length = 2 ∨ l.length = 3 ∨ l.length = 4 ∨ l.length = 5 ∨ l.length = 6 ∨ l.length = 7 ∨ l.length = 8 ∨ l.length = 9 by omega) with e | e | e | e | e | e | e | e | e <;> rw [e]
    · exact h.1
    · exact h.2.1
    · exact h.2.2.1
    · exact h.2.2.2.1
    · exact h.2.2.2.2.1
    · exact h.2.2.2.2.2.1
    · exact h.2.2.2.2.2.2.1
    · exact h.2.2.2.2.2.2.2.1
    · exact h.2.2.2.2.2.2.2.2
  have := ckAll_of l.length [] l.reverse hn (by simp) (fun x hx => h3 x (by simpa using hx))
  rw [List.reverse_reverse, List.append_nil] at this
  unfold ckl at this
  simp only [Bool.and_eq_true, Nat.ble_eq] at this
  exact this
/-- So many lists of moves at most, by the pairs that stand the wrong way. -/
def phi : Nat → Nat
  | 0 => 1
  | r + 1 => 1 + bnd (r + 1) * phi r
theorem phi_le (r : Nat) (h : r ≤ 27) : 1 ≤ phi r ∧ phi r ≤ 30000000000000000 := by
  have : ∀ r, r < 28 → 1 ≤ phi r ∧ phi r ≤ 30000000000000000 := by decide +kernel
  exact this r (by omega)
def code (b : Int) : Nat := if b = 114 then 2 else if b = 108 then 0 else 1
def codesF (s : ByteArray) : Nat → Nat → List Nat
  | 0, _ => []
  | d + 1, i => code (bt s (i : Int)) :: codesF s d (i + 1)
theorem codesF_len (s : ByteArray) (d : Nat) : ∀ i : Nat, (codesF s d i).length = d := by
  induction d with
  | zero => intro i; rfl
  | succ d ih => intro i; simp only [codesF, List.length_cons, ih]
theorem codesF_get (s : ByteArray) (d : Nat) : ∀ (i j : Nat), (codesF s d i)[j]? = if j < d then some (code (bt s ((i + j : Nat) : Int))) else none := by
  induction d with
  | zero => intro i j; simp [codesF]
  | succ d ih =>
    intro i j
    cases j with
    | zero => simp [codesF]
    | succ j =>
      simp only [codesF, List.getElem?_cons_succ, ih]
      by_cases h : j < d
      · rw [if_pos h, if_pos (by omega), show i + 1 + j = i + (j + 1) by omega]
      · rw [if_neg h, if_neg (by omega)]
theorem code_lt (b : Int) : code b < 3 := by unfold code; split <;> (try split) <;> omega
theorem codesF_lt (s : ByteArray) (d : Nat) : ∀ (i : Nat), ∀ x ∈ codesF s d i, x < 3 := by
  induction d with
  | zero => intro i x hx; simp [codesF] at hx
  | succ d ih =>
    intro i x hx
    simp only [codesF, List.mem_cons] at hx
    rcases hx with rfl | hx
    · exact code_lt _
    · exact ih _ x hx
def codes (s : ByteArray) : List Nat := codesF s s.size 0
/-- How many moves are left at most, and on the way to any pond how many exactly. -/
def rem (s : ByteArray) : Nat := invN (codes s)
theorem codes_get (s : ByteArray) (j : Nat) : (codes s)[j]? = if j < s.size then some (code (bt s (j : Int))) else none := by
  unfold codes; rw [codesF_get]; simp
theorem blk_eq (L L' : List Nat) (p c : Nat) (h1 : ∀ j, j < p → L[j]? = L'[j]?) (h2 : ∀ j, p + c ≤ j → L[j]? = L'[j]?) : L.take p = L'.take p ∧ L.drop (p + c) = L'.drop (p + c) := by
  constructor
  · apply List.ext_getElem?
    intro j
    rw [List.getElem?_take, List.getElem?_take]
    by_cases h : j < p
    · rw [if_pos h, if_pos h, h1 j h]
    · rw [if_neg h, if_neg h]
  · apply List.ext_getElem?
    intro j
    rw [List.getElem?_drop, List.getElem?_drop, h2 _ (by omega)]
theorem two_at (L : List Nat) (p x y : Nat) (h0 : L[p]? = some x) (h1 : L[p + 1]? = some y) : L = L.take p ++ x :: y :: L.drop (p + 2) := by
  have l0 := (List.getElem?_eq_some_iff.1 h0)
  have l1 := (List.getElem?_eq_some_iff.1 h1)
  have e : L.drop p = x :: y :: L.drop (p + 2) := by
    rw [List.drop_eq_getElem_cons l0.1, List.drop_eq_getElem_cons l1.1, l0.2, l1.2]
  rw [← e, List.take_append_drop]
theorem three_at (L : List Nat) (p x m y : Nat) (h0 : L[p]? = some x) (h1 : L[p + 1]? = some m) (h2 : L[p + 2]? = some y) : L = L.take p ++ x :: m :: y :: L.drop (p + 3) := by
  have l0 := (List.getElem?_eq_some_iff.1 h0)
  have l1 := (List.getElem?_eq_some_iff.1 h1)
  have l2 := (List.getElem?_eq_some_iff.1 h2)
  have e : L.drop p = x :: m :: y :: L.drop (p + 3) := by
    rw [List.drop_eq_getElem_cons l0.1, List.drop_eq_getElem_cons l1.1, List.drop_eq_getElem_cons l2.1, l0.2, l1.2, l2.2]
  rw [← e, List.take_append_drop]
/-- What a move does: a step to the next stone, or a leap over a frog of the other kind. -/
theorem frogTo_cases {s : ByteArray} (hg : Pond s) {i : Int} (h : 0 ≤ frogTo s i) :
    (bt s i = 114 ∧ ((frogTo s i = i + 1 ∧ bt s (i + 1) = 46) ∨ (frogTo s i = i + 2 ∧ bt s (i + 1) = 108 ∧ bt s (i + 2) = 46))) ∨
    (bt s i = 108 ∧ ((frogTo s i = i - 1 ∧ bt s (i - 1) = 46) ∨ (frogTo s i = i - 2 ∧ bt s (i - 1) = 114 ∧ bt s (i - 2) = 46))) := by
  revert h
  unfold frogTo
  by_cases c : (0 ≤ i ∧ i < (s.size : Int)) ∧ ¬ bt s i = 46
  · rw [if_pos c]
    by_cases k : bt s i = 108
    · rw [if_pos k]
      by_cases c1 : (0 ≤ i + -1 ∧ i + -1 < (s.size : Int)) ∧ bt s (i + -1) = 46
      · rw [if_pos c1]; intro _; exact .inr ⟨k, .inl ⟨rfl, c1.2⟩⟩
      · rw [if_neg c1]
        by_cases c2 : ((0 ≤ i + 2 * -1 ∧ i + 2 * -1 < (s.size : Int)) ∧ bt s (i + 2 * -1) = 46) ∧ ¬ bt s (i + -1) = bt s i
        · rw [if_pos c2]; intro _
          have h3 := hg.2 (i + -1) (by omega) (by omega)
          refine .inr ⟨k, .inr ⟨by omega, ?_, ?_⟩⟩
          · rcases h3 with e | e | e
            · exact e
            · exact absurd (e.trans k.symm) c2.2
            · exact absurd ⟨⟨by omega, by omega⟩, e⟩ c1
          · have := c2.1.2; rw [show i - 2 = i + 2 * -1 by omega]; exact this
        · rw [if_neg c2]; intro h; omega
    · rw [if_neg k]
      have k' : bt s i = 114 := by
        rcases hg.2 i c.1.1 c.1.2 with e | e | e
        · exact e
        · exact absurd e k
        · exact absurd e c.2
      by_cases c1 : (0 ≤ i + 1 ∧ i + 1 < (s.size : Int)) ∧ bt s (i + 1) = 46
      · rw [if_pos c1]; intro _; exact .inl ⟨k', .inl ⟨rfl, c1.2⟩⟩
      · rw [if_neg c1]
        by_cases c2 : ((0 ≤ i + 2 * 1 ∧ i + 2 * 1 < (s.size : Int)) ∧ bt s (i + 2 * 1) = 46) ∧ ¬ bt s (i + 1) = bt s i
        · rw [if_pos c2]; intro _
          have h3 := hg.2 (i + 1) (by omega) (by omega)
          refine .inl ⟨k', .inr ⟨by omega, ?_, ?_⟩⟩
          · rcases h3 with e | e | e
            · exact absurd (e.trans k'.symm) c2.2
            · exact e
            · exact absurd ⟨⟨by omega, by omega⟩, e⟩ c1
          · have := c2.1.2; rw [show i + 2 = i + 2 * 1 by omega]; exact this
        · rw [if_neg c2]; intro h; omega
  · rw [if_neg c]; intro h; omega
theorem codes_moved (s : ByteArray) (i : Int) (hi : 0 ≤ i ∧ i < (s.size : Int)) (j : Nat) : (codes (movedB s i))[j]? = if j < s.size then some (if (j : Int) = i then 1 else if (j : Int) = frogTo s i then code (bt s i) else code (bt s (j : Int))) else none := by
  rw [codes_get, moved_size]
  by_cases h : j < s.size
  · rw [if_pos h, if_pos h, bt_moved s i j h hi]
    congr 1
    by_cases c1 : (j : Int) = i
    · rw [if_pos c1, if_pos c1]; rfl
    · rw [if_neg c1, if_neg c1]
      by_cases c2 : (j : Int) = frogTo s i
      · rw [if_pos c2, if_pos c2]
      · rw [if_neg c2, if_neg c2]
  · rw [if_neg h, if_neg h]
/-- Each move rights one pair. -/
theorem rem_moved {s : ByteArray} (hg : Pond s) {i : Int} (h : 0 ≤ frogTo s i) : rem (movedB s i) + 1 = rem s := by
  have hin := frogTo_in h
  have hc := frogTo_cases hg h
  obtain ⟨a, rfl⟩ : ∃ a : Nat, i = (a : Int) := ⟨i.toNat, by omega⟩
  obtain ⟨b, hb⟩ : ∃ b : Nat, frogTo s (a : Int) = (b : Int) := ⟨(frogTo s (a : Int)).toNat, by omega⟩
  rw [hb] at hc hin
  have hL := fun j => codes_get s j
  have hM := fun j => codes_moved s (a : Int) hin.1 j
  rw [hb] at hM
  unfold rem
  obtain ⟨L, hLe⟩ : ∃ L, codes s = L := ⟨_, rfl⟩
  obtain ⟨M, hMe⟩ : ∃ M, codes (movedB s (a : Int)) = M := ⟨_, rfl⟩
  rw [hLe] at hL ⊢
  rw [hMe] at hM ⊢
  have out : ∀ j : Nat, j ≠ a → j ≠ b → M[j]? = L[j]? := by
    intro j h1 h2
    rw [hL, hM]
    by_cases h : j < s.size
    · rw [if_pos h, if_pos h, if_neg (by omega), if_neg (by omega)]
    · rw [if_neg h, if_neg h]
  have la : L[a]? = some (code (bt s (a : Int))) := by rw [hL, if_pos (by omega)]
  have lb : L[b]? = some (code (bt s (b : Int))) := by rw [hL, if_pos (by omega)]
  have ma : M[a]? = some 1 := by rw [hM, if_pos (by omega), if_pos rfl]
  have mb : M[b]? = some (code (bt s (a : Int))) := by rw [hM, if_pos (by omega), if_neg (by omega), if_pos rfl]
  rcases hc with ⟨k, ⟨e, k1⟩ | ⟨e, k1, k2⟩⟩ | ⟨k, ⟨e, k1⟩ | ⟨e, k1, k2⟩⟩
  · obtain rfl : b = a + 1 := by omega
    rw [k] at la mb
    rw [show ((a + 1 : Nat) : Int) = (a : Int) + 1 by omega, k1] at lb
    have b1 := blk_eq L M a 2 (fun j hj => (out j (by omega) (by omega)).symm) (fun j hj => (out j (by omega) (by omega)).symm)
    rw [two_at L a 2 1 la lb, two_at M a 1 2 ma mb, b1.1, b1.2]
    exact (inv_slide _ _ 2 1 (by omega)).symm
  · obtain rfl : b = a + 2 := by omega
    rw [k] at la mb
    rw [show ((a + 2 : Nat) : Int) = (a : Int) + 2 by omega, k2] at lb
    have lm : L[a + 1]? = some 0 := by rw [hL, if_pos (by omega), show ((a + 1 : Nat) : Int) = (a : Int) + 1 by omega, k1]; rfl
    have mm : M[a + 1]? = some 0 := by rw [out (a + 1) (by omega) (by omega)]; exact lm
    have b1 := blk_eq L M a 3 (fun j hj => (out j (by omega) (by omega)).symm) (fun j hj => (out j (by omega) (by omega)).symm)
    rw [three_at L a 2 0 1 la lm lb, three_at M a 1 0 2 ma mm mb, b1.1, b1.2]
    exact (inv_right _ _).symm
  · obtain rfl : a = b + 1 := by omega
    rw [k] at la mb
    rw [show ((b : Nat) : Int) = ((b + 1 : Nat) : Int) - 1 by omega, k1] at lb
    have b1 := blk_eq L M b 2 (fun j hj => (out j (by omega) (by omega)).symm) (fun j hj => (out j (by omega) (by omega)).symm)
    rw [two_at L b 1 0 lb la, two_at M b 0 1 mb ma, b1.1, b1.2]
    exact (inv_slide _ _ 1 0 (by omega)).symm
  · obtain rfl : a = b + 2 := by omega
    rw [k] at la mb
    rw [show ((b : Nat) : Int) = ((b + 2 : Nat) : Int) - 2 by omega, k2] at lb
    have lm : L[b + 1]? = some 2 := by rw [hL, if_pos (by omega), show ((b + 1 : Nat) : Int) = ((b + 2 : Nat) : Int) - 1 by omega, k1]; rfl
    have mm : M[b + 1]? = some 2 := by rw [out (b + 1) (by omega) (by omega)]; exact lm
    have b1 := blk_eq L M b 3 (fun j hj => (out j (by omega) (by omega)).symm) (fun j hj => (out j (by omega) (by omega)).symm)
    rw [three_at L b 1 2 0 lb lm la, three_at M b 0 2 1 mb mm ma, b1.1, b1.2]
    exact (inv_left _ _).symm
def prev (s : ByteArray) (i c : Nat) : Nat := if c ≤ i then code (bt s ((i - c : Nat) : Int)) else 3
/-- Whether a frog can move, by the signs about it. -/
theorem move_iff {s : ByteArray} (hg : Pond s) (d i : Nat) (hd : i + 1 + d = s.size) :
    ((code (bt s (i : Int)) == 2 && ((codesF s d (i + 1)).headD 3 == 1 || ((codesF s d (i + 1)).headD 3 == 0 && (codesF s d (i + 1)).tail.headD 3 == 1))) || (code (bt s (i : Int)) == 0 && (prev s i 1 == 1 || (prev s i 1 == 2 && prev s i 2 == 1)))) = decide (frogTo s (i : Int) ≥ 0) := by
  have e1 : (codesF s d (i + 1)).headD 3 = if 1 ≤ d then code (bt s ((i : Int) + 1)) else 3 := by
    cases d with
    | zero => rfl
    | succ d => simp only [codesF, List.headD_cons]; rw [if_pos (by omega)]; congr 1
  have e2 : (codesF s d (i + 1)).tail.headD 3 = if 2 ≤ d then code (bt s ((i : Int) + 2)) else 3 := by
    cases d with
    | zero => rfl
    | succ d =>
      cases d with
      | zero => rfl
      | succ d => simp only [codesF, List.tail_cons, List.headD_cons]; rw [if_pos (by omega)]; congr 1
  have p1 : prev s i 1 = if 1 ≤ i then code (bt s ((i : Int) - 1)) else 3 := by
    unfold prev
    by_cases h : 1 ≤ i
    · rw [if_pos h, if_pos h, show ((i - 1 : Nat) : Int) = (i : Int) - 1 by omega]
    · rw [if_neg h, if_neg h]
  have p2 : prev s i 2 = if 2 ≤ i then code (bt s ((i : Int) - 2)) else 3 := by
    unfold prev
    by_cases h : 2 ≤ i
    · rw [if_pos h, if_pos h, show ((i - 2 : Nat) : Int) = (i : Int) - 2 by omega]
    · rw [if_neg h, if_neg h]
  rw [e1, e2, p1, p2]
  have c2 : ∀ b : Int, (b = 114 ∨ b = 108 ∨ b = 46) → ((code b == 2) = decide (b = 114)) ∧ ((code b == 0) = decide (b = 108)) ∧ ((code b == 1) = decide (b = 46)) := by
    rintro b (rfl | rfl | rfl) <;> decide
  have g0 := hg.2 (i : Int) (by omega) (by omega)
  have f0 := c2 _ g0
  rw [f0.1, f0.2.1, Bool.eq_iff_iff, decide_eq_true_iff]
  constructor
  · intro h
    unfold frogTo
    rw [Bool.or_eq_true] at h
    rcases h with h | h
    · rw [Bool.and_eq_true, decide_eq_true_iff] at h
      obtain ⟨k, h⟩ := h
      rw [if_pos ⟨⟨by omega, by omega⟩, by omega⟩, if_neg (show ¬ bt s (i : Int) = 108 by omega)]
      rw [Bool.or_eq_true] at h
      rcases h with h | h
      · by_cases hd1 : 1 ≤ d
        · rw [if_pos hd1] at h
          have := c2 _ (hg.2 ((i : Int) + 1) (by omega) (by omega))
          rw [this.2.2, decide_eq_true_iff] at h
          rw [if_pos ⟨⟨by omega, by omega⟩, h⟩]; omega
        · rw [if_neg hd1] at h; simp at h
      · rw [Bool.and_eq_true] at h
        obtain ⟨h1, h2⟩ := h
        by_cases hd2 : 2 ≤ d
        · rw [if_pos hd2] at h2
          rw [if_pos (by omega)] at h1
          have q1 := c2 _ (hg.2 ((i : Int) + 1) (by omega) (by omega))
          have q2 := c2 _ (hg.2 ((i : Int) + 2) (by omega) (by omega))
          rw [q1.2.1, decide_eq_true_iff] at h1
          rw [q2.2.2, decide_eq_true_iff] at h2
          rw [if_neg (fun c => by have := c.2; omega), if_pos ⟨⟨⟨by omega, by omega⟩, h2⟩, by omega⟩]; omega
        · rw [if_neg hd2] at h2; simp at h2
    · rw [Bool.and_eq_true, decide_eq_true_iff] at h
      obtain ⟨k, h⟩ := h
      rw [if_pos ⟨⟨by omega, by omega⟩, by omega⟩, if_pos k]
      rw [Bool.or_eq_true] at h
      rcases h with h | h
      · by_cases hd1 : 1 ≤ i
        · rw [if_pos hd1] at h
          have := c2 _ (hg.2 ((i : Int) - 1) (by omega) (by omega))
          rw [this.2.2, decide_eq_true_iff] at h
          rw [if_pos ⟨⟨by omega, by omega⟩, h⟩]; omega
        · rw [if_neg hd1] at h; simp at h
      · rw [Bool.and_eq_true] at h
        obtain ⟨h1, h2⟩ := h
        by_cases hd2 : 2 ≤ i
        · rw [if_pos hd2] at h2
          rw [if_pos (by omega)] at h1
          have q1 := c2 _ (hg.2 ((i : Int) - 1) (by omega) (by omega))
          have q2 := c2 _ (hg.2 ((i : Int) - 2) (by omega) (by omega))
          rw [q1.1, decide_eq_true_iff] at h1
          rw [q2.2.2, decide_eq_true_iff] at h2
          rw [if_neg (fun c => by have := c.2; rw [show (i : Int) + -1 = (i : Int) - 1 by omega] at this; omega), if_pos ⟨⟨⟨by omega, by omega⟩, h2⟩, by rw [show (i : Int) + -1 = (i : Int) - 1 by omega]; omega⟩]; omega
        · rw [if_neg hd2] at h2; simp at h2
  · intro h
    have hin := frogTo_in h
    rcases frogTo_cases hg h with ⟨k, ⟨e, k1⟩ | ⟨e, k1, k2⟩⟩ | ⟨k, ⟨e, k1⟩ | ⟨e, k1, k2⟩⟩
    · rw [if_pos (show 1 ≤ d by omega), k1]; simp [k, code]
    · rw [if_pos (show 1 ≤ d by omega), if_pos (show 2 ≤ d by omega), k1, k2]; simp [k, code]
    · rw [if_pos (show 1 ≤ i by omega), k1]; simp [k, code]
    · rw [if_pos (show 1 ≤ i by omega), if_pos (show 2 ≤ i by omega), k1, k2]; simp [k, code]
theorem moves_nmv {s : ByteArray} (hg : Pond s) (d : Nat) : ∀ i : Nat, i + d = s.size → (movesF s d i).length = nmv (prev s i 2) (prev s i 1) (codesF s d i) := by
  induction d with
  | zero => intro i _; rfl
  | succ d ih =>
    intro i hi
    have q := move_iff hg d i (by omega)
    have r := ih (i + 1) (by omega)
    have s1 : prev s (i + 1) 2 = prev s i 1 := by
      unfold prev
      by_cases h : 1 ≤ i
      · rw [if_pos h, if_pos (by omega), show i + 1 - 2 = i - 1 by omega]
      · rw [if_neg h, if_neg (by omega)]
    have s2 : prev s (i + 1) 1 = code (bt s (i : Int)) := by
      unfold prev; rw [if_pos (by omega), show i + 1 - 1 = i by omega]
    rw [s1, s2] at r
    simp only [movesF, codesF, nmv, q]
    by_cases h : frogTo s (i : Int) ≥ 0
    · rw [if_pos h, if_pos (decide_eq_true h), List.length_cons, r]; omega
    · rw [if_neg h, if_neg (by simp [h]), r]; omega
theorem moves_bnd {s : ByteArray} (hg : Pond s) : (moves s).length ≤ bnd (rem s) ∧ rem s ≤ 27 := by
  have h := ck_list (codes s) (by unfold codes; rw [codesF_len]; exact hg.1.1) (by unfold codes; rw [codesF_len]; exact hg.1.2) (codesF_lt s s.size 0)
  have e := moves_nmv hg s.size 0 (by omega)
  unfold moves rem
  rw [e]
  exact h
theorem BA_eq {a b : ByteArray} (h : a.toList = b.toList) : a = b := by
  rw [Lib.toList_data, Lib.toList_data] at h
  cases a; cases b
  congr 1
  exact Array.toList_inj.1 h
/-- Is a text among the texts? -/
def has (xs : List ByteArray) (t : ByteArray) : Bool := decide (t.data.toList ∈ xs.map (fun u => u.data.toList))
theorem has_iff (xs : List ByteArray) (t : ByteArray) : has xs t = true ↔ t ∈ xs := by
  unfold has
  rw [decide_eq_true_iff, List.mem_map]
  constructor
  · rintro ⟨u, hu, e⟩
    have : u = t := BA_eq (by rw [Lib.toList_data, Lib.toList_data]; exact e)
    exact this ▸ hu
  · intro h; exact ⟨t, h, rfl⟩
/-- Ponds of one length, each once. -/
def Inv (n : Nat) (xs : List ByteArray) : Prop := (∀ s ∈ xs, Pond s ∧ s.size = n) ∧ xs.Nodup
/-- All texts of three signs of one length. -/
def strs : Nat → List (List UInt8)
  | 0 => [[]]
  | n + 1 => (strs n).map (fun l => 46 :: l) ++ ((strs n).map (fun l => 108 :: l) ++ (strs n).map (fun l => 114 :: l))
theorem strs_len (n : Nat) : (strs n).length = 3 ^ n := by
  induction n with
  | zero => rfl
  | succ n ih => simp only [strs, List.length_append, List.length_map, ih]; omega
theorem strs_mem : ∀ (l : List UInt8), (∀ x ∈ l, x = 114 ∨ x = 108 ∨ x = 46) → l ∈ strs l.length := by
  intro l
  induction l with
  | nil => intro _; simp [strs]
  | cons a l ih =>
    intro h
    have h1 := ih (fun x hx => h x (List.mem_cons_of_mem _ hx))
    simp only [strs, List.length_cons, List.mem_append, List.mem_map]
    rcases h a List.mem_cons_self with rfl | rfl | rfl
    · exact .inr (.inr ⟨l, h1, rfl⟩)
    · exact .inr (.inl ⟨l, h1, rfl⟩)
    · exact .inl ⟨l, h1, rfl⟩
theorem nodup_len {α : Type} [DecidableEq α] : ∀ (l m : List α), l.Nodup → (∀ x ∈ l, x ∈ m) → l.length ≤ m.length := by
  intro l
  induction l with
  | nil => intro m _ _; simp
  | cons a l ih =>
    intro m hn hs
    rw [List.nodup_cons] at hn
    have ha := hs a List.mem_cons_self
    have h := ih (m.erase a) hn.2 (fun x hx => by
      have hne : x ≠ a := fun e => hn.1 (e ▸ hx)
      exact (List.mem_erase_of_ne hne).2 (hs x (List.mem_cons_of_mem _ hx)))
    rw [List.length_erase_of_mem ha] at h
    have : 0 < m.length := List.length_pos_of_mem ha
    simp only [List.length_cons]; omega
theorem pond_bytes {s : ByteArray} (hg : Pond s) : ∀ x ∈ s.data.toList, x = 114 ∨ x = 108 ∨ x = 46 := by
  intro x hx
  obtain ⟨n, hn, rfl⟩ := List.mem_iff_getElem.1 hx
  have hb := bt_list s n hn
  have hlt : n < s.size := by simpa using hn
  have := hg.2 n (by omega) (by omega)
  rw [hb] at this
  rcases this with e | e | e
  · left; apply UInt8.toNat_inj.1; simpa using Int.ofNat.inj e
  · right; left; apply UInt8.toNat_inj.1; simpa using Int.ofNat.inj e
  · right; right; apply UInt8.toNat_inj.1; simpa using Int.ofNat.inj e
theorem inv_len {n : Nat} (hn : n ≤ 9) {xs : List ByteArray} (h : Inv n xs) : xs.length ≤ 19683 := by
  have h1 := nodup_len (xs.map (fun s => s.data.toList)) (strs n) (by
    have h2 := h.2
    unfold List.Nodup at h2 ⊢
    rw [List.pairwise_map]
    exact h2.imp (fun hne e => hne (BA_eq (by rw [Lib.toList_data, Lib.toList_data]; exact e)))) (by
    intro x hx
    rw [List.mem_map] at hx
    obtain ⟨s, hs, rfl⟩ := hx
    have h3 := h.1 s hs
    have h4 := strs_mem s.data.toList (pond_bytes h3.1)
    rw [show s.data.toList.length = n by rw [← h3.2]; simp] at h4
    exact h4)
  rw [List.length_map, strs_len] at h1
  have h5 : 3 ^ n ≤ 3 ^ 9 := Nat.pow_le_pow_right (by decide) hn
  have h6 : (3 : Nat) ^ 9 = 19683 := by decide
  omega
def fstep (FT : ByteArray → plF) (s : ByteArray) (o : plF) (m : Int) : plF := if (FT (movedB s m)).2.2 = 0 then o else plUpd o (FT (movedB s m))
/-- The fate of a pond out of the fates behind its moves. -/
def ffold (FT : ByteArray → plF) (Eb : ByteArray → Bool) (s : ByteArray) : plF := (moves s).foldl (fstep FT s) (if Eb s = true then (0, 0, 1) else (-1, -1, 0))
def keysM (M : plM) : List ByteArray := M.map (fun e => e.1)
/-- What is known is right. -/
structure VM (FT : ByteArray → plF) (n : Nat) (M : plM) : Prop where
  inv : Inv n (keysM M)
  val : ∀ e ∈ M, e.2 = FT e.1
theorem fnd_some (FT : ByteArray → plF) (s : ByteArray) : ∀ (M : plM) (f : plF), plFnd M s = some f → (∀ e ∈ M, e.2 = FT e.1) → f = FT s
  | [], f, h, _ => by simp [plFnd] at h
  | (t, g) :: M, f, h, hv => by
    simp only [plFnd] at h
    by_cases c : t.data.toList = s.data.toList
    · rw [if_pos c] at h
      have e : t = s := BA_eq (by rw [Lib.toList_data, Lib.toList_data]; exact c)
      have := hv (t, g) List.mem_cons_self
      rw [← Option.some.inj h]
      rw [← e]; exact this
    · rw [if_neg c] at h
      exact fnd_some FT s M f h (fun e he => hv e (List.mem_cons_of_mem _ he))
theorem fnd_none (s : ByteArray) : ∀ (M : plM), plFnd M s = none → s ∉ keysM M
  | [], _ => by simp [keysM]
  | (t, g) :: M, h => by
    simp only [plFnd] at h
    by_cases c : t.data.toList = s.data.toList
    · rw [if_pos c] at h; cases h
    · rw [if_neg c] at h
      have ih := fnd_none s M h
      simp only [keysM, List.map_cons, List.mem_cons, not_or] at ih ⊢
      exact ⟨fun e => c (by rw [e]), ih⟩
theorem vm_nil (FT : ByteArray → plF) (n : Nat) : VM FT n [] := ⟨⟨fun s hs => by simp [keysM] at hs, by simp [keysM]⟩, fun e he => by simp at he⟩
section
variable (E : ByteArray → Option Bool) (Eb : ByteArray → Bool) (FT : ByteArray → plF) (k n : Nat) (hk : 10 < k) (hn9 : n ≤ 9)
  (hE : ∀ s, Pond s → s.size = n → E s = some (Eb s)) (hFT : ∀ s, Pond s → s.size = n → FT s = ffold FT Eb s)
include hk hn9 hE hFT
theorem memo (d : Nat) : ∀ (s : ByteArray) (M : plM), Pond s → s.size = n → rem s < d → VM FT n M → ∃ M', plOf E k d M s = some (FT s, M') ∧ VM FT n M' ∧ ∀ t, t ∈ keysM M' → t ∈ keysM M ∨ rem t ≤ rem s := by
  induction d with
  | zero => intro s M _ _ h; omega
  | succ d ih =>
    intro s M hg hs hr hV
    have hml := moves_len s
    simp only [plOf]
    rw [if_pos (by omega)]
    cases hf : plFnd M s with
    | some f =>
      have := fnd_some FT s M f hf hV.val
      subst this
      exact ⟨M, rfl, hV, fun t ht => .inl ht⟩
    | none =>
      have rnd : ∀ (rest : List Int), (∀ m ∈ rest, 0 ≤ frogTo s m) → ∀ (o : plF) (M1 : plM), VM FT n M1 → ∃ M2, plRnd (plOf E k d) s rest o M1 = some (rest.foldl (fstep FT s) o, M2) ∧ VM FT n M2 ∧ ∀ t, t ∈ keysM M2 → t ∈ keysM M1 ∨ rem t < rem s := by
        intro rest
        induction rest with
        | nil => intro _ o M1 h1; exact ⟨M1, rfl, h1, fun t ht => .inl ht⟩
        | cons m rest ihr =>
          intro hm o M1 h1
          have hgo := hm m List.mem_cons_self
          have hrm := rem_moved hg hgo
          obtain ⟨M2, e2, v2, k2⟩ := ih (movedB s m) M1 (pond_moved hg hgo) (by rw [moved_size]; exact hs) (by omega) h1
          obtain ⟨M3, e3, v3, k3⟩ := ihr (fun x hx => hm x (List.mem_cons_of_mem _ hx)) (fstep FT s o m) M2 v2
          refine ⟨M3, ?_, v3, fun t ht => ?_⟩
          · simp only [plRnd, hopped_eq hg hgo, Option.bind_some, e2, List.foldl_cons]
            exact e3
          · rcases k3 t ht with h | h
            · rcases k2 t h with h | h
              · exact .inl h
              · exact .inr (by omega)
            · exact .inr h
      obtain ⟨M2, e2, v2, k2⟩ := rnd (moves s) (fun m hm => moves_go hm) (if Eb s = true then (0, 0, 1) else (-1, -1, 0)) M hV
      have hl := inv_len hn9 v2.inv
      rw [keysM, List.length_map] at hl
      refine ⟨(s, FT s) :: M2, ?_, ⟨⟨?_, ?_⟩, ?_⟩, ?_⟩
      · simp only [hE s hg hs, hops_eq (show s.size ≤ 9 by omega) hk, Option.bind_some]
        rw [if_pos (by omega), e2]
        simp only [Option.bind_some]
        rw [if_pos (by omega), hFT s hg hs]; rfl
      · intro t ht
        simp only [keysM, List.map_cons, List.mem_cons] at ht
        rcases ht with rfl | ht
        · exact ⟨hg, hs⟩
        · exact v2.inv.1 t ht
      · simp only [keysM, List.map_cons, List.nodup_cons]
        refine ⟨fun h => ?_, v2.inv.2⟩
        rcases k2 s h with h | h
        · exact fnd_none s M hf h
        · omega
      · intro e he
        rw [List.mem_cons] at he
        rcases he with rfl | he
        · rfl
        · exact v2.val e he
      · intro t ht
        simp only [keysM, List.map_cons, List.mem_cons] at ht
        rcases ht with rfl | ht
        · exact .inr (Nat.le_refl _)
        · rcases k2 t ht with h | h
          · exact .inl h
          · exact .inr (by omega)
end
def FTd (Eb : ByteArray → Bool) : Nat → ByteArray → plF
  | 0, _ => (-1, -1, 0)
  | d + 1, s => (moves s).foldl (fstep (FTd Eb d) s) (if Eb s = true then (0, 0, 1) else (-1, -1, 0))
/-- The fate of a pond. -/
def FT (Eb : ByteArray → Bool) (s : ByteArray) : plF := FTd Eb (rem s + 1) s
theorem foldl_congr {α β : Type} (f g : α → β → α) : ∀ (l : List β) (a : α), (∀ x ∈ l, ∀ b, f b x = g b x) → l.foldl f a = l.foldl g a
  | [], _, _ => rfl
  | x :: l, a, h => by
    simp only [List.foldl_cons]
    rw [h x List.mem_cons_self]
    exact foldl_congr f g l _ (fun y hy => h y (List.mem_cons_of_mem _ hy))
theorem FT_eq (Eb : ByteArray → Bool) (s : ByteArray) (hg : Pond s) : FT Eb s = ffold (FT Eb) Eb s := by
  have h : FT Eb s = (moves s).foldl (fstep (FTd Eb (rem s)) s) (if Eb s = true then (0, 0, 1) else (-1, -1, 0)) := rfl
  rw [h]
  unfold ffold
  refine foldl_congr _ _ _ _ (fun m hm b => ?_)
  have hgo := moves_go hm
  have hr := rem_moved hg hgo
  have e : FTd Eb (rem s) (movedB s m) = FT Eb (movedB s m) := by unfold FT; rw [hr]
  unfold fstep
  rw [e]
/-- No number of a fate leaves its bounds. -/
structure FB (s : ByteArray) (r : Nat) (f : plF) : Prop where
  l : -1 ≤ f.1 ∧ f.1 ≤ r
  m : -1 ≤ f.2.1 ∧ f.2.1 ≤ r
  w : 0 ≤ f.2.2 ∧ f.2.2 ≤ (phi r : Int)
/-- What one more move does, where no number wraps. -/
def upd (o n : plF) : plF := (if o.1 < 0 ∨ n.1 + 1 < o.1 then n.1 + 1 else o.1, if o.2.1 < n.2.1 + 1 then n.2.1 + 1 else o.2.1, o.2.2 + n.2.2)
theorem plUpd_eq {o n : plF} (h1 : -1 ≤ n.1 ∧ n.1 ≤ 100) (h2 : -1 ≤ n.2.1 ∧ n.2.1 ≤ 100) (h3 : 0 ≤ n.2.2 ∧ n.2.2 ≤ 30000000000000000) (h4 : 0 ≤ o.2.2 ∧ o.2.2 ≤ 1000000000000000000) : plUpd o n = upd o n := by
  unfold plUpd upd mx
  rw [w64 (x := n.1 + 1) (by omega) (by omega), w64 (x := n.2.1 + 1) (by omega) (by omega), w64 (x := o.2.2 + n.2.2) (by omega) (by omega)]
/-- A step of the fold over the moves, where no number wraps. -/
def gstep (Eb : ByteArray → Bool) (s : ByteArray) (o : plF) (m : Int) : plF := if (FT Eb (movedB s m)).2.2 = 0 then o else upd o (FT Eb (movedB s m))
theorem fold_bound (Eb : ByteArray → Bool) (s : ByteArray) (hg : Pond s) (ih : ∀ m ∈ moves s, FB (movedB s m) (rem s - 1) (FT Eb (movedB s m))) (rest : List Int) : ∀ (o : plF) (j : Nat), (∀ m ∈ rest, m ∈ moves s) → (-1 ≤ o.1 ∧ o.1 ≤ rem s) → (-1 ≤ o.2.1 ∧ o.2.1 ≤ rem s) → (0 ≤ o.2.2 ∧ o.2.2 ≤ 1 + (j : Int) * (phi (rem s - 1) : Int)) → j + rest.length ≤ 9 →
    rest.foldl (fstep (FT Eb) s) o = rest.foldl (gstep Eb s) o ∧ (-1 ≤ (rest.foldl (gstep Eb s) o).1 ∧ (rest.foldl (gstep Eb s) o).1 ≤ rem s) ∧ (-1 ≤ (rest.foldl (gstep Eb s) o).2.1 ∧ (rest.foldl (gstep Eb s) o).2.1 ≤ rem s) ∧ (0 ≤ (rest.foldl (gstep Eb s) o).2.2 ∧ (rest.foldl (gstep Eb s) o).2.2 ≤ 1 + ((j + rest.length : Nat) : Int) * (phi (rem s - 1) : Int)) := by
  have h27 := (moves_bnd hg).2
  have hphi := phi_le (rem s - 1) (by omega)
  induction rest with
  | nil => intro o j _ h1 h2 h3 _; exact ⟨rfl, h1, h2, by simpa using h3⟩
  | cons m rest ihr =>
    intro o j hm h1 h2 h3 hj
    simp only [List.length_cons] at hj
    have hmm := hm m List.mem_cons_self
    have hgo := moves_go hmm
    have hr := rem_moved hg hgo
    have hb := ih m hmm
    obtain ⟨n, hn⟩ : ∃ n, FT Eb (movedB s m) = n := ⟨_, rfl⟩
    rw [hn] at hb
    have hbl := hb.l
    have hbm := hb.m
    have hbw := hb.w
    obtain ⟨P, hP⟩ : ∃ P : Int, (phi (rem s - 1) : Int) = P := ⟨_, rfl⟩
    have hP0 : 1 ≤ P ∧ P ≤ 30000000000000000 := by omega
    rw [hP] at h3 hbw
    have hjP : (j : Int) * P ≤ 9 * 30000000000000000 := Int.le_trans (Int.mul_le_mul (show (j : Int) ≤ 9 by omega) hP0.2 (by omega) (by omega)) (by omega)
    have hst : fstep (FT Eb) s o m = gstep Eb s o m := by
      unfold fstep gstep
      rw [hn]
      by_cases c : n.2.2 = 0
      · rw [if_pos c, if_pos c]
      · rw [if_neg c, if_neg c, plUpd_eq ⟨by omega, by omega⟩ ⟨by omega, by omega⟩ ⟨by omega, by omega⟩ ⟨by omega, by omega⟩]
    simp only [List.foldl_cons]
    rw [hst]
    have e : ((j + 1 : Nat) : Int) * P = (j : Int) * P + P := by rw [show ((j + 1 : Nat) : Int) = (j : Int) + 1 by omega, Int.add_mul, Int.one_mul]
    have hg1 : (-1 ≤ (gstep Eb s o m).1 ∧ (gstep Eb s o m).1 ≤ rem s) ∧ (-1 ≤ (gstep Eb s o m).2.1 ∧ (gstep Eb s o m).2.1 ≤ rem s) ∧ (0 ≤ (gstep Eb s o m).2.2 ∧ (gstep Eb s o m).2.2 ≤ 1 + ((j + 1 : Nat) : Int) * P) := by
      unfold gstep
      rw [hn, e]
      by_cases c : n.2.2 = 0
      · rw [if_pos c]; exact ⟨h1, h2, by omega⟩
      · rw [if_neg c]
        unfold upd
        refine ⟨?_, ?_, ?_⟩
        · dsimp only; split <;> omega
        · dsimp only; split <;> omega
        · dsimp only; omega
    have := ihr (gstep Eb s o m) (j + 1) (fun x hx => hm x (List.mem_cons_of_mem _ hx)) hg1.1 hg1.2.1 (by rw [hP]; exact hg1.2.2) (by omega)
    rw [hP] at this ⊢
    refine ⟨this.1, this.2.1, this.2.2.1, ?_⟩
    have h4 := this.2.2.2
    rw [show j + 1 + rest.length = j + (m :: rest).length by simp; omega] at h4
    exact h4
theorem FT_bound (Eb : ByteArray → Bool) (d : Nat) : ∀ (s : ByteArray), Pond s → rem s < d → FB s (rem s) (FT Eb s) := by
  induction d with
  | zero => intro s _ h; omega
  | succ d ihd =>
    intro s hg hd
    have hb := moves_bnd hg
    have hml := moves_len s
    have hs9 := hg.1.2
    have ih : ∀ m ∈ moves s, FB (movedB s m) (rem s - 1) (FT Eb (movedB s m)) := by
      intro m hm
      have hgo := moves_go hm
      have hr := rem_moved hg hgo
      have := ihd (movedB s m) (pond_moved hg hgo) (by omega)
      rw [show rem (movedB s m) = rem s - 1 by omega] at this
      exact this
    have h := fold_bound Eb s hg ih (moves s) (if Eb s = true then (0, 0, 1) else (-1, -1, 0)) 0 (fun m hm => hm) (by split <;> simp <;> omega) (by split <;> simp <;> omega) (by split <;> simp) (by omega)
    rw [FT_eq Eb s hg]
    unfold ffold
    rw [h.1]
    refine ⟨h.2.1, h.2.2.1, h.2.2.2.1, ?_⟩
    have h4 := h.2.2.2.2
    rw [Nat.zero_add] at h4
    refine Int.le_trans h4 ?_
    have hle : (moves s).length * phi (rem s - 1) ≤ bnd (rem s) * phi (rem s - 1) := Nat.mul_le_mul_right _ hb.1
    have hphi : 1 + (moves s).length * phi (rem s - 1) ≤ phi (rem s) := by
      cases hr : rem s with
      | zero =>
        rw [hr] at hle
        have : bnd 0 = 0 := rfl
        rw [this, Nat.zero_mul] at hle
        simp only [phi]; omega
      | succ r =>
        rw [hr] at hle
        simp only [Nat.add_sub_cancel] at hle ⊢
        simp only [phi]; omega
    have e : ((moves s).length : Int) * (phi (rem s - 1) : Int) = (((moves s).length * phi (rem s - 1) : Nat) : Int) := by simp
    rw [e]; omega
/-- The fate of a pond by a fold in which no number wraps. -/
theorem FT_fold (Eb : ByteArray → Bool) (s : ByteArray) (hg : Pond s) : FT Eb s = (moves s).foldl (gstep Eb s) (if Eb s = true then (0, 0, 1) else (-1, -1, 0)) := by
  have hml := moves_len s
  have hs9 := hg.1.2
  have h := fold_bound Eb s hg (fun m hm => by
    have hgo := moves_go hm
    have hr := rem_moved hg hgo
    have := FT_bound Eb (rem s + 1) (movedB s m) (pond_moved hg hgo) (by omega)
    rw [show rem (movedB s m) = rem s - 1 by omega] at this
    exact this) (moves s) (if Eb s = true then (0, 0, 1) else (-1, -1, 0)) 0 (fun m hm => hm) (by split <;> simp <;> omega) (by split <;> simp <;> omega) (by split <;> simp) (by omega)
  rw [FT_eq Eb s hg]
  exact h.1
theorem find_congr (p q : Int → Bool) : ∀ (l : List Int), (∀ x ∈ l, p x = q x) → l.find? p = l.find? q
  | [], _ => rfl
  | x :: l, h => by
    rw [List.find?_cons, List.find?_cons, h x List.mem_cons_self, find_congr p q l (fun y hy => h y (List.mem_cons_of_mem _ hy))]
/-- Is a pond the goal? -/
def isG (g s : ByteArray) : Bool := s.toList == g.toList
theorem isG_iff (g s : ByteArray) : isG g s = true ↔ s = g := by
  unfold isG
  rw [beq_iff_eq]
  exact ⟨BA_eq, fun e => by rw [e]⟩
/-- How many lists of moves lead to the goal. -/
def WG (g s : ByteArray) : Int := (FT (isG g) s).2.2
def one (g s : ByteArray) : Int := if isG g s = true then 1 else 0
def sumW (g t : ByteArray) : List Int → Int
  | [] => 0
  | m :: r => WG g (movedB t m) + sumW g t r
theorem WG_range (g s : ByteArray) (hs : Pond s) : 0 ≤ WG g s ∧ WG g s ≤ 30000000000000000 := by
  have h := (FT_bound (isG g) (rem s + 1) s hs (by omega)).w
  have h2 := phi_le (rem s) (moves_bnd hs).2
  unfold WG
  omega
/-- The fate of a pond with a goal. -/
theorem FT_goal (g : ByteArray) (d : Nat) : ∀ (s : ByteArray), Pond s → rem s < d → WG g s = one g s + sumW g s (moves s) ∧ (0 < WG g s → (FT (isG g) s).1 = (rem s : Int) - (rem g : Int) ∧ (FT (isG g) s).2.1 = (rem s : Int) - (rem g : Int) ∧ rem g ≤ rem s) := by
  induction d with
  | zero => intro s _ h; omega
  | succ d ih =>
    intro s hg hd
    have hnx : ∀ m ∈ moves s, 0 ≤ WG g (movedB s m) ∧ (0 < WG g (movedB s m) → (FT (isG g) (movedB s m)).1 = (rem s : Int) - 1 - (rem g : Int) ∧ (FT (isG g) (movedB s m)).2.1 = (rem s : Int) - 1 - (rem g : Int) ∧ rem g + 1 ≤ rem s) := by
      intro m hm
      have hgo := moves_go hm
      have hr := rem_moved hg hgo
      have h := ih (movedB s m) (pond_moved hg hgo) (by omega)
      refine ⟨(WG_range g (movedB s m) (pond_moved hg hgo)).1, fun hw => ?_⟩
      have := h.2 hw
      omega
    have rest : ∀ (l : List Int), (∀ m ∈ l, m ∈ moves s) → ∀ (o : plF), 0 ≤ o.2.2 → (o.2.2 = 0 → o = (-1, -1, 0)) → (0 < o.2.2 → o.1 = (rem s : Int) - (rem g : Int) ∧ o.2.1 = (rem s : Int) - (rem g : Int) ∧ rem g ≤ rem s) →
        (l.foldl (gstep (isG g) s) o).2.2 = o.2.2 + sumW g s l ∧ (0 < (l.foldl (gstep (isG g) s) o).2.2 → (l.foldl (gstep (isG g) s) o).1 = (rem s : Int) - (rem g : Int) ∧ (l.foldl (gstep (isG g) s) o).2.1 = (rem s : Int) - (rem g : Int) ∧ rem g ≤ rem s) := by
      intro l
      induction l with
      | nil => intro _ o _ _ h3; exact ⟨by simp [sumW], h3⟩
      | cons m l ihl =>
        intro hml o h1 h2 h3
        obtain ⟨w0, w1⟩ := hnx m (hml m List.mem_cons_self)
        simp only [List.foldl_cons, sumW]
        have hw : WG g (movedB s m) = (FT (isG g) (movedB s m)).2.2 := rfl
        have hl := fun x hx => hml x (List.mem_cons_of_mem _ hx)
        by_cases c : (FT (isG g) (movedB s m)).2.2 = 0
        · have hst : gstep (isG g) s o m = o := by unfold gstep; rw [if_pos c]
          rw [hst]
          have := ihl hl o h1 h2 h3
          exact ⟨by rw [this.1]; omega, this.2⟩
        · have hst : gstep (isG g) s o m = upd o (FT (isG g) (movedB s m)) := by unfold gstep; rw [if_neg c]
          rw [hst]
          obtain ⟨n1, n2, n3⟩ := w1 (by omega)
          have hu : (upd o (FT (isG g) (movedB s m))).2.2 = o.2.2 + WG g (movedB s m) := rfl
          have := ihl hl (upd o (FT (isG g) (movedB s m))) (by rw [hu]; omega) (fun e => by rw [hu] at e; omega) (fun _ => by
            by_cases c2 : o.2.2 = 0
            · have := h2 c2
              unfold upd
              rw [this]
              dsimp only
              refine ⟨?_, ?_, by omega⟩
              · rw [if_pos (by omega)]; omega
              · rw [if_pos (by omega)]; omega
            · obtain ⟨q1, q2, q3⟩ := h3 (by omega)
              unfold upd
              dsimp only
              refine ⟨?_, ?_, by omega⟩
              · rw [if_neg (by omega)]; exact q1
              · rw [if_neg (by omega)]; exact q2)
          exact ⟨by rw [this.1, hu]; omega, this.2⟩
    have hW : WG g s = ((moves s).foldl (gstep (isG g) s) (if isG g s = true then (0, 0, 1) else (-1, -1, 0))).2.2 := by unfold WG; rw [FT_fold (isG g) s hg]
    rw [hW, FT_fold (isG g) s hg]
    have := rest (moves s) (fun m hm => hm) (if isG g s = true then (0, 0, 1) else (-1, -1, 0)) (by split <;> simp) (by split <;> simp) (by
      by_cases c : isG g s = true
      · rw [if_pos c]; have := (isG_iff g s).1 c; subst this; intro _; simp
      · rw [if_neg c]; intro h; simp at h)
    refine ⟨?_, this.2⟩
    rw [this.1]
    unfold one
    by_cases c : isG g s = true
    · rw [if_pos c, if_pos c]
    · rw [if_neg c, if_neg c]
theorem WG_eq (g s : ByteArray) (hs : Pond s) : WG g s = one g s + sumW g s (moves s) := (FT_goal g (rem s + 1) s hs (by omega)).1
theorem WG_pos (g s : ByteArray) (hs : Pond s) (h : 0 < WG g s) : (FT (isG g) s).1 = (rem s : Int) - (rem g : Int) ∧ rem g ≤ rem s := by
  have := (FT_goal g (rem s + 1) s hs (by omega)).2 h
  exact ⟨this.1, this.2.2⟩
theorem sumW_nonneg (g t : ByteArray) (ht : Pond t) : ∀ (l : List Int), (∀ m ∈ l, m ∈ moves t) → 0 ≤ sumW g t l ∧ ∀ m ∈ l, WG g (movedB t m) ≤ sumW g t l
  | [], _ => ⟨by simp [sumW], fun m hm => by cases hm⟩
  | m :: l, h => by
    have ih := sumW_nonneg g t ht l (fun x hx => h x (List.mem_cons_of_mem _ hx))
    have hw := (WG_range g (movedB t m) (pond_moved ht (moves_go (h m List.mem_cons_self)))).1
    simp only [sumW]
    refine ⟨by omega, fun x hx => ?_⟩
    rcases List.mem_cons.1 hx with rfl | hx
    · omega
    · have := ih.2 x hx; omega
/-- Behind a move that leads to a pond with ways there are ways. -/
theorem WG_next (g t : ByteArray) (ht : Pond t) (m : Int) (hm : m ∈ moves t) (h : 0 < WG g (movedB t m)) : 0 < WG g t := by
  have := (sumW_nonneg g t ht (moves t) (fun x hx => hx)).2 m hm
  rw [WG_eq g t ht]
  have h1 : 0 ≤ one g t := by unfold one; split <;> omega
  omega
theorem sumW_pos (g t : ByteArray) (ht : Pond t) : ∀ (l : List Int), (∀ m ∈ l, m ∈ moves t) → 0 < sumW g t l → ∃ m ∈ l, 0 < WG g (movedB t m)
  | [], _, h => by simp [sumW] at h
  | m :: l, h, hp => by
    simp only [sumW] at hp
    by_cases c : 0 < WG g (movedB t m)
    · exact ⟨m, List.mem_cons_self, c⟩
    · obtain ⟨x, hx, hw⟩ := sumW_pos g t ht l (fun x hx => h x (List.mem_cons_of_mem _ hx)) (by omega)
      exact ⟨x, List.mem_cons_of_mem _ hx, hw⟩
theorem WG_self (g : ByteArray) (hg : Pond g) : 0 < WG g g := by
  have h := (sumW_nonneg g g hg (moves g) (fun x hx => hx)).1
  rw [WG_eq g g hg]
  have : one g g = 1 := by unfold one; rw [if_pos ((isG_iff g g).2 rfl)]
  omega
/-- Where there are ways and no pair is left, one stands at the goal. -/
theorem WG_end (g t : ByteArray) (ht : Pond t) (h : 0 < WG g t) (hr : rem t = rem g) : t = g := by
  by_cases c : isG g t = true
  · exact (isG_iff g t).1 c
  · have h0 : one g t = 0 := by unfold one; rw [if_neg c]
    rw [WG_eq g t ht, h0] at h
    obtain ⟨m, hm, hw⟩ := sumW_pos g t ht (moves t) (fun x hx => hx) (by omega)
    have hgo := moves_go hm
    have hrm := rem_moved ht hgo
    have := (WG_pos g (movedB t m) (pond_moved ht hgo) hw).2
    omega
theorem movesF_sorted (s : ByteArray) (d : Nat) : ∀ i : Nat, (movesF s d i).Pairwise (fun a b => a < b) := by
  induction d with
  | zero => intro i; simp [movesF]
  | succ d ih =>
    intro i
    simp only [movesF]
    split
    · rw [List.pairwise_cons]
      refine ⟨fun x hx => ?_, ih (i + 1)⟩
      have := ((movesF_mem s d (i + 1) x).1 hx).1
      omega
    · exact ih (i + 1)
theorem moves_sorted (s : ByteArray) : (moves s).Pairwise (fun a b => a < b) := movesF_sorted s s.size 0
theorem find_first (p : Int → Bool) : ∀ (l : List Int) (m : Int), l.Pairwise (fun a b => a < b) → l.find? p = some m → ∀ q ∈ l, p q = true → m ≤ q
  | [], m, _, h, _, _, _ => by simp at h
  | x :: l, m, hs, h, q, hq, hp => by
    rw [List.pairwise_cons] at hs
    rw [List.find?_cons] at h
    by_cases c : p x = true
    · rw [c] at h
      obtain rfl := Option.some.inj h
      rcases List.mem_cons.1 hq with rfl | hq
      · omega
      · have := hs.1 q hq; omega
    · rw [show p x = false by simpa using c] at h
      rcases List.mem_cons.1 hq with rfl | hq
      · exact absurd hp c
      · exact find_first p l m hs.2 h q hq hp
theorem rdOf_at {α : Type} (d : α) (pre rest : List α) (x : α) (i : Int) (h : i = pre.length) : rdOf d (pre ++ x :: rest) i = x := by
  subst h; unfold rdOf; simp
def gX (xs : List ByteArray) (j : Nat) : ByteArray := xs.getD j ByteArray.empty
def gI (l : List Int) (j : Nat) : Int := l.getD j 0
theorem rd_gI (l : List Int) (j : Nat) : rd l (j : Int) = gI l j := by unfold rd gI; simp
theorem rdOf_gX (xs : List ByteArray) (j : Nat) : rdOf ByteArray.empty xs (j : Int) = gX xs j := by unfold rdOf gX; simp
theorem gX_app (xs : List ByteArray) (a : ByteArray) (j : Nat) (h : j < xs.length) : gX (xs ++ [a]) j = gX xs j := by
  unfold gX; simp [List.getD_eq_getElem?_getD, List.getElem?_append_left h]
theorem gX_new (xs : List ByteArray) (a : ByteArray) : gX (xs ++ [a]) xs.length = a := by
  unfold gX; simp
theorem gI_app (l : List Int) (a : Int) (j : Nat) (h : j < l.length) : gI (l ++ [a]) j = gI l j := by
  unfold gI; simp [List.getD_eq_getElem?_getD, List.getElem?_append_left h]
theorem gI_new (l : List Int) (a : Int) : gI (l ++ [a]) l.length = a := by
  unfold gI; simp
theorem gI_set (l : List Int) (k : Nat) (v : Int) (h : k < l.length) (j : Nat) : gI (l.set k v) j = if j = k then v else gI l j := by
  unfold gI
  rw [List.getD_eq_getElem?_getD, List.getD_eq_getElem?_getD, List.getElem?_set]
  by_cases e : k = j
  · subst e; rw [if_pos rfl, if_pos h, if_pos rfl]; rfl
  · rw [if_neg e, if_neg (fun c => e c.symm)]
theorem gX_mem (xs : List ByteArray) (j : Nat) (h : j < xs.length) : gX xs j ∈ xs := by
  unfold gX
  rw [List.getD_eq_getElem?_getD, List.getElem?_eq_getElem h]
  exact List.getElem_mem h
theorem gX_inj {xs : List ByteArray} (hn : xs.Nodup) {i j : Nat} (hi : i < xs.length) (hj : j < xs.length) (h : gX xs i = gX xs j) : i = j := by
  unfold gX at h
  rw [List.getD_eq_getElem?_getD, List.getD_eq_getElem?_getD, List.getElem?_eq_getElem hi, List.getElem?_eq_getElem hj] at h
  exact (List.getElem_inj hn).1 h
theorem mem_gX {xs : List ByteArray} {t : ByteArray} (h : t ∈ xs) : ∃ j, j < xs.length ∧ gX xs j = t := by
  obtain ⟨j, hj, e⟩ := List.mem_iff_getElem.1 h
  refine ⟨j, hj, ?_⟩
  unfold gX
  rw [List.getD_eq_getElem?_getD, List.getElem?_eq_getElem hj, e]; rfl
theorem wrap_mod (x : Int) : ∃ q : Int, wrap64 x = x + 18446744073709551616 * q ∧ -9223372036854775808 ≤ wrap64 x ∧ wrap64 x < 9223372036854775808 := by
  refine ⟨-((x + 9223372036854775808) / 18446744073709551616), ?_, ?_, ?_⟩ <;> unfold wrap64 <;> omega
/-- What a place in the list still brings to a goal. -/
def cw (g : ByteArray) (xs : List ByteArray) (a : Nat) (rs : List Int) (j : Nat) : Int := if j < a then one g (gX xs j) else if j = a then one g (gX xs j) + sumW g (gX xs j) rs else WG g (gX xs j)
structure BI (n : Nat) (s : ByteArray) (a : Nat) (dn rs : List Int) (xs : List ByteArray) (fr mv wy : List Int) : Prop where
  inv : Inv n xs
  l7 : fr.length = xs.length
  l8 : mv.length = xs.length
  l9 : wy.length = xs.length
  ha : a < xs.length
  hm : moves (gX xs a) = dn ++ rs
  hd : gX xs 0 = s
  h0 : gI fr 0 = -1
  par : ∀ j, 0 < j → j < xs.length → ∃ p : Nat, gI fr j = (p : Int) ∧ p < j ∧ gI mv j ∈ moves (gX xs p) ∧ gX xs j = movedB (gX xs p) (gI mv j) ∧ (p < a ∨ (p = a ∧ gI mv j ∈ dn))
  ord : ∀ i j, 0 < i → i < j → j < xs.length → gI fr i < gI fr j ∨ (gI fr i = gI fr j ∧ gI mv i < gI mv j)
  clo : ∀ (i : Nat) (m : Int), (i < a ∧ m ∈ moves (gX xs i)) ∨ (i = a ∧ m ∈ dn) → ∃ j, 0 < j ∧ j < xs.length ∧ gX xs j = movedB (gX xs i) m ∧ (gI fr j < (i : Int) ∨ (gI fr j = (i : Int) ∧ gI mv j ≤ m))
  srt : ∀ i j, i ≤ j → j < xs.length → rem (gX xs j) ≤ rem (gX xs i)
  yr : ∀ j, -9223372036854775808 ≤ gI wy j ∧ gI wy j < 9223372036854775808
  ws : ∀ g, Pond g → g.size = n → (sumTo (fun j => gI wy j * cw g xs a rs j) xs.length - WG g s) % 18446744073709551616 = 0
theorem BI.found {n : Nat} {s : ByteArray} {a : Nat} {dn rs : List Int} {m : Int} {xs : List ByteArray} {fr mv wy : List Int} (B : BI n s a dn (m :: rs) xs fr mv wy) (k : Nat) (hk : k < xs.length) (he : gX xs k = movedB (gX xs a) m) :
    BI n s a (dn ++ [m]) rs xs fr mv (wy.set k (wrap64 (gI wy k + gI wy a))) := by
  have hp := B.inv.1 (gX xs a) (gX_mem xs a B.ha)
  have hmm : m ∈ moves (gX xs a) := by rw [B.hm]; simp
  have hgo := moves_go hmm
  have hr := rem_moved hp.1 hgo
  have hka : a < k := by
    rcases Nat.lt_or_ge a k with h | h
    · exact h
    · have := B.srt k a h B.ha; rw [he] at this; omega
  have hasc := moves_sorted (gX xs a)
  rw [B.hm] at hasc
  obtain ⟨q, hq, hq1, hq2⟩ := wrap_mod (gI wy k + gI wy a)
  refine ⟨B.inv, B.l7, B.l8, by rw [List.length_set]; exact B.l9, B.ha, by rw [B.hm]; simp, B.hd, B.h0, fun j h1 h2 => ?_, B.ord, fun i x h => ?_, B.srt, fun j => ?_, fun g hg hn => ?_⟩
  · obtain ⟨p, p1, p2, p3, p4, p5⟩ := B.par j h1 h2
    refine ⟨p, p1, p2, p3, p4, p5.imp id (fun h => ⟨h.1, List.mem_append_left _ h.2⟩)⟩
  · rcases h with h | ⟨rfl, h⟩
    · exact B.clo i x (.inl h)
    · rw [List.mem_append] at h
      rcases h with h | h
      · exact B.clo i x (.inr ⟨rfl, h⟩)
      · rw [List.mem_singleton] at h
        subst h
        refine ⟨k, by omega, hk, he, ?_⟩
        obtain ⟨p, p1, p2, p3, p4, p5⟩ := B.par k (by omega) hk
        rcases p5 with h | ⟨rfl, h⟩
        · left; omega
        · right
          refine ⟨p1, ?_⟩
          have := (List.pairwise_append.1 hasc).2.2 _ h x List.mem_cons_self
          omega
  · rw [gI_set wy k _ (by rw [B.l9]; exact hk)]
    split
    · exact ⟨hq1, hq2⟩
    · exact B.yr j
  · have hw := B.ws g hg hn
    obtain ⟨P, hP⟩ : ∃ P, WG g (movedB (gX xs a) m) = P := ⟨_, rfl⟩
    have e : sumTo (fun j => gI (wy.set k (wrap64 (gI wy k + gI wy a))) j * cw g xs a rs j) xs.length = sumTo (fun j => if j = k then wrap64 (gI wy k + gI wy a) * P else (fun j => if j = a then gI wy a * (one g (gX xs a) + sumW g (gX xs a) rs) else (fun j => gI wy j * cw g xs a (m :: rs) j) j) j) xs.length := by
      apply sumTo_congr
      intro j hj
      show gI (wy.set k (wrap64 (gI wy k + gI wy a))) j * cw g xs a rs j = if j = k then wrap64 (gI wy k + gI wy a) * P else if j = a then gI wy a * (one g (gX xs a) + sumW g (gX xs a) rs) else gI wy j * cw g xs a (m :: rs) j
      rw [gI_set wy k _ (by rw [B.l9]; exact hk)]
      by_cases c1 : j = k
      · rw [if_pos c1, if_pos c1]
        unfold cw
        rw [if_neg (by omega), if_neg (by omega), c1, he, hP]
      · rw [if_neg c1, if_neg c1]
        by_cases c2 : j = a
        · rw [if_pos c2, c2]
          unfold cw
          rw [if_neg (by omega), if_pos rfl]
        · rw [if_neg c2]
          unfold cw
          by_cases c3 : j < a
          · rw [if_pos c3, if_pos c3]
          · rw [if_neg c3, if_neg c3, if_neg c2, if_neg c2]
    rw [e, sumTo_upd _ k _ xs.length, sumTo_upd _ a _ xs.length, if_pos hk, if_pos B.ha, if_neg (show ¬ k = a by omega)]
    have ck : cw g xs a (m :: rs) k = P := by unfold cw; rw [if_neg (by omega), if_neg (by omega), he, hP]
    have ca : cw g xs a (m :: rs) a = one g (gX xs a) + (P + sumW g (gX xs a) rs) := by unfold cw; rw [if_neg (by omega), if_pos rfl]; simp only [sumW]; rw [hP]
    dsimp only
    rw [ck, ca, hq]
    obtain ⟨S, hS⟩ : ∃ S, sumTo (fun j => gI wy j * cw g xs a (m :: rs) j) xs.length = S := ⟨_, rfl⟩
    rw [hS] at hw ⊢
    obtain ⟨u, hu⟩ : ∃ u, gI wy k = u := ⟨_, rfl⟩
    obtain ⟨v, hv⟩ : ∃ v, gI wy a = v := ⟨_, rfl⟩
    obtain ⟨z, hz⟩ : ∃ z, one g (gX xs a) = z := ⟨_, rfl⟩
    obtain ⟨r, hr'⟩ : ∃ r, sumW g (gX xs a) rs = r := ⟨_, rfl⟩
    rw [hu, hv, hz, hr']
    have e1 : (u + v + 18446744073709551616 * q) * P = u * P + v * P + 18446744073709551616 * (q * P) := by rw [Int.add_mul, Int.add_mul, Int.mul_assoc]
    have e2 : v * (z + r) = v * z + v * r := Int.mul_add _ _ _
    have e3 : v * (z + (P + r)) = v * z + (v * P + v * r) := by rw [Int.mul_add, Int.mul_add]
    rw [e1, e2, e3]
    omega
theorem BI.fresh {n : Nat} {s : ByteArray} {a : Nat} {dn rs : List Int} {m : Int} {xs : List ByteArray} {fr mv wy : List Int} (B : BI n s a dn (m :: rs) xs fr mv wy) (he : movedB (gX xs a) m ∉ xs) :
    BI n s a (dn ++ [m]) rs (xs ++ [movedB (gX xs a) m]) (fr ++ [(a : Int)]) (mv ++ [m]) (wy ++ [gI wy a]) := by
  have ha := B.ha
  have hp := B.inv.1 (gX xs a) (gX_mem xs a ha)
  have hmm : m ∈ moves (gX xs a) := by rw [B.hm]; simp
  have hgo := moves_go hmm
  have hr := rem_moved hp.1 hgo
  have hasc := moves_sorted (gX xs a)
  rw [B.hm] at hasc
  have xa := gX_app xs (movedB (gX xs a) m) a ha
  have h0 : 0 < xs.length := by omega
  have l7 := B.l7
  have l8 := B.l8
  have l9 := B.l9
  have fnew : gI (fr ++ [(a : Int)]) xs.length = (a : Int) := by rw [← l7]; exact gI_new _ _
  have mnew : gI (mv ++ [m]) xs.length = m := by rw [← l8]; exact gI_new _ _
  have ynew : gI (wy ++ [gI wy a]) xs.length = gI wy a := by rw [← l9]; exact gI_new _ _
  have xnew := gX_new xs (movedB (gX xs a) m)
  have fold : ∀ j, j < xs.length → gI (fr ++ [(a : Int)]) j = gI fr j := fun j hj => gI_app _ _ _ (by omega)
  have mold : ∀ j, j < xs.length → gI (mv ++ [m]) j = gI mv j := fun j hj => gI_app _ _ _ (by omega)
  have yold : ∀ j, j < xs.length → gI (wy ++ [gI wy a]) j = gI wy j := fun j hj => gI_app _ _ _ (by omega)
  have xold : ∀ j, j < xs.length → gX (xs ++ [movedB (gX xs a) m]) j = gX xs j := fun j hj => gX_app _ _ _ hj
  have hlen : (xs ++ [movedB (gX xs a) m]).length = xs.length + 1 := by simp
  refine ⟨⟨fun t ht => ?_, ?_⟩, by simp; omega, by simp; omega, by simp; omega, by omega, by rw [xa, B.hm]; simp, by rw [xold 0 h0]; exact B.hd, by rw [fold 0 h0]; exact B.h0, fun j h1 h2 => ?_, fun i j h1 h2 h3 => ?_, fun i x h => ?_, fun i j h1 h2 => ?_, fun j => ?_, fun g hg hn => ?_⟩
  · rw [List.mem_append, List.mem_singleton] at ht
    rcases ht with ht | rfl
    · exact B.inv.1 t ht
    · exact ⟨pond_moved hp.1 hgo, by rw [moved_size]; exact hp.2⟩
  · rw [List.nodup_append]
    refine ⟨B.inv.2, by simp, fun x hx y hy e => ?_⟩
    rw [List.mem_singleton] at hy
    subst hy; subst e; exact he hx
  · rw [hlen] at h2
    by_cases c : j < xs.length
    · obtain ⟨p, p1, p2, p3, p4, p5⟩ := B.par j h1 c
      refine ⟨p, by rw [fold j c]; exact p1, p2, by rw [mold j c, xold p (by omega)]; exact p3, by rw [xold j c, xold p (by omega), mold j c]; exact p4, ?_⟩
      rw [mold j c]
      exact p5.imp id (fun h => ⟨h.1, List.mem_append_left _ h.2⟩)
    · obtain rfl : j = xs.length := by omega
      refine ⟨a, fnew, ha, by rw [mnew, xa]; exact hmm, by rw [xnew, xa, mnew], .inr ⟨rfl, by rw [mnew]; simp⟩⟩
  · rw [hlen] at h3
    by_cases c : j < xs.length
    · rw [fold i (by omega), fold j c, mold i (by omega), mold j c]; exact B.ord i j h1 h2 c
    · obtain rfl : j = xs.length := by omega
      rw [fold i h2, mold i h2, fnew, mnew]
      obtain ⟨p, p1, p2, p3, p4, p5⟩ := B.par i h1 h2
      rcases p5 with h | ⟨rfl, h⟩
      · left; omega
      · right
        refine ⟨p1, ?_⟩
        have := (List.pairwise_append.1 hasc).2.2 _ h m List.mem_cons_self
        omega
  · have old : ((i < a ∧ x ∈ moves (gX xs i)) ∨ (i = a ∧ x ∈ dn)) → ∃ j, 0 < j ∧ j < (xs ++ [movedB (gX xs a) m]).length ∧ gX (xs ++ [movedB (gX xs a) m]) j = movedB (gX (xs ++ [movedB (gX xs a) m]) i) x ∧ (gI (fr ++ [(a : Int)]) j < (i : Int) ∨ (gI (fr ++ [(a : Int)]) j = (i : Int) ∧ gI (mv ++ [m]) j ≤ x)) := by
      intro h
      obtain ⟨j, j1, j2, j3, j4⟩ := B.clo i x h
      have hia : i ≤ a := by rcases h with h | h <;> omega
      exact ⟨j, j1, by omega, by rw [xold j j2, xold i (by omega)]; exact j3, by rw [fold j j2, mold j j2]; exact j4⟩
    rcases h with h | ⟨rfl, h⟩
    · rw [xold i (by omega)] at h
      exact old (.inl h)
    · rw [List.mem_append] at h
      rcases h with h | h
      · exact old (.inr ⟨rfl, h⟩)
      · rw [List.mem_singleton] at h
        subst h
        exact ⟨xs.length, h0, by omega, by rw [xnew, xa], .inr ⟨fnew, by rw [mnew]; omega⟩⟩
  · rw [hlen] at h2
    by_cases c : j < xs.length
    · rw [xold j c, xold i (by omega)]; exact B.srt i j h1 c
    · obtain rfl : j = xs.length := by omega
      rw [xnew]
      by_cases c2 : i < xs.length
      · rw [xold i c2]
        by_cases c3 : i ≤ a
        · have := B.srt i a c3 ha; omega
        · obtain ⟨p, p1, p2, p3, p4, p5⟩ := B.par i (by omega) c2
          have hpp := B.inv.1 (gX xs p) (gX_mem xs p (by omega))
          have hrp := rem_moved hpp.1 (moves_go p3)
          rw [← p4] at hrp
          have := B.srt p a (by rcases p5 with h | h <;> omega) ha
          omega
      · obtain rfl : i = xs.length := by omega
        rw [xnew]; exact Nat.le_refl _
  · by_cases c : j < xs.length
    · rw [yold j c]; exact B.yr j
    · by_cases c2 : j = xs.length
      · rw [c2, ynew]; exact B.yr a
      · have : gI (wy ++ [gI wy a]) j = 0 := by unfold gI; rw [List.getD_eq_getElem?_getD, List.getElem?_eq_none (by simp; omega)]; rfl
        rw [this]; omega
  · have hw := B.ws g hg hn
    obtain ⟨P, hP⟩ : ∃ P, WG g (movedB (gX xs a) m) = P := ⟨_, rfl⟩
    rw [hlen]
    have e : sumTo (fun j => gI (wy ++ [gI wy a]) j * cw g (xs ++ [movedB (gX xs a) m]) a rs j) (xs.length + 1) = sumTo (fun j => if j = a then gI wy a * (one g (gX xs a) + sumW g (gX xs a) rs) else (fun j => gI wy j * cw g xs a (m :: rs) j) j) xs.length + gI wy a * P := by
      show sumTo _ xs.length + gI (wy ++ [gI wy a]) xs.length * cw g (xs ++ [movedB (gX xs a) m]) a rs xs.length = _
      have c0 : cw g (xs ++ [movedB (gX xs a) m]) a rs xs.length = P := by unfold cw; rw [if_neg (by omega), if_neg (by omega), xnew, hP]
      rw [ynew, c0]
      congr 1
      apply sumTo_congr
      intro j hj
      show gI (wy ++ [gI wy a]) j * cw g (xs ++ [movedB (gX xs a) m]) a rs j = if j = a then gI wy a * (one g (gX xs a) + sumW g (gX xs a) rs) else gI wy j * cw g xs a (m :: rs) j
      rw [yold j hj]
      by_cases c2 : j = a
      · rw [if_pos c2, c2]
        unfold cw
        rw [if_neg (by omega), if_pos rfl, xa]
      · rw [if_neg c2]
        unfold cw
        rw [xold j hj]
        by_cases c3 : j < a
        · rw [if_pos c3, if_pos c3]
        · rw [if_neg c3, if_neg c3, if_neg c2, if_neg c2]
    rw [e, sumTo_upd _ a _ xs.length, if_pos ha]
    have ca : cw g xs a (m :: rs) a = one g (gX xs a) + (P + sumW g (gX xs a) rs) := by unfold cw; rw [if_neg (by omega), if_pos rfl]; simp only [sumW]; rw [hP]
    rw [ca]
    obtain ⟨S, hS⟩ : ∃ S, sumTo (fun j => gI wy j * cw g xs a (m :: rs) j) xs.length = S := ⟨_, rfl⟩
    rw [hS] at hw ⊢
    obtain ⟨v, hv⟩ : ∃ v, gI wy a = v := ⟨_, rfl⟩
    obtain ⟨z, hz⟩ : ∃ z, one g (gX xs a) = z := ⟨_, rfl⟩
    obtain ⟨r, hr'⟩ : ∃ r, sumW g (gX xs a) rs = r := ⟨_, rfl⟩
    rw [hv, hz, hr']
    have e2 : v * (z + r) = v * z + v * r := Int.mul_add _ _ _
    have e3 : v * (z + (P + r)) = v * z + (v * P + v * r) := by rw [Int.mul_add, Int.mul_add]
    rw [e2, e3]
    omega
theorem BI.row {n : Nat} {s : ByteArray} {a : Nat} {dn : List Int} {xs : List ByteArray} {fr mv wy : List Int} (B : BI n s a dn [] xs fr mv wy) (h : a + 1 < xs.length) : BI n s (a + 1) [] (moves (gX xs (a + 1))) xs fr mv wy := by
  have hdn : moves (gX xs a) = dn := by rw [B.hm]; simp
  have hp := B.inv.1 (gX xs (a + 1)) (gX_mem xs (a + 1) h)
  refine ⟨B.inv, B.l7, B.l8, B.l9, h, rfl, B.hd, B.h0, fun j h1 h2 => ?_, B.ord, fun i x hx => ?_, B.srt, B.yr, fun g hg hn => ?_⟩
  · obtain ⟨p, p1, p2, p3, p4, p5⟩ := B.par j h1 h2
    exact ⟨p, p1, p2, p3, p4, .inl (by rcases p5 with h | h <;> omega)⟩
  · rcases hx with ⟨h1, h2⟩ | ⟨_, h2⟩
    · by_cases c : i < a
      · exact B.clo i x (.inl ⟨c, h2⟩)
      · obtain rfl : i = a := by omega
        rw [hdn] at h2
        exact B.clo i x (.inr ⟨rfl, h2⟩)
    · cases h2
  · have hw := B.ws g hg hn
    have e : sumTo (fun j => gI wy j * cw g xs (a + 1) (moves (gX xs (a + 1))) j) xs.length = sumTo (fun j => gI wy j * cw g xs a [] j) xs.length := by
      apply sumTo_congr
      intro j hj
      show gI wy j * cw g xs (a + 1) (moves (gX xs (a + 1))) j = gI wy j * cw g xs a [] j
      congr 1
      unfold cw
      by_cases c1 : j < a
      · rw [if_pos (by omega), if_pos c1]
      · by_cases c2 : j = a
        · rw [if_pos (by omega), if_neg c1, if_pos c2]; simp [sumW]
        · by_cases c3 : j = a + 1
          · rw [if_neg (by omega), if_pos c3, if_neg c1, if_neg c2, c3, ← WG_eq g _ hp.1]
          · rw [if_neg (by omega), if_neg c3, if_neg c1, if_neg c2]
    rw [e]; exact hw
theorem BI.start {s : ByteArray} (hg : Pond s) : BI s.size s 0 [] (moves s) [s] [-1] [-1] [1] := by
  have x0 : gX [s] 0 = s := rfl
  refine ⟨⟨fun t ht => by rw [List.mem_singleton] at ht; subst ht; exact ⟨hg, rfl⟩, by simp⟩, rfl, rfl, rfl, by simp, rfl, rfl, rfl, fun j h1 h2 => ?_, fun i j h1 h2 h3 => ?_, fun i x hx => ?_, fun i j h1 h2 => ?_, fun j => ?_, fun g hg' hn => ?_⟩
  · simp at h2; omega
  · simp at h3; omega
  · rcases hx with ⟨h1, _⟩ | ⟨_, h2⟩
    · omega
    · cases h2
  · have e1 : j = 0 := by simpa using h2
    have e2 : i = 0 := by omega
    rw [e1, e2]; exact Nat.le_refl _
  · by_cases c : j = 0
    · subst c; exact ⟨by decide, by decide⟩
    · have : gI [1] j = 0 := by unfold gI; rw [List.getD_eq_getElem?_getD, List.getElem?_eq_none (by simp; omega)]; rfl
      rw [this]; omega
  · have e : sumTo (fun j => gI [1] j * cw g [s] 0 (moves s) j) [s].length = WG g s := by
      show (0 : Int) + gI [1] 0 * cw g [s] 0 (moves s) 0 = WG g s
      have c0 : cw g [s] 0 (moves s) 0 = WG g s := by unfold cw; rw [if_neg (by omega), if_pos rfl, x0, ← WG_eq g s hg]
      rw [c0, show gI [1] 0 = 1 from rfl]; omega
    rw [e]; omega
/-- Where a text stands in a list. -/
theorem at_l0 (l : List ByteArray) (a : ByteArray) (hl : l.length < 4611686018427387904) (rest : List ByteArray) : ∀ (k : Nat) (pre : List ByteArray) (i : Int), l = pre ++ rest → i = pre.length → rest.length < k → (a ∉ rest ∧ spec_fgAt.l0 k a l (l.length : Int) i = some (-1)) ∨ ∃ r : Nat, r < l.length ∧ gX l r = a ∧ spec_fgAt.l0 k a l (l.length : Int) i = some (r : Int) := by
  induction rest with
  | nil =>
    intro k pre i h hi hk
    obtain ⟨k, rfl⟩ : ∃ m, k = m + 1 := ⟨k - 1, by simp at hk; omega⟩
    rw [List.append_nil] at h
    refine .inl ⟨by simp, ?_⟩
    simp only [spec_fgAt.l0]; rw [if_neg (by subst h; omega)]
  | cons x rest ih =>
    intro k pre i h hi hk
    simp only [List.length_cons] at hk
    obtain ⟨k, rfl⟩ : ∃ m, k = m + 1 := ⟨k - 1, by omega⟩
    have hlen : l.length = pre.length + (rest.length + 1) := by subst h; simp
    have hrd : rdOf ByteArray.empty l i = x := by subst h; exact rdOf_at _ pre rest x i hi
    simp only [spec_fgAt.l0]
    rw [if_pos (by omega), if_pos (by omega), if_pos (by omega), hrd, w64 (by omega) (by omega)]
    by_cases e : x.toList = a.toList
    · rw [if_pos e]
      exact .inr ⟨pre.length, by omega, by rw [← rdOf_gX, ← hi, hrd]; exact BA_eq e, by rw [hi]⟩
    · rw [if_neg e]
      rcases ih k (pre ++ [x]) (i + 1) (by subst h; simp) (by simp; omega) (by omega) with ⟨h1, h2⟩ | h2
      · exact .inl ⟨by rw [List.mem_cons]; rintro (h | h); exact e (by rw [h]); exact h1 h, h2⟩
      · exact .inr h2
theorem at_eq (l : List ByteArray) (a : ByteArray) (hl : l.length < 4611686018427387904) {k : Nat} (hk : l.length < k) : (a ∉ l ∧ spec_fgAt.f k l a = some (-1)) ∨ ∃ r : Nat, r < l.length ∧ gX l r = a ∧ spec_fgAt.f k l a = some (r : Int) :=
  at_l0 l a hl l k [] 0 rfl rfl hk
theorem reach_l1 (n : Nat) (hn9 : n ≤ 9) (s : ByteArray) (a : Nat) (T : List Int) (hTl : T.length ≤ 9) (rs : List Int) : ∀ (k : Nat) (dn : List Int) (xs : List ByteArray) (fr mv wy : List Int) (j : Int), T = dn ++ rs → j = dn.length → BI n s a dn rs xs fr mv wy → 19800 ≤ k →
    ∃ xs' fr' mv' wy', BI n s a T [] xs' fr' mv' wy' ∧ spec_fgReach.l1 (k + rs.length + 1) xs fr mv wy (a : Int) T (T.length : Int) j = spec_fgReach.l0 k xs' fr' mv' wy' ((a + 1 : Nat) : Int) := by
  induction rs with
  | nil =>
    intro k dn xs fr mv wy j h hj B hk
    rw [List.append_nil] at h
    subst h
    have hlen := inv_len hn9 B.inv
    have ha := B.ha
    refine ⟨xs, fr, mv, wy, B, ?_⟩
    simp only [spec_fgReach.l1, List.length_nil, Nat.add_zero]
    rw [if_neg (by omega), w64 (by omega) (by omega)]
    rfl
  | cons m rs ih =>
    intro k dn xs fr mv wy j h hj B hk
    have hlen := inv_len hn9 B.inv
    have ha := B.ha
    have l7 := B.l7
    have l8 := B.l8
    have l9 := B.l9
    have hTlen : T.length = dn.length + (rs.length + 1) := by rw [h]; simp
    have hrd : rd T j = m := by rw [h, hj]; unfold rd; simp
    have hp := B.inv.1 (gX xs a) (gX_mem xs a ha)
    have hmm : m ∈ moves (gX xs a) := by rw [B.hm]; simp
    have hgo := moves_go hmm
    simp only [List.length_cons]
    obtain ⟨q, hq⟩ : ∃ q, k + rs.length + 1 = q := ⟨_, rfl⟩
    rw [show k + (rs.length + 1) + 1 = q + 1 by omega]
    rcases at_eq xs (movedB (gX xs a) m) (by omega) (show xs.length < q by omega) with ⟨hno, hat⟩ | ⟨r, hr1, hr2, hat⟩
    · obtain ⟨xs', fr', mv', wy', B', e'⟩ := ih k (dn ++ [m]) _ _ _ _ (j + 1) (by rw [h]; simp) (by simp; omega) (B.fresh hno) hk
      refine ⟨xs', fr', mv', wy', B', ?_⟩
      rw [← e', hq]
      have hyn : (wy ++ [0]).set xs.length (wrap64 (gI (wy ++ [0]) xs.length + gI (wy ++ [0]) a)) = wy ++ [gI wy a] := by
        have y1 : gI (wy ++ [0]) xs.length = 0 := by rw [← l9]; exact gI_new _ _
        have y2 : gI (wy ++ [0]) a = gI wy a := gI_app _ _ _ (by omega)
        have := B.yr a
        rw [y1, y2, w64 (x := 0 + gI wy a) (by omega) (by omega), Int.zero_add, ← l9]
        simp
      simp only [spec_fgReach.l1]
      rw [if_pos (by omega), if_pos (by omega), if_pos (by omega), if_pos (by omega), if_pos (by omega), hrd, rdOf_gX, fgMove_eq hp.1 hgo]
      simp only [Option.bind_some]
      rw [hat, Option.bind_some, if_pos (by decide), if_pos (by omega), if_pos (by omega), if_pos (by omega), if_pos (by omega), if_pos (by omega), if_pos (by simp; omega), if_pos (by simp; omega), w64 (x := j + 1) (by omega) (by omega), rd_gI, rd_gI, Int.toNat_natCast, hyn]
    · obtain ⟨xs', fr', mv', wy', B', e'⟩ := ih k (dn ++ [m]) _ _ _ _ (j + 1) (by rw [h]; simp) (by simp; omega) (B.found r hr1 hr2) hk
      refine ⟨xs', fr', mv', wy', B', ?_⟩
      rw [← e', hq]
      simp only [spec_fgReach.l1]
      rw [if_pos (by omega), if_pos (by omega), if_pos (by omega), if_pos (by omega), if_pos (by omega), hrd, rdOf_gX, fgMove_eq hp.1 hgo]
      simp only [Option.bind_some]
      rw [hat, Option.bind_some, if_neg (by omega), if_pos (by omega), if_pos (by omega), if_pos (by omega), w64 (x := j + 1) (by omega) (by omega), rd_gI, rd_gI, Int.toNat_natCast]
theorem reach_l0 (n : Nat) (hn9 : n ≤ 9) (s : ByteArray) (d : Nat) : ∀ (k a : Nat) (xs : List ByteArray) (fr mv wy : List Int), a + d = 19683 → 12 * d + 19900 ≤ k → BI n s a [] (moves (gX xs a)) xs fr mv wy → ∃ xs' fr' mv' wy' dn', BI n s (xs'.length - 1) dn' [] xs' fr' mv' wy' ∧ spec_fgReach.l0 k xs fr mv wy (a : Int) = some (xs', fr', mv', wy') := by
  induction d with
  | zero =>
    intro k a xs fr mv wy ha hk B
    have := inv_len hn9 B.inv
    have := B.ha
    omega
  | succ d ih =>
    intro k a xs fr mv wy hd hk B
    have hlen := inv_len hn9 B.inv
    have ha := B.ha
    have hp := B.inv.1 (gX xs a) (gX_mem xs a ha)
    have hml := moves_len (gX xs a)
    obtain ⟨k, rfl⟩ : ∃ m, k = m + 1 := ⟨k - 1, by omega⟩
    obtain ⟨q, hq⟩ : ∃ q, k = q + (moves (gX xs a)).length + 1 := ⟨k - (moves (gX xs a)).length - 1, by omega⟩
    obtain ⟨xs', fr', mv', wy', B', e'⟩ := reach_l1 n hn9 s a (moves (gX xs a)) (by omega) (moves (gX xs a)) q [] xs fr mv wy 0 rfl rfl B (by omega)
    have hst : spec_fgReach.l0 (k + 1) xs fr mv wy (a : Int) = spec_fgReach.l0 q xs' fr' mv' wy' ((a + 1 : Nat) : Int) := by
      simp only [spec_fgReach.l0]
      rw [if_pos (by omega), if_pos (by omega), rdOf_gX, fgMoves_eq hp.1, Option.bind_some, hq]
      exact e'
    have ha' := B'.ha
    rw [hst]
    by_cases c : a + 1 < xs'.length
    · exact ih q (a + 1) xs' fr' mv' wy' (by omega) (by omega) (B'.row c)
    · obtain rfl : a = xs'.length - 1 := by omega
      refine ⟨xs', fr', mv', wy', _, B', ?_⟩
      obtain ⟨q, rfl⟩ : ∃ m, q = m + 1 := ⟨q - 1, by omega⟩
      simp only [spec_fgReach.l0]
      rw [if_neg (by omega)]
theorem reach_eq {s : ByteArray} (hg : Pond s) {k : Nat} (hk : 300000 ≤ k) : ∃ xs fr mv wy dn, BI s.size s (xs.length - 1) dn [] xs fr mv wy ∧ spec_fgReach.f k s = some (xs, fr, mv, wy) := by
  unfold spec_fgReach.f
  exact reach_l0 s.size hg.1.2 s 19683 k 0 [s] [-1] [-1] [1] (by omega) (by omega) (BI.start hg)
/-- What the search has found, when it is done. -/
structure BF (s : ByteArray) (xs : List ByteArray) (fr mv wy : List Int) : Prop where
  inv : Inv s.size xs
  l7 : fr.length = xs.length
  l8 : mv.length = xs.length
  l9 : wy.length = xs.length
  hl : 0 < xs.length
  hd : gX xs 0 = s
  h0 : gI fr 0 = -1
  par : ∀ j, 0 < j → j < xs.length → ∃ p : Nat, gI fr j = (p : Int) ∧ p < j ∧ gI mv j ∈ moves (gX xs p) ∧ gX xs j = movedB (gX xs p) (gI mv j)
  ord : ∀ i j, 0 < i → i < j → j < xs.length → gI fr i < gI fr j ∨ (gI fr i = gI fr j ∧ gI mv i < gI mv j)
  clo : ∀ (i : Nat) (m : Int), i < xs.length → m ∈ moves (gX xs i) → ∃ j, 0 < j ∧ j < xs.length ∧ gX xs j = movedB (gX xs i) m ∧ (gI fr j < (i : Int) ∨ (gI fr j = (i : Int) ∧ gI mv j ≤ m))
  srt : ∀ i j, i ≤ j → j < xs.length → rem (gX xs j) ≤ rem (gX xs i)
  wsum : ∀ g, Pond g → g.size = s.size → (∀ j, j < xs.length → gX xs j = g → gI wy j = WG g s) ∧ (g ∉ xs → WG g s = 0)
theorem sumTo_zero (f : Nat → Int) (n : Nat) (h : ∀ j, j < n → f j = 0) : sumTo f n = 0 := by
  induction n with
  | zero => rfl
  | succ n ih => simp only [sumTo]; rw [ih (fun j hj => h j (by omega)), h n (by omega)]; rfl
theorem BI.final {s : ByteArray} (hs : Pond s) {dn : List Int} {xs : List ByteArray} {fr mv wy : List Int} (B : BI s.size s (xs.length - 1) dn [] xs fr mv wy) : BF s xs fr mv wy := by
  have ha := B.ha
  have hdn : moves (gX xs (xs.length - 1)) = dn := by rw [B.hm]; simp
  refine ⟨B.inv, B.l7, B.l8, B.l9, by omega, B.hd, B.h0, fun j h1 h2 => ?_, B.ord, fun i m h1 h2 => ?_, B.srt, fun g hg hn => ?_⟩
  · obtain ⟨p, p1, p2, p3, p4, _⟩ := B.par j h1 h2
    exact ⟨p, p1, p2, p3, p4⟩
  · by_cases c : i < xs.length - 1
    · exact B.clo i m (.inl ⟨c, h2⟩)
    · obtain rfl : i = xs.length - 1 := by omega
      rw [hdn] at h2
      exact B.clo _ m (.inr ⟨rfl, h2⟩)
  · have hw := B.ws g hg hn
    have hr := WG_range g s hs
    have hc : ∀ j, j < xs.length → cw g xs (xs.length - 1) [] j = one g (gX xs j) := by
      intro j hj
      unfold cw
      by_cases c : j < xs.length - 1
      · rw [if_pos c]
      · rw [if_neg c, if_pos (by omega)]; simp [sumW]
    constructor
    · intro j hj he
      have e : sumTo (fun i => gI wy i * cw g xs (xs.length - 1) [] i) xs.length = gI wy j := by
        have e1 : sumTo (fun i => gI wy i * cw g xs (xs.length - 1) [] i) xs.length = sumTo (fun i => if i = j then gI wy j else (fun _ => 0) i) xs.length := by
          apply sumTo_congr
          intro i hi
          show gI wy i * cw g xs (xs.length - 1) [] i = if i = j then gI wy j else 0
          rw [hc i hi]
          unfold one
          by_cases c : i = j
          · rw [if_pos c, c, if_pos ((isG_iff g _).2 he)]; omega
          · rw [if_neg c, if_neg (fun h => c (gX_inj B.inv.2 hi hj (((isG_iff g _).1 h).trans he.symm)))]; omega
        rw [e1, sumTo_upd _ j _ xs.length, if_pos hj, sumTo_zero _ _ (fun _ _ => rfl)]; omega
      rw [e] at hw
      have := B.yr j
      omega
    · intro hno
      have e : sumTo (fun i => gI wy i * cw g xs (xs.length - 1) [] i) xs.length = 0 := by
        apply sumTo_zero
        intro i hi
        show gI wy i * cw g xs (xs.length - 1) [] i = 0
        rw [hc i hi]
        unfold one
        rw [if_neg (fun h => hno ((isG_iff g _).1 h ▸ gX_mem xs i hi))]; omega
      rw [e] at hw
      omega
/-- What is found can be reached. -/
theorem BF.reach {s : ByteArray} {xs : List ByteArray} {fr mv wy : List Int} (B : BF s xs fr mv wy) (g : ByteArray) (j : Nat) : j < xs.length → 0 < WG g (gX xs j) → 0 < WG g s := by
  induction j using Nat.strongRecOn with
  | ind j ih =>
    intro hj hw
    by_cases c : j = 0
    · rw [c, B.hd] at hw; exact hw
    · obtain ⟨p, p1, p2, p3, p4⟩ := B.par j (by omega) hj
      rw [p4] at hw
      exact ih p p2 (by omega) (WG_next g _ (B.inv.1 _ (gX_mem xs p (by omega))).1 _ p3 hw)
theorem BF.mem_iff {s : ByteArray} {xs : List ByteArray} {fr mv wy : List Int} (B : BF s xs fr mv wy) (g : ByteArray) (hg : Pond g) (hn : g.size = s.size) : g ∈ xs ↔ 0 < WG g s := by
  constructor
  · intro h
    obtain ⟨j, hj, e⟩ := mem_gX h
    refine B.reach g j hj ?_
    rw [e]; exact WG_self g hg
  · intro h
    by_cases c : g ∈ xs
    · exact c
    · have := (B.wsum g hg hn).2 c; omega
/-- The moves by which a place was found. -/
def tree (fr mv : List Int) : Nat → Nat → List Int
  | 0, _ => []
  | d + 1, j => if gI fr j ≥ 0 then tree fr mv d (gI fr j).toNat ++ [gI mv j] else []
theorem tree_any {s : ByteArray} {xs : List ByteArray} {fr mv wy : List Int} (B : BF s xs fr mv wy) (j : Nat) : ∀ d, j < d → j < xs.length → tree fr mv d j = tree fr mv (j + 1) j := by
  induction j using Nat.strongRecOn with
  | ind j ih =>
    intro d hd hj
    obtain ⟨d, rfl⟩ : ∃ q, d = q + 1 := ⟨d - 1, by omega⟩
    simp only [tree]
    by_cases c : j = 0
    · rw [c, B.h0, if_neg (by omega), if_neg (by omega)]
    · obtain ⟨p, p1, p2, _, _⟩ := B.par j (by omega) hj
      rw [p1, if_pos (by omega), if_pos (by omega), Int.toNat_natCast, ih p p2 d (by omega) (by omega), ih p p2 j (by omega) (by omega)]
def wayT (fr mv : List Int) (j : Nat) : List Int := tree fr mv (j + 1) j
theorem wayT_zero {s : ByteArray} {xs : List ByteArray} {fr mv wy : List Int} (B : BF s xs fr mv wy) : wayT fr mv 0 = [] := by
  unfold wayT; simp only [tree]; rw [B.h0, if_neg (by omega)]
theorem wayT_par {s : ByteArray} {xs : List ByteArray} {fr mv wy : List Int} (B : BF s xs fr mv wy) (j p : Nat) (h1 : 0 < j) (h2 : j < xs.length) (hp : gI fr j = (p : Int)) (hpj : p < j) : wayT fr mv j = wayT fr mv p ++ [gI mv j] := by
  unfold wayT
  simp only [tree]
  rw [hp, if_pos (by omega), Int.toNat_natCast, tree_any B p j (by omega) (by omega)]
  simp only [tree]
theorem wayT_len {s : ByteArray} {xs : List ByteArray} {fr mv wy : List Int} (B : BF s xs fr mv wy) (j : Nat) : j < xs.length → (wayT fr mv j).length + rem (gX xs j) = rem s := by
  induction j using Nat.strongRecOn with
  | ind j ih =>
    intro hj
    by_cases c : j = 0
    · rw [c, wayT_zero B, B.hd]; simp
    · obtain ⟨p, p1, p2, p3, p4⟩ := B.par j (by omega) hj
      have hr := rem_moved (B.inv.1 _ (gX_mem xs p (by omega))).1 (moves_go p3)
      rw [wayT_par B j p (by omega) hj p1 p2, List.length_append, List.length_singleton]
      have := ih p p2 (by omega)
      rw [p4]; omega
theorem count_three (l : List UInt8) (h : ∀ x ∈ l, x = 114 ∨ x = 108 ∨ x = 46) : l.count 46 = l.length - l.count 108 - l.count 114 ∧ l.count 108 + l.count 114 ≤ l.length := by
  induction l with
  | nil => simp
  | cons a l ih =>
    have ih := ih (fun x hx => h x (List.mem_cons_of_mem _ hx))
    simp only [List.count_cons, List.length_cons]
    rcases h a (List.mem_cons_self) with rfl | rfl | rfl <;> simp <;> omega
theorem exch_eq {s : ByteArray} (hg : Pond s) : ∃ r : ByteArray, spec_fgExchange.f s = some r ∧ impl_exchanged.f s = some r := by
  have h9 := hg.1
  have hall : ∀ x ∈ s.data.toList, x = 114 ∨ x = 108 ∨ x = 46 := by
    intro x hx
    obtain ⟨n, hn, rfl⟩ := List.mem_iff_getElem.1 hx
    have hb := bt_list s n hn
    have hlt : n < s.size := by simpa using hn
    have := hg.2 n (by omega) (by omega)
    rw [hb] at this
    rcases this with e | e | e
    · left; apply UInt8.toNat_inj.1; simpa using Int.ofNat.inj e
    · right; left; apply UInt8.toNat_inj.1; simpa using Int.ofNat.inj e
    · right; right; apply UInt8.toNat_inj.1; simpa using Int.ofNat.inj e
  have h3 := count_three s.data.toList hall
  have hl : s.data.toList.length = s.size := by simp
  rw [hl] at h3
  refine ⟨_, by unfold spec_fgExchange.f; rw [if_pos ⟨by omega, pond_ascii hg⟩], ?_⟩
  unfold impl_exchanged.f
  rw [if_pos (by omega), ← h3.1]
  congr 1
  have e : ∀ a b : ByteArray, a.data.toList = b.data.toList → a = b := by
    intro a b h
    cases a; cases b
    congr 1
    exact Array.toList_inj.1 h
  apply e
  simp only [spec_fgExchange.app]
  unfold impl_exchanged.B spec_fgExchange.kinds
  simp only [List.filter_beq]
/-- Two ponds of as many stones. -/
def Both (s g : ByteArray) : Prop := (Pond s ∧ Pond g) ∧ s.size = g.size
theorem plGo_yes {s g : ByteArray} (h : Both s g) {k : Nat} (hk : 100 ≤ k) : ∃ M, plGo k k s g = some (decide (0 < WG g s), M) ∧ VM (FT (isG g)) s.size M := by
  obtain ⟨⟨hs, hg⟩, hn⟩ := h
  have h27 := (moves_bnd hs).2
  obtain ⟨M, e, v, _⟩ := memo (plIs g) (isG g) (FT (isG g)) k s.size (by omega) hs.1.2 (fun t _ _ => rfl) (fun t ht _ => FT_eq (isG g) t ht) k s [] hs rfl (by omega) (vm_nil _ _)
  refine ⟨M, ?_, v⟩
  unfold plGo
  rw [isPond_true hs, Option.bind_some, if_pos rfl, isPond_true hg, Option.bind_some, if_pos rfl, if_pos hn, e, Option.bind_some]
  rfl
theorem plGo_no {s g : ByteArray} (h : ¬ Both s g) {k : Nat} : plGo k k s g = some (false, []) := by
  unfold plGo
  by_cases hs : Pond s
  · rw [isPond_true hs, Option.bind_some, if_pos rfl]
    by_cases hg : Pond g
    · rw [isPond_true hg, Option.bind_some, if_pos rfl, if_neg (fun e => h ⟨⟨hs, hg⟩, e⟩)]
    · rw [isPond_false hg, Option.bind_some, if_neg (by decide)]
  · rw [isPond_false hs, Option.bind_some, if_neg (by decide)]
theorem plOf_again {s g : ByteArray} (h : Both s g) {k : Nat} (hk : 100 ≤ k) (M : plM) (hv : VM (FT (isG g)) s.size M) : ∃ M', plOf (plIs g) k k M s = some (FT (isG g) s, M') := by
  obtain ⟨⟨hs, hg⟩, hn⟩ := h
  have h27 := (moves_bnd hs).2
  obtain ⟨M', e, _, _⟩ := memo (plIs g) (isG g) (FT (isG g)) k s.size (by omega) hs.1.2 (fun t _ _ => rfl) (fun t ht _ => FT_eq (isG g) t ht) k s M hs rfl (by omega) hv
  exact ⟨M', e⟩
theorem FnExactCanExchange : laws_FnExactCanExchange.Pure := by
  intro s _
  obtain ⟨k, hk⟩ : ∃ k : Nat, 300000 ≤ k := ⟨300000, Nat.le_refl _⟩
  have hk10 : 10 < k := by omega
  refine ⟨k, ?_⟩
  unfold laws_FnExactCanExchange.f
  by_cases hb : (s.size : Int) > 1048576
  · rw [if_pos hb]
  · rw [if_neg hb]
    have key : ∃ r : Bool × Bool, spec_CanExchange.f k s = some r ∧ impl_CanExchange.f k s = some r := by
      unfold spec_CanExchange.f impl_CanExchange.f
      by_cases hg : Pond s
      · obtain ⟨x, hx1, hx2⟩ := exch_eq hg
        obtain ⟨xs, fr, mv, wy, dn, B0, e⟩ := reach_eq hg hk
        have B := B0.final hg
        have hx := inv_len hg.1.2 B.inv
        have hat : ∃ t, spec_fgAt.f k xs x = some t ∧ (t ≥ 0 ↔ x ∈ xs) := by
          rcases at_eq xs x (by omega) (show xs.length < k by omega) with ⟨hno, hat⟩ | ⟨r, hr1, hr2, hat⟩
          · exact ⟨-1, hat, ⟨fun h => by omega, fun h => absurd h hno⟩⟩
          · exact ⟨(r : Int), hat, ⟨fun _ => hr2 ▸ gX_mem xs r hr1, fun _ => by omega⟩⟩
        obtain ⟨t, ht, hti⟩ := hat
        have hgo : ∃ M, plGo k k s x = some (decide (t ≥ 0), M) := by
          by_cases hb2 : Both s x
          · obtain ⟨M, e2, _⟩ := plGo_yes hb2 (show 100 ≤ k by omega)
            refine ⟨M, ?_⟩
            rw [e2]
            congr 2
            rw [decide_eq_decide]
            exact (hti.trans (B.mem_iff x hb2.1.2 hb2.2.symm)).symm
          · refine ⟨[], ?_⟩
            rw [plGo_no hb2]
            congr 2
            refine (decide_eq_false (fun hm => hb2 ?_)).symm
            have := B.inv.1 x (hti.1 hm)
            exact ⟨⟨hg, this.1⟩, this.2.symm⟩
        obtain ⟨M, hM⟩ := hgo
        refine ⟨(decide (t ≥ 0), true), ?_, ?_⟩
        · rw [fgGood_true hg hk10, Option.bind_some, if_pos rfl, e, Option.bind_some, hx1, Option.bind_some, ht, Option.bind_some]
        · rw [isPond_true hg, Option.bind_some, if_pos rfl, hx2, Option.bind_some, hM, Option.bind_some]
      · refine ⟨(false, false), ?_, ?_⟩
        · rw [fgGood_false hg hk10, Option.bind_some, if_neg (by decide)]
        · rw [isPond_false hg, Option.bind_some, if_neg (by decide)]
    obtain ⟨r, h1, h2⟩ := key
    rw [h1, Option.bind_some, h2, Option.bind_some]
    simp

end Go.Proofs.YtkikpfeipejnlaaDoor.Pure
