/- For every text the program's LongestFrogPlay and the reference's answer alike, and the result is memory of its own. Conditions: the text takes at most 140737488351232 bytes. -/
import Derived.Test.YtkikpfeipejnlaaDoorPFnExactLongestFrogPlayx
namespace Go.Proofs.YtkikpfeipejnlaaDoor.Pure
open Go.RowKit Go.Proofs.YtkikpfeipejnlaaDoor.PFnExactLongestFrogPlay Go.Proofs.YtkikpfeipejnlaaDoorW.PrintWords Go.Proofs.YtkikpfeipejnlaaDoorW.PrintLast Go.Proofs.YtkikpfeipejnlaaDoorW.PrintMore

set_option linter.unusedVariables false
set_option linter.unusedSimpArgs false
def inB (a b c : Int) : Bool := decide (b ≤ a ∧ a ≤ c)
theorem inB_true {a b c : Int} (h : inB a b c = true) : b ≤ a ∧ a ≤ c := of_decide_eq_true h
theorem inB_mk {a b c : Int} (h : b ≤ a ∧ a ≤ c) : inB a b c = true := decide_eq_true h
theorem inB_not {a b c : Int} (h : ¬ (b ≤ a ∧ a ≤ c)) : inB a b c = false := decide_eq_false h
theorem inB_false {a b c : Int} (h : inB a b c = false) : ¬ (b ≤ a ∧ a ≤ c) := of_decide_eq_false h
theorem in_eq (a b c : Int) : spec_l1In.f a b c = some (inB a b c) := by
  unfold spec_l1In.f inB
  by_cases h : a ≥ b
  · rw [if_pos h]; congr 1; rw [decide_eq_decide]; omega
  · rw [if_neg h]; congr 1; symm; rw [decide_eq_false_iff_not]; omega
theorem within_eq (a b c : Int) : impl_within.f a b c = some (inB a b c) := by
  unfold impl_within.f inB
  by_cases h : b ≤ a
  · rw [if_pos h]; congr 1; rw [decide_eq_decide]; omega
  · rw [if_neg h]; congr 1; symm; rw [decide_eq_false_iff_not]; omega
theorem w64 {x : Int} (h0 : -9223372036854775808 ≤ x) (h1 : x < 9223372036854775808) : wrap64 x = x := by unfold wrap64; omega
/-- A pond: 1..9 signs, each a frog of one kind or a free stone. -/
def Pond (s : ByteArray) : Prop := (1 ≤ s.size ∧ s.size ≤ 9) ∧ ∀ i : Int, 0 ≤ i → i < s.size → bt s i = 114 ∨ bt s i = 108 ∨ bt s i = 46
theorem fgGood_l0_true (s : ByteArray) (hs : s.size ≤ 9) (d : Nat) : ∀ (k : Nat) (i : Int), 0 ≤ i → (s.size : Int) - i ≤ d → d < k → (∀ j : Int, i ≤ j → j < s.size → bt s j = 114 ∨ bt s j = 108 ∨ bt s j = 46) → spec_fgGood.l0 k s i = some true := by
  induction d with
  | zero =>
    intro k i h0 hd hk h
    obtain ⟨k, rfl⟩ : ∃ m, k = m + 1 := ⟨k - 1, by omega⟩
    simp only [spec_fgGood.l0]; rw [if_neg (by omega)]
  | succ d ih =>
    intro k i h0 hd hk h
    obtain ⟨k, rfl⟩ : ∃ m, k = m + 1 := ⟨k - 1, by omega⟩
    simp only [spec_fgGood.l0]
    by_cases hlt : i < (s.size : Int)
    · rw [if_pos hlt, if_pos h0, w64 (by omega) (by omega)]
      have hr := ih k (i + 1) (by omega) (by omega) (by omega) (fun j h1 h2 => h j (by omega) h2)
      rw [hr]
      rcases h i (by omega) hlt with e | e | e
      · rw [if_pos e]
      · rw [if_neg (by omega), if_pos e]
      · rw [if_neg (by omega), if_neg (by omega), if_pos e]
    · rw [if_neg hlt]
theorem fgGood_l0_false (s : ByteArray) (hs : s.size ≤ 9) (d : Nat) : ∀ (k : Nat) (i : Int), 0 ≤ i → (s.size : Int) - i ≤ d → d < k → (¬ ∀ j : Int, i ≤ j → j < s.size → bt s j = 114 ∨ bt s j = 108 ∨ bt s j = 46) → spec_fgGood.l0 k s i = some false := by
  induction d with
  | zero =>
    intro k i h0 hd hk h
    exact absurd (fun j h1 h2 => absurd h1 (by omega)) h
  | succ d ih =>
    intro k i h0 hd hk h
    obtain ⟨k, rfl⟩ : ∃ m, k = m + 1 := ⟨k - 1, by omega⟩
    simp only [spec_fgGood.l0]
    by_cases hlt : i < (s.size : Int)
    · rw [if_pos hlt, if_pos h0, w64 (by omega) (by omega)]
      have hgo : (bt s i = 114 ∨ bt s i = 108 ∨ bt s i = 46) → spec_fgGood.l0 k s (i + 1) = some false := fun e => ih k (i + 1) (by omega) (by omega) (by omega) (fun g => h (fun j h1 h2 => if c : j = i then by rw [c]; exact e else g j (by omega) h2))
      by_cases e1 : bt s i = 114
      · rw [if_pos e1]; exact hgo (.inl e1)
      · rw [if_neg e1]
        by_cases e2 : bt s i = 108
        · rw [if_pos e2]; exact hgo (.inr (.inl e2))
        · rw [if_neg e2]
          by_cases e3 : bt s i = 46
          · rw [if_pos e3]; exact hgo (.inr (.inr e3))
          · rw [if_neg e3]
    · exact absurd (fun j h1 h2 => absurd h2 (by omega)) h
theorem fgGood_true {s : ByteArray} (hg : Pond s) {k : Nat} (hk : 10 < k) : spec_fgGood.f k s = some true := by
  unfold spec_fgGood.f
  obtain ⟨h1, h2⟩ := hg
  rw [in_eq, inB_mk ⟨by omega, by omega⟩]
  exact fgGood_l0_true s h1.2 s.size k 0 (by omega) (by omega) (by omega) h2
theorem fgGood_false {s : ByteArray} (hg : ¬ Pond s) {k : Nat} (hk : 10 < k) : spec_fgGood.f k s = some false := by
  unfold spec_fgGood.f
  rw [in_eq]
  cases hb : inB (s.size : Int) 1 9
  · rfl
  · have h1 := inB_true hb
    exact fgGood_l0_false s (by omega) s.size k 0 (by omega) (by omega) (by omega) (fun h => hg ⟨⟨by omega, by omega⟩, h⟩)
theorem bt_list (s : ByteArray) (i : Nat) (h : i < s.data.toList.length) : bt s (i : Int) = ((s.data.toList[i]'h).toNat : Int) := by
  have h' : i < s.size := by simpa using h
  unfold bt
  rw [dif_pos (by simpa using h')]
  rfl
theorem dropWhile_nil {α : Type} (p : α → Bool) (l : List α) : l.dropWhile p = [] ↔ ∀ x ∈ l, p x = true := by
  induction l with
  | nil => simp
  | cons a l ih =>
    rw [List.dropWhile_cons]
    by_cases h : p a = true
    · rw [if_pos h, ih]; simp [h]
    · rw [if_neg h]; simp [h]
theorem trimS_nil (l cs : List UInt8) : Lib.trimS l cs = [] ↔ ∀ x ∈ l, cs.contains x = true := by
  unfold Lib.trimS Lib.trimLeftS Lib.trimRightS
  rw [dropWhile_nil]
  constructor
  · intro h x hx
    by_cases hall : ∀ y ∈ l.reverse, cs.contains y = true
    · exact hall x (by simpa using hx)
    · exfalso
      have hne : l.reverse.dropWhile (cs.contains ·) ≠ [] := fun e => hall ((dropWhile_nil _ _).1 e)
      obtain ⟨y, ys, hy⟩ : ∃ y ys, l.reverse.dropWhile (cs.contains ·) = y :: ys := by
        cases e : l.reverse.dropWhile (cs.contains ·) with
        | nil => exact absurd e hne
        | cons y ys => exact ⟨y, ys, rfl⟩
      have hp := List.head?_dropWhile_not (cs.contains ·) l.reverse
      rw [hy] at hp
      have := h y (by rw [hy]; simp)
      simp at hp this
      exact hp this
  · intro h x hx
    rw [List.mem_reverse] at hx
    exact h x (by simpa using (List.dropWhile_sublist _).subset hx)
theorem trim_pond (s : ByteArray) (hs : s.size ≤ 9223372036854775807) : ∃ t : ByteArray, strings_Trim.f s (⟨#[114, 108, 46]⟩ : ByteArray) = some t ∧ (t.toList = [] ↔ ∀ i : Int, 0 ≤ i → i < s.size → bt s i = 114 ∨ bt s i = 108 ∨ bt s i = 46) := by
  refine ⟨⟨(Lib.trimS s.data.toList [114, 108, 46]).toArray⟩, ?_, ?_⟩
  · unfold strings_Trim.f
    rw [if_pos ⟨hs, by decide, by decide⟩]
  · rw [Lib.toList_data]
    show (Lib.trimS s.data.toList [114, 108, 46]).toArray.toList = [] ↔ _
    rw [show (Lib.trimS s.data.toList [114, 108, 46]).toArray.toList = Lib.trimS s.data.toList [114, 108, 46] from rfl, trimS_nil]
    constructor
    · intro h i h0 h1
      have hi : i.toNat < s.data.toList.length := by
        have : s.data.toList.length = s.size := by simp
        omega
      have hb := bt_list s i.toNat hi
      rw [show ((i.toNat : Nat) : Int) = i by omega] at hb
      have := h _ (List.getElem_mem hi)
      rw [hb]
      simp at this
      rcases this with e | e | e <;> simp [e]
    · intro h x hx
      obtain ⟨n, hn, rfl⟩ := List.mem_iff_getElem.1 hx
      have hb := bt_list s n hn
      have hlt : n < s.size := by simpa using hn
      have := h n (by omega) (by omega)
      rw [hb] at this
      simp
      rcases this with e | e | e
      · left; apply UInt8.toNat_inj.1; simpa using Int.ofNat.inj e
      · right; left; apply UInt8.toNat_inj.1; simpa using Int.ofNat.inj e
      · right; right; apply UInt8.toNat_inj.1; simpa using Int.ofNat.inj e
theorem isPond_true {s : ByteArray} (hg : Pond s) : impl_IsPond.f s = some true := by
  unfold impl_IsPond.f
  obtain ⟨h1, h2⟩ := hg
  obtain ⟨t, ht, hiff⟩ := trim_pond s (by omega)
  rw [within_eq, inB_mk ⟨by omega, by omega⟩]
  simp only [Option.bind_some, if_true, ht]
  rw [hiff.2 h2]; rfl
theorem isPond_false {s : ByteArray} (hg : ¬ Pond s) : impl_IsPond.f s = some false := by
  unfold impl_IsPond.f
  rw [within_eq]
  cases hb : inB (s.size : Int) 1 9
  · rfl
  · have h1 := inB_true hb
    obtain ⟨t, ht, hiff⟩ := trim_pond s (by omega)
    simp only [Option.bind_some, if_true, ht]
    congr 1
    cases hc : (t.toList == ([] : List UInt8)) with
    | false => rfl
    | true => exact absurd ⟨⟨by omega, by omega⟩, hiff.1 (by simpa using hc)⟩ hg
theorem pond_ascii {s : ByteArray} (hg : Pond s) : asciiB s = true := by
  unfold asciiB
  apply List.all_eq_true.2
  intro i hi
  have h1 := List.mem_range.1 hi
  have h2 := hg.2 (i : Int) (by omega) (by omega)
  apply decide_eq_true
  omega
/-- The moves from stone i on, so many stones. -/
def movesF (s : ByteArray) : Nat → Nat → List Int
  | 0, _ => []
  | d + 1, i => if frogTo s (i : Int) ≥ 0 then (i : Int) :: movesF s d (i + 1) else movesF s d (i + 1)
theorem movesF_len (s : ByteArray) (d : Nat) : ∀ i : Nat, (movesF s d i).length ≤ d := by
  induction d with
  | zero => intro i; simp [movesF]
  | succ d ih => intro i; simp only [movesF]; have := ih (i + 1); split <;> simp <;> omega
theorem movesF_mem (s : ByteArray) (d : Nat) : ∀ (i : Nat) (x : Int), x ∈ movesF s d i ↔ ((i : Int) ≤ x ∧ x < (i : Int) + d) ∧ 0 ≤ frogTo s x := by
  induction d with
  | zero => intro i x; simp [movesF]; omega
  | succ d ih =>
    intro i x
    simp only [movesF]
    by_cases h : frogTo s (i : Int) ≥ 0
    · rw [if_pos h, List.mem_cons, ih]
      constructor
      · rintro (e | ⟨h1, h2⟩)
        · subst e; exact ⟨⟨by omega, by omega⟩, h⟩
        · exact ⟨⟨by omega, by omega⟩, h2⟩
      · rintro ⟨h1, h2⟩
        by_cases e : x = (i : Int)
        · exact .inl e
        · exact .inr ⟨⟨by omega, by omega⟩, h2⟩
    · rw [if_neg h, ih]
      constructor
      · rintro ⟨h1, h2⟩; exact ⟨⟨by omega, by omega⟩, h2⟩
      · rintro ⟨h1, h2⟩
        have : x ≠ (i : Int) := fun e => h (e ▸ h2)
        exact ⟨⟨by omega, by omega⟩, h2⟩
def moves (s : ByteArray) : List Int := movesF s s.size 0
theorem fgMoves_l0 (s : ByteArray) (hs : s.size ≤ 9) (d : Nat) : ∀ (k i : Nat) (acc : List Int), i + d = s.size → d < k → acc.length ≤ i → spec_fgMoves.l0 k s acc i = some (acc ++ movesF s d i) := by
  induction d with
  | zero =>
    intro k i acc hi hk ha
    obtain ⟨k, rfl⟩ : ∃ m, k = m + 1 := ⟨k - 1, by omega⟩
    simp only [spec_fgMoves.l0, movesF]
    rw [if_neg (by omega)]; simp
  | succ d ih =>
    intro k i acc hi hk ha
    obtain ⟨k, rfl⟩ : ∃ m, k = m + 1 := ⟨k - 1, by omega⟩
    have ht : spec_fgTo.f s (i : Int) = some (frogTo s (i : Int)) := by unfold spec_fgTo.f; rw [if_pos (by omega)]
    simp only [spec_fgMoves.l0, movesF]
    rw [if_pos (by omega), ht]
    simp only [Option.bind_some]
    by_cases h : frogTo s (i : Int) ≥ 0
    · rw [if_pos h, if_pos h, if_pos (by omega), ih k (i + 1) (acc ++ [(i : Int)]) (by omega) (by omega) (by simp; omega)]
      simp
    · rw [if_neg h, if_neg h, ih k (i + 1) acc (by omega) (by omega) (by omega)]
theorem fgMoves_eq {s : ByteArray} (hg : Pond s) : spec_fgMoves.f s = some (moves s) := by
  have h9 := hg.1.2
  unfold spec_fgMoves.f
  rw [if_pos ⟨by omega, pond_ascii hg⟩, fgMoves_l0 s h9 s.size (s.size + 1) 0 [] (by omega) (by omega) (by simp)]
  rfl
theorem hops_l0 (s : ByteArray) (hs : s.size ≤ 9) (d : Nat) : ∀ (k i : Nat) (acc : List Int), i + d = s.size → d < k → acc.length ≤ i → impl_hops.l0 k s acc (s.size : Int) (i : Int) = some (acc ++ movesF s d i) := by
  induction d with
  | zero =>
    intro k i acc hi hk ha
    obtain ⟨k, rfl⟩ : ∃ m, k = m + 1 := ⟨k - 1, by omega⟩
    simp only [impl_hops.l0, movesF]
    rw [if_neg (by omega)]; simp
  | succ d ih =>
    intro k i acc hi hk ha
    obtain ⟨k, rfl⟩ : ∃ m, k = m + 1 := ⟨k - 1, by omega⟩
    have ht : impl_target.f s (i : Int) = some (frogTo s (i : Int)) := by unfold impl_target.f; rw [if_pos ⟨by omega, by omega, by omega⟩]
    have hw : wrap64 ((i : Int) + 1) = ((i + 1 : Nat) : Int) := by rw [w64 (by omega) (by omega)]; omega
    simp only [impl_hops.l0, movesF]
    rw [if_pos (by omega), ht, hw]
    simp only [Option.bind_some]
    by_cases h : frogTo s (i : Int) ≥ 0
    · rw [if_pos h, if_pos h, if_pos (by omega), ih k (i + 1) (acc ++ [(i : Int)]) (by omega) (by omega) (by simp; omega)]
      simp
    · rw [if_neg h, if_neg h, ih k (i + 1) acc (by omega) (by omega) (by omega)]
theorem hops_eq {s : ByteArray} (hs : s.size ≤ 9) {k : Nat} (hk : 10 < k) : impl_hops.f k s = some (moves s) := by
  unfold impl_hops.f
  rw [show (0 : Int) = ((0 : Nat) : Int) from rfl, hops_l0 s hs s.size k 0 [] (by omega) (by omega) (by simp)]
  rfl
theorem frogTo_in {s : ByteArray} {i : Int} (h : 0 ≤ frogTo s i) : (0 ≤ i ∧ i < (s.size : Int)) ∧ frogTo s i < (s.size : Int) ∧ frogTo s i ≠ i := by
  revert h
  unfold frogTo
  generalize hd : (if bt s i = 108 then (-1 : Int) else 1) = d
  have hd2 : d = -1 ∨ d = 1 := by rw [← hd]; split <;> simp
  clear hd
  by_cases c : (0 ≤ i ∧ i < (s.size : Int)) ∧ ¬ bt s i = 46
  · rw [if_pos c]
    by_cases c1 : (0 ≤ i + d ∧ i + d < (s.size : Int)) ∧ bt s (i + d) = 46
    · rw [if_pos c1]; intro h; exact ⟨c.1, by omega, by omega⟩
    · rw [if_neg c1]
      by_cases c2 : ((0 ≤ i + 2 * d ∧ i + 2 * d < (s.size : Int)) ∧ bt s (i + 2 * d) = 46) ∧ ¬ bt s (i + d) = bt s i
      · rw [if_pos c2]; intro h; exact ⟨c.1, by omega, by omega⟩
      · rw [if_neg c2]; intro h; omega
  · rw [if_neg c]; intro h; omega
/-- How far a move goes: one stone or two. -/
theorem frogTo_far {s : ByteArray} {i : Int} (h : 0 ≤ frogTo s i) : -2 ≤ frogTo s i - i ∧ frogTo s i - i ≤ 2 := by
  revert h
  unfold frogTo
  generalize hd : (if bt s i = 108 then (-1 : Int) else 1) = d
  have hd2 : d = -1 ∨ d = 1 := by rw [← hd]; split <;> simp
  clear hd
  by_cases c : (0 ≤ i ∧ i < (s.size : Int)) ∧ ¬ bt s i = 46
  · rw [if_pos c]
    by_cases c1 : (0 ≤ i + d ∧ i + d < (s.size : Int)) ∧ bt s (i + d) = 46
    · rw [if_pos c1]; intro h; omega
    · rw [if_neg c1]
      by_cases c2 : ((0 ≤ i + 2 * d ∧ i + 2 * d < (s.size : Int)) ∧ bt s (i + 2 * d) = 46) ∧ ¬ bt s (i + d) = bt s i
      · rw [if_pos c2]; intro h; omega
      · rw [if_neg c2]; intro h; omega
  · rw [if_neg c]; intro h; omega
theorem moved_size (s : ByteArray) (i : Int) : (movedB s i).size = s.size := by
  show ((List.range s.size).map (movedAt s i (frogTo s i))).toArray.size = s.size
  rw [List.size_toArray, List.length_map, List.length_range]
theorem bt_in (s : ByteArray) (j : Nat) (h : j < s.size) : bt s (j : Int) = ((s.data.toList.getD j 0).toNat : Int) := by
  rw [bt_list s j (by simpa using h), List.getD_eq_getElem?_getD, List.getElem?_eq_getElem (by simpa using h)]; rfl
theorem bt_moved (s : ByteArray) (i : Int) (j : Nat) (h : j < s.size) (hi : 0 ≤ i ∧ i < (s.size : Int)) : bt (movedB s i) (j : Int) = if (j : Int) = i then 46 else if (j : Int) = frogTo s i then bt s i else bt s (j : Int) := by
  have hm : j < (movedB s i).size := by rw [moved_size]; exact h
  rw [bt_list _ j (by simpa using hm)]
  have e : (movedB s i).data.toList[j]'(by simpa using hm) = movedAt s i (frogTo s i) j := by simp [movedB]
  rw [e]
  unfold movedAt
  by_cases c1 : (j : Int) = i
  · rw [if_pos c1, if_pos c1]; rfl
  · rw [if_neg c1, if_neg c1]
    by_cases c2 : (j : Int) = frogTo s i
    · rw [if_pos c2, if_pos c2, ← bt_in s i.toNat (by omega), show ((i.toNat : Nat) : Int) = i by omega]
    · rw [if_neg c2, if_neg c2, ← bt_in s j h]
theorem pond_moved {s : ByteArray} (hg : Pond s) {i : Int} (hi : 0 ≤ frogTo s i) : Pond (movedB s i) := by
  have h1 := frogTo_in hi
  refine ⟨by rw [moved_size]; exact hg.1, fun j h0 hj => ?_⟩
  rw [moved_size] at hj
  have h := bt_moved s i j.toNat (by omega) h1.1
  rw [show ((j.toNat : Nat) : Int) = j by omega] at h
  rw [h]
  by_cases c1 : j = i
  · rw [if_pos c1]; exact .inr (.inr rfl)
  · rw [if_neg c1]
    by_cases c2 : j = frogTo s i
    · rw [if_pos c2]; exact hg.2 i h1.1.1 h1.1.2
    · rw [if_neg c2]; exact hg.2 j h0 hj
theorem fgTo_eq {s : ByteArray} (hg : Pond s) (i : Int) : spec_fgTo.f s i = some (frogTo s i) := by
  have := hg.1.2
  unfold spec_fgTo.f; rw [if_pos (by omega)]
theorem fgMove_eq {s : ByteArray} (hg : Pond s) {i : Int} (hi : 0 ≤ frogTo s i) : spec_fgMove.f s i = some (movedB s i) := by
  have := hg.1.2
  have h1 := frogTo_in hi
  unfold spec_fgMove.f; rw [if_pos ⟨⟨by omega, pond_ascii hg⟩, h1.1⟩]
theorem hopped_eq {s : ByteArray} (hg : Pond s) {i : Int} (hi : 0 ≤ frogTo s i) : impl_hopped.f s i = some (movedB s i) := by
  have := hg.1.2
  have h1 := frogTo_in hi
  unfold impl_hopped.f; rw [if_pos ⟨⟨by omega, h1.1⟩, hi, h1.2.1⟩]
theorem target_eq {s : ByteArray} (hg : Pond s) {i : Int} (h : 0 ≤ i ∧ i < (s.size : Int)) : impl_target.f s i = some (frogTo s i) := by
  have := hg.1.2
  unfold impl_target.f; rw [if_pos ⟨by omega, h⟩]
theorem frogTo_go {s : ByteArray} {i : Int} (h : 0 ≤ frogTo s i) : bt s (frogTo s i) = 46 ∧ bt s i ≠ 46 ∧ ((bt s i = 108 ∧ (frogTo s i = i - 1 ∨ frogTo s i = i - 2)) ∨ (bt s i ≠ 108 ∧ (frogTo s i = i + 1 ∨ frogTo s i = i + 2))) := by
  revert h
  unfold frogTo
  generalize hd : (if bt s i = 108 then (-1 : Int) else 1) = d
  have hd2 : (bt s i = 108 ∧ d = -1) ∨ (bt s i ≠ 108 ∧ d = 1) := by
    rw [← hd]
    by_cases c : bt s i = 108
    · exact .inl ⟨c, by rw [if_pos c]⟩
    · exact .inr ⟨c, by rw [if_neg c]⟩
  clear hd
  by_cases c : (0 ≤ i ∧ i < (s.size : Int)) ∧ ¬ bt s i = 46
  · rw [if_pos c]
    by_cases c1 : (0 ≤ i + d ∧ i + d < (s.size : Int)) ∧ bt s (i + d) = 46
    · rw [if_pos c1]; intro h
      refine ⟨c1.2, c.2, ?_⟩
      rcases hd2 with ⟨e, rfl⟩ | ⟨e, rfl⟩
      · exact .inl ⟨e, .inl (by omega)⟩
      · exact .inr ⟨e, .inl (by omega)⟩
    · rw [if_neg c1]
      by_cases c2 : ((0 ≤ i + 2 * d ∧ i + 2 * d < (s.size : Int)) ∧ bt s (i + 2 * d) = 46) ∧ ¬ bt s (i + d) = bt s i
      · rw [if_pos c2]; intro h
        refine ⟨c2.1.2, c.2, ?_⟩
        rcases hd2 with ⟨e, rfl⟩ | ⟨e, rfl⟩
        · exact .inl ⟨e, .inr (by omega)⟩
        · exact .inr ⟨e, .inr (by omega)⟩
      · rw [if_neg c2]; intro h; omega
  · rw [if_neg c]; intro h; omega
def sumTo (f : Nat → Int) : Nat → Int
  | 0 => 0
  | n + 1 => sumTo f n + f n
theorem sumTo_congr (f g : Nat → Int) (n : Nat) (h : ∀ j, j < n → f j = g j) : sumTo f n = sumTo g n := by
  induction n with
  | zero => rfl
  | succ n ih => simp only [sumTo]; rw [ih (fun j hj => h j (by omega)), h n (by omega)]
theorem sumTo_upd (f : Nat → Int) (a : Nat) (x : Int) (n : Nat) : sumTo (fun j => if j = a then x else f j) n = sumTo f n + (if a < n then x - f a else 0) := by
  induction n with
  | zero => simp [sumTo]
  | succ n ih =>
    simp only [sumTo]
    rw [ih]
    by_cases h : n = a
    · subst h; rw [if_neg (by omega), if_pos rfl, if_pos (by omega)]; omega
    · rw [if_neg h]
      by_cases h2 : a < n
      · rw [if_pos h2, if_pos (by omega)]; omega
      · rw [if_neg h2, if_neg (by omega)]; omega
theorem sumTo_bound (f : Nat → Int) (n : Nat) (h : ∀ j, j < n → 0 ≤ f j ∧ f j ≤ 8) : 0 ≤ sumTo f n ∧ sumTo f n ≤ 8 * n := by
  induction n with
  | zero => simp [sumTo]
  | succ n ih => simp only [sumTo]; have := ih (fun j hj => h j (by omega)); have := h n (by omega); omega
/-- How far a stone's frog has come. -/
def rk (s : ByteArray) (j : Nat) : Int := if bt s (j : Int) = 114 then (j : Int) else if bt s (j : Int) = 108 then (s.size : Int) - 1 - j else 0
def rank (s : ByteArray) : Int := sumTo (rk s) s.size
theorem rank_bound {s : ByteArray} (hg : Pond s) : 0 ≤ rank s ∧ rank s ≤ 72 := by
  have h9 := hg.1
  have := sumTo_bound (rk s) s.size (fun j hj => by
    unfold rk
    split
    · omega
    · split <;> omega)
  unfold rank; omega
theorem rank_moved {s : ByteArray} (hg : Pond s) {i : Int} (hi : 0 ≤ frogTo s i) : rank s + 1 ≤ rank (movedB s i) := by
  have h1 := frogTo_in hi
  have h2 := frogTo_go hi
  obtain ⟨a, rfl⟩ : ∃ a : Nat, i = (a : Int) := ⟨i.toNat, by omega⟩
  obtain ⟨b, hb⟩ : ∃ b : Nat, frogTo s (a : Int) = (b : Int) := ⟨(frogTo s (a : Int)).toNat, by omega⟩
  have hab : b ≠ a := by intro e; subst e; exact h1.2.2 hb
  have ha : a < s.size := by omega
  have hbs : b < s.size := by omega
  have e : rank (movedB s (a : Int)) = sumTo (fun j => if j = a then (0 : Int) else (fun j => if j = b then (if bt s (a : Int) = 114 then (b : Int) else (s.size : Int) - 1 - b) else rk s j) j) s.size := by
    unfold rank
    rw [moved_size]
    apply sumTo_congr
    intro j hj
    have hm := bt_moved s (a : Int) j hj h1.1
    rw [hb] at hm
    show rk (movedB s (a : Int)) j = (if j = a then (0 : Int) else if j = b then (if bt s (a : Int) = 114 then (b : Int) else (s.size : Int) - 1 - b) else rk s j)
    by_cases c1 : j = a
    · have hm' : bt (movedB s (a : Int)) (j : Int) = 46 := by rw [hm, if_pos (by omega)]
      rw [if_pos c1]
      unfold rk
      rw [hm', if_neg (by decide), if_neg (by decide)]
    · rw [if_neg c1]
      by_cases c2 : j = b
      · have hm' : bt (movedB s (a : Int)) (j : Int) = bt s (a : Int) := by rw [hm, if_neg (by omega), if_pos (by omega)]
        rw [if_pos c2]
        unfold rk
        rw [hm', moved_size]
        have h3 := hg.2 (a : Int) (by omega) (by omega)
        by_cases c3 : bt s (a : Int) = 114
        · rw [if_pos c3, if_pos c3]; omega
        · have c4 : bt s (a : Int) = 108 := by
            rcases h3 with e | e | e
            · exact absurd e c3
            · exact e
            · exact absurd e h2.2.1
          rw [if_neg c3, if_neg c3, if_pos c4]; omega
      · have hm' : bt (movedB s (a : Int)) (j : Int) = bt s (j : Int) := by rw [hm, if_neg (by omega), if_neg (by omega)]
        rw [if_neg c2]
        unfold rk
        rw [hm', moved_size]
  rw [e, sumTo_upd _ a 0 s.size, sumTo_upd _ b _ s.size, if_pos ha, if_pos hbs]
  have r1 : rk s b = 0 := by
    unfold rk
    rw [hb] at h2
    rw [h2.1, if_neg (by decide), if_neg (by decide)]
  rw [if_neg (Ne.symm hab), r1]
  have h3 := hg.2 (a : Int) (by omega) (by omega)
  show sumTo (rk s) s.size + 1 ≤ _
  unfold rk
  by_cases c3 : bt s (a : Int) = 114
  · rw [if_pos c3, if_pos c3]
    rcases h2.2.2 with ⟨e1, e2⟩ | ⟨e1, e2⟩
    · omega
    · omega
  · have c4 : bt s (a : Int) = 108 := by
      rcases h3 with e | e | e
      · exact absurd e c3
      · exact e
      · exact absurd e h2.2.1
    rw [if_neg c3, if_neg c3, if_pos c4]
    rcases h2.2.2 with ⟨e1, e2⟩ | ⟨e1, e2⟩
    · omega
    · exact absurd c4 e1
theorem moves_go {s : ByteArray} {m : Int} (h : m ∈ moves s) : 0 ≤ frogTo s m := ((movesF_mem s s.size 0 m).1 h).2
theorem moves_len (s : ByteArray) : (moves s).length ≤ s.size := movesF_len s s.size 0
/-- How many of the values are less than a. -/
def cntL (a : Nat) : List Nat → Nat
  | [] => 0
  | b :: l => (if b < a then 1 else 0) + cntL a l
/-- How many pairs stand the wrong way: a frog that has still to pass what stands before it. -/
def invN : List Nat → Nat
  | [] => 0
  | a :: l => cntL a l + invN l
/-- How many frogs can move, by the two values behind (p2, p1). -/
def nmv : Nat → Nat → List Nat → Nat
  | _, _, [] => 0
  | p2, p1, a :: l => (if (a == 2 && (l.headD 3 == 1 || (l.headD 3 == 0 && l.tail.headD 3 == 1))) || (a == 0 && (p1 == 1 || (p1 == 2 && p2 == 1))) then 1 else 0) + nmv p1 a l
/-- At most so many moves, by the pairs that stand the wrong way. -/
def bnd (r : Nat) : Nat := [0, 1, 2, 2, 3, 3, 4, 4, 4, 4, 5, 5, 5, 5, 5, 5, 5, 5, 6, 6, 6, 5, 5, 5, 4, 4, 3, 2].getD r 0
def ckl (l : List Nat) : Bool := Nat.ble (nmv 3 3 l) (bnd (invN l)) && Nat.ble (invN l) 27
def ckAll : Nat → List Nat → Bool
  | 0, l => ckl l
  | n + 1, l => ckAll n (0 :: l) && (ckAll n (1 :: l) && ckAll n (2 :: l))
set_option maxRecDepth 100000
theorem cntL_pre (a : Nat) (p X : List Nat) : cntL a (p ++ X) = cntL a p + cntL a X := by
  induction p with
  | nil => simp [cntL]
  | cons b p ih => simp only [List.cons_append, cntL, ih]; omega
theorem inv_pre (p X X' : List Nat) (h : ∀ a, cntL a X = cntL a X') (hk : invN X = invN X' + 1) : invN (p ++ X) = invN (p ++ X') + 1 := by
  induction p with
  | nil => exact hk
  | cons b p ih => simp only [List.cons_append, invN, cntL_pre, h]; omega
theorem inv_slide (p q : List Nat) (x y : Nat) (h : y < x) : invN (p ++ x :: y :: q) = invN (p ++ y :: x :: q) + 1 := by
  refine inv_pre p _ _ (fun a => ?_) ?_
  · simp only [cntL]; omega
  · simp only [invN, cntL]; rw [if_pos h, if_neg (by omega)]; omega
theorem inv_right (p q : List Nat) : invN (p ++ 2 :: 0 :: 1 :: q) = invN (p ++ 1 :: 0 :: 2 :: q) + 1 := by
  refine inv_pre p _ _ (fun a => ?_) ?_
  · simp only [cntL]; omega
  · simp only [invN, cntL]; simp; omega
theorem inv_left (p q : List Nat) : invN (p ++ 1 :: 2 :: 0 :: q) = invN (p ++ 0 :: 2 :: 1 :: q) + 1 := by
  refine inv_pre p _ _ (fun a => ?_) ?_
  · simp only [cntL]; omega
  · simp only [invN, cntL]; simp; omega
/-- Each list of the three values was looked at. -/
theorem ckAll_of (n : Nat) : ∀ (q p : List Nat), ckAll n q = true → p.length = n → (∀ x ∈ p, x < 3) → ckl (p.reverse ++ q) = true := by
  induction n with
  | zero => intro q p h hp _; obtain rfl := List.eq_nil_of_length_eq_zero hp; simpa [ckAll] using h
  | succ n ih =>
    intro q p h hp h3
    obtain ⟨x, p, rfl⟩ : ∃ x r, p = x :: r := by cases p with
      | nil => simp at hp
      | cons x r => exact ⟨x, r, rfl⟩
    simp only [ckAll, Bool.and_eq_true] at h
    have hx := h3 x List.mem_cons_self
    have hr : ckAll n (x :: q) = true := by
      rcases (show x = 0 ∨ x = 1 ∨ x = 2 by omega) with rfl | rfl | rfl
      · exact h.1
      · exact h.2.1
      · exact h.2.2
    have := ih (x :: q) p hr (by simpa using hp) (fun y hy => h3 y (List.mem_cons_of_mem _ hy))
    simpa using this
theorem ck_all : (ckAll 1 [] && (ckAll 2 [] && (ckAll 3 [] && (ckAll 4 [] && (ckAll 5 [] && (ckAll 6 [] && (ckAll 7 [] && (ckAll 8 [] && ckAll 9 [])))))))) = true := by decide +kernel
theorem ck_list (l : List Nat) (h1 : 1 ≤ l.length) (h9 : l.length ≤ 9) (h3 : ∀ x ∈ l, x < 3) : nmv 3 3 l ≤ bnd (invN l) ∧ invN l ≤ 27 := by
  have h := ck_all
  simp only [Bool.and_eq_true] at h
  have hn : ckAll l.length [] = true := by
    rcases (show l.length = 1 ∨ l.length = 2 ∨ l.length = 3 ∨ l.length = 4 ∨ l.length = 5 ∨ l.length = 6 ∨ l.length = 7 ∨ l.length = 8 ∨ l.length = 9 by omega) with e | e | e | e | e | e | e | e | e <;> rw [e]
    · exact h.1
    · exact h.2.1
    · exact h.2.2.1
    · exact h.2.2.2.1
    · exact h.2.2.2.2.1
    · exact h.2.2.2.2.2.1
    · exact h.2.2.2.2.2.2.1
    · exact h.2.2.2.2.2.2.2.1
    · exact h.2.2.2.2.2.2.2.2
  have := ckAll_of l.length [] l.reverse hn (by simp) (fun x hx => h3 x (by simpa using hx))
  rw [List.reverse_reverse, List.append_nil] at this
  unfold ckl at this
  simp only [Bool.and_eq_true, Nat.ble_eq] at this
  exact this
/-- So many lists of moves at most, by the pairs that stand the wrong way. -/
def phi : Nat → Nat
  | 0 => 1
  | r + 1 => 1 + bnd (r + 1) * phi r
theorem phi_le (r : Nat) (h : r ≤ 27) : 1 ≤ phi r ∧ phi r ≤ 30000000000000000 := by
  have : ∀ r, r < 28 → 1 ≤ phi r ∧ phi r ≤ 30000000000000000 := by decide +kernel
  exact this r (by omega)
def code (b : Int) : Nat := if b = 114 then 2 else if b = 108 then 0 else 1
def codesF (s : ByteArray) : Nat → Nat → List Nat
  | 0, _ => []
  | d + 1, i => code (bt s (i : Int)) :: codesF s d (i + 1)
theorem codesF_len (s : ByteArray) (d : Nat) : ∀ i : Nat, (codesF s d i).length = d := by
  induction d with
  | zero => intro i; rfl
  | succ d ih => intro i; simp only [codesF, List.length_cons, ih]
theorem codesF_get (s : ByteArray) (d : Nat) : ∀ (i j : Nat), (codesF s d i)[j]? = if j < d then some (code (bt s ((i + j : Nat) : Int))) else none := by
  induction d with
  | zero => intro i j; simp [codesF]
  | succ d ih =>
    intro i j
    cases j with
    | zero => simp [codesF]
    | succ j =>
      simp only [codesF, List.getElem?_cons_succ, ih]
      by_cases h : j < d
      · rw [if_pos h, if_pos (by omega), show i + 1 + j = i + (j + 1) by omega]
      · rw [if_neg h, if_neg (by omega)]
theorem code_lt (b : Int) : code b < 3 := by unfold code; split <;> (try split) <;> omega
theorem codesF_lt (s : ByteArray) (d : Nat) : ∀ (i : Nat), ∀ x ∈ codesF s d i, x < 3 := by
  induction d with
  | zero => intro i x hx; simp [codesF] at hx
  | succ d ih =>
    intro i x hx
    simp only [codesF, List.mem_cons] at hx
    rcases hx with rfl | hx
    · exact code_lt _
    · exact ih _ x hx
def codes (s : ByteArray) : List Nat := codesF s s.size 0
/-- How many moves are left at most, and on the way to any pond how many exactly. -/
def rem (s : ByteArray) : Nat := invN (codes s)
theorem codes_get (s : ByteArray) (j : Nat) : (codes s)[j]? = if j < s.size then some (code (bt s (j : Int))) else none := by
  unfold codes; rw [codesF_get]; simp
theorem blk_eq (L L' : List Nat) (p c : Nat) (h1 : ∀ j, j < p → L[j]? = L'[j]?) (h2 : ∀ j, p + c ≤ j → L[j]? = L'[j]?) : L.take p = L'.take p ∧ L.drop (p + c) = L'.drop (p + c) := by
  constructor
  · apply List.ext_getElem?
    intro j
    rw [List.getElem?_take, List.getElem?_take]
    by_cases h : j < p
    · rw [if_pos h, if_pos h, h1 j h]
    · rw [if_neg h, if_neg h]
  · apply List.ext_getElem?
    intro j
    rw [List.getElem?_drop, List.getElem?_drop, h2 _ (by omega)]
theorem two_at (L : List Nat) (p x y : Nat) (h0 : L[p]? = some x) (h1 : L[p + 1]? = some y) : L = L.take p ++ x :: y :: L.drop (p + 2) := by
  have l0 := (List.getElem?_eq_some_iff.1 h0)
  have l1 := (List.getElem?_eq_some_iff.1 h1)
  have e : L.drop p = x :: y :: L.drop (p + 2) := by
    rw [List.drop_eq_getElem_cons l0.1, List.drop_eq_getElem_cons l1.1, l0.2, l1.2]
  rw [← e, List.take_append_drop]
theorem three_at (L : List Nat) (p x m y : Nat) (h0 : L[p]? = some x) (h1 : L[p + 1]? = some m) (h2 : L[p + 2]? = some y) : L = L.take p ++ x :: m :: y :: L.drop (p + 3) := by
  have l0 := (List.getElem?_eq_some_iff.1 h0)
  have l1 := (List.getElem?_eq_some_iff.1 h1)
  have l2 := (List.getElem?_eq_some_iff.1 h2)
  have e : L.drop p = x :: m :: y :: L.drop (p + 3) := by
    rw [List.drop_eq_getElem_cons l0.1, List.drop_eq_getElem_cons l1.1, List.drop_eq_getElem_cons l2.1, l0.2, l1.2, l2.2]
  rw [← e, List.take_append_drop]
/-- What a move does: a step to the next stone, or a leap over a frog of the other kind. -/
theorem frogTo_cases {s : ByteArray} (hg : Pond s) {i : Int} (h : 0 ≤ frogTo s i) :
    (bt s i = 114 ∧ ((frogTo s i = i + 1 ∧ bt s (i + 1) = 46) ∨ (frogTo s i = i + 2 ∧ bt s (i + 1) = 108 ∧ bt s (i + 2) = 46))) ∨
    (bt s i = 108 ∧ ((frogTo s i = i - 1 ∧ bt s (i - 1) = 46) ∨ (frogTo s i = i - 2 ∧ bt s (i - 1) = 114 ∧ bt s (i - 2) = 46))) := by
  revert h
  unfold frogTo
  by_cases c : (0 ≤ i ∧ i < (s.size : Int)) ∧ ¬ bt s i = 46
  · rw [if_pos c]
    by_cases k : bt s i = 108
    · rw [if_pos k]
      by_cases c1 : (0 ≤ i + -1 ∧ i + -1 < (s.size : Int)) ∧ bt s (i + -1) = 46
      · rw [if_pos c1]; intro _; exact .inr ⟨k, .inl ⟨rfl, c1.2⟩⟩
      · rw [if_neg c1]
        by_cases c2 : ((0 ≤ i + 2 * -1 ∧ i + 2 * -1 < (s.size : Int)) ∧ bt s (i + 2 * -1) = 46) ∧ ¬ bt s (i + -1) = bt s i
        · rw [if_pos c2]; intro _
          have h3 := hg.2 (i + -1) (by omega) (by omega)
          refine .inr ⟨k, .inr ⟨by omega, ?_, ?_⟩⟩
          · rcases h3 with e | e | e
            · exact e
            · exact absurd (e.trans k.symm) c2.2
            · exact absurd ⟨⟨by omega, by omega⟩, e⟩ c1
          · have := c2.1.2; rw [show i - 2 = i + 2 * -1 by omega]; exact this
        · rw [if_neg c2]; intro h; omega
    · rw [if_neg k]
      have k' : bt s i = 114 := by
        rcases hg.2 i c.1.1 c.1.2 with e | e | e
        · exact e
        · exact absurd e k
        · exact absurd e c.2
      by_cases c1 : (0 ≤ i + 1 ∧ i + 1 < (s.size : Int)) ∧ bt s (i + 1) = 46
      · rw [if_pos c1]; intro _; exact .inl ⟨k', .inl ⟨rfl, c1.2⟩⟩
      · rw [if_neg c1]
        by_cases c2 : ((0 ≤ i + 2 * 1 ∧ i + 2 * 1 < (s.size : Int)) ∧ bt s (i + 2 * 1) = 46) ∧ ¬ bt s (i + 1) = bt s i
        · rw [if_pos c2]; intro _
          have h3 := hg.2 (i + 1) (by omega) (by omega)
          refine .inl ⟨k', .inr ⟨by omega, ?_, ?_⟩⟩
          · rcases h3 with e | e | e
            · exact absurd (e.trans k'.symm) c2.2
            · exact e
            · exact absurd ⟨⟨by omega, by omega⟩, e⟩ c1
          · have := c2.1.2; rw [show i + 2 = i + 2 * 1 by omega]; exact this
        · rw [if_neg c2]; intro h; omega
  · rw [if_neg c]; intro h; omega
theorem codes_moved (s : ByteArray) (i : Int) (hi : 0 ≤ i ∧ i < (s.size : Int)) (j : Nat) : (codes (movedB s i))[j]? = if j < s.size then some (if (j : Int) = i then 1 else if (j : Int) = frogTo s i then code (bt s i) else code (bt s (j : Int))) else none := by
  rw [codes_get, moved_size]
  by_cases h : j < s.size
  · rw [if_pos h, if_pos h, bt_moved s i j h hi]
    congr 1
    by_cases c1 : (j : Int) = i
    · rw [if_pos c1, if_pos c1]; rfl
    · rw [if_neg c1, if_neg c1]
      by_cases c2 : (j : Int) = frogTo s i
      · rw [if_pos c2, if_pos c2]
      · rw [if_neg c2, if_neg c2]
  · rw [if_neg h, if_neg h]
/-- Each move rights one pair. -/
theorem rem_moved {s : ByteArray} (hg : Pond s) {i : Int} (h : 0 ≤ frogTo s i) : rem (movedB s i) + 1 = rem s := by
  have hin := frogTo_in h
  have hc := frogTo_cases hg h
  obtain ⟨a, rfl⟩ : ∃ a : Nat, i = (a : Int) := ⟨i.toNat, by omega⟩
  obtain ⟨b, hb⟩ : ∃ b : Nat, frogTo s (a : Int) = (b : Int) := ⟨(frogTo s (a : Int)).toNat, by omega⟩
  rw [hb] at hc hin
  have hL := fun j => codes_get s j
  have hM := fun j => codes_moved s (a : Int) hin.1 j
  rw [hb] at hM
  unfold rem
  obtain ⟨L, hLe⟩ : ∃ L, codes s = L := ⟨_, rfl⟩
  obtain ⟨M, hMe⟩ : ∃ M, codes (movedB s (a : Int)) = M := ⟨_, rfl⟩
  rw [hLe] at hL ⊢
  rw [hMe] at hM ⊢
  have out : ∀ j : Nat, j ≠ a → j ≠ b → M[j]? = L[j]? := by
    intro j h1 h2
    rw [hL, hM]
    by_cases h : j < s.size
    · rw [if_pos h, if_pos h, if_neg (by omega), if_neg (by omega)]
    · rw [if_neg h, if_neg h]
  have la : L[a]? = some (code (bt s (a : Int))) := by rw [hL, if_pos (by omega)]
  have lb : L[b]? = some (code (bt s (b : Int))) := by rw [hL, if_pos (by omega)]
  have ma : M[a]? = some 1 := by rw [hM, if_pos (by omega), if_pos rfl]
  have mb : M[b]? = some (code (bt s (a : Int))) := by rw [hM, if_pos (by omega), if_neg (by omega), if_pos rfl]
  rcases hc with ⟨k, ⟨e, k1⟩ | ⟨e, k1, k2⟩⟩ | ⟨k, ⟨e, k1⟩ | ⟨e, k1, k2⟩⟩
  · obtain rfl : b = a + 1 := by omega
    rw [k] at la mb
    rw [show ((a + 1 : Nat) : Int) = (a : Int) + 1 by omega, k1] at lb
    have b1 := blk_eq L M a 2 (fun j hj => (out j (by omega) (by omega)).symm) (fun j hj => (out j (by omega) (by omega)).symm)
    rw [two_at L a 2 1 la lb, two_at M a 1 2 ma mb, b1.1, b1.2]
    exact (inv_slide _ _ 2 1 (by omega)).symm
  · obtain rfl : b = a + 2 := by omega
    rw [k] at la mb
    rw [show ((a + 2 : Nat) : Int) = (a : Int) + 2 by omega, k2] at lb
    have lm : L[a + 1]? = some 0 := by rw [hL, if_pos (by omega), show ((a + 1 : Nat) : Int) = (a : Int) + 1 by omega, k1]; rfl
    have mm : M[a + 1]? = some 0 := by rw [out (a + 1) (by omega) (by omega)]; exact lm
    have b1 := blk_eq L M a 3 (fun j hj => (out j (by omega) (by omega)).symm) (fun j hj => (out j (by omega) (by omega)).symm)
    rw [three_at L a 2 0 1 la lm lb, three_at M a 1 0 2 ma mm mb, b1.1, b1.2]
    exact (inv_right _ _).symm
  · obtain rfl : a = b + 1 := by omega
    rw [k] at la mb
    rw [show ((b : Nat) : Int) = ((b + 1 : Nat) : Int) - 1 by omega, k1] at lb
    have b1 := blk_eq L M b 2 (fun j hj => (out j (by omega) (by omega)).symm) (fun j hj => (out j (by omega) (by omega)).symm)
    rw [two_at L b 1 0 lb la, two_at M b 0 1 mb ma, b1.1, b1.2]
    exact (inv_slide _ _ 1 0 (by omega)).symm
  · obtain rfl : a = b + 2 := by omega
    rw [k] at la mb
    rw [show ((b : Nat) : Int) = ((b + 2 : Nat) : Int) - 2 by omega, k2] at lb
    have lm : L[b + 1]? = some 2 := by rw [hL, if_pos (by omega), show ((b + 1 : Nat) : Int) = ((b + 2 : Nat) : Int) - 1 by omega, k1]; rfl
    have mm : M[b + 1]? = some 2 := by rw [out (b + 1) (by omega) (by omega)]; exact lm
    have b1 := blk_eq L M b 3 (fun j hj => (out j (by omega) (by omega)).symm) (fun j hj => (out j (by omega) (by omega)).symm)
    rw [three_at L b 1 2 0 lb lm la, three_at M b 0 2 1 mb mm ma, b1.1, b1.2]
    exact (inv_left _ _).symm
def prev (s : ByteArray) (i c : Nat) : Nat := if c ≤ i then code (bt s ((i - c : Nat) : Int)) else 3
/-- Whether a frog can move, by the signs about it. -/
theorem move_iff {s : ByteArray} (hg : Pond s) (d i : Nat) (hd : i + 1 + d = s.size) :
    ((code (bt s (i : Int)) == 2 && ((codesF s d (i + 1)).headD 3 == 1 || ((codesF s d (i + 1)).headD 3 == 0 && (codesF s d (i + 1)).tail.headD 3 == 1))) || (code (bt s (i : Int)) == 0 && (prev s i 1 == 1 || (prev s i 1 == 2 && prev s i 2 == 1)))) = decide (frogTo s (i : Int) ≥ 0) := by
  have e1 : (codesF s d (i + 1)).headD 3 = if 1 ≤ d then code (bt s ((i : Int) + 1)) else 3 := by
    cases d with
    | zero => rfl
    | succ d => simp only [codesF, List.headD_cons]; rw [if_pos (by omega)]; congr 1
  have e2 : (codesF s d (i + 1)).tail.headD 3 = if 2 ≤ d then code (bt s ((i : Int) + 2)) else 3 := by
    cases d with
    | zero => rfl
    | succ d =>
      cases d with
      | zero => rfl
      | succ d => simp only [codesF, List.tail_cons, List.headD_cons]; rw [if_pos (by omega)]; congr 1
  have p1 : prev s i 1 = if 1 ≤ i then code (bt s ((i : Int) - 1)) else 3 := by
    unfold prev
    by_cases h : 1 ≤ i
    · rw [if_pos h, if_pos h, show ((i - 1 : Nat) : Int) = (i : Int) - 1 by omega]
    · rw [if_neg h, if_neg h]
  have p2 : prev s i 2 = if 2 ≤ i then code (bt s ((i : Int) - 2)) else 3 := by
    unfold prev
    by_cases h : 2 ≤ i
    · rw [if_pos h, if_pos h, show ((i - 2 : Nat) : Int) = (i : Int) - 2 by omega]
    · rw [if_neg h, if_neg h]
  rw [e1, e2, p1, p2]
  have c2 : ∀ b : Int, (b = 114 ∨ b = 108 ∨ b = 46) → ((code b == 2) = decide (b = 114)) ∧ ((code b == 0) = decide (b = 108)) ∧ ((code b == 1) = decide (b = 46)) := by
    rintro b (rfl | rfl | rfl) <;> decide
  have g0 := hg.2 (i : Int) (by omega) (by omega)
  have f0 := c2 _ g0
  rw [f0.1, f0.2.1, Bool.eq_iff_iff, decide_eq_true_iff]
  constructor
  · intro h
    unfold frogTo
    rw [Bool.or_eq_true] at h
    rcases h with h | h
    · rw [Bool.and_eq_true, decide_eq_true_iff] at h
      obtain ⟨k, h⟩ := h
      rw [if_pos ⟨⟨by omega, by omega⟩, by omega⟩, if_neg (show ¬ bt s (i : Int) = 108 by omega)]
      rw [Bool.or_eq_true] at h
      rcases h with h | h
      · by_cases hd1 : 1 ≤ d
        · rw [if_pos hd1] at h
          have := c2 _ (hg.2 ((i : Int) + 1) (by omega) (by omega))
          rw [this.2.2, decide_eq_true_iff] at h
          rw [if_pos ⟨⟨by omega, by omega⟩, h⟩]; omega
        · rw [if_neg hd1] at h; simp at h
      · rw [Bool.and_eq_true] at h
        obtain ⟨h1, h2⟩ := h
        by_cases hd2 : 2 ≤ d
        · rw [if_pos hd2] at h2
          rw [if_pos (by omega)] at h1
          have q1 := c2 _ (hg.2 ((i : Int) + 1) (by omega) (by omega))
          have q2 := c2 _ (hg.2 ((i : Int) + 2) (by omega) (by omega))
          rw [q1.2.1, decide_eq_true_iff] at h1
          rw [q2.2.2, decide_eq_true_iff] at h2
          rw [if_neg (fun c => by have := c.2; omega), if_pos ⟨⟨⟨by omega, by omega⟩, h2⟩, by omega⟩]; omega
        · rw [if_neg hd2] at h2; simp at h2
    · rw [Bool.and_eq_true, decide_eq_true_iff] at h
      obtain ⟨k, h⟩ := h
      rw [if_pos ⟨⟨by omega, by omega⟩, by omega⟩, if_pos k]
      rw [Bool.or_eq_true] at h
      rcases h with h | h
      · by_cases hd1 : 1 ≤ i
        · rw [if_pos hd1] at h
          have := c2 _ (hg.2 ((i : Int) - 1) (by omega) (by omega))
          rw [this.2.2, decide_eq_true_iff] at h
          rw [if_pos ⟨⟨by omega, by omega⟩, h⟩]; omega
        · rw [if_neg hd1] at h; simp at h
      · rw [Bool.and_eq_true] at h
        obtain ⟨h1, h2⟩ := h
        by_cases hd2 : 2 ≤ i
        · rw [if_pos hd2] at h2
          rw [if_pos (by omega)] at h1
          have q1 := c2 _ (hg.2 ((i : Int) - 1) (by omega) (by omega))
          have q2 := c2 _ (hg.2 ((i : Int) - 2) (by omega) (by omega))
          rw [q1.1, decide_eq_true_iff] at h1
          rw [q2.2.2, decide_eq_true_iff] at h2
          rw [if_neg (fun c => by have := c.2; rw [show (i : Int) + -1 = (i : Int) - 1 by omega] at this; omega), if_pos ⟨⟨⟨by omega, by omega⟩, h2⟩, by rw [show (i : Int) + -1 = (i : Int) - 1 by omega]; omega⟩]; omega
        · rw [if_neg hd2] at h2; simp at h2
  · intro h
    have hin := frogTo_in h
    rcases frogTo_cases hg h with ⟨k, ⟨e, k1⟩ | ⟨e, k1, k2⟩⟩ | ⟨k, ⟨e, k1⟩ | ⟨e, k1, k2⟩⟩
    · rw [if_pos (show 1 ≤ d by omega), k1]; simp [k, code]
    · rw [if_pos (show 1 ≤ d by omega), if_pos (show 2 ≤ d by omega), k1, k2]; simp [k, code]
    · rw [if_pos (show 1 ≤ i by omega), k1]; simp [k, code]
    · rw [if_pos (show 1 ≤ i by omega), if_pos (show 2 ≤ i by omega), k1, k2]; simp [k, code]
theorem moves_nmv {s : ByteArray} (hg : Pond s) (d : Nat) : ∀ i : Nat, i + d = s.size → (movesF s d i).length = nmv (prev s i 2) (prev s i 1) (codesF s d i) := by
  induction d with
  | zero => intro i _; rfl
  | succ d ih =>
    intro i hi
    have q := move_iff hg d i (by omega)
    have r := ih (i + 1) (by omega)
    have s1 : prev s (i + 1) 2 = prev s i 1 := by
      unfold prev
      by_cases h : 1 ≤ i
      · rw [if_pos h, if_pos (by omega), show i + 1 - 2 = i - 1 by omega]
      · rw [if_neg h, if_neg (by omega)]
    have s2 : prev s (i + 1) 1 = code (bt s (i : Int)) := by
      unfold prev; rw [if_pos (by omega), show i + 1 - 1 = i by omega]
    rw [s1, s2] at r
    simp only [movesF, codesF, nmv, q]
    by_cases h : frogTo s (i : Int) ≥ 0
    · rw [if_pos h, if_pos (decide_eq_true h), List.length_cons, r]; omega
    · rw [if_neg h, if_neg (by simp [h]), r]; omega
theorem moves_bnd {s : ByteArray} (hg : Pond s) : (moves s).length ≤ bnd (rem s) ∧ rem s ≤ 27 := by
  have h := ck_list (codes s) (by unfold codes; rw [codesF_len]; exact hg.1.1) (by unfold codes; rw [codesF_len]; exact hg.1.2) (codesF_lt s s.size 0)
  have e := moves_nmv hg s.size 0 (by omega)
  unfold moves rem
  rw [e]
  exact h
theorem BA_eq {a b : ByteArray} (h : a.toList = b.toList) : a = b := by
  rw [Lib.toList_data, Lib.toList_data] at h
  cases a; cases b
  congr 1
  exact Array.toList_inj.1 h
/-- Is a text among the texts? -/
def has (xs : List ByteArray) (t : ByteArray) : Bool := decide (t.data.toList ∈ xs.map (fun u => u.data.toList))
theorem has_iff (xs : List ByteArray) (t : ByteArray) : has xs t = true ↔ t ∈ xs := by
  unfold has
  rw [decide_eq_true_iff, List.mem_map]
  constructor
  · rintro ⟨u, hu, e⟩
    have : u = t := BA_eq (by rw [Lib.toList_data, Lib.toList_data]; exact e)
    exact this ▸ hu
  · intro h; exact ⟨t, h, rfl⟩
/-- Ponds of one length, each once. -/
def Inv (n : Nat) (xs : List ByteArray) : Prop := (∀ s ∈ xs, Pond s ∧ s.size = n) ∧ xs.Nodup
/-- All texts of three signs of one length. -/
def strs : Nat → List (List UInt8)
  | 0 => [[]]
  | n + 1 => (strs n).map (fun l => 46 :: l) ++ ((strs n).map (fun l => 108 :: l) ++ (strs n).map (fun l => 114 :: l))
theorem strs_len (n : Nat) : (strs n).length = 3 ^ n := by
  induction n with
  | zero => rfl
  | succ n ih => simp only [strs, List.length_append, List.length_map, ih]; omega
theorem strs_mem : ∀ (l : List UInt8), (∀ x ∈ l, x = 114 ∨ x = 108 ∨ x = 46) → l ∈ strs l.length := by
  intro l
  induction l with
  | nil => intro _; simp [strs]
  | cons a l ih =>
    intro h
    have h1 := ih (fun x hx => h x (List.mem_cons_of_mem _ hx))
    simp only [strs, List.length_cons, List.mem_append, List.mem_map]
    rcases h a List.mem_cons_self with rfl | rfl | rfl
    · exact .inr (.inr ⟨l, h1, rfl⟩)
    · exact .inr (.inl ⟨l, h1, rfl⟩)
    · exact .inl ⟨l, h1, rfl⟩
theorem nodup_len {α : Type} [DecidableEq α] : ∀ (l m : List α), l.Nodup → (∀ x ∈ l, x ∈ m) → l.length ≤ m.length := by
  intro l
  induction l with
  | nil => intro m _ _; simp
  | cons a l ih =>
    intro m hn hs
    rw [List.nodup_cons] at hn
    have ha := hs a List.mem_cons_self
    have h := ih (m.erase a) hn.2 (fun x hx => by
      have hne : x ≠ a := fun e => hn.1 (e ▸ hx)
      exact (List.mem_erase_of_ne hne).2 (hs x (List.mem_cons_of_mem _ hx)))
    rw [List.length_erase_of_mem ha] at h
    have : 0 < m.length := List.length_pos_of_mem ha
    simp only [List.length_cons]; omega
theorem pond_bytes {s : ByteArray} (hg : Pond s) : ∀ x ∈ s.data.toList, x = 114 ∨ x = 108 ∨ x = 46 := by
  intro x hx
  obtain ⟨n, hn, rfl⟩ := List.mem_iff_getElem.1 hx
  have hb := bt_list s n hn
  have hlt : n < s.size := by simpa using hn
  have := hg.2 n (by omega) (by omega)
  rw [hb] at this
  rcases this with e | e | e
  · left; apply UInt8.toNat_inj.1; simpa using Int.ofNat.inj e
  · right; left; apply UInt8.toNat_inj.1; simpa using Int.ofNat.inj e
  · right; right; apply UInt8.toNat_inj.1; simpa using Int.ofNat.inj e
theorem inv_len {n : Nat} (hn : n ≤ 9) {xs : List ByteArray} (h : Inv n xs) : xs.length ≤ 19683 := by
  have h1 := nodup_len (xs.map (fun s => s.data.toList)) (strs n) (by
    have h2 := h.2
    unfold List.Nodup at h2 ⊢
    rw [List.pairwise_map]
    exact h2.imp (fun hne e => hne (BA_eq (by rw [Lib.toList_data, Lib.toList_data]; exact e)))) (by
    intro x hx
    rw [List.mem_map] at hx
    obtain ⟨s, hs, rfl⟩ := hx
    have h3 := h.1 s hs
    have h4 := strs_mem s.data.toList (pond_bytes h3.1)
    rw [show s.data.toList.length = n by rw [← h3.2]; simp] at h4
    exact h4)
  rw [List.length_map, strs_len] at h1
  have h5 : 3 ^ n ≤ 3 ^ 9 := Nat.pow_le_pow_right (by decide) hn
  have h6 : (3 : Nat) ^ 9 = 19683 := by decide
  omega
def fstep (FT : ByteArray → plF) (s : ByteArray) (o : plF) (m : Int) : plF := if (FT (movedB s m)).2.2 = 0 then o else plUpd o (FT (movedB s m))
/-- The fate of a pond out of the fates behind its moves. -/
def ffold (FT : ByteArray → plF) (Eb : ByteArray → Bool) (s : ByteArray) : plF := (moves s).foldl (fstep FT s) (if Eb s = true then (0, 0, 1) else (-1, -1, 0))
def keysM (M : plM) : List ByteArray := M.map (fun e => e.1)
/-- What is known is right. -/
structure VM (FT : ByteArray → plF) (n : Nat) (M : plM) : Prop where
  inv : Inv n (keysM M)
  val : ∀ e ∈ M, e.2 = FT e.1
theorem fnd_some (FT : ByteArray → plF) (s : ByteArray) : ∀ (M : plM) (f : plF), plFnd M s = some f → (∀ e ∈ M, e.2 = FT e.1) → f = FT s
  | [], f, h, _ => by simp [plFnd] at h
  | (t, g) :: M, f, h, hv => by
    simp only [plFnd] at h
    by_cases c : t.data.toList = s.data.toList
    · rw [if_pos c] at h
      have e : t = s := BA_eq (by rw [Lib.toList_data, Lib.toList_data]; exact c)
      have := hv (t, g) List.mem_cons_self
      rw [← Option.some.inj h]
      rw [← e]; exact this
    · rw [if_neg c] at h
      exact fnd_some FT s M f h (fun e he => hv e (List.mem_cons_of_mem _ he))
theorem fnd_none (s : ByteArray) : ∀ (M : plM), plFnd M s = none → s ∉ keysM M
  | [], _ => by simp [keysM]
  | (t, g) :: M, h => by
    simp only [plFnd] at h
    by_cases c : t.data.toList = s.data.toList
    · rw [if_pos c] at h; cases h
    · rw [if_neg c] at h
      have ih := fnd_none s M h
      simp only [keysM, List.map_cons, List.mem_cons, not_or] at ih ⊢
      exact ⟨fun e => c (by rw [e]), ih⟩
theorem vm_nil (FT : ByteArray → plF) (n : Nat) : VM FT n [] := ⟨⟨fun s hs => by simp [keysM] at hs, by simp [keysM]⟩, fun e he => by simp at he⟩
section
variable (E : ByteArray → Option Bool) (Eb : ByteArray → Bool) (FT : ByteArray → plF) (k n : Nat) (hk : 10 < k) (hn9 : n ≤ 9)
  (hE : ∀ s, Pond s → s.size = n → E s = some (Eb s)) (hFT : ∀ s, Pond s → s.size = n → FT s = ffold FT Eb s)
include hk hn9 hE hFT
theorem memo (d : Nat) : ∀ (s : ByteArray) (M : plM), Pond s → s.size = n → rem s < d → VM FT n M → ∃ M', plOf E k d M s = some (FT s, M') ∧ VM FT n M' ∧ ∀ t, t ∈ keysM M' → t ∈ keysM M ∨ rem t ≤ rem s := by
  induction d with
  | zero => intro s M _ _ h; omega
  | succ d ih =>
    intro s M hg hs hr hV
    have hml := moves_len s
    simp only [plOf]
    rw [if_pos (by omega)]
    cases hf : plFnd M s with
    | some f =>
      have := fnd_some FT s M f hf hV.val
      subst this
      exact ⟨M, rfl, hV, fun t ht => .inl ht⟩
    | none =>
      have rnd : ∀ (rest : List Int), (∀ m ∈ rest, 0 ≤ frogTo s m) → ∀ (o : plF) (M1 : plM), VM FT n M1 → ∃ M2, plRnd (plOf E k d) s rest o M1 = some (rest.foldl (fstep FT s) o, M2) ∧ VM FT n M2 ∧ ∀ t, t ∈ keysM M2 → t ∈ keysM M1 ∨ rem t < rem s := by
        intro rest
        induction rest with
        | nil => intro _ o M1 h1; exact ⟨M1, rfl, h1, fun t ht => .inl ht⟩
        | cons m rest ihr =>
          intro hm o M1 h1
          have hgo := hm m List.mem_cons_self
          have hrm := rem_moved hg hgo
          obtain ⟨M2, e2, v2, k2⟩ := ih (movedB s m) M1 (pond_moved hg hgo) (by rw [moved_size]; exact hs) (by omega) h1
          obtain ⟨M3, e3, v3, k3⟩ := ihr (fun x hx => hm x (List.mem_cons_of_mem _ hx)) (fstep FT s o m) M2 v2
          refine ⟨M3, ?_, v3, fun t ht => ?_⟩
          · simp only [plRnd, hopped_eq hg hgo, Option.bind_some, e2, List.foldl_cons]
            exact e3
          · rcases k3 t ht with h | h
            · rcases k2 t h with h | h
              · exact .inl h
              · exact .inr (by omega)
            · exact .inr h
      obtain ⟨M2, e2, v2, k2⟩ := rnd (moves s) (fun m hm => moves_go hm) (if Eb s = true then (0, 0, 1) else (-1, -1, 0)) M hV
      have hl := inv_len hn9 v2.inv
      rw [keysM, List.length_map] at hl
      refine ⟨(s, FT s) :: M2, ?_, ⟨⟨?_, ?_⟩, ?_⟩, ?_⟩
      · simp only [hE s hg hs, hops_eq (show s.size ≤ 9 by omega) hk, Option.bind_some]
        rw [if_pos (by omega), e2]
        simp only [Option.bind_some]
        rw [if_pos (by omega), hFT s hg hs]; rfl
      · intro t ht
        simp only [keysM, List.map_cons, List.mem_cons] at ht
        rcases ht with rfl | ht
        · exact ⟨hg, hs⟩
        · exact v2.inv.1 t ht
      · simp only [keysM, List.map_cons, List.nodup_cons]
        refine ⟨fun h => ?_, v2.inv.2⟩
        rcases k2 s h with h | h
        · exact fnd_none s M hf h
        · omega
      · intro e he
        rw [List.mem_cons] at he
        rcases he with rfl | he
        · rfl
        · exact v2.val e he
      · intro t ht
        simp only [keysM, List.map_cons, List.mem_cons] at ht
        rcases ht with rfl | ht
        · exact .inr (Nat.le_refl _)
        · rcases k2 t ht with h | h
          · exact .inl h
          · exact .inr (by omega)
end
/-- The moves that are told one after another, so many. -/
def pathF (FT : ByteArray → plF) (told : plF → Int) : Nat → ByteArray → List Int
  | 0, _ => []
  | l + 1, s => match (moves s).find? (fun m => decide (0 < (FT (movedB s m)).2.2 ∧ told (FT (movedB s m)) = (l : Int))) with
    | some m => m :: pathF FT told l (movedB s m)
    | none => pathF FT told l s
theorem pathF_len (FT : ByteArray → plF) (told : plF → Int) : ∀ (l : Nat) (s : ByteArray), (pathF FT told l s).length ≤ l
  | 0, _ => by simp [pathF]
  | l + 1, s => by
    simp only [pathF]
    split
    · have := pathF_len FT told l (movedB s ‹Int›); simp only [List.length_cons]; omega
    · have := pathF_len FT told l s; omega
section
variable (E : ByteArray → Option Bool) (Eb : ByteArray → Bool) (FT : ByteArray → plF) (told : plF → Int) (k n d : Nat) (hk : 10 < k) (hn9 : n ≤ 9) (hd : 28 ≤ d)
  (hE : ∀ s, Pond s → s.size = n → E s = some (Eb s)) (hFT : ∀ s, Pond s → s.size = n → FT s = ffold FT Eb s)
include hk hn9 hd hE hFT
theorem loop_eq (l : Nat) : ∀ (s : ByteArray) (out : List Int) (M : plM), Pond s → s.size = n → VM FT n M → out.length + l ≤ 1000000 → plLoop (plOf E k d) told k l s out M = some (out ++ pathF FT told l s) := by
  induction l with
  | zero => intro s out M _ _ _ _; simp [plLoop, pathF]
  | succ l ih =>
    intro s out M hg hs hV ho
    have hml := moves_len s
    have fnd : ∀ (rest : List Int), (∀ m ∈ rest, 0 ≤ frogTo s m) → ∀ (M1 : plM), VM FT n M1 → ∃ M2, plFind (plOf E k d) told s l rest M1 = some ((rest.find? (fun m => decide (0 < (FT (movedB s m)).2.2 ∧ told (FT (movedB s m)) = (l : Int)))).map (fun m => (m, movedB s m)), M2) ∧ VM FT n M2 := by
      intro rest
      induction rest with
      | nil => intro _ M1 h1; exact ⟨M1, rfl, h1⟩
      | cons m rest ihr =>
        intro hm M1 h1
        have hgo := hm m List.mem_cons_self
        have hr := (moves_bnd (pond_moved hg hgo)).2
        obtain ⟨M2, e2, v2, _⟩ := memo E Eb FT k n hk hn9 hE hFT d (movedB s m) M1 (pond_moved hg hgo) (by rw [moved_size]; exact hs) (by omega) h1
        simp only [plFind, hopped_eq hg hgo, Option.bind_some, e2]
        by_cases c : 0 < (FT (movedB s m)).2.2 ∧ told (FT (movedB s m)) = (l : Int)
        · rw [if_pos c]
          exact ⟨M2, by rw [List.find?_cons_of_pos (by exact decide_eq_true c)]; rfl, v2⟩
        · rw [if_neg c]
          obtain ⟨M3, e3, v3⟩ := ihr (fun x hx => hm x (List.mem_cons_of_mem _ hx)) M2 v2
          exact ⟨M3, by rw [e3, List.find?_cons_of_neg (by simpa using c)], v3⟩
    obtain ⟨M2, e2, v2⟩ := fnd (moves s) (fun m hm => moves_go hm) M hV
    simp only [plLoop, pathF, hops_eq (show s.size ≤ 9 by omega) hk, Option.bind_some]
    rw [if_pos ⟨by omega, by omega⟩, e2]
    simp only [Option.bind_some]
    cases hx : (moves s).find? (fun m => decide (0 < (FT (movedB s m)).2.2 ∧ told (FT (movedB s m)) = (l : Int))) with
    | none =>
      simp only [Option.map_none]
      exact ih s out M2 hg hs v2 (by omega)
    | some m =>
      have hm := moves_go (List.mem_of_find?_eq_some hx)
      simp only [Option.map_some]
      rw [ih (movedB s m) (out ++ [m]) M2 (pond_moved hg hm) (by rw [moved_size]; exact hs) v2 (by simp; omega)]
      simp
theorem fst_eq (s : ByteArray) (M : plM) (hg : Pond s) (hs : s.size = n) (hV : VM FT n M) (ht : told (FT s) ≤ 1000) : plFst E told k d M s = some (pathF FT told (told (FT s)).toNat s) := by
  have hr := (moves_bnd hg).2
  obtain ⟨M2, e2, v2, _⟩ := memo E Eb FT k n hk hn9 hE hFT d s M hg hs (by omega) hV
  unfold plFst
  rw [e2]
  simp only [Option.bind_some]
  rw [if_pos (by omega), loop_eq E Eb FT told k n d hk hn9 hd hE hFT _ s [] M2 hg hs v2 (by simp; omega)]
  simp
end
def FTd (Eb : ByteArray → Bool) : Nat → ByteArray → plF
  | 0, _ => (-1, -1, 0)
  | d + 1, s => (moves s).foldl (fstep (FTd Eb d) s) (if Eb s = true then (0, 0, 1) else (-1, -1, 0))
/-- The fate of a pond. -/
def FT (Eb : ByteArray → Bool) (s : ByteArray) : plF := FTd Eb (rem s + 1) s
theorem foldl_congr {α β : Type} (f g : α → β → α) : ∀ (l : List β) (a : α), (∀ x ∈ l, ∀ b, f b x = g b x) → l.foldl f a = l.foldl g a
  | [], _, _ => rfl
  | x :: l, a, h => by
    simp only [List.foldl_cons]
    rw [h x List.mem_cons_self]
    exact foldl_congr f g l _ (fun y hy => h y (List.mem_cons_of_mem _ hy))
theorem FT_eq (Eb : ByteArray → Bool) (s : ByteArray) (hg : Pond s) : FT Eb s = ffold (FT Eb) Eb s := by
  have h : FT Eb s = (moves s).foldl (fstep (FTd Eb (rem s)) s) (if Eb s = true then (0, 0, 1) else (-1, -1, 0)) := rfl
  rw [h]
  unfold ffold
  refine foldl_congr _ _ _ _ (fun m hm b => ?_)
  have hgo := moves_go hm
  have hr := rem_moved hg hgo
  have e : FTd Eb (rem s) (movedB s m) = FT Eb (movedB s m) := by unfold FT; rw [hr]
  unfold fstep
  rw [e]
/-- No number of a fate leaves its bounds. -/
structure FB (s : ByteArray) (r : Nat) (f : plF) : Prop where
  l : -1 ≤ f.1 ∧ f.1 ≤ r
  m : -1 ≤ f.2.1 ∧ f.2.1 ≤ r
  w : 0 ≤ f.2.2 ∧ f.2.2 ≤ (phi r : Int)
/-- What one more move does, where no number wraps. -/
def upd (o n : plF) : plF := (if o.1 < 0 ∨ n.1 + 1 < o.1 then n.1 + 1 else o.1, if o.2.1 < n.2.1 + 1 then n.2.1 + 1 else o.2.1, o.2.2 + n.2.2)
theorem plUpd_eq {o n : plF} (h1 : -1 ≤ n.1 ∧ n.1 ≤ 100) (h2 : -1 ≤ n.2.1 ∧ n.2.1 ≤ 100) (h3 : 0 ≤ n.2.2 ∧ n.2.2 ≤ 30000000000000000) (h4 : 0 ≤ o.2.2 ∧ o.2.2 ≤ 1000000000000000000) : plUpd o n = upd o n := by
  unfold plUpd upd mx
  rw [w64 (x := n.1 + 1) (by omega) (by omega), w64 (x := n.2.1 + 1) (by omega) (by omega), w64 (x := o.2.2 + n.2.2) (by omega) (by omega)]
/-- A step of the fold over the moves, where no number wraps. -/
def gstep (Eb : ByteArray → Bool) (s : ByteArray) (o : plF) (m : Int) : plF := if (FT Eb (movedB s m)).2.2 = 0 then o else upd o (FT Eb (movedB s m))
theorem fold_bound (Eb : ByteArray → Bool) (s : ByteArray) (hg : Pond s) (ih : ∀ m ∈ moves s, FB (movedB s m) (rem s - 1) (FT Eb (movedB s m))) (rest : List Int) : ∀ (o : plF) (j : Nat), (∀ m ∈ rest, m ∈ moves s) → (-1 ≤ o.1 ∧ o.1 ≤ rem s) → (-1 ≤ o.2.1 ∧ o.2.1 ≤ rem s) → (0 ≤ o.2.2 ∧ o.2.2 ≤ 1 + (j : Int) * (phi (rem s - 1) : Int)) → j + rest.length ≤ 9 →
    rest.foldl (fstep (FT Eb) s) o = rest.foldl (gstep Eb s) o ∧ (-1 ≤ (rest.foldl (gstep Eb s) o).1 ∧ (rest.foldl (gstep Eb s) o).1 ≤ rem s) ∧ (-1 ≤ (rest.foldl (gstep Eb s) o).2.1 ∧ (rest.foldl (gstep Eb s) o).2.1 ≤ rem s) ∧ (0 ≤ (rest.foldl (gstep Eb s) o).2.2 ∧ (rest.foldl (gstep Eb s) o).2.2 ≤ 1 + ((j + rest.length : Nat) : Int) * (phi (rem s - 1) : Int)) := by
  have h27 := (moves_bnd hg).2
  have hphi := phi_le (rem s - 1) (by omega)
  induction rest with
  | nil => intro o j _ h1 h2 h3 _; exact ⟨rfl, h1, h2, by simpa using h3⟩
  | cons m rest ihr =>
    intro o j hm h1 h2 h3 hj
    simp only [List.length_cons] at hj
    have hmm := hm m List.mem_cons_self
    have hgo := moves_go hmm
    have hr := rem_moved hg hgo
    have hb := ih m hmm
    obtain ⟨n, hn⟩ : ∃ n, FT Eb (movedB s m) = n := ⟨_, rfl⟩
    rw [hn] at hb
    have hbl := hb.l
    have hbm := hb.m
    have hbw := hb.w
    obtain ⟨P, hP⟩ : ∃ P : Int, (phi (rem s - 1) : Int) = P := ⟨_, rfl⟩
    have hP0 : 1 ≤ P ∧ P ≤ 30000000000000000 := by omega
    rw [hP] at h3 hbw
    have hjP : (j : Int) * P ≤ 9 * 30000000000000000 := Int.le_trans (Int.mul_le_mul (show (j : Int) ≤ 9 by omega) hP0.2 (by omega) (by omega)) (by omega)
    have hst : fstep (FT Eb) s o m = gstep Eb s o m := by
      unfold fstep gstep
      rw [hn]
      by_cases c : n.2.2 = 0
      · rw [if_pos c, if_pos c]
      · rw [if_neg c, if_neg c, plUpd_eq ⟨by omega, by omega⟩ ⟨by omega, by omega⟩ ⟨by omega, by omega⟩ ⟨by omega, by omega⟩]
    simp only [List.foldl_cons]
    rw [hst]
    have e : ((j + 1 : Nat) : Int) * P = (j : Int) * P + P := by rw [show ((j + 1 : Nat) : Int) = (j : Int) + 1 by omega, Int.add_mul, Int.one_mul]
    have hg1 : (-1 ≤ (gstep Eb s o m).1 ∧ (gstep Eb s o m).1 ≤ rem s) ∧ (-1 ≤ (gstep Eb s o m).2.1 ∧ (gstep Eb s o m).2.1 ≤ rem s) ∧ (0 ≤ (gstep Eb s o m).2.2 ∧ (gstep Eb s o m).2.2 ≤ 1 + ((j + 1 : Nat) : Int) * P) := by
      unfold gstep
      rw [hn, e]
      by_cases c : n.2.2 = 0
      · rw [if_pos c]; exact ⟨h1, h2, by omega⟩
      · rw [if_neg c]
        unfold upd
        refine ⟨?_, ?_, ?_⟩
        · dsimp only; split <;> omega
        · dsimp only; split <;> omega
        · dsimp only; omega
    have := ihr (gstep Eb s o m) (j + 1) (fun x hx => hm x (List.mem_cons_of_mem _ hx)) hg1.1 hg1.2.1 (by rw [hP]; exact hg1.2.2) (by omega)
    rw [hP] at this ⊢
    refine ⟨this.1, this.2.1, this.2.2.1, ?_⟩
    have h4 := this.2.2.2
    rw [show j + 1 + rest.length = j + (m :: rest).length by simp; omega] at h4
    exact h4
theorem FT_bound (Eb : ByteArray → Bool) (d : Nat) : ∀ (s : ByteArray), Pond s → rem s < d → FB s (rem s) (FT Eb s) := by
  induction d with
  | zero => intro s _ h; omega
  | succ d ihd =>
    intro s hg hd
    have hb := moves_bnd hg
    have hml := moves_len s
    have hs9 := hg.1.2
    have ih : ∀ m ∈ moves s, FB (movedB s m) (rem s - 1) (FT Eb (movedB s m)) := by
      intro m hm
      have hgo := moves_go hm
      have hr := rem_moved hg hgo
      have := ihd (movedB s m) (pond_moved hg hgo) (by omega)
      rw [show rem (movedB s m) = rem s - 1 by omega] at this
      exact this
    have h := fold_bound Eb s hg ih (moves s) (if Eb s = true then (0, 0, 1) else (-1, -1, 0)) 0 (fun m hm => hm) (by split <;> simp <;> omega) (by split <;> simp <;> omega) (by split <;> simp) (by omega)
    rw [FT_eq Eb s hg]
    unfold ffold
    rw [h.1]
    refine ⟨h.2.1, h.2.2.1, h.2.2.2.1, ?_⟩
    have h4 := h.2.2.2.2
    rw [Nat.zero_add] at h4
    refine Int.le_trans h4 ?_
    have hle : (moves s).length * phi (rem s - 1) ≤ bnd (rem s) * phi (rem s - 1) := Nat.mul_le_mul_right _ hb.1
    have hphi : 1 + (moves s).length * phi (rem s - 1) ≤ phi (rem s) := by
      cases hr : rem s with
      | zero =>
        rw [hr] at hle
        have : bnd 0 = 0 := rfl
        rw [this, Nat.zero_mul] at hle
        simp only [phi]; omega
      | succ r =>
        rw [hr] at hle
        simp only [Nat.add_sub_cancel] at hle ⊢
        simp only [phi]; omega
    have e : ((moves s).length : Int) * (phi (rem s - 1) : Int) = (((moves s).length * phi (rem s - 1) : Nat) : Int) := by simp
    rw [e]; omega
/-- The fate of a pond by a fold in which no number wraps. -/
theorem FT_fold (Eb : ByteArray → Bool) (s : ByteArray) (hg : Pond s) : FT Eb s = (moves s).foldl (gstep Eb s) (if Eb s = true then (0, 0, 1) else (-1, -1, 0)) := by
  have hml := moves_len s
  have hs9 := hg.1.2
  have h := fold_bound Eb s hg (fun m hm => by
    have hgo := moves_go hm
    have hr := rem_moved hg hgo
    have := FT_bound Eb (rem s + 1) (movedB s m) (pond_moved hg hgo) (by omega)
    rw [show rem (movedB s m) = rem s - 1 by omega] at this
    exact this) (moves s) (if Eb s = true then (0, 0, 1) else (-1, -1, 0)) 0 (fun m hm => hm) (by split <;> simp <;> omega) (by split <;> simp <;> omega) (by split <;> simp) (by omega)
  rw [FT_eq Eb s hg]
  exact h.1
theorem eqIntS_l0 (l : List Int) (hl : l.length < 4611686018427387904) (d : Nat) : ∀ (k : Nat) (i : Int), 0 ≤ i → (l.length : Int) - i ≤ d → d < k → laws_eqIntS.l0 k l l i = some true := by
  induction d with
  | zero =>
    intro k i h0 hd hk
    obtain ⟨k, rfl⟩ : ∃ m, k = m + 1 := ⟨k - 1, by omega⟩
    simp only [laws_eqIntS.l0]; rw [if_neg (by omega)]
  | succ d ih =>
    intro k i h0 hd hk
    obtain ⟨k, rfl⟩ : ∃ m, k = m + 1 := ⟨k - 1, by omega⟩
    simp only [laws_eqIntS.l0]
    by_cases hlt : i < (l.length : Int)
    · rw [if_pos hlt, if_pos h0, if_pos hlt, if_pos trivial, w64 (by omega) (by omega)]
      exact ih k (i + 1) (by omega) (by omega) (by omega)
    · rw [if_neg hlt]
theorem eqIntS_self (l : List Int) (hl : l.length < 4611686018427387904) {k : Nat} (hk : l.length < k) : laws_eqIntS.f k l l = some true := by
  unfold laws_eqIntS.f
  rw [if_pos rfl]
  exact eqIntS_l0 l hl l.length k 0 (by omega) (by omega) hk
theorem rd_set (l : List Int) (i j v : Int) (h0 : 0 ≤ i) (h1 : i < l.length) (h2 : 0 ≤ j) : rd (l.set i.toNat v) j = if j = i then v else rd l j := by
  unfold rd
  rw [List.getD_eq_getElem?_getD, List.getD_eq_getElem?_getD, List.getElem?_set]
  by_cases e : j = i
  · subst e; rw [if_pos rfl, if_pos rfl, if_pos (by omega)]; rfl
  · rw [if_neg e, if_neg (by omega)]
theorem markIntS_l0 (d : Nat) : ∀ (k : Nat) (l : List Int) (v i : Int), l.length < 4611686018427387904 → 0 ≤ i → i ≤ l.length → (l.length : Int) - i ≤ d → d < k → 0 ≤ v → v + ((l.length : Int) - i) < 9223372036854775807 →
    ∃ m, laws_markIntS.l0 k l v i = some (v + ((l.length : Int) - i), m) ∧ m.length = l.length ∧ (∀ j : Int, 0 ≤ j → j < i → rd m j = rd l j) ∧ ∀ j : Int, i ≤ j → j < l.length → rd m j = v + (j - i) := by
  induction d with
  | zero =>
    intro k l v i hl h0 hi hd hk hv hb
    obtain ⟨k, rfl⟩ : ∃ m, k = m + 1 := ⟨k - 1, by omega⟩
    refine ⟨l, ?_, rfl, fun _ _ _ => rfl, fun j h1 h2 => by omega⟩
    simp only [laws_markIntS.l0]; rw [if_neg (by omega)]; congr 2; omega
  | succ d ih =>
    intro k l v i hl h0 hi hd hk hv hb
    obtain ⟨k, rfl⟩ : ∃ m, k = m + 1 := ⟨k - 1, by omega⟩
    simp only [laws_markIntS.l0]
    by_cases hlt : i < (l.length : Int)
    · rw [if_pos hlt, if_pos h0, w64 (by omega) (by omega), w64 (by omega) (by omega)]
      have hlen : (l.set i.toNat v).length = l.length := by simp
      obtain ⟨m, hm, hml, hm1, hm2⟩ := ih k (l.set i.toNat v) (v + 1) (i + 1) (by omega) (by omega) (by omega) (by omega) (by omega) (by omega) (by omega)
      rw [hlen] at hm hml hm2
      refine ⟨m, by rw [hm]; congr 2; omega, hml, ?_, ?_⟩
      · intro j h1 h2
        rw [hm1 j h1 (by omega), rd_set l i j v h0 hlt h1, if_neg (by omega)]
      · intro j h1 h2
        by_cases e : j = i
        · subst e; rw [hm1 j h0 (by omega), rd_set l j j v h0 hlt h0, if_pos rfl]; omega
        · rw [hm2 j (by omega) h2]; omega
    · rw [if_neg hlt]
      exact ⟨l, by congr 2; omega, rfl, fun _ _ _ => rfl, fun j h1 h2 => by omega⟩
theorem heldIntS_l0 (m : List Int) (hl : m.length < 4611686018427387904) (d : Nat) : ∀ (k : Nat) (v i : Int), 0 ≤ i → i ≤ m.length → (m.length : Int) - i ≤ d → d < k → 0 ≤ v → v + ((m.length : Int) - i) < 9223372036854775807 → (∀ j : Int, i ≤ j → j < m.length → rd m j = v + (j - i)) → laws_heldIntS.l0 k m v i = some (v + ((m.length : Int) - i)) := by
  induction d with
  | zero =>
    intro k v i h0 hi hd hk hv hb h
    obtain ⟨k, rfl⟩ : ∃ m, k = m + 1 := ⟨k - 1, by omega⟩
    simp only [laws_heldIntS.l0]; rw [if_neg (by omega)]; congr 1; omega
  | succ d ih =>
    intro k v i h0 hi hd hk hv hb h
    obtain ⟨k, rfl⟩ : ∃ m, k = m + 1 := ⟨k - 1, by omega⟩
    simp only [laws_heldIntS.l0]
    by_cases hlt : i < (m.length : Int)
    · rw [if_pos hlt, if_pos h0, if_pos (by rw [h i (by omega) hlt]; omega), w64 (by omega) (by omega), w64 (by omega) (by omega), ih k (v + 1) (i + 1) (by omega) (by omega) (by omega) (by omega) (by omega) (by omega) (fun j h1 h2 => by rw [h j (by omega) h2]; omega)]
      congr 1; omega
    · rw [if_neg hlt]; congr 1; omega
theorem mark_held (l : List Int) (hl : l.length < 1000000) : ∃ m, m.length = l.length ∧ (∀ k, l.length < k → laws_markIntS.f k l 1 = some (1 + (l.length : Int), m)) ∧ ∀ k, l.length < k → laws_heldIntS.f k m 1 = some (1 + (l.length : Int)) := by
  obtain ⟨m, hm, hml, _, hm2⟩ := markIntS_l0 l.length (l.length + 1) l 1 0 (by omega) (by omega) (by omega) (by omega) (by omega) (by omega) (by omega)
  refine ⟨m, hml, fun k hk => ?_, fun k hk => ?_⟩
  · have := at_rounds (g := fun k => laws_markIntS.f k l 1) (fun k => laws_markIntS.mono l 1 k) (show l.length + 1 ≤ k by omega) hm
    rw [this]; congr 2 <;> omega
  · unfold laws_heldIntS.f
    rw [heldIntS_l0 m (by omega) m.length k 1 0 (by omega) (by omega) (by omega) (by omega) (by omega) (by omega) (fun j h1 h2 => hm2 j h1 (by omega))]
    congr 1; omega
def isEndS (s : ByteArray) : Bool := ((moves s).length : Int) == 0
def spL : Nat → ByteArray → List Int
  | 0, _ => []
  | d + 1, s => (moves s).foldl (fun best m => if best.length < (spL d (movedB s m)).length + 1 then m :: spL d (movedB s m) else best) []
/-- The first longest list of moves. -/
def SL (s : ByteArray) : List Int := spL (rem s + 1) s
def spS : Nat → ByteArray → List Int
  | 0, _ => []
  | d + 1, s => match moves s with
    | [] => []
    | m0 :: ms => ms.foldl (fun best m => if (spS d (movedB s m)).length + 1 < best.length then m :: spS d (movedB s m) else best) (m0 :: spS d (movedB s m0))
/-- The first shortest list of moves to a pond that is stuck. -/
def SS (s : ByteArray) : List Int := spS (rem s + 1) s
def stL (s : ByteArray) (best : List Int) (m : Int) : List Int := if best.length < (SL (movedB s m)).length + 1 then m :: SL (movedB s m) else best
def stS (s : ByteArray) (best : List Int) (m : Int) : List Int := if (SS (movedB s m)).length + 1 < best.length then m :: SS (movedB s m) else best
theorem SL_eq (s : ByteArray) (hg : Pond s) : SL s = (moves s).foldl (stL s) [] := by
  have h : SL s = (moves s).foldl (fun best m => if best.length < (spL (rem s) (movedB s m)).length + 1 then m :: spL (rem s) (movedB s m) else best) [] := rfl
  rw [h]
  refine foldl_congr _ _ _ _ (fun m hm b => ?_)
  have hr := rem_moved hg (moves_go hm)
  have e : spL (rem s) (movedB s m) = SL (movedB s m) := by unfold SL; rw [hr]
  unfold stL
  rw [e]
theorem SS_nil (s : ByteArray) (h : moves s = []) : SS s = [] := by
  have : SS s = match moves s with
    | [] => []
    | m0 :: ms => ms.foldl (fun best m => if (spS (rem s) (movedB s m)).length + 1 < best.length then m :: spS (rem s) (movedB s m) else best) (m0 :: spS (rem s) (movedB s m0)) := rfl
  rw [this, h]
theorem SS_cons (s : ByteArray) (hg : Pond s) (m0 : Int) (ms : List Int) (h : moves s = m0 :: ms) : SS s = ms.foldl (stS s) (m0 :: SS (movedB s m0)) := by
  have : SS s = match moves s with
    | [] => []
    | m0 :: ms => ms.foldl (fun best m => if (spS (rem s) (movedB s m)).length + 1 < best.length then m :: spS (rem s) (movedB s m) else best) (m0 :: spS (rem s) (movedB s m0)) := rfl
  rw [this, h]
  have e : ∀ m ∈ moves s, spS (rem s) (movedB s m) = SS (movedB s m) := fun m hm => by
    have hr := rem_moved hg (moves_go hm)
    unfold SS; rw [hr]
  dsimp only
  rw [e m0 (by rw [h]; exact List.mem_cons_self)]
  refine foldl_congr _ _ _ _ (fun m hm b => ?_)
  unfold stS
  rw [e m (by rw [h]; exact List.mem_cons_of_mem _ hm)]
theorem find_congr (p q : Int → Bool) : ∀ (l : List Int), (∀ x ∈ l, p x = q x) → l.find? p = l.find? q
  | [], _ => rfl
  | x :: l, h => by
    rw [List.find?_cons, List.find?_cons, h x List.mem_cons_self, find_congr p q l (fun y hy => h y (List.mem_cons_of_mem _ hy))]
theorem argmax (g : Int → List Int) : ∀ (ms : List Int) (b0 r : List Int), ms.foldl (fun best m => if best.length < (g m).length + 1 then m :: g m else best) b0 = r →
    (r = b0 ∧ ∀ m ∈ ms, (g m).length + 1 ≤ b0.length) ∨ ∃ m, ms.find? (fun x => decide ((g x).length + 1 = r.length)) = some m ∧ r = m :: g m ∧ b0.length < (m :: g m).length
  | [], b0, r, hr => .inl ⟨hr.symm, fun m hm => by cases hm⟩
  | m :: ms, b0, r, hr => by
    simp only [List.foldl_cons] at hr
    by_cases c : b0.length < (g m).length + 1
    · rw [if_pos c] at hr
      rcases argmax g ms (m :: g m) r hr with ⟨h1, h2⟩ | ⟨x, h1, h2, h3⟩
      · refine .inr ⟨m, ?_, h1, by simp only [List.length_cons]; omega⟩
        rw [List.find?_cons_of_pos (by rw [h1]; simp)]
      · refine .inr ⟨x, ?_, h2, by simp only [List.length_cons] at h3 ⊢; omega⟩
        rw [List.find?_cons_of_neg (by rw [h2]; simp only [List.length_cons] at h3 ⊢; simp; omega)]
        exact h1
    · rw [if_neg c] at hr
      rcases argmax g ms b0 r hr with ⟨h1, h2⟩ | ⟨x, h1, h2, h3⟩
      · refine .inl ⟨h1, fun y hy => ?_⟩
        rcases List.mem_cons.1 hy with rfl | hy
        · omega
        · exact h2 y hy
      · refine .inr ⟨x, ?_, h2, h3⟩
        rw [List.find?_cons_of_neg (by rw [h2]; simp only [List.length_cons] at h3 ⊢; simp; omega)]
        exact h1
theorem argmin (g : Int → List Int) : ∀ (ms : List Int) (b0 r : List Int), ms.foldl (fun best m => if (g m).length + 1 < best.length then m :: g m else best) b0 = r →
    (r = b0 ∧ ∀ m ∈ ms, b0.length ≤ (g m).length + 1) ∨ ∃ m, ms.find? (fun x => decide ((g x).length + 1 = r.length)) = some m ∧ r = m :: g m ∧ (m :: g m).length < b0.length
  | [], b0, r, hr => .inl ⟨hr.symm, fun m hm => by cases hm⟩
  | m :: ms, b0, r, hr => by
    simp only [List.foldl_cons] at hr
    by_cases c : (g m).length + 1 < b0.length
    · rw [if_pos c] at hr
      rcases argmin g ms (m :: g m) r hr with ⟨h1, h2⟩ | ⟨x, h1, h2, h3⟩
      · refine .inr ⟨m, ?_, h1, by simp only [List.length_cons]; omega⟩
        rw [List.find?_cons_of_pos (by rw [h1]; simp)]
      · refine .inr ⟨x, ?_, h2, by simp only [List.length_cons] at h3 ⊢; omega⟩
        rw [List.find?_cons_of_neg (by rw [h2]; simp only [List.length_cons] at h3 ⊢; simp; omega)]
        exact h1
    · rw [if_neg c] at hr
      rcases argmin g ms b0 r hr with ⟨h1, h2⟩ | ⟨x, h1, h2, h3⟩
      · refine .inl ⟨h1, fun y hy => ?_⟩
        rcases List.mem_cons.1 hy with rfl | hy
        · omega
        · exact h2 y hy
      · refine .inr ⟨x, ?_, h2, h3⟩
        rw [List.find?_cons_of_neg (by rw [h2]; simp only [List.length_cons] at h3 ⊢; simp; omega)]
        exact h1
/-- The fate of a pond, by the lists. -/
theorem FT_stuck (d : Nat) : ∀ (s : ByteArray), Pond s → rem s < d → 0 < (FT isEndS s).2.2 ∧ (FT isEndS s).1 = ((SS s).length : Int) ∧ (FT isEndS s).2.1 = ((SL s).length : Int) := by
  induction d with
  | zero => intro s _ h; omega
  | succ d ih =>
    intro s hg hd
    rw [FT_fold isEndS s hg, SL_eq s hg]
    cases hm : moves s with
    | nil =>
      have he : isEndS s = true := by unfold isEndS; rw [hm]; rfl
      rw [SS_nil s hm, if_pos he]
      simp
    | cons m0 ms =>
      have he : ¬ isEndS s = true := by unfold isEndS; rw [hm]; simp; omega
      rw [SS_cons s hg m0 ms hm, if_neg he]
      have hnx : ∀ m ∈ moves s, 0 < (FT isEndS (movedB s m)).2.2 ∧ (FT isEndS (movedB s m)).1 = ((SS (movedB s m)).length : Int) ∧ (FT isEndS (movedB s m)).2.1 = ((SL (movedB s m)).length : Int) := by
        intro m hm
        have hgo := moves_go hm
        have hr := rem_moved hg hgo
        exact ih (movedB s m) (pond_moved hg hgo) (by omega)
      have rest : ∀ (l : List Int), (∀ m ∈ l, m ∈ moves s) → ∀ (o : plF) (bs bl : List Int), 0 < o.2.2 → o.1 = (bs.length : Int) → o.2.1 = (bl.length : Int) → 1 ≤ bs.length →
          0 < (l.foldl (gstep isEndS s) o).2.2 ∧ (l.foldl (gstep isEndS s) o).1 = ((l.foldl (stS s) bs).length : Int) ∧ (l.foldl (gstep isEndS s) o).2.1 = ((l.foldl (stL s) bl).length : Int) := by
        intro l
        induction l with
        | nil => intro _ o bs bl h1 h2 h3 _; exact ⟨h1, h2, h3⟩
        | cons m l ihl =>
          intro hml o bs bl h1 h2 h3 h4
          obtain ⟨n1, n2, n3⟩ := hnx m (hml m List.mem_cons_self)
          simp only [List.foldl_cons]
          have hst : gstep isEndS s o m = upd o (FT isEndS (movedB s m)) := by unfold gstep; rw [if_neg (by omega)]
          rw [hst]
          refine ihl (fun x hx => hml x (List.mem_cons_of_mem _ hx)) _ _ _ ?_ ?_ ?_ ?_
          · unfold upd; dsimp only; omega
          · unfold upd stS; dsimp only; rw [n2, h2]
            by_cases c : (SS (movedB s m)).length + 1 < bs.length
            · rw [if_pos (by omega), if_pos c]; simp
            · rw [if_neg (by omega), if_neg c]
          · unfold upd stL; dsimp only; rw [n3, h3]
            by_cases c : bl.length < (SL (movedB s m)).length + 1
            · rw [if_pos (by omega), if_pos c]; simp
            · rw [if_neg (by omega), if_neg c]
          · unfold stS
            split
            · simp
            · exact h4
      obtain ⟨n1, n2, n3⟩ := hnx m0 (by rw [hm]; exact List.mem_cons_self)
      simp only [List.foldl_cons]
      have hst : gstep isEndS s (-1, -1, 0) m0 = upd (-1, -1, 0) (FT isEndS (movedB s m0)) := by unfold gstep; rw [if_neg (by omega)]
      rw [hst]
      have hsl : stL s [] m0 = m0 :: SL (movedB s m0) := by unfold stL; rw [if_pos (by simp)]
      rw [hsl]
      refine rest ms (fun m h => by rw [hm]; exact List.mem_cons_of_mem _ h) _ _ _ ?_ ?_ ?_ (by simp)
      · unfold upd; dsimp only; omega
      · unfold upd; dsimp only; rw [if_pos (by omega), n2]; simp
      · unfold upd; dsimp only; rw [if_pos (by omega), n3]; simp
theorem SL_len (s : ByteArray) (hg : Pond s) : (SL s).length ≤ 27 := by
  have h1 := (FT_bound isEndS (rem s + 1) s hg (by omega)).m
  have h2 := (FT_stuck (rem s + 1) s hg (by omega)).2.2
  have h3 := (moves_bnd hg).2
  omega
theorem SS_len (s : ByteArray) (hg : Pond s) : (SS s).length ≤ 27 := by
  have h1 := (FT_bound isEndS (rem s + 1) s hg (by omega)).l
  have h2 := (FT_stuck (rem s + 1) s hg (by omega)).2.1
  have h3 := (moves_bnd hg).2
  omega
theorem path_SL (l : Nat) : ∀ (s : ByteArray), Pond s → (SL s).length = l → pathF (FT isEndS) plMost l s = SL s := by
  induction l with
  | zero => intro s _ h; rw [List.eq_nil_of_length_eq_zero h]; rfl
  | succ l ih =>
    intro s hg h
    have hq := SL_eq s hg
    have ha := argmax (fun m => SL (movedB s m)) (moves s) [] (SL s) hq.symm
    rcases ha with ⟨h1, _⟩ | ⟨m, h1, h2, _⟩
    · rw [h1] at h; simp at h
    · have hfind : (moves s).find? (fun m => decide (0 < (FT isEndS (movedB s m)).2.2 ∧ plMost (FT isEndS (movedB s m)) = (l : Int))) = some m := by
        rw [← h1]
        refine find_congr _ _ _ (fun x hx => ?_)
        have hgo := moves_go hx
        have hr := rem_moved hg hgo
        have hf := FT_stuck (rem s + 1) (movedB s x) (pond_moved hg hgo) (by omega)
        rw [decide_eq_decide]
        unfold plMost
        rw [hf.2.2, h]
        constructor
        · intro c; omega
        · intro c; exact ⟨hf.1, by omega⟩
      have hm := List.mem_of_find?_eq_some hfind
      have hgo := moves_go hm
      simp only [pathF]
      rw [hfind]
      dsimp only
      rw [h2, ih (movedB s m) (pond_moved hg hgo) (by rw [h2] at h; simpa using h)]
theorem path_SS (l : Nat) : ∀ (s : ByteArray), Pond s → (SS s).length = l → pathF (FT isEndS) plLeast l s = SS s := by
  induction l with
  | zero => intro s _ h; rw [List.eq_nil_of_length_eq_zero h]; rfl
  | succ l ih =>
    intro s hg h
    cases hms : moves s with
    | nil => rw [SS_nil s hms] at h; simp at h
    | cons m0 ms =>
      have hq := SS_cons s hg m0 ms hms
      have ha := argmin (fun m => SS (movedB s m)) ms (m0 :: SS (movedB s m0)) (SS s) hq.symm
      have hx : ∃ m, (moves s).find? (fun x => decide ((SS (movedB s x)).length + 1 = (SS s).length)) = some m ∧ SS s = m :: SS (movedB s m) := by
        rw [hms]
        rcases ha with ⟨h1, _⟩ | ⟨m, h1, h2, h3⟩
        · exact ⟨m0, by rw [List.find?_cons_of_pos (by rw [h1]; simp)], h1⟩
        · refine ⟨m, ?_, h2⟩
          rw [List.find?_cons_of_neg (by rw [h2]; simp only [List.length_cons] at h3 ⊢; simp; omega)]
          exact h1
      obtain ⟨m, h1, h2⟩ := hx
      have hfind : (moves s).find? (fun m => decide (0 < (FT isEndS (movedB s m)).2.2 ∧ plLeast (FT isEndS (movedB s m)) = (l : Int))) = some m := by
        rw [← h1]
        refine find_congr _ _ _ (fun x hx => ?_)
        have hgo := moves_go hx
        have hr := rem_moved hg hgo
        have hf := FT_stuck (rem s + 1) (movedB s x) (pond_moved hg hgo) (by omega)
        rw [decide_eq_decide]
        unfold plLeast
        rw [hf.2.1, h]
        constructor
        · intro c; omega
        · intro c; exact ⟨hf.1, by omega⟩
      have hm := List.mem_of_find?_eq_some hfind
      have hgo := moves_go hm
      simp only [pathF]
      rw [hfind]
      dsimp only
      rw [h2, ih (movedB s m) (pond_moved hg hgo) (by rw [h2] at h; simpa using h)]
theorem plays_l0 (s : ByteArray) (hg : Pond s) (d : Nat) (ih : ∀ (k : Nat) (t : ByteArray), Pond t → rem t < d → 20 * d ≤ k → spec_fgPlays.f k t = some (SL t)) (hr : rem s < d + 1) (rest : List Int) : ∀ (k : Nat) (pre : List Int) (i : Int) (best : List Int), moves s = pre ++ rest → i = pre.length → 20 * d + rest.length < k → best.length ≤ 100 → spec_fgPlays.l0 k s best (moves s) ((moves s).length : Int) i = some (rest.foldl (stL s) best) := by
  induction rest with
  | nil =>
    intro k pre i best h hi hk _
    obtain ⟨k, rfl⟩ : ∃ m, k = m + 1 := ⟨k - 1, by omega⟩
    rw [List.append_nil] at h
    simp only [spec_fgPlays.l0]; rw [if_neg (by rw [h]; omega)]; rfl
  | cons x rest ihr =>
    intro k pre i best h hi hk hb
    simp only [List.length_cons] at hk
    obtain ⟨k, rfl⟩ : ∃ m, k = m + 1 := ⟨k - 1, by omega⟩
    have hlen : (moves s).length = pre.length + (rest.length + 1) := by rw [h]; simp
    have h9 := moves_len s
    have hs9 := hg.1
    have hrd : rd (moves s) i = x := by rw [h]; subst hi; unfold rd; simp
    have hx : 0 ≤ frogTo s x := moves_go (by rw [h]; simp)
    have hrm := rem_moved hg hx
    have hl := SL_len (movedB s x) (pond_moved hg hx)
    have hgo := fun (b : List Int) (hb : b.length ≤ 100) => ihr k (pre ++ [x]) (i + 1) b (by rw [h]; simp) (by simp; omega) (by omega) hb
    simp only [spec_fgPlays.l0]
    rw [if_pos (by omega), if_pos (by omega), if_pos (by omega), hrd, fgMove_eq hg hx]
    simp only [Option.bind_some]
    rw [ih k (movedB s x) (pond_moved hg hx) (by omega) (by omega), Option.bind_some, List.foldl_cons]
    rw [w64 (x := ((SL (movedB s x)).length : Int) + 1) (by omega) (by omega), w64 (x := i + 1) (by omega) (by omega)]
    unfold stL
    by_cases c : best.length < (SL (movedB s x)).length + 1
    · rw [if_pos (show ((SL (movedB s x)).length : Int) + 1 > (best.length : Int) by omega), if_pos (show best.length < (SL (movedB s x)).length + 1 from c), if_pos (show [x].length + (SL (movedB s x)).length < 17592186044416 by simp; omega)]
      exact hgo (x :: SL (movedB s x)) (by simp; omega)
    · rw [if_neg (show ¬ ((SL (movedB s x)).length : Int) + 1 > (best.length : Int) by omega), if_neg (show ¬ best.length < (SL (movedB s x)).length + 1 from c)]
      exact hgo best hb
theorem plays_eq (d : Nat) : ∀ (k : Nat) (s : ByteArray), Pond s → rem s < d → 20 * d ≤ k → spec_fgPlays.f k s = some (SL s) := by
  induction d with
  | zero => intro k s _ h; omega
  | succ d ih =>
    intro k s hg hr hk
    obtain ⟨k, rfl⟩ : ∃ m, k = m + 1 := ⟨k - 1, by omega⟩
    have h9 := moves_len s
    have hs9 := hg.1
    simp only [spec_fgPlays.f]
    have e := plays_l0 s hg d ih hr (moves s) k [] 0 [] rfl rfl (by omega) (by simp)
    rw [← SL_eq s hg] at e
    rw [fgMoves_eq hg, Option.bind_some]
    exact e
theorem law_of (s : ByteArray) (L : List Int) (b : Bool) (hL : L.length < 3000) (hb : ¬ (s.size : Int) > 1048576) (hs : ∀ k, 4000 ≤ k → spec_LongestFrogPlay.f k s = some (L, b)) (hi : ∀ k, 4000 ≤ k → impl_LongestFrogPlay.f k s = some (L, b)) : ∃ k, laws_FnExactLongestFrogPlay.f k s = some true := by
  obtain ⟨m, hml, hm, hh⟩ := mark_held L (by omega)
  obtain ⟨k, hk⟩ : ∃ k : Nat, 4000 ≤ k := ⟨4000, Nat.le_refl _⟩
  have s2 := hs (k + 1 + 1) (by omega)
  have i2 := hi (k + 1 + 1) (by omega)
  have i1 := hi (k + 1) (by omega)
  have e2 := eqIntS_self L (by omega) (show L.length < k + 1 + 1 by omega)
  have e1 := eqIntS_self L (by omega) (show L.length < k + 1 by omega)
  have m1 := hm (k + 1) (by omega)
  have h1 := hh (k + 1) (by omega)
  have h0 := hh k (by omega)
  have n1 : ¬ (1 + (L.length : Int)) < 0 := by omega
  refine ⟨k + 1 + 1, ?_⟩
  unfold laws_FnExactLongestFrogPlay.f
  simp only [if_neg hb, s2, i2, Option.bind_some, e2, if_true, bne_self_eq_false, laws_FnExactLongestFrogPlay.j0, m1, h1, if_neg n1, i1, e1, laws_FnExactLongestFrogPlay.j1, h0]
  simp
theorem FnExactLongestFrogPlay : laws_FnExactLongestFrogPlay.Pure := by
  intro s _
  by_cases hb : (s.size : Int) > 1048576
  · exact ⟨0, by unfold laws_FnExactLongestFrogPlay.f; rw [if_pos hb]⟩
  by_cases hg : Pond s
  · have h9 := hg.1.2
    have hl := SL_len s hg
    have h27 := (moves_bnd hg).2
    have hf := FT_stuck (rem s + 1) s hg (by omega)
    refine law_of s (SL s) true (by omega) hb (fun k hk => ?_) (fun k hk => ?_)
    · have hk10 : 10 < k := by omega
      unfold spec_LongestFrogPlay.f
      rw [fgGood_true hg hk10, plays_eq 28 k s hg (by omega) (by omega)]; rfl
    · have hk10 : 10 < k := by omega
      unfold impl_LongestFrogPlay.f
      rw [isPond_true hg]
      simp only [Option.bind_some, if_true]
      rw [fst_eq (impl_isStuck.f k) isEndS (FT isEndS) plMost k s.size k hk10 h9 (by omega) (fun t ht _ => by unfold impl_isStuck.f; rw [hops_eq ht.1.2 hk10]; rfl) (fun t ht _ => FT_eq isEndS t ht) s [] hg rfl (vm_nil _ _) (by unfold plMost; omega)]
      have e : (plMost (FT isEndS s)).toNat = (SL s).length := by unfold plMost; omega
      rw [e, path_SL _ s hg rfl]; rfl
  · refine law_of s [] false (by simp) hb (fun k hk => ?_) (fun k hk => ?_)
    · have hk10 : 10 < k := by omega
      unfold spec_LongestFrogPlay.f
      rw [fgGood_false hg hk10]; rfl
    · unfold impl_LongestFrogPlay.f
      rw [isPond_false hg]; rfl

end Go.Proofs.YtkikpfeipejnlaaDoor.Pure
