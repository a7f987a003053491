/- For every text the program's StuckPonds and the reference's answer alike, and the result is memory of its own. Conditions: the text takes at most 140737488351232 bytes. -/
import Derived.Test.YtkikpfeipejnlaaDoorPFnExactStuckPondsx
namespace Go.Proofs.YtkikpfeipejnlaaDoor.Pure
open Go.RowKit Go.Proofs.YtkikpfeipejnlaaDoor.PFnExactStuckPonds Go.Proofs.YtkikpfeipejnlaaDoorW.PrintWords Go.Proofs.YtkikpfeipejnlaaDoorW.PrintLast Go.Proofs.YtkikpfeipejnlaaDoorW.PrintMore

set_option linter.unusedVariables false
set_option linter.unusedSimpArgs false
def inB (a b c : Int) : Bool := decide (b ≤ a ∧ a ≤ c)
theorem inB_true {a b c : Int} (h : inB a b c = true) : b ≤ a ∧ a ≤ c := of_decide_eq_true h
theorem inB_mk {a b c : Int} (h : b ≤ a ∧ a ≤ c) : inB a b c = true := decide_eq_true h
theorem inB_not {a b c : Int} (h : ¬ (b ≤ a ∧ a ≤ c)) : inB a b c = false := decide_eq_false h
theorem inB_false {a b c : Int} (h : inB a b c = false) : ¬ (b ≤ a ∧ a ≤ c) := of_decide_eq_false h
theorem in_eq (a b c : Int) : spec_l1In.f a b c = some (inB a b c) := by
  unfold spec_l1In.f inB
  by_cases h : a ≥ b
  · rw [if_pos h]; congr 1; rw [decide_eq_decide]; omega
  · rw [if_neg h]; congr 1; symm; rw [decide_eq_false_iff_not]; omega
theorem within_eq (a b c : Int) : impl_within.f a b c = some (inB a b c) := by
  unfold impl_within.f inB
  by_cases h : b ≤ a
  · rw [if_pos h]; congr 1; rw [decide_eq_decide]; omega
  · rw [if_neg h]; congr 1; symm; rw [decide_eq_false_iff_not]; omega
theorem w64 {x : Int} (h0 : -9223372036854775808 ≤ x) (h1 : x < 9223372036854775808) : wrap64 x = x := by unfold wrap64; omega
/-- A pond: 1..9 signs, each a frog of one kind or a free stone. -/
def Pond (s : ByteArray) : Prop := (1 ≤ s.size ∧ s.size ≤ 9) ∧ ∀ i : Int, 0 ≤ i → i < s.size → bt s i = 114 ∨ bt s i = 108 ∨ bt s i = 46
theorem fgGood_l0_true (s : ByteArray) (hs : s.size ≤ 9) (d : Nat) : ∀ (k : Nat) (i : Int), 0 ≤ i → (s.size : Int) - i ≤ d → d < k → (∀ j : Int, i ≤ j → j < s.size → bt s j = 114 ∨ bt s j = 108 ∨ bt s j = 46) → spec_fgGood.l0 k s i = some true := by
  induction d with
  | zero =>
    intro k i h0 hd hk h
    obtain ⟨k, rfl⟩ : ∃ m, k = m + 1 := ⟨k - 1, by omega⟩
    simp only [spec_fgGood.l0]; rw [if_neg (by omega)]
  | succ d ih =>
    intro k i h0 hd hk h
    obtain ⟨k, rfl⟩ : ∃ m, k = m + 1 := ⟨k - 1, by omega⟩
    simp only [spec_fgGood.l0]
    by_cases hlt : i < (s.size : Int)
    · rw [if_pos hlt, if_pos h0, w64 (by omega) (by omega)]
      have hr := ih k (i + 1) (by omega) (by omega) (by omega) (fun j h1 h2 => h j (by omega) h2)
      rw [hr]
      rcases h i (by omega) hlt with e | e | e
      · rw [if_pos e]
      · rw [if_neg (by omega), if_pos e]
      · rw [if_neg (by omega), if_neg (by omega), if_pos e]
    · rw [if_neg hlt]
theorem fgGood_l0_false (s : ByteArray) (hs : s.size ≤ 9) (d : Nat) : ∀ (k : Nat) (i : Int), 0 ≤ i → (s.size : Int) - i ≤ d → d < k → (¬ ∀ j : Int, i ≤ j → j < s.size → bt s j = 114 ∨ bt s j = 108 ∨ bt s j = 46) → spec_fgGood.l0 k s i = some false := by
  induction d with
  | zero =>
    intro k i h0 hd hk h
    exact absurd (fun j h1 h2 => absurd h1 (by omega)) h
  | succ d ih =>
    intro k i h0 hd hk h
    obtain ⟨k, rfl⟩ : ∃ m, k = m + 1 := ⟨k - 1, by omega⟩
    simp only [spec_fgGood.l0]
    by_cases hlt : i < (s.size : Int)
    · rw [if_pos hlt, if_pos h0, w64 (by omega) (by omega)]
      have hgo : (bt s i = 114 ∨ bt s i = 108 ∨ bt s i = 46) → spec_fgGood.l0 k s (i + 1) = some false := fun e => ih k (i + 1) (by omega) (by omega) (by omega) (fun g => h (fun j h1 h2 => if c : j = i then by rw [c]; exact e else g j (by omega) h2))
      by_cases e1 : bt s i = 114
      · rw [if_pos e1]; exact hgo (.inl e1)
      · rw [if_neg e1]
        by_cases e2 : bt s i = 108
        · rw [if_pos e2]; exact hgo (.inr (.inl e2))
        · rw [if_neg e2]
          by_cases e3 : bt s i = 46
          · rw [if_pos e3]; exact hgo (.inr (.inr e3))
          · rw [if_neg e3]
    · exact absurd (fun j h1 h2 => absurd h2 (by omega)) h
theorem fgGood_true {s : ByteArray} (hg : Pond s) {k : Nat} (hk : 10 < k) : spec_fgGood.f k s = some true := by
  unfold spec_fgGood.f
  obtain ⟨h1, h2⟩ := hg
  rw [in_eq, inB_mk ⟨by omega, by omega⟩]
  exact fgGood_l0_true s h1.2 s.size k 0 (by omega) (by omega) (by omega) h2
theorem fgGood_false {s : ByteArray} (hg : ¬ Pond s) {k : Nat} (hk : 10 < k) : spec_fgGood.f k s = some false := by
  unfold spec_fgGood.f
  rw [in_eq]
  cases hb : inB (s.size : Int) 1 9
  · rfl
  · have h1 := inB_true hb
    exact fgGood_l0_false s (by omega) s.size k 0 (by omega) (by omega) (by omega) (fun h => hg ⟨⟨by omega, by omega⟩, h⟩)
theorem bt_list (s : ByteArray) (i : Nat) (h : i < s.data.toList.length) : bt s (i : Int) = ((s.data.toList[i]'h).toNat : Int) := by
  have h' : i < s.size := by simpa using h
  unfold bt
  rw [dif_pos (by simpa using h')]
  rfl
theorem dropWhile_nil {α : Type} (p : α → Bool) (l : List α) : l.dropWhile p = [] ↔ ∀ x ∈ l, p x = true := by
  induction l with
  | nil => simp
  | cons a l ih =>
    rw [List.dropWhile_cons]
    by_cases h : p a = true
    · rw [if_pos h, ih]; simp [h]
    · rw [if_neg h]; simp [h]
theorem trimS_nil (l cs : List UInt8) : Lib.trimS l cs = [] ↔ ∀ x ∈ l, cs.contains x = true := by
  unfold Lib.trimS Lib.trimLeftS Lib.trimRightS
  rw [dropWhile_nil]
  constructor
  · intro h x hx
    by_cases hall : ∀ y ∈ l.reverse, cs.contains y = true
    · exact hall x (by simpa using hx)
    · exfalso
      have hne : l.reverse.dropWhile (cs.contains ·) ≠ [] := fun e => hall ((dropWhile_nil _ _).1 e)
      obtain ⟨y, ys, hy⟩ : ∃ y ys, l.reverse.dropWhile (cs.contains ·) = y :: ys := by
        cases e : l.reverse.dropWhile (cs.contains ·) with
        | nil => exact absurd e hne
        | cons y ys => exact ⟨y, ys, rfl⟩
      have hp := List.head?_dropWhile_not (cs.contains ·) l.reverse
      rw [hy] at hp
      have := h y (by rw [hy]; simp)
      simp at hp this
      exact hp this
  · intro h x hx
    rw [List.mem_reverse] at hx
    exact h x (by simpa using (List.dropWhile_sublist _).subset hx)
theorem trim_pond (s : ByteArray) (hs : s.size ≤ 9223372036854775807) : ∃ t : ByteArray, strings_Trim.f s (⟨#[114, 108, 46]⟩ : ByteArray) = some t ∧ (t.toList = [] ↔ ∀ i : Int, 0 ≤ i → i < s.size → bt s i = 114 ∨ bt s i = 108 ∨ bt s i = 46) := by
  refine ⟨⟨(Lib.trimS s.data.toList [114, 108, 46]).toArray⟩, ?_, ?_⟩
  · unfold strings_Trim.f
    rw [if_pos ⟨hs, by decide, by decide⟩]
  · rw [Lib.toList_data]
    show (Lib.trimS s.data.toList [114, 108, 46]).toArray.toList = [] ↔ _
    rw [show (Lib.trimS s.data.toList [114, 108, 46]).toArray.toList = Lib.trimS s.data.toList [114, 108, 46] from rfl, trimS_nil]
    constructor
    · intro h i h0 h1
      have hi : i.toNat < s.data.toList.length := by
        have : s.data.toList.length = s.size := by simp
        omega
      have hb := bt_list s i.toNat hi
      rw [show ((i.toNat : Nat) : Int) = i by omega] at hb
      have := h _ (List.getElem_mem hi)
      rw [hb]
      simp at this
      rcases this with e | e | e <;> simp [e]
    · intro h x hx
      obtain ⟨n, hn, rfl⟩ := List.mem_iff_getElem.1 hx
      have hb := bt_list s n hn
      have hlt : n < s.size := by simpa using hn
      have := h n (by omega) (by omega)
      rw [hb] at this
      simp
      rcases this with e | e | e
      · left; apply UInt8.toNat_inj.1; simpa using Int.ofNat.inj e
      · right; left; apply UInt8.toNat_inj.1; simpa using Int.ofNat.inj e
      · right; right; apply UInt8.toNat_inj.1; simpa using Int.ofNat.inj e
theorem isPond_true {s : ByteArray} (hg : Pond s) : impl_IsPond.f s = some true := by
  unfold impl_IsPond.f
  obtain ⟨h1, h2⟩ := hg
  obtain ⟨t, ht, hiff⟩ := trim_pond s (by omega)
  rw [within_eq, inB_mk ⟨by omega, by omega⟩]
  simp only [Option.bind_some, if_true, ht]
  rw [hiff.2 h2]; rfl
theorem isPond_false {s : ByteArray} (hg : ¬ Pond s) : impl_IsPond.f s = some false := by
  unfold impl_IsPond.f
  rw [within_eq]
  cases hb : inB (s.size : Int) 1 9
  · rfl
  · have h1 := inB_true hb
    obtain ⟨t, ht, hiff⟩ := trim_pond s (by omega)
    simp only [Option.bind_some, if_true, ht]
    congr 1
    cases hc : (t.toList == ([] : List UInt8)) with
    | false => rfl
    | true => exact absurd ⟨⟨by omega, by omega⟩, hiff.1 (by simpa using hc)⟩ hg
theorem pond_ascii {s : ByteArray} (hg : Pond s) : asciiB s = true := by
  unfold asciiB
  apply List.all_eq_true.2
  intro i hi
  have h1 := List.mem_range.1 hi
  have h2 := hg.2 (i : Int) (by omega) (by omega)
  apply decide_eq_true
  omega
/-- The moves from stone i on, so many stones. -/
def movesF (s : ByteArray) : Nat → Nat → List Int
  | 0, _ => []
  | d + 1, i => if frogTo s (i : Int) ≥ 0 then (i : Int) :: movesF s d (i + 1) else movesF s d (i + 1)
theorem movesF_len (s : ByteArray) (d : Nat) : ∀ i : Nat, (movesF s d i).length ≤ d := by
  induction d with
  | zero => intro i; simp [movesF]
  | succ d ih => intro i; simp only [movesF]; have := ih (i + 1); split <;> simp <;> omega
theorem movesF_mem (s : ByteArray) (d : Nat) : ∀ (i : Nat) (x : Int), x ∈ movesF s d i ↔ ((i : Int) ≤ x ∧ x < (i : Int) + d) ∧ 0 ≤ frogTo s x := by
  induction d with
  | zero => intro i x; simp [movesF]; omega
  | succ d ih =>
    intro i x
    simp only [movesF]
    by_cases h : frogTo s (i : Int) ≥ 0
    · rw [if_pos h, List.mem_cons, ih]
      constructor
      · rintro (e | ⟨h1, h2⟩)
        · subst e; exact ⟨⟨by omega, by omega⟩, h⟩
        · exact ⟨⟨by omega, by omega⟩, h2⟩
      · rintro ⟨h1, h2⟩
        by_cases e : x = (i : Int)
        · exact .inl e
        · exact .inr ⟨⟨by omega, by omega⟩, h2⟩
    · rw [if_neg h, ih]
      constructor
      · rintro ⟨h1, h2⟩; exact ⟨⟨by omega, by omega⟩, h2⟩
      · rintro ⟨h1, h2⟩
        have : x ≠ (i : Int) := fun e => h (e ▸ h2)
        exact ⟨⟨by omega, by omega⟩, h2⟩
def moves (s : ByteArray) : List Int := movesF s s.size 0
theorem fgMoves_l0 (s : ByteArray) (hs : s.size ≤ 9) (d : Nat) : ∀ (k i : Nat) (acc : List Int), i + d = s.size → d < k → acc.length ≤ i → spec_fgMoves.l0 k s acc i = some (acc ++ movesF s d i) := by
  induction d with
  | zero =>
    intro k i acc hi hk ha
    obtain ⟨k, rfl⟩ : ∃ m, k = m + 1 := ⟨k - 1, by omega⟩
    simp only [spec_fgMoves.l0, movesF]
    rw [if_neg (by omega)]; simp
  | succ d ih =>
    intro k i acc hi hk ha
    obtain ⟨k, rfl⟩ : ∃ m, k = m + 1 := ⟨k - 1, by omega⟩
    have ht : spec_fgTo.f s (i : Int) = some (frogTo s (i : Int)) := by unfold spec_fgTo.f; rw [if_pos (by omega)]
    simp only [spec_fgMoves.l0, movesF]
    rw [if_pos (by omega), ht]
    simp only [Option.bind_some]
    by_cases h : frogTo s (i : Int) ≥ 0
    · rw [if_pos h, if_pos h, if_pos (by omega), ih k (i + 1) (acc ++ [(i : Int)]) (by omega) (by omega) (by simp; omega)]
      simp
    · rw [if_neg h, if_neg h, ih k (i + 1) acc (by omega) (by omega) (by omega)]
theorem fgMoves_eq {s : ByteArray} (hg : Pond s) : spec_fgMoves.f s = some (moves s) := by
  have h9 := hg.1.2
  unfold spec_fgMoves.f
  rw [if_pos ⟨by omega, pond_ascii hg⟩, fgMoves_l0 s h9 s.size (s.size + 1) 0 [] (by omega) (by omega) (by simp)]
  rfl
theorem hops_l0 (s : ByteArray) (hs : s.size ≤ 9) (d : Nat) : ∀ (k i : Nat) (acc : List Int), i + d = s.size → d < k → acc.length ≤ i → impl_hops.l0 k s acc (s.size : Int) (i : Int) = some (acc ++ movesF s d i) := by
  induction d with
  | zero =>
    intro k i acc hi hk ha
    obtain ⟨k, rfl⟩ : ∃ m, k = m + 1 := ⟨k - 1, by omega⟩
    simp only [impl_hops.l0, movesF]
    rw [if_neg (by omega)]; simp
  | succ d ih =>
    intro k i acc hi hk ha
    obtain ⟨k, rfl⟩ : ∃ m, k = m + 1 := ⟨k - 1, by omega⟩
    have ht : impl_target.f s (i : Int) = some (frogTo s (i : Int)) := by unfold impl_target.f; rw [if_pos ⟨by omega, by omega, by omega⟩]
    have hw : wrap64 ((i : Int) + 1) = ((i + 1 : Nat) : Int) := by rw [w64 (by omega) (by omega)]; omega
    simp only [impl_hops.l0, movesF]
    rw [if_pos (by omega), ht, hw]
    simp only [Option.bind_some]
    by_cases h : frogTo s (i : Int) ≥ 0
    · rw [if_pos h, if_pos h, if_pos (by omega), ih k (i + 1) (acc ++ [(i : Int)]) (by omega) (by omega) (by simp; omega)]
      simp
    · rw [if_neg h, if_neg h, ih k (i + 1) acc (by omega) (by omega) (by omega)]
theorem hops_eq {s : ByteArray} (hs : s.size ≤ 9) {k : Nat} (hk : 10 < k) : impl_hops.f k s = some (moves s) := by
  unfold impl_hops.f
  rw [show (0 : Int) = ((0 : Nat) : Int) from rfl, hops_l0 s hs s.size k 0 [] (by omega) (by omega) (by simp)]
  rfl
theorem frogTo_in {s : ByteArray} {i : Int} (h : 0 ≤ frogTo s i) : (0 ≤ i ∧ i < (s.size : Int)) ∧ frogTo s i < (s.size : Int) ∧ frogTo s i ≠ i := by
  revert h
  unfold frogTo
  generalize hd : (if bt s i = 108 then (-1 : Int) else 1) = d
  have hd2 : d = -1 ∨ d = 1 := by rw [← hd]; split <;> simp
  clear hd
  by_cases c : (0 ≤ i ∧ i < (s.size : Int)) ∧ ¬ bt s i = 46
  · rw [if_pos c]
    by_cases c1 : (0 ≤ i + d ∧ i + d < (s.size : Int)) ∧ bt s (i + d) = 46
    · rw [if_pos c1]; intro h; exact ⟨c.1, by omega, by omega⟩
    · rw [if_neg c1]
      by_cases c2 : ((0 ≤ i + 2 * d ∧ i + 2 * d < (s.size : Int)) ∧ bt s (i + 2 * d) = 46) ∧ ¬ bt s (i + d) = bt s i
      · rw [if_pos c2]; intro h; exact ⟨c.1, by omega, by omega⟩
      · rw [if_neg c2]; intro h; omega
  · rw [if_neg c]; intro h; omega
/-- How far a move goes: one stone or two. -/
theorem frogTo_far {s : ByteArray} {i : Int} (h : 0 ≤ frogTo s i) : -2 ≤ frogTo s i - i ∧ frogTo s i - i ≤ 2 := by
  revert h
  unfold frogTo
  generalize hd : (if bt s i = 108 then (-1 : Int) else 1) = d
  have hd2 : d = -1 ∨ d = 1 := by rw [← hd]; split <;> simp
  clear hd
  by_cases c : (0 ≤ i ∧ i < (s.size : Int)) ∧ ¬ bt s i = 46
  · rw [if_pos c]
    by_cases c1 : (0 ≤ i + d ∧ i + d < (s.size : Int)) ∧ bt s (i + d) = 46
    · rw [if_pos c1]; intro h; omega
    · rw [if_neg c1]
      by_cases c2 : ((0 ≤ i + 2 * d ∧ i + 2 * d < (s.size : Int)) ∧ bt s (i + 2 * d) = 46) ∧ ¬ bt s (i + d) = bt s i
      · rw [if_pos c2]; intro h; omega
      · rw [if_neg c2]; intro h; omega
  · rw [if_neg c]; intro h; omega
theorem moved_size (s : ByteArray) (i : Int) : (movedB s i).size = s.size := by
  show ((List.range s.size).map (movedAt s i (frogTo s i))).toArray.size = s.size
  rw [List.size_toArray, List.length_map, List.length_range]
theorem bt_in (s : ByteArray) (j : Nat) (h : j < s.size) : bt s (j : Int) = ((s.data.toList.getD j 0).toNat : Int) := by
  rw [bt_list s j (by simpa using h), List.getD_eq_getElem?_getD, List.getElem?_eq_getElem (by simpa using h)]; rfl
theorem bt_moved (s : ByteArray) (i : Int) (j : Nat) (h : j < s.size) (hi : 0 ≤ i ∧ i < (s.size : Int)) : bt (movedB s i) (j : Int) = if (j : Int) = i then 46 else if (j : Int) = frogTo s i then bt s i else bt s (j : Int) := by
  have hm : j < (movedB s i).size := by rw [moved_size]; exact h
  rw [bt_list _ j (by simpa using hm)]
  have e : (movedB s i).data.toList[j]'(by simpa using hm) = movedAt s i (frogTo s i) j := by simp [movedB]
  rw [e]
  unfold movedAt
  by_cases c1 : (j : Int) = i
  · rw [if_pos c1, if_pos c1]; rfl
  · rw [if_neg c1, if_neg c1]
    by_cases c2 : (j : Int) = frogTo s i
    · rw [if_pos c2, if_pos c2, ← bt_in s i.toNat (by omega), show ((i.toNat : Nat) : Int) = i by omega]
    · rw [if_neg c2, if_neg c2, ← bt_in s j h]
theorem pond_moved {s : ByteArray} (hg : Pond s) {i : Int} (hi : 0 ≤ frogTo s i) : Pond (movedB s i) := by
  have h1 := frogTo_in hi
  refine ⟨by rw [moved_size]; exact hg.1, fun j h0 hj => ?_⟩
  rw [moved_size] at hj
  have h := bt_moved s i j.toNat (by omega) h1.1
  rw [show ((j.toNat : Nat) : Int) = j by omega] at h
  rw [h]
  by_cases c1 : j = i
  · rw [if_pos c1]; exact .inr (.inr rfl)
  · rw [if_neg c1]
    by_cases c2 : j = frogTo s i
    · rw [if_pos c2]; exact hg.2 i h1.1.1 h1.1.2
    · rw [if_neg c2]; exact hg.2 j h0 hj
theorem fgTo_eq {s : ByteArray} (hg : Pond s) (i : Int) : spec_fgTo.f s i = some (frogTo s i) := by
  have := hg.1.2
  unfold spec_fgTo.f; rw [if_pos (by omega)]
theorem fgMove_eq {s : ByteArray} (hg : Pond s) {i : Int} (hi : 0 ≤ frogTo s i) : spec_fgMove.f s i = some (movedB s i) := by
  have := hg.1.2
  have h1 := frogTo_in hi
  unfold spec_fgMove.f; rw [if_pos ⟨⟨by omega, pond_ascii hg⟩, h1.1⟩]
theorem hopped_eq {s : ByteArray} (hg : Pond s) {i : Int} (hi : 0 ≤ frogTo s i) : impl_hopped.f s i = some (movedB s i) := by
  have := hg.1.2
  have h1 := frogTo_in hi
  unfold impl_hopped.f; rw [if_pos ⟨⟨by omega, h1.1⟩, hi, h1.2.1⟩]
theorem target_eq {s : ByteArray} (hg : Pond s) {i : Int} (h : 0 ≤ i ∧ i < (s.size : Int)) : impl_target.f s i = some (frogTo s i) := by
  have := hg.1.2
  unfold impl_target.f; rw [if_pos ⟨by omega, h⟩]
theorem frogTo_go {s : ByteArray} {i : Int} (h : 0 ≤ frogTo s i) : bt s (frogTo s i) = 46 ∧ bt s i ≠ 46 ∧ ((bt s i = 108 ∧ (frogTo s i = i - 1 ∨ frogTo s i = i - 2)) ∨ (bt s i ≠ 108 ∧ (frogTo s i = i + 1 ∨ frogTo s i = i + 2))) := by
  revert h
  unfold frogTo
  generalize hd : (if bt s i = 108 then (-1 : Int) else 1) = d
  have hd2 : (bt s i = 108 ∧ d = -1) ∨ (bt s i ≠ 108 ∧ d = 1) := by
    rw [← hd]
    by_cases c : bt s i = 108
    · exact .inl ⟨c, by rw [if_pos c]⟩
    · exact .inr ⟨c, by rw [if_neg c]⟩
  clear hd
  by_cases c : (0 ≤ i ∧ i < (s.size : Int)) ∧ ¬ bt s i = 46
  · rw [if_pos c]
    by_cases c1 : (0 ≤ i + d ∧ i + d < (s.size : Int)) ∧ bt s (i + d) = 46
    · rw [if_pos c1]; intro h
      refine ⟨c1.2, c.2, ?_⟩
      rcases hd2 with ⟨e, rfl⟩ | ⟨e, rfl⟩
      · exact .inl ⟨e, .inl (by omega)⟩
      · exact .inr ⟨e, .inl (by omega)⟩
    · rw [if_neg c1]
      by_cases c2 : ((0 ≤ i + 2 * d ∧ i + 2 * d < (s.size : Int)) ∧ bt s (i + 2 * d) = 46) ∧ ¬ bt s (i + d) = bt s i
      · rw [if_pos c2]; intro h
        refine ⟨c2.1.2, c.2, ?_⟩
        rcases hd2 with ⟨e, rfl⟩ | ⟨e, rfl⟩
        · exact .inl ⟨e, .inr (by omega)⟩
        · exact .inr ⟨e, .inr (by omega)⟩
      · rw [if_neg c2]; intro h; omega
  · rw [if_neg c]; intro h; omega
def sumTo (f : Nat → Int) : Nat → Int
  | 0 => 0
  | n + 1 => sumTo f n + f n
theorem sumTo_congr (f g : Nat → Int) (n : Nat) (h : ∀ j, j < n → f j = g j) : sumTo f n = sumTo g n := by
  induction n with
  | zero => rfl
  | succ n ih => simp only [sumTo]; rw [ih (fun j hj => h j (by omega)), h n (by omega)]
theorem sumTo_upd (f : Nat → Int) (a : Nat) (x : Int) (n : Nat) : sumTo (fun j => if j = a then x else f j) n = sumTo f n + (if a < n then x - f a else 0) := by
  induction n with
  | zero => simp [sumTo]
  | succ n ih =>
    simp only [sumTo]
    rw [ih]
    by_cases h : n = a
    · subst h; rw [if_neg (by omega), if_pos rfl, if_pos (by omega)]; omega
    · rw [if_neg h]
      by_cases h2 : a < n
      · rw [if_pos h2, if_pos (by omega)]; omega
      · rw [if_neg h2, if_neg (by omega)]; omega
theorem sumTo_bound (f : Nat → Int) (n : Nat) (h : ∀ j, j < n → 0 ≤ f j ∧ f j ≤ 8) : 0 ≤ sumTo f n ∧ sumTo f n ≤ 8 * n := by
  induction n with
  | zero => simp [sumTo]
  | succ n ih => simp only [sumTo]; have := ih (fun j hj => h j (by omega)); have := h n (by omega); omega
/-- How far a stone's frog has come. -/
def rk (s : ByteArray) (j : Nat) : Int := if bt s (j : Int) = 114 then (j : Int) else if bt s (j : Int) = 108 then (s.size : Int) - 1 - j else 0
def rank (s : ByteArray) : Int := sumTo (rk s) s.size
theorem rank_bound {s : ByteArray} (hg : Pond s) : 0 ≤ rank s ∧ rank s ≤ 72 := by
  have h9 := hg.1
  have := sumTo_bound (rk s) s.size (fun j hj => by
    unfold rk
    split
    · omega
    · split <;> omega)
  unfold rank; omega
theorem rank_moved {s : ByteArray} (hg : Pond s) {i : Int} (hi : 0 ≤ frogTo s i) : rank s + 1 ≤ rank (movedB s i) := by
  have h1 := frogTo_in hi
  have h2 := frogTo_go hi
  obtain ⟨a, rfl⟩ : ∃ a : Nat, i = (a : Int) := ⟨i.toNat, by omega⟩
  obtain ⟨b, hb⟩ : ∃ b : Nat, frogTo s (a : Int) = (b : Int) := ⟨(frogTo s (a : Int)).toNat, by omega⟩
  have hab : b ≠ a := by intro e; subst e; exact h1.2.2 hb
  have ha : a < s.size := by omega
  have hbs : b < s.size := by omega
  have e : rank (movedB s (a : Int)) = sumTo (fun j => if j = a then (0 : Int) else (fun j => if j = b then (if bt s (a : Int) = 114 then (b : Int) else (s.size : Int) - 1 - b) else rk s j) j) s.size := by
    unfold rank
    rw [moved_size]
    apply sumTo_congr
    intro j hj
    have hm := bt_moved s (a : Int) j hj h1.1
    rw [hb] at hm
    show rk (movedB s (a : Int)) j = (if j = a then (0 : Int) else if j = b then (if bt s (a : Int) = 114 then (b : Int) else (s.size : Int) - 1 - b) else rk s j)
    by_cases c1 : j = a
    · have hm' : bt (movedB s (a : Int)) (j : Int) = 46 := by rw [hm, if_pos (by omega)]
      rw [if_pos c1]
      unfold rk
      rw [hm', if_neg (by decide), if_neg (by decide)]
    · rw [if_neg c1]
      by_cases c2 : j = b
      · have hm' : bt (movedB s (a : Int)) (j : Int) = bt s (a : Int) := by rw [hm, if_neg (by omega), if_pos (by omega)]
        rw [if_pos c2]
        unfold rk
        rw [hm', moved_size]
        have h3 := hg.2 (a : Int) (by omega) (by omega)
        by_cases c3 : bt s (a : Int) = 114
        · rw [if_pos c3, if_pos c3]; omega
        · have c4 : bt s (a : Int) = 108 := by
            rcases h3 with e | e | e
            · exact absurd e c3
            · exact e
            · exact absurd e h2.2.1
          rw [if_neg c3, if_neg c3, if_pos c4]; omega
      · have hm' : bt (movedB s (a : Int)) (j : Int) = bt s (j : Int) := by rw [hm, if_neg (by omega), if_neg (by omega)]
        rw [if_neg c2]
        unfold rk
        rw [hm', moved_size]
  rw [e, sumTo_upd _ a 0 s.size, sumTo_upd _ b _ s.size, if_pos ha, if_pos hbs]
  have r1 : rk s b = 0 := by
    unfold rk
    rw [hb] at h2
    rw [h2.1, if_neg (by decide), if_neg (by decide)]
  rw [if_neg (Ne.symm hab), r1]
  have h3 := hg.2 (a : Int) (by omega) (by omega)
  show sumTo (rk s) s.size + 1 ≤ _
  unfold rk
  by_cases c3 : bt s (a : Int) = 114
  · rw [if_pos c3, if_pos c3]
    rcases h2.2.2 with ⟨e1, e2⟩ | ⟨e1, e2⟩
    · omega
    · omega
  · have c4 : bt s (a : Int) = 108 := by
      rcases h3 with e | e | e
      · exact absurd e c3
      · exact e
      · exact absurd e h2.2.1
    rw [if_neg c3, if_neg c3, if_pos c4]
    rcases h2.2.2 with ⟨e1, e2⟩ | ⟨e1, e2⟩
    · omega
    · exact absurd c4 e1
theorem moves_go {s : ByteArray} {m : Int} (h : m ∈ moves s) : 0 ≤ frogTo s m := ((movesF_mem s s.size 0 m).1 h).2
theorem moves_len (s : ByteArray) : (moves s).length ≤ s.size := movesF_len s s.size 0
theorem BA_eq {a b : ByteArray} (h : a.toList = b.toList) : a = b := by
  rw [Lib.toList_data, Lib.toList_data] at h
  cases a; cases b
  congr 1
  exact Array.toList_inj.1 h
/-- Is a text among the texts? -/
def has (xs : List ByteArray) (t : ByteArray) : Bool := decide (t.data.toList ∈ xs.map (fun u => u.data.toList))
theorem has_iff (xs : List ByteArray) (t : ByteArray) : has xs t = true ↔ t ∈ xs := by
  unfold has
  rw [decide_eq_true_iff, List.mem_map]
  constructor
  · rintro ⟨u, hu, e⟩
    have : u = t := BA_eq (by rw [Lib.toList_data, Lib.toList_data]; exact e)
    exact this ▸ hu
  · intro h; exact ⟨t, h, rfl⟩
/-- The list behind looking at some moves of a pond: each new pond once. -/
def addNew (xs : List ByteArray) (s : ByteArray) : List Int → List ByteArray
  | [] => xs
  | m :: ms => if has xs (movedB s m) = true then addNew xs s ms else addNew (xs ++ [movedB s m]) s ms
def grow : Nat → List ByteArray → Nat → List ByteArray
  | 0, xs, _ => xs
  | d + 1, xs, i => if i < xs.length then grow d (addNew xs (xs.getD i ByteArray.empty) (moves (xs.getD i ByteArray.empty))) (i + 1) else xs
/-- Ponds of one length, each once. -/
def Inv (n : Nat) (xs : List ByteArray) : Prop := (∀ s ∈ xs, Pond s ∧ s.size = n) ∧ xs.Nodup
theorem inv_add {n : Nat} {s : ByteArray} (hg : Pond s) (hn : s.size = n) : ∀ (ms : List Int) (xs : List ByteArray), (∀ m ∈ ms, 0 ≤ frogTo s m) → Inv n xs → Inv n (addNew xs s ms) := by
  intro ms
  induction ms with
  | nil => intro xs _ h; exact h
  | cons m ms ih =>
    intro xs hm h
    simp only [addNew]
    by_cases c : has xs (movedB s m) = true
    · rw [if_pos c]; exact ih xs (fun x hx => hm x (List.mem_cons_of_mem _ hx)) h
    · rw [if_neg c]
      refine ih _ (fun x hx => hm x (List.mem_cons_of_mem _ hx)) ⟨?_, ?_⟩
      · intro t ht
        rw [List.mem_append] at ht
        rcases ht with ht | ht
        · exact h.1 t ht
        · rw [List.mem_singleton] at ht
          subst ht
          exact ⟨pond_moved hg (hm m List.mem_cons_self), by rw [moved_size]; exact hn⟩
      · rw [List.nodup_append]
        refine ⟨h.2, by simp, ?_⟩
        intro a ha b hb e
        rw [List.mem_singleton] at hb
        subst hb
        exact c ((has_iff _ _).2 (e ▸ ha))
theorem add_pre (s : ByteArray) : ∀ (ms : List Int) (xs : List ByteArray), ∃ ys, addNew xs s ms = xs ++ ys := by
  intro ms
  induction ms with
  | nil => intro xs; exact ⟨[], by simp [addNew]⟩
  | cons m ms ih =>
    intro xs
    simp only [addNew]
    split
    · exact ih xs
    · obtain ⟨ys, h⟩ := ih (xs ++ [movedB s m])
      exact ⟨movedB s m :: ys, by rw [h]; simp⟩
/-- All texts of three signs of one length. -/
def strs : Nat → List (List UInt8)
  | 0 => [[]]
  | n + 1 => (strs n).map (fun l => 46 :: l) ++ ((strs n).map (fun l => 108 :: l) ++ (strs n).map (fun l => 114 :: l))
theorem strs_len (n : Nat) : (strs n).length = 3 ^ n := by
  induction n with
  | zero => rfl
  | succ n ih => simp only [strs, List.length_append, List.length_map, ih]; omega
theorem strs_mem : ∀ (l : List UInt8), (∀ x ∈ l, x = 114 ∨ x = 108 ∨ x = 46) → l ∈ strs l.length := by
  intro l
  induction l with
  | nil => intro _; simp [strs]
  | cons a l ih =>
    intro h
    have h1 := ih (fun x hx => h x (List.mem_cons_of_mem _ hx))
    simp only [strs, List.length_cons, List.mem_append, List.mem_map]
    rcases h a List.mem_cons_self with rfl | rfl | rfl
    · exact .inr (.inr ⟨l, h1, rfl⟩)
    · exact .inr (.inl ⟨l, h1, rfl⟩)
    · exact .inl ⟨l, h1, rfl⟩
theorem nodup_len {α : Type} [DecidableEq α] : ∀ (l m : List α), l.Nodup → (∀ x ∈ l, x ∈ m) → l.length ≤ m.length := by
  intro l
  induction l with
  | nil => intro m _ _; simp
  | cons a l ih =>
    intro m hn hs
    rw [List.nodup_cons] at hn
    have ha := hs a List.mem_cons_self
    have h := ih (m.erase a) hn.2 (fun x hx => by
      have hne : x ≠ a := fun e => hn.1 (e ▸ hx)
      exact (List.mem_erase_of_ne hne).2 (hs x (List.mem_cons_of_mem _ hx)))
    rw [List.length_erase_of_mem ha] at h
    have : 0 < m.length := List.length_pos_of_mem ha
    simp only [List.length_cons]; omega
theorem pond_bytes {s : ByteArray} (hg : Pond s) : ∀ x ∈ s.data.toList, x = 114 ∨ x = 108 ∨ x = 46 := by
  intro x hx
  obtain ⟨n, hn, rfl⟩ := List.mem_iff_getElem.1 hx
  have hb := bt_list s n hn
  have hlt : n < s.size := by simpa using hn
  have := hg.2 n (by omega) (by omega)
  rw [hb] at this
  rcases this with e | e | e
  · left; apply UInt8.toNat_inj.1; simpa using Int.ofNat.inj e
  · right; left; apply UInt8.toNat_inj.1; simpa using Int.ofNat.inj e
  · right; right; apply UInt8.toNat_inj.1; simpa using Int.ofNat.inj e
theorem inv_len {n : Nat} (hn : n ≤ 9) {xs : List ByteArray} (h : Inv n xs) : xs.length ≤ 19683 := by
  have h1 := nodup_len (xs.map (fun s => s.data.toList)) (strs n) (by
    have h2 := h.2
    unfold List.Nodup at h2 ⊢
    rw [List.pairwise_map]
    exact h2.imp (fun hne e => hne (BA_eq (by rw [Lib.toList_data, Lib.toList_data]; exact e)))) (by
    intro x hx
    rw [List.mem_map] at hx
    obtain ⟨s, hs, rfl⟩ := hx
    have h3 := h.1 s hs
    have h4 := strs_mem s.data.toList (pond_bytes h3.1)
    rw [show s.data.toList.length = n by rw [← h3.2]; simp] at h4
    exact h4)
  rw [List.length_map, strs_len] at h1
  have h5 : 3 ^ n ≤ 3 ^ 9 := Nat.pow_le_pow_right (by decide) hn
  have h6 : (3 : Nat) ^ 9 = 19683 := by decide
  omega
theorem rdOf_at {α : Type} (d : α) (pre rest : List α) (x : α) (i : Int) (h : i = pre.length) : rdOf d (pre ++ x :: rest) i = x := by
  subst h; unfold rdOf; simp
theorem sIndex_l0 (l : List ByteArray) (a : ByteArray) (hl : l.length < 4611686018427387904) (rest : List ByteArray) : ∀ (k : Nat) (pre : List ByteArray) (i : Int), l = pre ++ rest → i = pre.length → rest.length < k → ∃ r, slices_Index_string_string.l0 k l a (l.length : Int) i = some r ∧ (0 ≤ r ↔ a ∈ rest) := by
  induction rest with
  | nil =>
    intro k pre i h hi hk
    obtain ⟨k, rfl⟩ : ∃ m, k = m + 1 := ⟨k - 1, by simp at hk; omega⟩
    rw [List.append_nil] at h
    simp only [slices_Index_string_string.l0]; rw [if_neg (by subst h; omega)]; exact ⟨-1, rfl, by simp⟩
  | cons x rest ih =>
    intro k pre i h hi hk
    simp only [List.length_cons] at hk
    obtain ⟨k, rfl⟩ : ∃ m, k = m + 1 := ⟨k - 1, by omega⟩
    have hlen : l.length = pre.length + (rest.length + 1) := by subst h; simp
    have hrd : rdOf ByteArray.empty l i = x := by subst h; exact rdOf_at _ pre rest x i hi
    simp only [slices_Index_string_string.l0]
    rw [if_pos (by omega), if_pos (by omega), if_pos (by omega), hrd, w64 (by omega) (by omega)]
    by_cases e : a.toList = x.toList
    · rw [if_pos e]; exact ⟨i, rfl, by rw [BA_eq e]; simp; omega⟩
    · rw [if_neg e]
      obtain ⟨r, h1, h2⟩ := ih k (pre ++ [x]) (i + 1) (by subst h; simp) (by simp; omega) (by omega)
      refine ⟨r, h1, h2.trans ?_⟩
      rw [List.mem_cons]
      constructor
      · exact .inr
      · rintro (e2 | h3)
        · exact absurd (by rw [e2]) e
        · exact h3
theorem sContains_eq (l : List ByteArray) (a : ByteArray) (hl : l.length < 4611686018427387904) {k : Nat} (hk : l.length < k) : slices_Contains_string_string.f k l a = some (has l a) := by
  unfold slices_Contains_string_string.f slices_Index_string_string.f
  obtain ⟨r, h1, h2⟩ := sIndex_l0 l a hl l k [] 0 rfl rfl hk
  rw [h1]
  simp only [Option.bind_some]
  congr 1
  rw [Bool.eq_iff_iff, decide_eq_true_iff, has_iff]
  exact h2
theorem fgAt_l0 (l : List ByteArray) (a : ByteArray) (hl : l.length < 4611686018427387904) (rest : List ByteArray) : ∀ (k : Nat) (pre : List ByteArray) (i : Int), l = pre ++ rest → i = pre.length → rest.length < k → ∃ r, spec_fgAt.l0 k a l (l.length : Int) i = some r ∧ (0 ≤ r ↔ a ∈ rest) ∧ r < l.length := by
  induction rest with
  | nil =>
    intro k pre i h hi hk
    obtain ⟨k, rfl⟩ : ∃ m, k = m + 1 := ⟨k - 1, by simp at hk; omega⟩
    rw [List.append_nil] at h
    simp only [spec_fgAt.l0]; rw [if_neg (by subst h; omega)]; exact ⟨-1, rfl, by simp, by omega⟩
  | cons x rest ih =>
    intro k pre i h hi hk
    simp only [List.length_cons] at hk
    obtain ⟨k, rfl⟩ : ∃ m, k = m + 1 := ⟨k - 1, by omega⟩
    have hlen : l.length = pre.length + (rest.length + 1) := by subst h; simp
    have hrd : rdOf ByteArray.empty l i = x := by subst h; exact rdOf_at _ pre rest x i hi
    simp only [spec_fgAt.l0]
    rw [if_pos (by omega), if_pos (by omega), if_pos (by omega), hrd, w64 (by omega) (by omega)]
    by_cases e : x.toList = a.toList
    · rw [if_pos e]; exact ⟨i, rfl, by rw [BA_eq e]; simp; omega, by omega⟩
    · rw [if_neg e]
      obtain ⟨r, h1, h2, h3⟩ := ih k (pre ++ [x]) (i + 1) (by subst h; simp) (by simp; omega) (by omega)
      refine ⟨r, h1, h2.trans ?_, h3⟩
      rw [List.mem_cons]
      constructor
      · exact .inr
      · rintro (e2 | h4)
        · exact absurd (by rw [e2]) e
        · exact h4
theorem fgAt_eq (l : List ByteArray) (a : ByteArray) (hl : l.length < 4611686018427387904) {k : Nat} (hk : l.length < k) : ∃ r, spec_fgAt.f k l a = some r ∧ (0 ≤ r ↔ a ∈ l) ∧ r < l.length :=
  fgAt_l0 l a hl l k [] 0 rfl rfl hk
theorem getD_pre (xs ys : List ByteArray) (i : Nat) (h : i < xs.length) : (xs ++ ys).getD i ByteArray.empty = xs.getD i ByteArray.empty := by
  simp [List.getD_eq_getElem?_getD, List.getElem?_append_left h]
theorem rdOf_nat (xs : List ByteArray) (i : Nat) : rdOf ByteArray.empty xs (i : Int) = xs.getD i ByteArray.empty := by unfold rdOf; simp
theorem reached_l1 (n : Nat) (hn9 : n ≤ 9) (s : ByteArray) (hg : Pond s) (hn : s.size = n) (i : Nat) (T : List Int) (hT : ∀ m ∈ T, 0 ≤ frogTo s m) (hTl : T.length ≤ 9) (rest : List Int) : ∀ (k : Nat) (pre : List Int) (xs : List ByteArray) (j : Int), T = pre ++ rest → j = pre.length → Inv n xs → i < xs.length → xs.getD i ByteArray.empty = s → 19800 ≤ k → impl_reached.l1 (k + rest.length + 1) xs (i : Int) T (T.length : Int) j = impl_reached.l0 k (addNew xs s rest) ((i + 1 : Nat) : Int) := by
  induction rest with
  | nil =>
    intro k pre xs j h hj hI hi hs hk
    rw [List.append_nil] at h
    have hlen := inv_len hn9 hI
    simp only [impl_reached.l1, addNew, List.length_nil, Nat.add_zero]
    rw [if_neg (by subst h; omega), w64 (by omega) (by omega)]
    rfl
  | cons m rest ih =>
    intro k pre xs j h hj hI hi hs hk
    have hlen := inv_len hn9 hI
    have hTlen : T.length = pre.length + (rest.length + 1) := by subst h; simp
    have hrd : rd T j = m := by subst h; subst hj; unfold rd; simp
    have hm := hT m (by rw [h]; simp)
    simp only [List.length_cons]
    obtain ⟨q, hq⟩ : ∃ q, k + rest.length + 1 = q := ⟨_, rfl⟩
    rw [show k + (rest.length + 1) + 1 = q + 1 by omega]
    simp only [impl_reached.l1, addNew]
    rw [if_pos (by omega), if_pos (by omega), if_pos (by omega), if_pos (by omega), if_pos (by omega), hrd, rdOf_nat, hs, hopped_eq hg hm]
    simp only [Option.bind_some]
    rw [sContains_eq xs _ (by omega) (by omega), w64 (by omega) (by omega)]
    simp only [Option.bind_some]
    by_cases c : has xs (movedB s m) = true
    · rw [if_pos c, if_pos c]
      rw [← hq]
      exact ih k (pre ++ [m]) xs (j + 1) (by rw [h]; simp) (by simp; omega) hI hi hs hk
    · rw [if_neg c, if_neg c, if_pos (by omega)]
      have hI2 : Inv n (xs ++ [movedB s m]) := by
        have := inv_add hg hn [m] xs (fun x hx => by rw [List.mem_singleton] at hx; subst hx; exact hm) hI
        simp only [addNew] at this; rw [if_neg c] at this; exact this
      rw [← hq]
      exact ih k (pre ++ [m]) (xs ++ [movedB s m]) (j + 1) (by rw [h]; simp) (by simp; omega) hI2 (by simp; omega) (by rw [getD_pre _ _ _ hi]; exact hs) hk
theorem reached_l0 (n : Nat) (hn9 : n ≤ 9) (d : Nat) : ∀ (k : Nat) (xs : List ByteArray) (i : Nat), i + d = 19683 → 12 * d + 19900 ≤ k → Inv n xs → impl_reached.l0 k xs (i : Int) = some (grow d xs i) := by
  induction d with
  | zero =>
    intro k xs i hi hk hI
    have hlen := inv_len hn9 hI
    obtain ⟨k, rfl⟩ : ∃ m, k = m + 1 := ⟨k - 1, by omega⟩
    simp only [impl_reached.l0, grow]
    rw [if_neg (by omega)]
  | succ d ih =>
    intro k xs i hi hk hI
    have hlen := inv_len hn9 hI
    obtain ⟨k, rfl⟩ : ∃ m, k = m + 1 := ⟨k - 1, by omega⟩
    simp only [impl_reached.l0, grow]
    by_cases c : i < xs.length
    · obtain ⟨s, hs⟩ : ∃ s, xs.getD i ByteArray.empty = s := ⟨_, rfl⟩
      have hmem : s ∈ xs := by
        rw [← hs, List.getD_eq_getElem?_getD, List.getElem?_eq_getElem c]; exact List.getElem_mem c
      have hp := hI.1 s hmem
      have hml := moves_len s
      have hgo : ∀ m ∈ moves s, 0 ≤ frogTo s m := fun m hm => moves_go hm
      rw [if_pos (by omega), if_pos c, if_pos (by omega), rdOf_nat, hs, hops_eq (by omega) (by omega)]
      simp only [Option.bind_some]
      obtain ⟨q, hq⟩ : ∃ q, k = q + (moves s).length + 1 := ⟨k - (moves s).length - 1, by omega⟩
      rw [hq, reached_l1 n hn9 s hp.1 hp.2 i (moves s) hgo (by omega) (moves s) q [] xs 0 rfl rfl hI c hs (by omega)]
      exact ih q _ (i + 1) (by omega) (by omega) (inv_add hp.1 hp.2 (moves s) xs hgo hI)
    · rw [if_neg (by omega), if_neg c]
theorem fgReach_l1 (n : Nat) (hn9 : n ≤ 9) (s : ByteArray) (hg : Pond s) (hn : s.size = n) (i : Nat) (T : List Int) (hT : ∀ m ∈ T, 0 ≤ frogTo s m) (hTl : T.length ≤ 9) (rest : List Int) : ∀ (k : Nat) (pre : List Int) (xs : List ByteArray) (x7 x8 x9 : List Int) (j : Int), T = pre ++ rest → j = pre.length → Inv n xs → i < xs.length → xs.getD i ByteArray.empty = s → x7.length = xs.length → x8.length = xs.length → x9.length = xs.length → 19800 ≤ k → ∃ y7 y8 y9 : List Int, y7.length = (addNew xs s rest).length ∧ y8.length = (addNew xs s rest).length ∧ y9.length = (addNew xs s rest).length ∧ spec_fgReach.l1 (k + rest.length + 1) xs x7 x8 x9 (i : Int) T (T.length : Int) j = spec_fgReach.l0 k (addNew xs s rest) y7 y8 y9 ((i + 1 : Nat) : Int) := by
  induction rest with
  | nil =>
    intro k pre xs x7 x8 x9 j h hj hI hi hs h7 h8 h9 hk
    rw [List.append_nil] at h
    have hlen := inv_len hn9 hI
    refine ⟨x7, x8, x9, h7, h8, h9, ?_⟩
    simp only [spec_fgReach.l1, addNew, List.length_nil, Nat.add_zero]
    rw [if_neg (by subst h; omega), w64 (by omega) (by omega)]
    rfl
  | cons m rest ih =>
    intro k pre xs x7 x8 x9 j h hj hI hi hs h7 h8 h9 hk
    have hlen := inv_len hn9 hI
    have hTlen : T.length = pre.length + (rest.length + 1) := by subst h; simp
    have hrd : rd T j = m := by subst h; subst hj; unfold rd; simp
    have hm := hT m (by rw [h]; simp)
    simp only [List.length_cons]
    obtain ⟨q, hq⟩ : ∃ q, k + rest.length + 1 = q := ⟨_, rfl⟩
    rw [show k + (rest.length + 1) + 1 = q + 1 by omega]
    obtain ⟨r, hr1, hr2, hr3⟩ := fgAt_eq xs (movedB s m) (by omega) (show xs.length < q by omega)
    by_cases c : has xs (movedB s m) = true
    · have hr0 := hr2.2 ((has_iff _ _).1 c)
      have ha : addNew xs s (m :: rest) = addNew xs s rest := by simp only [addNew]; rw [if_pos c]
      have hst : spec_fgReach.l1 (q + 1) xs x7 x8 x9 (i : Int) T (T.length : Int) j = spec_fgReach.l1 q xs x7 x8 (x9.set r.toNat (wrap64 (rd x9 r + rd x9 (i : Int)))) (i : Int) T (T.length : Int) (j + 1) := by
        simp only [spec_fgReach.l1]
        rw [if_pos (by omega), if_pos (by omega), if_pos (by omega), if_pos (by omega), if_pos (by omega), hrd, rdOf_nat, hs, fgMove_eq hg hm]
        simp only [Option.bind_some]
        rw [hr1, w64 (x := j + 1) (by omega) (by omega)]
        simp only [Option.bind_some]
        rw [if_neg (by omega), if_pos hr0, if_pos (by omega), if_pos (by omega)]
      rw [ha, hst, ← hq]
      exact ih k (pre ++ [m]) xs x7 x8 _ (j + 1) (by rw [h]; simp) (by simp; omega) hI hi hs h7 h8 (by rw [List.length_set]; exact h9) hk
    · have hr0 : ¬ 0 ≤ r := fun e => c ((has_iff _ _).2 (hr2.1 e))
      have ha : addNew xs s (m :: rest) = addNew (xs ++ [movedB s m]) s rest := by simp only [addNew]; rw [if_neg c]
      have hst : ∃ z9 : List Int, z9.length = xs.length + 1 ∧ spec_fgReach.l1 (q + 1) xs x7 x8 x9 (i : Int) T (T.length : Int) j = spec_fgReach.l1 q (xs ++ [movedB s m]) (x7 ++ [(i : Int)]) (x8 ++ [m]) z9 (i : Int) T (T.length : Int) (j + 1) := by
        refine ⟨(x9 ++ [0]).set ((xs.length : Int) : Int).toNat (wrap64 ((rd (x9 ++ [0]) (xs.length : Int)) + (rd (x9 ++ [0]) (i : Int)))), by rw [List.length_set]; simp; omega, ?_⟩
        simp only [spec_fgReach.l1]
        rw [if_pos (by omega), if_pos (by omega), if_pos (by omega), if_pos (by omega), if_pos (by omega), hrd, rdOf_nat, hs, fgMove_eq hg hm]
        simp only [Option.bind_some]
        rw [hr1, w64 (x := j + 1) (by omega) (by omega)]
        simp only [Option.bind_some]
        rw [if_pos (by omega), if_pos (by omega), if_pos (by omega), if_pos (by omega), if_pos (by omega), if_pos (by omega), if_pos (by simp; omega), if_pos (by simp; omega)]
      have hI2 : Inv n (xs ++ [movedB s m]) := by
        have := inv_add hg hn [m] xs (fun x hx => by rw [List.mem_singleton] at hx; subst hx; exact hm) hI
        simp only [addNew] at this; rw [if_neg c] at this; exact this
      obtain ⟨z9, hz, hst⟩ := hst
      rw [ha, hst, ← hq]
      exact ih k (pre ++ [m]) (xs ++ [movedB s m]) _ _ z9 (j + 1) (by rw [h]; simp) (by simp; omega) hI2 (by simp; omega) (by rw [getD_pre _ _ _ hi]; exact hs) (by simp; omega) (by simp; omega) (by simp; omega) hk
theorem fgReach_l0 (n : Nat) (hn9 : n ≤ 9) (d : Nat) : ∀ (k : Nat) (xs : List ByteArray) (x7 x8 x9 : List Int) (i : Nat), i + d = 19683 → 12 * d + 19900 ≤ k → Inv n xs → x7.length = xs.length → x8.length = xs.length → x9.length = xs.length → ∃ y7 y8 y9, spec_fgReach.l0 k xs x7 x8 x9 (i : Int) = some (grow d xs i, y7, y8, y9) := by
  induction d with
  | zero =>
    intro k xs x7 x8 x9 i hi hk hI h7 h8 h9
    have hlen := inv_len hn9 hI
    obtain ⟨k, rfl⟩ : ∃ m, k = m + 1 := ⟨k - 1, by omega⟩
    refine ⟨x7, x8, x9, ?_⟩
    simp only [spec_fgReach.l0, grow]
    rw [if_neg (by omega)]
  | succ d ih =>
    intro k xs x7 x8 x9 i hi hk hI h7 h8 h9
    have hlen := inv_len hn9 hI
    obtain ⟨k, rfl⟩ : ∃ m, k = m + 1 := ⟨k - 1, by omega⟩
    by_cases c : i < xs.length
    · obtain ⟨s, hs⟩ : ∃ s, xs.getD i ByteArray.empty = s := ⟨_, rfl⟩
      have hmem : s ∈ xs := by
        rw [← hs, List.getD_eq_getElem?_getD, List.getElem?_eq_getElem c]; exact List.getElem_mem c
      have hp := hI.1 s hmem
      have hml := moves_len s
      have hgo : ∀ m ∈ moves s, 0 ≤ frogTo s m := fun m hm => moves_go hm
      obtain ⟨q, hq⟩ : ∃ q, k = q + (moves s).length + 1 := ⟨k - (moves s).length - 1, by omega⟩
      obtain ⟨z7, z8, z9, g7, g8, g9, hz⟩ := fgReach_l1 n hn9 s hp.1 hp.2 i (moves s) hgo (by omega) (moves s) q [] xs x7 x8 x9 0 rfl rfl hI c hs h7 h8 h9 (by omega)
      obtain ⟨y7, y8, y9, hy⟩ := ih q _ z7 z8 z9 (i + 1) (by omega) (by omega) (inv_add hp.1 hp.2 (moves s) xs hgo hI) g7 g8 g9
      refine ⟨y7, y8, y9, ?_⟩
      simp only [spec_fgReach.l0, grow]
      rw [if_pos (by omega), if_pos c, if_pos (by omega), rdOf_nat, hs, fgMoves_eq hp.1]
      simp only [Option.bind_some]
      rw [hq, hz, hy]
    · refine ⟨x7, x8, x9, ?_⟩
      simp only [spec_fgReach.l0, grow]
      rw [if_neg (by omega), if_neg c]
theorem inv_one {s : ByteArray} (hg : Pond s) : Inv s.size [s] := ⟨fun t ht => by rw [List.mem_singleton] at ht; subst ht; exact ⟨hg, rfl⟩, by simp⟩
theorem reached_eq {s : ByteArray} (hg : Pond s) {k : Nat} (hk : 300000 ≤ k) : impl_reached.f k s = some (grow 19683 [s] 0) := by
  unfold impl_reached.f
  exact reached_l0 s.size hg.1.2 19683 k [s] 0 (by omega) (by omega) (inv_one hg)
theorem fgReach_eq {s : ByteArray} (hg : Pond s) {k : Nat} (hk : 300000 ≤ k) : ∃ y7 y8 y9, spec_fgReach.f k s = some (grow 19683 [s] 0, y7, y8, y9) := by
  unfold spec_fgReach.f
  exact fgReach_l0 s.size hg.1.2 19683 k [s] [-1] [-1] [1] 0 (by omega) (by omega) (inv_one hg) rfl rfl rfl
theorem mt_l0 (d : Nat) : ∀ (k : Nat) (n : Int) (x : ByteArray), 0 ≤ n → n ≤ d → d < k → x.size + d ≤ 1000000 → ∃ t, laws_markText.l0 k n x = some t := by
  induction d with
  | zero =>
    intro k n x h0 h1 hk hx
    obtain ⟨k, rfl⟩ : ∃ m, k = m + 1 := ⟨k - 1, by omega⟩
    simp only [laws_markText.l0]
    rw [if_neg (by omega), if_pos (by omega)]
    exact ⟨_, rfl⟩
  | succ d ih =>
    intro k n x h0 h1 hk hx
    obtain ⟨k, rfl⟩ : ∃ m, k = m + 1 := ⟨k - 1, by omega⟩
    simp only [laws_markText.l0]
    by_cases c : n > 0
    · have hs : (strOfNums [(wrap64 (48 + (Int.tmod n 10))) % 256]).size = 1 := by simp [strOfNums, ByteArray.size]
      have hd : Int.tdiv n 10 = n / 10 := Int.tdiv_eq_ediv_of_nonneg (by omega)
      rw [if_pos c, Option.bind_some, if_pos (by rw [hs]; omega), hd, w64 (by omega) (by omega)]
      exact ih k (n / 10) _ (by omega) (by omega) (by omega) (by rw [ByteArray.size_append, hs]; omega)
    · rw [if_neg c, if_pos (by omega)]
      exact ⟨_, rfl⟩
/-- The mark of a number. -/
def mT (n : Int) : ByteArray := (laws_markText.f 100000 n).getD ByteArray.empty
theorem mt_eq {n : Int} (h0 : 0 ≤ n) (h1 : n ≤ 50000) {k : Nat} (hk : 100000 ≤ k) : laws_markText.f k n = some (mT n) := by
  have h : ∃ t, laws_markText.f 100000 n = some t := by
    unfold laws_markText.f
    by_cases c : n ≤ 0
    · rw [if_pos c]; exact ⟨_, rfl⟩
    · rw [if_neg c]; exact mt_l0 50000 100000 n _ h0 h1 (by omega) (by show 0 + 50000 ≤ 1000000; omega)
  obtain ⟨t, ht⟩ := h
  have e : mT n = t := by unfold mT; rw [ht]; rfl
  rw [e]
  exact at_rounds (g := fun k => laws_markText.f k n) (fun k => laws_markText.mono n k) hk ht
theorem rdS_set (l : List ByteArray) (i j : Int) (v : ByteArray) (h0 : 0 ≤ i) (h1 : i < l.length) (h2 : 0 ≤ j) : rdOf ByteArray.empty (l.set i.toNat v) j = if j = i then v else rdOf ByteArray.empty l j := by
  unfold rdOf
  rw [List.getD_eq_getElem?_getD, List.getD_eq_getElem?_getD, List.getElem?_set]
  by_cases e : j = i
  · subst e; rw [if_pos rfl, if_pos rfl, if_pos (by omega)]; rfl
  · rw [if_neg e, if_neg (by omega)]
theorem markS_l0 (d : Nat) : ∀ (k : Nat) (l : List ByteArray) (v i : Int), l.length ≤ 20000 → 0 ≤ i → i ≤ l.length → (l.length : Int) - i ≤ d → d + 100000 < k → 0 ≤ v → v + ((l.length : Int) - i) ≤ 50000 →
    ∃ m, laws_markStringS.l0 k l v i = some (v + ((l.length : Int) - i), m) ∧ m.length = l.length ∧ (∀ j : Int, 0 ≤ j → j < i → rdOf ByteArray.empty m j = rdOf ByteArray.empty l j) ∧ ∀ j : Int, i ≤ j → j < l.length → rdOf ByteArray.empty m j = mT (v + (j - i)) := by
  induction d with
  | zero =>
    intro k l v i hl h0 hi hd hk hv hb
    obtain ⟨k, rfl⟩ : ∃ m, k = m + 1 := ⟨k - 1, by omega⟩
    refine ⟨l, ?_, rfl, fun _ _ _ => rfl, fun j h1 h2 => by omega⟩
    simp only [laws_markStringS.l0]; rw [if_neg (by omega)]; congr 2; omega
  | succ d ih =>
    intro k l v i hl h0 hi hd hk hv hb
    obtain ⟨k, rfl⟩ : ∃ m, k = m + 1 := ⟨k - 1, by omega⟩
    simp only [laws_markStringS.l0]
    by_cases hlt : i < (l.length : Int)
    · rw [if_pos hlt, mt_eq hv (by omega) (show 100000 ≤ k by omega), Option.bind_some, if_pos h0, w64 (by omega) (by omega), w64 (by omega) (by omega)]
      have hlen : (l.set i.toNat (mT v)).length = l.length := by simp
      obtain ⟨m, hm, hml, hm1, hm2⟩ := ih k (l.set i.toNat (mT v)) (v + 1) (i + 1) (by rw [hlen]; exact hl) (by omega) (by omega) (by omega) (by omega) (by omega) (by omega)
      rw [hlen] at hm hml hm2
      refine ⟨m, by rw [hm]; congr 2; omega, hml, ?_, ?_⟩
      · intro j h1 h2
        rw [hm1 j h1 (by omega), rdS_set l i j _ h0 hlt h1, if_neg (by omega)]
      · intro j h1 h2
        by_cases e : j = i
        · subst e; rw [hm1 j h0 (by omega), rdS_set l j j _ h0 hlt h0, if_pos rfl, show v + (j - j) = v by omega]
        · rw [hm2 j (by omega) h2, show v + 1 + (j - (i + 1)) = v + (j - i) by omega]
    · rw [if_neg hlt]
      exact ⟨l, by congr 2; omega, rfl, fun _ _ _ => rfl, fun j h1 h2 => by omega⟩
theorem heldS_l0 (m : List ByteArray) (hl : m.length ≤ 20000) (d : Nat) : ∀ (k : Nat) (v i : Int), 0 ≤ i → i ≤ m.length → (m.length : Int) - i ≤ d → d + 100000 < k → 0 ≤ v → v + ((m.length : Int) - i) ≤ 50000 → (∀ j : Int, i ≤ j → j < m.length → rdOf ByteArray.empty m j = mT (v + (j - i))) → laws_heldStringS.l0 k m v i = some (v + ((m.length : Int) - i)) := by
  induction d with
  | zero =>
    intro k v i h0 hi hd hk hv hb h
    obtain ⟨k, rfl⟩ : ∃ m, k = m + 1 := ⟨k - 1, by omega⟩
    simp only [laws_heldStringS.l0]; rw [if_neg (by omega)]; congr 1; omega
  | succ d ih =>
    intro k v i h0 hi hd hk hv hb h
    obtain ⟨k, rfl⟩ : ∃ m, k = m + 1 := ⟨k - 1, by omega⟩
    simp only [laws_heldStringS.l0]
    by_cases hlt : i < (m.length : Int)
    · rw [if_pos hlt, if_pos h0, mt_eq hv (by omega) (show 100000 ≤ k by omega), Option.bind_some, if_pos (by rw [h i (by omega) hlt, show v + (i - i) = v by omega]), w64 (by omega) (by omega), w64 (by omega) (by omega), ih k (v + 1) (i + 1) (by omega) (by omega) (by omega) (by omega) (by omega) (by omega) (fun j h1 h2 => by rw [h j (by omega) h2, show v + 1 + (j - (i + 1)) = v + (j - i) by omega])]
      congr 1; omega
    · rw [if_neg hlt]; congr 1; omega
theorem markS_held (l : List ByteArray) (hl : l.length ≤ 20000) : ∃ m, m.length = l.length ∧ (∀ k, 130000 ≤ k → laws_markStringS.f k l 1 = some (1 + (l.length : Int), m)) ∧ ∀ k, 130000 ≤ k → laws_heldStringS.f k m 1 = some (1 + (l.length : Int)) := by
  obtain ⟨m, hm, hml, _, hm2⟩ := markS_l0 l.length 130000 l 1 0 hl (by omega) (by omega) (by omega) (by omega) (by omega) (by omega)
  refine ⟨m, hml, fun k hk => ?_, fun k hk => ?_⟩
  · have := at_rounds (g := fun k => laws_markStringS.f k l 1) (fun k => laws_markStringS.mono l 1 k) hk hm
    rw [this]; congr 2
  · unfold laws_heldStringS.f
    rw [heldS_l0 m (by omega) m.length k 1 0 (by omega) (by omega) (by omega) (by omega) (by omega) (by omega) (fun j h1 h2 => hm2 j h1 (by omega)), hml]
    congr 1
theorem eqS_l0 (l : List ByteArray) (hl : l.length < 4611686018427387904) (d : Nat) : ∀ (k : Nat) (i : Int), 0 ≤ i → (l.length : Int) - i ≤ d → d < k → laws_eqStringS.l0 k l l i = some true := by
  induction d with
  | zero =>
    intro k i h0 hd hk
    obtain ⟨k, rfl⟩ : ∃ m, k = m + 1 := ⟨k - 1, by omega⟩
    simp only [laws_eqStringS.l0]; rw [if_neg (by omega)]
  | succ d ih =>
    intro k i h0 hd hk
    obtain ⟨k, rfl⟩ : ∃ m, k = m + 1 := ⟨k - 1, by omega⟩
    simp only [laws_eqStringS.l0]
    by_cases hlt : i < (l.length : Int)
    · rw [if_pos hlt, if_pos h0, if_pos hlt, if_pos trivial, w64 (by omega) (by omega)]
      exact ih k (i + 1) (by omega) (by omega) (by omega)
    · rw [if_neg hlt]
theorem eqS_self (l : List ByteArray) (hl : l.length < 4611686018427387904) {k : Nat} (hk : l.length < k) : laws_eqStringS.f k l l = some true := by
  unfold laws_eqStringS.f
  rw [if_pos rfl]
  exact eqS_l0 l hl l.length k 0 (by omega) (by omega) hk
/-- A text's bytes. -/
def ph (s : ByteArray) : List UInt8 := s.data.toList
theorem ph_inj {a b : ByteArray} (h : ph a = ph b) : a = b := BA_eq (by rw [Lib.toList_data, Lib.toList_data]; exact h)
/-- A text laid among others, ahead of those that are not less. -/
def insB (x : ByteArray) (l : List ByteArray) : List ByteArray := l.takeWhile (fun y => decide (ph y < ph x)) ++ x :: l.dropWhile (fun y => decide (ph y < ph x))
theorem insB_perm (x : ByteArray) (l : List ByteArray) : (insB x l).Perm (x :: l) := by
  unfold insB
  refine List.perm_middle.trans ?_
  rw [List.takeWhile_append_dropWhile]
theorem le_of_nlt {a b : List UInt8} (h : ¬ a < b) : b ≤ a := List.not_lt.1 h
theorem insB_sorted (x : ByteArray) : ∀ (l : List ByteArray), l.Pairwise (fun a b => ph a ≤ ph b) → (insB x l).Pairwise (fun a b => ph a ≤ ph b)
  | [], _ => by simp [insB]
  | y :: l, h => by
    rw [List.pairwise_cons] at h
    by_cases c : ph y < ph x
    · have e : insB x (y :: l) = y :: insB x l := by simp [insB, List.takeWhile_cons, List.dropWhile_cons, c]
      rw [e, List.pairwise_cons]
      refine ⟨fun z hz => ?_, insB_sorted x l h.2⟩
      rcases List.mem_cons.1 ((insB_perm x l).mem_iff.1 hz) with rfl | hz
      · exact List.le_of_lt c
      · exact h.1 z hz
    · have e : insB x (y :: l) = x :: y :: l := by simp [insB, List.takeWhile_cons, List.dropWhile_cons, c]
      rw [e, List.pairwise_cons]
      refine ⟨fun z hz => ?_, List.pairwise_cons.2 h⟩
      rcases List.mem_cons.1 hz with rfl | hz
      · exact le_of_nlt c
      · exact List.le_trans (le_of_nlt c) (h.1 z hz)
/-- All texts of a list laid one after another. -/
def insAll (l out : List ByteArray) : List ByteArray := l.foldl (fun o x => insB x o) out
theorem insAll_perm : ∀ (l out : List ByteArray), (insAll l out).Perm (l ++ out)
  | [], out => List.Perm.refl _
  | x :: l, out => by
    refine (insAll_perm l (insB x out)).trans ?_
    refine (List.Perm.append_left l (insB_perm x out)).trans ?_
    exact List.perm_middle
theorem insAll_sorted : ∀ (l out : List ByteArray), out.Pairwise (fun a b => ph a ≤ ph b) → (insAll l out).Pairwise (fun a b => ph a ≤ ph b)
  | [], out, h => h
  | x :: l, out, h => insAll_sorted l (insB x out) (insB_sorted x out h)
theorem srt_ins (l : List ByteArray) : impl_StuckPonds.srt l = insAll l [] := by
  have tr : ∀ a b c : List UInt8, decide (a ≤ b) = true → decide (b ≤ c) = true → decide (a ≤ c) = true := fun a b c h1 h2 => by simp only [decide_eq_true_eq] at *; exact List.le_trans h1 h2
  have to_ : ∀ a b : List UInt8, (decide (a ≤ b) || decide (b ≤ a)) = true := fun a b => by simp only [Bool.or_eq_true, decide_eq_true_eq]; exact List.le_total a b
  have hp := insAll_perm l []
  rw [List.append_nil] at hp
  have hs := insAll_sorted l [] List.Pairwise.nil
  have e : (l.map ph).mergeSort (fun x y => decide (x ≤ y)) = (insAll l []).map ph := by
    refine List.Perm.eq_of_pairwise (le := fun a b => decide (a ≤ b) = true) (fun a b _ _ h1 h2 => ?_) (List.pairwise_mergeSort tr to_ _) ?_ ((List.mergeSort_perm _ _).trans (hp.symm.map ph))
    · simp only [decide_eq_true_eq] at h1 h2
      exact List.le_antisymm h1 h2
    · rw [List.pairwise_map]
      exact hs.imp (fun h => decide_eq_true h)
  unfold impl_StuckPonds.srt
  show ((l.map ph).mergeSort (fun x y => decide (x ≤ y))).map _ = _
  rw [e, List.map_map]
  have : ((fun b : List UInt8 => (⟨b.toArray⟩ : ByteArray)) ∘ ph) = id := by
    funext s; cases s; rfl
  rw [this, List.map_id]
theorem insB_len (x : ByteArray) (l : List ByteArray) : (insB x l).length = l.length + 1 := by
  have := (insB_perm x l).length_eq
  simpa using this
theorem tw_take (q : ByteArray → Bool) : ∀ (l : List ByteArray), l.takeWhile q = l.take (l.takeWhile q).length ∧ l.dropWhile q = l.drop (l.takeWhile q).length
  | [] => by simp
  | y :: l => by
    cases h : q y with
    | true => simp only [List.takeWhile_cons, List.dropWhile_cons, h, if_true, List.length_cons, List.take_succ_cons, List.drop_succ_cons]; exact ⟨by rw [← (tw_take q l).1], (tw_take q l).2⟩
    | false => simp [List.takeWhile_cons, List.dropWhile_cons, h]
theorem tw_at (q : ByteArray → Bool) : ∀ (l : List ByteArray) (j : Nat), j < (l.takeWhile q).length → q (l.getD j ByteArray.empty) = true
  | [], j, h => by simp at h
  | y :: l, j, h => by
    cases hq : q y with
    | true =>
      simp only [List.takeWhile_cons, hq, if_true, List.length_cons] at h
      cases j with
      | zero => exact hq
      | succ j => simpa using tw_at q l j (by omega)
    | false => simp [List.takeWhile_cons, hq] at h
theorem tw_end (q : ByteArray → Bool) : ∀ (l : List ByteArray), (l.takeWhile q).length < l.length → q (l.getD (l.takeWhile q).length ByteArray.empty) = false
  | [], h => by simp at h
  | y :: l, h => by
    cases hq : q y with
    | true =>
      simp only [List.takeWhile_cons, hq, if_true, List.length_cons] at h ⊢
      simpa using tw_end q l (by omega)
    | false => simp [List.takeWhile_cons, hq]
theorem less_ph (a b : ByteArray) : Op.bytesLess a.toList b.toList = decide (ph a < ph b) := by rw [bytesLess_eq, Lib.toList_data, Lib.toList_data]; rfl
/-- The inner loop: where the text is laid. -/
theorem stk_l1 (x : ByteArray) (L : List ByteArray) (c i : Int) (out : List ByteArray) (ho : out.length ≤ 100000) (d : Nat) : ∀ (k j : Nat), j + d = (out.takeWhile (fun y => decide (ph y < ph x))).length → spec_StuckPonds.l1 (k + d + 1) out x (j : Int) L c i = spec_StuckPonds.l0 k (insB x out) L c (wrap64 (i + 1)) := by
  have hle : (out.takeWhile (fun y => decide (ph y < ph x))).length ≤ out.length := (List.takeWhile_prefix _).length_le
  induction d with
  | zero =>
    intro k j hj
    obtain ⟨t1, t2⟩ := tw_take (fun y => decide (ph y < ph x)) out
    have hj2 : (out.takeWhile (fun y => decide (ph y < ph x))).length = j := by omega
    rw [hj2] at t1 t2
    have fin : (out.take ((j : Int)).toNat ++ [x]) ++ out.drop ((j : Int)).toNat = insB x out := by
      rw [Int.toNat_natCast, ← t1, ← t2]; simp [insB]
    have l1 : (out.take ((j : Int)).toNat).length ≤ 100000 := by rw [List.length_take]; omega
    have l2 : (out.drop ((j : Int)).toNat).length ≤ 100000 := by rw [List.length_drop]; omega
    simp only [Nat.add_zero, spec_StuckPonds.l1]
    by_cases c1 : (j : Int) < (out.length : Int)
    · have hn := tw_end (fun y => decide (ph y < ph x)) out (by omega)
      rw [hj2] at hn
      have hb : ¬ (Op.bytesLess ((rdOf ByteArray.empty out (j : Int)).toList) x.toList) = true := by
        rw [less_ph]; unfold rdOf; rw [Int.toNat_natCast]; rw [hn]; decide
      rw [if_pos c1, if_pos (by omega), if_neg hb, Option.bind_some, if_pos (by omega), Option.bind_some, List.nil_append, if_pos (by simp only [List.length_nil]; omega), Option.bind_some, if_pos (by omega), Option.bind_some, Option.bind_some, if_pos (by rw [List.length_append, List.length_singleton]; omega), fin]
    · rw [if_neg c1, Option.bind_some, if_pos (by omega), if_pos (by omega), Option.bind_some, List.nil_append, if_pos (by simp only [List.length_nil]; omega), Option.bind_some, if_pos (by omega), Option.bind_some, Option.bind_some, if_pos (by rw [List.length_append, List.length_singleton]; omega), fin]
  | succ d ih =>
    intro k j hj
    have hn := tw_at (fun y => decide (ph y < ph x)) out j (by omega)
    have hb : (Op.bytesLess ((rdOf ByteArray.empty out (j : Int)).toList) x.toList) = true := by
      rw [less_ph]; unfold rdOf; rw [Int.toNat_natCast]; exact hn
    rw [show k + (d + 1) + 1 = (k + d + 1) + 1 by omega]
    rw [spec_StuckPonds.l1, if_pos (by omega), if_pos (by omega), if_pos hb, w64 (by omega) (by omega)]
    exact ih k (j + 1) (by omega)
/-- Whether nothing goes on a pond. -/
def stB (s : ByteArray) : Bool := decide (moves s = [])
/-- The outer loop. -/
theorem stk_l0 (L : List ByteArray) (hL : L.length ≤ 20000) (hP : ∀ s ∈ L, Pond s) (d : Nat) : ∀ (j : Nat) (out : List ByteArray), j + d = L.length → out.length ≤ j → ∃ k, spec_StuckPonds.l0 k out L (L.length : Int) (j : Int) = some (insAll ((L.drop j).filter stB) out, true) := by
  induction d with
  | zero =>
    intro j out hj ho
    refine ⟨1, ?_⟩
    rw [spec_StuckPonds.l0, if_neg (by omega), List.drop_eq_nil_of_le (by omega)]
    rfl
  | succ d ih =>
    intro j out hj ho
    have hlt : j < L.length := by omega
    have hx : rdOf ByteArray.empty L (j : Int) = L[j] := by unfold rdOf; rw [Int.toNat_natCast, List.getD_eq_getElem?_getD, List.getElem?_eq_getElem hlt]; rfl
    have hg := hP _ (List.getElem_mem hlt)
    have hm := fgMoves_eq hg
    have hd : L.drop j = L[j] :: L.drop (j + 1) := List.drop_eq_getElem_cons hlt
    by_cases c : moves L[j] = []
    · have hs : stB L[j] = true := decide_eq_true c
      obtain ⟨k, hk⟩ := ih (j + 1) (insB L[j] out) (by omega) (by rw [insB_len]; omega)
      refine ⟨(k + (out.takeWhile (fun y => decide (ph y < ph L[j]))).length + 1) + 1, ?_⟩
      rw [spec_StuckPonds.l0, if_pos (by omega), if_pos (by omega), if_pos (by omega), hx, hm, Option.bind_some, if_neg (by rw [c]; decide)]
      have := stk_l1 L[j] L (L.length : Int) (j : Int) out (by omega) _ k 0 (Nat.zero_add _)
      rw [show ((0 : Nat) : Int) = 0 from rfl] at this
      rw [this, w64 (by omega) (by omega), show (j : Int) + 1 = ((j + 1 : Nat) : Int) by omega, hk, hd, List.filter_cons, if_pos hs]
      rfl
    · have hs : ¬ stB L[j] = true := by unfold stB; rw [decide_eq_true_eq]; exact c
      obtain ⟨k, hk⟩ := ih (j + 1) out (by omega) (by omega)
      refine ⟨k + 1, ?_⟩
      have hpos : (((moves L[j]).length : Int)) > 0 := by
        have := List.length_pos_iff.2 c
        omega
      rw [spec_StuckPonds.l0, if_pos (by omega), if_pos (by omega), if_pos (by omega), hx, hm, Option.bind_some, if_pos hpos, w64 (by omega) (by omega), show (j : Int) + 1 = ((j + 1 : Nat) : Int) by omega, hk, hd, List.filter_cons, if_neg hs]
theorem flt_eq (L : List ByteArray) (hP : ∀ s ∈ L, Pond s) {k : Nat} (hk : 10 < k) : impl_StuckPonds.flt k L = some (L.filter stB) := by
  induction L with
  | nil => rfl
  | cons x L ih =>
    have hx := hP x List.mem_cons_self
    have hh : impl_isStuck.f k x = some (stB x) := by
      unfold impl_isStuck.f
      rw [hops_eq hx.1.2 hk, Option.bind_some]
      congr 1
      unfold stB
      cases h : moves x with
      | nil => rfl
      | cons a b => simp; omega
    simp only [impl_StuckPonds.flt]
    rw [hh, Option.bind_some, ih (fun s hs => hP s (List.mem_cons_of_mem _ hs)), Option.bind_some, List.filter_cons]
theorem grow_pre (d : Nat) : ∀ (xs : List ByteArray) (i : Nat), ∃ ys, grow d xs i = xs ++ ys := by
  induction d with
  | zero => intro xs i; exact ⟨[], by simp [grow]⟩
  | succ d ih =>
    intro xs i
    simp only [grow]
    by_cases c : i < xs.length
    · rw [if_pos c]
      obtain ⟨ys, hy⟩ := add_pre (xs.getD i ByteArray.empty) (moves (xs.getD i ByteArray.empty)) xs
      obtain ⟨zs, hz⟩ := ih (addNew xs (xs.getD i ByteArray.empty) (moves (xs.getD i ByteArray.empty))) (i + 1)
      exact ⟨ys ++ zs, by rw [hz, hy, List.append_assoc]⟩
    · rw [if_neg c]; exact ⟨[], by simp⟩
theorem grow_inv {n : Nat} (d : Nat) : ∀ (xs : List ByteArray) (i : Nat), Inv n xs → Inv n (grow d xs i) := by
  induction d with
  | zero => intro xs i h; exact h
  | succ d ih =>
    intro xs i h
    simp only [grow]
    by_cases c : i < xs.length
    · have hm : xs.getD i ByteArray.empty ∈ xs := by
        rw [List.getD_eq_getElem?_getD, List.getElem?_eq_getElem c]; exact List.getElem_mem c
      have hp := h.1 _ hm
      rw [if_pos c]
      exact ih _ _ (inv_add hp.1 hp.2 _ _ (fun m hm => moves_go hm) h)
    · rw [if_neg c]; exact h
theorem law_of (s : ByteArray) (L : List ByteArray) (b : Bool) (K : Nat) (hL : L.length ≤ 20000) (hb : ¬ (s.size : Int) > 1048576) (hs : ∀ k, K ≤ k → spec_StuckPonds.f k s = some (L, b)) (hi : ∀ k, K ≤ k → impl_StuckPonds.f k s = some (L, b)) : ∃ k, laws_FnExactStuckPonds.f k s = some true := by
  obtain ⟨m, hml, hm, hh⟩ := markS_held L hL
  obtain ⟨k, hk, hk2⟩ : ∃ k : Nat, K ≤ k ∧ 130000 ≤ k := ⟨K + 130000, by omega, by omega⟩
  have s2 := hs (k + 1 + 1) (by omega)
  have i2 := hi (k + 1 + 1) (by omega)
  have i1 := hi (k + 1) (by omega)
  have e2 := eqS_self L (by omega) (show L.length < k + 1 + 1 by omega)
  have e1 := eqS_self L (by omega) (show L.length < k + 1 by omega)
  have m1 := hm (k + 1) (by omega)
  have h1 := hh (k + 1) (by omega)
  have h0 := hh k (by omega)
  have n1 : ¬ (1 + (L.length : Int)) < 0 := by omega
  refine ⟨k + 1 + 1, ?_⟩
  unfold laws_FnExactStuckPonds.f
  simp only [if_neg hb, s2, i2, Option.bind_some, e2, if_true, bne_self_eq_false, laws_FnExactStuckPonds.j0, m1, h1, if_neg n1, i1, e1, laws_FnExactStuckPonds.j1, h0]
  simp
theorem FnExactStuckPonds : laws_FnExactStuckPonds.Pure := by
  intro s _
  by_cases hb : (s.size : Int) > 1048576
  · exact ⟨0, by unfold laws_FnExactStuckPonds.f; rw [if_pos hb]⟩
  by_cases hg : Pond s
  · obtain ⟨L, hL⟩ : ∃ L, grow 19683 [s] 0 = L := ⟨_, rfl⟩
    have hI : Inv s.size L := by
      rw [← hL]
      exact grow_inv 19683 [s] 0 ⟨fun t ht => by rw [List.mem_singleton] at ht; rw [ht]; exact ⟨hg, rfl⟩, by simp⟩
    have hlen := inv_len hg.1.2 hI
    have hP : ∀ t ∈ L, Pond t := fun t ht => (hI.1 t ht).1
    have hfl := List.length_filter_le stB L
    have hsl := impl_StuckPonds.srt_length (L.filter stB)
    obtain ⟨k1, hk1⟩ := stk_l0 L (by omega) hP L.length 0 [] (by omega) (by simp)
    rw [List.drop_zero, ← srt_ins] at hk1
    obtain ⟨R, hR⟩ : ∃ R, impl_StuckPonds.srt (L.filter stB) = R := ⟨_, rfl⟩
    rw [hR] at hk1 hsl
    have hpos : 0 < L.length := by
      rcases Nat.eq_zero_or_pos L.length with e | e
      · exfalso
        have e2 : L = [] := List.length_eq_zero_iff.1 e
        obtain ⟨ys, hy⟩ := grow_pre 19683 [s] 0
        rw [hL, e2] at hy
        simp at hy
      · exact e
    refine law_of s R true (300000 + k1) (by omega) hb (fun k hk => ?_) (fun k hk => ?_)
    · have hk10 : 10 < k := by omega
      obtain ⟨y7, y8, y9, hy⟩ := fgReach_eq hg (show 300000 ≤ k by omega)
      rw [hL] at hy
      have h2 := at_rounds (g := fun k => spec_StuckPonds.l0 k [] L (L.length : Int) ((0 : Nat) : Int)) (fun k => (spec_StuckPonds.mono_l k).1 _ _ _ _) (show k1 ≤ k by omega) hk1
      rw [show ((0 : Nat) : Int) = 0 from rfl] at h2
      unfold spec_StuckPonds.f
      rw [fgGood_true hg hk10, Option.bind_some, if_pos rfl, hy, Option.bind_some]
      exact h2
    · have hk10 : 10 < k := by omega
      have hr := reached_eq hg (show 300000 ≤ k by omega)
      rw [hL] at hr
      unfold impl_StuckPonds.f
      rw [isPond_true hg, Option.bind_some, if_pos rfl, hr, Option.bind_some, if_pos ⟨hpos, by omega⟩, flt_eq L hP hk10, Option.bind_some, hR]
  · refine law_of s [] false 300000 (by simp) hb (fun k hk => ?_) (fun k hk => ?_)
    · have hk10 : 10 < k := by omega
      unfold spec_StuckPonds.f
      rw [fgGood_false hg hk10]; rfl
    · unfold impl_StuckPonds.f
      rw [isPond_false hg]; rfl

end Go.Proofs.YtkikpfeipejnlaaDoor.Pure
