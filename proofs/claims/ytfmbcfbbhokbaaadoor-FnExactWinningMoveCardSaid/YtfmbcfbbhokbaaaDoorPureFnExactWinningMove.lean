/- For every text and either player the program's WinningMove and the reference's answer alike. Conditions: the text takes at most 140737488351232 bytes. -/
import Derived.Test.YtfmbcfbbhokbaaaDoorPFnExactWinningMovex
namespace Go.Proofs.YtfmbcfbbhokbaaaDoor.Pure
open Go.RowKit Go.Proofs.YtfmbcfbbhokbaaaDoor.PFnExactWinningMove Go.Proofs.YtfmbcfbbhokbaaaDoorW.PrintWords Go.Proofs.YtfmbcfbbhokbaaaDoorW.PrintLast Go.Proofs.YtfmbcfbbhokbaaaDoorW.PrintMore

set_option linter.unusedVariables false
set_option linter.unusedSimpArgs false
def inB (a b c : Int) : Bool := decide (b ≤ a ∧ a ≤ c)
theorem inB_true {a b c : Int} (h : inB a b c = true) : b ≤ a ∧ a ≤ c := of_decide_eq_true h
theorem inB_mk {a b c : Int} (h : b ≤ a ∧ a ≤ c) : inB a b c = true := decide_eq_true h
theorem inB_not {a b c : Int} (h : ¬ (b ≤ a ∧ a ≤ c)) : inB a b c = false := decide_eq_false h
theorem inB_false {a b c : Int} (h : inB a b c = false) : ¬ (b ≤ a ∧ a ≤ c) := of_decide_eq_false h
theorem in_eq (a b c : Int) : spec_l1In.f a b c = some (inB a b c) := by
  unfold spec_l1In.f inB
  by_cases h : a ≥ b
  · rw [if_pos h]; congr 1; rw [decide_eq_decide]; omega
  · rw [if_neg h]; congr 1; symm; rw [decide_eq_false_iff_not]; omega
theorem within_eq (a b c : Int) : impl_within.f a b c = some (inB a b c) := by
  unfold impl_within.f inB
  by_cases h : b ≤ a
  · rw [if_pos h]; congr 1; rw [decide_eq_decide]; omega
  · rw [if_neg h]; congr 1; symm; rw [decide_eq_false_iff_not]; omega
theorem w64 {x : Int} (h0 : -9223372036854775808 ≤ x) (h1 : x < 9223372036854775808) : wrap64 x = x := by unfold wrap64; omega
/-- A pond: 1..9 signs, each a frog of one kind or a free stone. -/
def Pond (s : ByteArray) : Prop := (1 ≤ s.size ∧ s.size ≤ 9) ∧ ∀ i : Int, 0 ≤ i → i < s.size → bt s i = 114 ∨ bt s i = 108 ∨ bt s i = 46
theorem fgGood_l0_true (s : ByteArray) (hs : s.size ≤ 9) (d : Nat) : ∀ (k : Nat) (i : Int), 0 ≤ i → (s.size : Int) - i ≤ d → d < k → (∀ j : Int, i ≤ j → j < s.size → bt s j = 114 ∨ bt s j = 108 ∨ bt s j = 46) → spec_fgGood.l0 k s i = some true := by
  induction d with
  | zero =>
    intro k i h0 hd hk h
    obtain ⟨k, rfl⟩ : ∃ m, k = m + 1 := ⟨k - 1, by omega⟩
    simp only [spec_fgGood.l0]; rw [if_neg (by omega)]
  | succ d ih =>
    intro k i h0 hd hk h
    obtain ⟨k, rfl⟩ : ∃ m, k = m + 1 := ⟨k - 1, by omega⟩
    simp only [spec_fgGood.l0]
    by_cases hlt : i < (s.size : Int)
    · rw [if_pos hlt, if_pos h0, w64 (by omega) (by omega)]
      have hr := ih k (i + 1) (by omega) (by omega) (by omega) (fun j h1 h2 => h j (by omega) h2)
      rw [hr]
      rcases h i (by omega) hlt with e | e | e
      · rw [if_pos e]
      · rw [if_neg (by omega), if_pos e]
      · rw [if_neg (by omega), if_neg (by omega), if_pos e]
    · rw [if_neg hlt]
theorem fgGood_l0_false (s : ByteArray) (hs : s.size ≤ 9) (d : Nat) : ∀ (k : Nat) (i : Int), 0 ≤ i → (s.size : Int) - i ≤ d → d < k → (¬ ∀ j : Int, i ≤ j → j < s.size → bt s j = 114 ∨ bt s j = 108 ∨ bt s j = 46) → spec_fgGood.l0 k s i = some false := by
  induction d with
  | zero =>
    intro k i h0 hd hk h
    exact absurd (fun j h1 h2 => absurd h1 (by omega)) h
  | succ d ih =>
    intro k i h0 hd hk h
    obtain ⟨k, rfl⟩ : ∃ m, k = m + 1 := ⟨k - 1, by omega⟩
    simp only [spec_fgGood.l0]
    by_cases hlt : i < (s.size : Int)
    · rw [if_pos hlt, if_pos h0, w64 (by omega) (by omega)]
      have hgo : (bt s i = 114 ∨ bt s i = 108 ∨ bt s i = 46) → spec_fgGood.l0 k s (i + 1) = some false := fun e => ih k (i + 1) (by omega) (by omega) (by omega) (fun g => h (fun j h1 h2 => if c : j = i then by rw [c]; exact e else g j (by omega) h2))
      by_cases e1 : bt s i = 114
      · rw [if_pos e1]; exact hgo (.inl e1)
      · rw [if_neg e1]
        by_cases e2 : bt s i = 108
        · rw [if_pos e2]; exact hgo (.inr (.inl e2))
        · rw [if_neg e2]
          by_cases e3 : bt s i = 46
          · rw [if_pos e3]; exact hgo (.inr (.inr e3))
          · rw [if_neg e3]
    · exact absurd (fun j h1 h2 => absurd h2 (by omega)) h
theorem fgGood_true {s : ByteArray} (hg : Pond s) {k : Nat} (hk : 10 < k) : spec_fgGood.f k s = some true := by
  unfold spec_fgGood.f
  obtain ⟨h1, h2⟩ := hg
  rw [in_eq, inB_mk ⟨by omega, by omega⟩]
  exact fgGood_l0_true s h1.2 s.size k 0 (by omega) (by omega) (by omega) h2
theorem fgGood_false {s : ByteArray} (hg : ¬ Pond s) {k : Nat} (hk : 10 < k) : spec_fgGood.f k s = some false := by
  unfold spec_fgGood.f
  rw [in_eq]
  cases hb : inB (s.size : Int) 1 9
  · rfl
  · have h1 := inB_true hb
    exact fgGood_l0_false s (by omega) s.size k 0 (by omega) (by omega) (by omega) (fun h => hg ⟨⟨by omega, by omega⟩, h⟩)
theorem bt_list (s : ByteArray) (i : Nat) (h : i < s.data.toList.length) : bt s (i : Int) = ((s.data.toList[i]'h).toNat : Int) := by
  have h' : i < s.size := by simpa using h
  unfold bt
  rw [dif_pos (by simpa using h')]
  rfl
theorem dropWhile_nil {α : Type} (p : α → Bool) (l : List α) : l.dropWhile p = [] ↔ ∀ x ∈ l, p x = true := by
  induction l with
  | nil => simp
  | cons a l ih =>
    rw [List.dropWhile_cons]
    by_cases h : p a = true
    · rw [if_pos h, ih]; simp [h]
    · rw [if_neg h]; simp [h]
theorem trimS_nil (l cs : List UInt8) : Lib.trimS l cs = [] ↔ ∀ x ∈ l, cs.contains x = true := by
  unfold Lib.trimS Lib.trimLeftS Lib.trimRightS
  rw [dropWhile_nil]
  constructor
  · intro h x hx
    by_cases hall : ∀ y ∈ l.reverse, cs.contains y = true
    · exact hall x (by simpa using hx)
    · exfalso
      have hne : l.reverse.dropWhile (cs.contains ·) ≠ [] := fun e => hall ((dropWhile_nil _ _).1 e)
      obtain ⟨y, ys, hy⟩ : ∃ y ys, l.reverse.dropWhile (cs.contains ·) = y :: ys := by
        cases e : l.reverse.dropWhile (cs.contains ·) with
        | nil => exact absurd e hne
        | cons y ys => exact ⟨y, ys, rfl⟩
      have hp := List.head?_dropWhile_not (cs.contains ·) l.reverse
      rw [hy] at hp
      have := h y (by rw [hy]; simp)
      simp at hp this
      exact hp this
  · intro h x hx
    rw [List.mem_reverse] at hx
    exact h x (by simpa using (List.dropWhile_sublist _).subset hx)
theorem trim_pond (s : ByteArray) (hs : s.size ≤ 9223372036854775807) : ∃ t : ByteArray, strings_Trim.f s (⟨#[114, 108, 46]⟩ : ByteArray) = some t ∧ (t.toList = [] ↔ ∀ i : Int, 0 ≤ i → i < s.size → bt s i = 114 ∨ bt s i = 108 ∨ bt s i = 46) := by
  refine ⟨⟨(Lib.trimS s.data.toList [114, 108, 46]).toArray⟩, ?_, ?_⟩
  · unfold strings_Trim.f
    rw [if_pos ⟨hs, by decide, by decide⟩]
  · rw [Lib.toList_data]
    show (Lib.trimS s.data.toList [114, 108, 46]).toArray.toList = [] ↔ _
    rw [show (Lib.trimS s.data.toList [114, 108, 46]).toArray.toList = Lib.trimS s.data.toList [114, 108, 46] from rfl, trimS_nil]
    constructor
    · intro h i h0 h1
      have hi : i.toNat < s.data.toList.length := by
        have : s.data.toList.length = s.size := by simp
        omega
      have hb := bt_list s i.toNat hi
      rw [show ((i.toNat : Nat) : Int) = i by omega] at hb
      have := h _ (List.getElem_mem hi)
      rw [hb]
      simp at this
      rcases this with e | e | e <;> simp [e]
    · intro h x hx
      obtain ⟨n, hn, rfl⟩ := List.mem_iff_getElem.1 hx
      have hb := bt_list s n hn
      have hlt : n < s.size := by simpa using hn
      have := h n (by omega) (by omega)
      rw [hb] at this
      simp
      rcases this with e | e | e
      · left; apply UInt8.toNat_inj.1; simpa using Int.ofNat.inj e
      · right; left; apply UInt8.toNat_inj.1; simpa using Int.ofNat.inj e
      · right; right; apply UInt8.toNat_inj.1; simpa using Int.ofNat.inj e
theorem isPond_true {s : ByteArray} (hg : Pond s) : impl_IsPond.f s = some true := by
  unfold impl_IsPond.f
  obtain ⟨h1, h2⟩ := hg
  obtain ⟨t, ht, hiff⟩ := trim_pond s (by omega)
  rw [within_eq, inB_mk ⟨by omega, by omega⟩]
  simp only [Option.bind_some, if_true, ht]
  rw [hiff.2 h2]; rfl
theorem isPond_false {s : ByteArray} (hg : ¬ Pond s) : impl_IsPond.f s = some false := by
  unfold impl_IsPond.f
  rw [within_eq]
  cases hb : inB (s.size : Int) 1 9
  · rfl
  · have h1 := inB_true hb
    obtain ⟨t, ht, hiff⟩ := trim_pond s (by omega)
    simp only [Option.bind_some, if_true, ht]
    congr 1
    cases hc : (t.toList == ([] : List UInt8)) with
    | false => rfl
    | true => exact absurd ⟨⟨by omega, by omega⟩, hiff.1 (by simpa using hc)⟩ hg
theorem pond_ascii {s : ByteArray} (hg : Pond s) : asciiB s = true := by
  unfold asciiB
  apply List.all_eq_true.2
  intro i hi
  have h1 := List.mem_range.1 hi
  have h2 := hg.2 (i : Int) (by omega) (by omega)
  apply decide_eq_true
  omega
/-- The moves from stone i on, so many stones. -/
def movesF (s : ByteArray) : Nat → Nat → List Int
  | 0, _ => []
  | d + 1, i => if frogTo s (i : Int) ≥ 0 then (i : Int) :: movesF s d (i + 1) else movesF s d (i + 1)
theorem movesF_len (s : ByteArray) (d : Nat) : ∀ i : Nat, (movesF s d i).length ≤ d := by
  induction d with
  | zero => intro i; simp [movesF]
  | succ d ih => intro i; simp only [movesF]; have := ih (i + 1); split <;> simp <;> omega
theorem movesF_mem (s : ByteArray) (d : Nat) : ∀ (i : Nat) (x : Int), x ∈ movesF s d i ↔ ((i : Int) ≤ x ∧ x < (i : Int) + d) ∧ 0 ≤ frogTo s x := by
  induction d with
  | zero => intro i x; simp [movesF]; omega
  | succ d ih =>
    intro i x
    simp only [movesF]
    by_cases h : frogTo s (i : Int) ≥ 0
    · rw [if_pos h, List.mem_cons, ih]
      constructor
      · rintro (e | ⟨h1, h2⟩)
        · subst e; exact ⟨⟨by omega, by omega⟩, h⟩
        · exact ⟨⟨by omega, by omega⟩, h2⟩
      · rintro ⟨h1, h2⟩
        by_cases e : x = (i : Int)
        · exact .inl e
        · exact .inr ⟨⟨by omega, by omega⟩, h2⟩
    · rw [if_neg h, ih]
      constructor
      · rintro ⟨h1, h2⟩; exact ⟨⟨by omega, by omega⟩, h2⟩
      · rintro ⟨h1, h2⟩
        have : x ≠ (i : Int) := fun e => h (e ▸ h2)
        exact ⟨⟨by omega, by omega⟩, h2⟩
def moves (s : ByteArray) : List Int := movesF s s.size 0
theorem fgMoves_l0 (s : ByteArray) (hs : s.size ≤ 9) (d : Nat) : ∀ (k i : Nat) (acc : List Int), i + d = s.size → d < k → acc.length ≤ i → spec_fgMoves.l0 k s acc i = some (acc ++ movesF s d i) := by
  induction d with
  | zero =>
    intro k i acc hi hk ha
    obtain ⟨k, rfl⟩ : ∃ m, k = m + 1 := ⟨k - 1, by omega⟩
    simp only [spec_fgMoves.l0, movesF]
    rw [if_neg (by omega)]; simp
  | succ d ih =>
    intro k i acc hi hk ha
    obtain ⟨k, rfl⟩ : ∃ m, k = m + 1 := ⟨k - 1, by omega⟩
    have ht : spec_fgTo.f s (i : Int) = some (frogTo s (i : Int)) := by unfold spec_fgTo.f; rw [if_pos (by omega)]
    simp only [spec_fgMoves.l0, movesF]
    rw [if_pos (by omega), ht]
    simp only [Option.bind_some]
    by_cases h : frogTo s (i : Int) ≥ 0
    · rw [if_pos h, if_pos h, if_pos (by omega), ih k (i + 1) (acc ++ [(i : Int)]) (by omega) (by omega) (by simp; omega)]
      simp
    · rw [if_neg h, if_neg h, ih k (i + 1) acc (by omega) (by omega) (by omega)]
theorem fgMoves_eq {s : ByteArray} (hg : Pond s) : spec_fgMoves.f s = some (moves s) := by
  have h9 := hg.1.2
  unfold spec_fgMoves.f
  rw [if_pos ⟨by omega, pond_ascii hg⟩, fgMoves_l0 s h9 s.size (s.size + 1) 0 [] (by omega) (by omega) (by simp)]
  rfl
theorem hops_l0 (s : ByteArray) (hs : s.size ≤ 9) (d : Nat) : ∀ (k i : Nat) (acc : List Int), i + d = s.size → d < k → acc.length ≤ i → impl_hops.l0 k s acc (s.size : Int) (i : Int) = some (acc ++ movesF s d i) := by
  induction d with
  | zero =>
    intro k i acc hi hk ha
    obtain ⟨k, rfl⟩ : ∃ m, k = m + 1 := ⟨k - 1, by omega⟩
    simp only [impl_hops.l0, movesF]
    rw [if_neg (by omega)]; simp
  | succ d ih =>
    intro k i acc hi hk ha
    obtain ⟨k, rfl⟩ : ∃ m, k = m + 1 := ⟨k - 1, by omega⟩
    have ht : impl_target.f s (i : Int) = some (frogTo s (i : Int)) := by unfold impl_target.f; rw [if_pos ⟨by omega, by omega, by omega⟩]
    have hw : wrap64 ((i : Int) + 1) = ((i + 1 : Nat) : Int) := by rw [w64 (by omega) (by omega)]; omega
    simp only [impl_hops.l0, movesF]
    rw [if_pos (by omega), ht, hw]
    simp only [Option.bind_some]
    by_cases h : frogTo s (i : Int) ≥ 0
    · rw [if_pos h, if_pos h, if_pos (by omega), ih k (i + 1) (acc ++ [(i : Int)]) (by omega) (by omega) (by simp; omega)]
      simp
    · rw [if_neg h, if_neg h, ih k (i + 1) acc (by omega) (by omega) (by omega)]
theorem hops_eq {s : ByteArray} (hs : s.size ≤ 9) {k : Nat} (hk : 10 < k) : impl_hops.f k s = some (moves s) := by
  unfold impl_hops.f
  rw [show (0 : Int) = ((0 : Nat) : Int) from rfl, hops_l0 s hs s.size k 0 [] (by omega) (by omega) (by simp)]
  rfl
theorem frogTo_in {s : ByteArray} {i : Int} (h : 0 ≤ frogTo s i) : (0 ≤ i ∧ i < (s.size : Int)) ∧ frogTo s i < (s.size : Int) ∧ frogTo s i ≠ i := by
  revert h
  unfold frogTo
  generalize hd : (if bt s i = 108 then (-1 : Int) else 1) = d
  have hd2 : d = -1 ∨ d = 1 := by rw [← hd]; split <;> simp
  clear hd
  by_cases c : (0 ≤ i ∧ i < (s.size : Int)) ∧ ¬ bt s i = 46
  · rw [if_pos c]
    by_cases c1 : (0 ≤ i + d ∧ i + d < (s.size : Int)) ∧ bt s (i + d) = 46
    · rw [if_pos c1]; intro h; exact ⟨c.1, by omega, by omega⟩
    · rw [if_neg c1]
      by_cases c2 : ((0 ≤ i + 2 * d ∧ i + 2 * d < (s.size : Int)) ∧ bt s (i + 2 * d) = 46) ∧ ¬ bt s (i + d) = bt s i
      · rw [if_pos c2]; intro h; exact ⟨c.1, by omega, by omega⟩
      · rw [if_neg c2]; intro h; omega
  · rw [if_neg c]; intro h; omega
/-- How far a move goes: one stone or two. -/
theorem frogTo_far {s : ByteArray} {i : Int} (h : 0 ≤ frogTo s i) : -2 ≤ frogTo s i - i ∧ frogTo s i - i ≤ 2 := by
  revert h
  unfold frogTo
  generalize hd : (if bt s i = 108 then (-1 : Int) else 1) = d
  have hd2 : d = -1 ∨ d = 1 := by rw [← hd]; split <;> simp
  clear hd
  by_cases c : (0 ≤ i ∧ i < (s.size : Int)) ∧ ¬ bt s i = 46
  · rw [if_pos c]
    by_cases c1 : (0 ≤ i + d ∧ i + d < (s.size : Int)) ∧ bt s (i + d) = 46
    · rw [if_pos c1]; intro h; omega
    · rw [if_neg c1]
      by_cases c2 : ((0 ≤ i + 2 * d ∧ i + 2 * d < (s.size : Int)) ∧ bt s (i + 2 * d) = 46) ∧ ¬ bt s (i + d) = bt s i
      · rw [if_pos c2]; intro h; omega
      · rw [if_neg c2]; intro h; omega
  · rw [if_neg c]; intro h; omega
theorem moved_size (s : ByteArray) (i : Int) : (movedB s i).size = s.size := by
  show ((List.range s.size).map (movedAt s i (frogTo s i))).toArray.size = s.size
  rw [List.size_toArray, List.length_map, List.length_range]
theorem bt_in (s : ByteArray) (j : Nat) (h : j < s.size) : bt s (j : Int) = ((s.data.toList.getD j 0).toNat : Int) := by
  rw [bt_list s j (by simpa using h), List.getD_eq_getElem?_getD, List.getElem?_eq_getElem (by simpa using h)]; rfl
theorem bt_moved (s : ByteArray) (i : Int) (j : Nat) (h : j < s.size) (hi : 0 ≤ i ∧ i < (s.size : Int)) : bt (movedB s i) (j : Int) = if (j : Int) = i then 46 else if (j : Int) = frogTo s i then bt s i else bt s (j : Int) := by
  have hm : j < (movedB s i).size := by rw [moved_size]; exact h
  rw [bt_list _ j (by simpa using hm)]
  have e : (movedB s i).data.toList[j]'(by simpa using hm) = movedAt s i (frogTo s i) j := by simp [movedB]
  rw [e]
  unfold movedAt
  by_cases c1 : (j : Int) = i
  · rw [if_pos c1, if_pos c1]; rfl
  · rw [if_neg c1, if_neg c1]
    by_cases c2 : (j : Int) = frogTo s i
    · rw [if_pos c2, if_pos c2, ← bt_in s i.toNat (by omega), show ((i.toNat : Nat) : Int) = i by omega]
    · rw [if_neg c2, if_neg c2, ← bt_in s j h]
theorem pond_moved {s : ByteArray} (hg : Pond s) {i : Int} (hi : 0 ≤ frogTo s i) : Pond (movedB s i) := by
  have h1 := frogTo_in hi
  refine ⟨by rw [moved_size]; exact hg.1, fun j h0 hj => ?_⟩
  rw [moved_size] at hj
  have h := bt_moved s i j.toNat (by omega) h1.1
  rw [show ((j.toNat : Nat) : Int) = j by omega] at h
  rw [h]
  by_cases c1 : j = i
  · rw [if_pos c1]; exact .inr (.inr rfl)
  · rw [if_neg c1]
    by_cases c2 : j = frogTo s i
    · rw [if_pos c2]; exact hg.2 i h1.1.1 h1.1.2
    · rw [if_neg c2]; exact hg.2 j h0 hj
theorem fgTo_eq {s : ByteArray} (hg : Pond s) (i : Int) : spec_fgTo.f s i = some (frogTo s i) := by
  have := hg.1.2
  unfold spec_fgTo.f; rw [if_pos (by omega)]
theorem fgMove_eq {s : ByteArray} (hg : Pond s) {i : Int} (hi : 0 ≤ frogTo s i) : spec_fgMove.f s i = some (movedB s i) := by
  have := hg.1.2
  have h1 := frogTo_in hi
  unfold spec_fgMove.f; rw [if_pos ⟨⟨by omega, pond_ascii hg⟩, h1.1⟩]
theorem hopped_eq {s : ByteArray} (hg : Pond s) {i : Int} (hi : 0 ≤ frogTo s i) : impl_hopped.f s i = some (movedB s i) := by
  have := hg.1.2
  have h1 := frogTo_in hi
  unfold impl_hopped.f; rw [if_pos ⟨⟨by omega, h1.1⟩, hi, h1.2.1⟩]
theorem target_eq {s : ByteArray} (hg : Pond s) {i : Int} (h : 0 ≤ i ∧ i < (s.size : Int)) : impl_target.f s i = some (frogTo s i) := by
  have := hg.1.2
  unfold impl_target.f; rw [if_pos ⟨by omega, h⟩]
theorem frogTo_go {s : ByteArray} {i : Int} (h : 0 ≤ frogTo s i) : bt s (frogTo s i) = 46 ∧ bt s i ≠ 46 ∧ ((bt s i = 108 ∧ (frogTo s i = i - 1 ∨ frogTo s i = i - 2)) ∨ (bt s i ≠ 108 ∧ (frogTo s i = i + 1 ∨ frogTo s i = i + 2))) := by
  revert h
  unfold frogTo
  generalize hd : (if bt s i = 108 then (-1 : Int) else 1) = d
  have hd2 : (bt s i = 108 ∧ d = -1) ∨ (bt s i ≠ 108 ∧ d = 1) := by
    rw [← hd]
    by_cases c : bt s i = 108
    · exact .inl ⟨c, by rw [if_pos c]⟩
    · exact .inr ⟨c, by rw [if_neg c]⟩
  clear hd
  by_cases c : (0 ≤ i ∧ i < (s.size : Int)) ∧ ¬ bt s i = 46
  · rw [if_pos c]
    by_cases c1 : (0 ≤ i + d ∧ i + d < (s.size : Int)) ∧ bt s (i + d) = 46
    · rw [if_pos c1]; intro h
      refine ⟨c1.2, c.2, ?_⟩
      rcases hd2 with ⟨e, rfl⟩ | ⟨e, rfl⟩
      · exact .inl ⟨e, .inl (by omega)⟩
      · exact .inr ⟨e, .inl (by omega)⟩
    · rw [if_neg c1]
      by_cases c2 : ((0 ≤ i + 2 * d ∧ i + 2 * d < (s.size : Int)) ∧ bt s (i + 2 * d) = 46) ∧ ¬ bt s (i + d) = bt s i
      · rw [if_pos c2]; intro h
        refine ⟨c2.1.2, c.2, ?_⟩
        rcases hd2 with ⟨e, rfl⟩ | ⟨e, rfl⟩
        · exact .inl ⟨e, .inr (by omega)⟩
        · exact .inr ⟨e, .inr (by omega)⟩
      · rw [if_neg c2]; intro h; omega
  · rw [if_neg c]; intro h; omega
def sumTo (f : Nat → Int) : Nat → Int
  | 0 => 0
  | n + 1 => sumTo f n + f n
theorem sumTo_congr (f g : Nat → Int) (n : Nat) (h : ∀ j, j < n → f j = g j) : sumTo f n = sumTo g n := by
  induction n with
  | zero => rfl
  | succ n ih => simp only [sumTo]; rw [ih (fun j hj => h j (by omega)), h n (by omega)]
theorem sumTo_upd (f : Nat → Int) (a : Nat) (x : Int) (n : Nat) : sumTo (fun j => if j = a then x else f j) n = sumTo f n + (if a < n then x - f a else 0) := by
  induction n with
  | zero => simp [sumTo]
  | succ n ih =>
    simp only [sumTo]
    rw [ih]
    by_cases h : n = a
    · subst h; rw [if_neg (by omega), if_pos rfl, if_pos (by omega)]; omega
    · rw [if_neg h]
      by_cases h2 : a < n
      · rw [if_pos h2, if_pos (by omega)]; omega
      · rw [if_neg h2, if_neg (by omega)]; omega
theorem sumTo_bound (f : Nat → Int) (n : Nat) (h : ∀ j, j < n → 0 ≤ f j ∧ f j ≤ 8) : 0 ≤ sumTo f n ∧ sumTo f n ≤ 8 * n := by
  induction n with
  | zero => simp [sumTo]
  | succ n ih => simp only [sumTo]; have := ih (fun j hj => h j (by omega)); have := h n (by omega); omega
/-- How far a stone's frog has come. -/
def rk (s : ByteArray) (j : Nat) : Int := if bt s (j : Int) = 114 then (j : Int) else if bt s (j : Int) = 108 then (s.size : Int) - 1 - j else 0
def rank (s : ByteArray) : Int := sumTo (rk s) s.size
theorem rank_bound {s : ByteArray} (hg : Pond s) : 0 ≤ rank s ∧ rank s ≤ 72 := by
  have h9 := hg.1
  have := sumTo_bound (rk s) s.size (fun j hj => by
    unfold rk
    split
    · omega
    · split <;> omega)
  unfold rank; omega
theorem rank_moved {s : ByteArray} (hg : Pond s) {i : Int} (hi : 0 ≤ frogTo s i) : rank s + 1 ≤ rank (movedB s i) := by
  have h1 := frogTo_in hi
  have h2 := frogTo_go hi
  obtain ⟨a, rfl⟩ : ∃ a : Nat, i = (a : Int) := ⟨i.toNat, by omega⟩
  obtain ⟨b, hb⟩ : ∃ b : Nat, frogTo s (a : Int) = (b : Int) := ⟨(frogTo s (a : Int)).toNat, by omega⟩
  have hab : b ≠ a := by intro e; subst e; exact h1.2.2 hb
  have ha : a < s.size := by omega
  have hbs : b < s.size := by omega
  have e : rank (movedB s (a : Int)) = sumTo (fun j => if j = a then (0 : Int) else (fun j => if j = b then (if bt s (a : Int) = 114 then (b : Int) else (s.size : Int) - 1 - b) else rk s j) j) s.size := by
    unfold rank
    rw [moved_size]
    apply sumTo_congr
    intro j hj
    have hm := bt_moved s (a : Int) j hj h1.1
    rw [hb] at hm
    show rk (movedB s (a : Int)) j = (if j = a then (0 : Int) else if j = b then (if bt s (a : Int) = 114 then (b : Int) else (s.size : Int) - 1 - b) else rk s j)
    by_cases c1 : j = a
    · have hm' : bt (movedB s (a : Int)) (j : Int) = 46 := by rw [hm, if_pos (by omega)]
      rw [if_pos c1]
      unfold rk
      rw [hm', if_neg (by decide), if_neg (by decide)]
    · rw [if_neg c1]
      by_cases c2 : j = b
      · have hm' : bt (movedB s (a : Int)) (j : Int) = bt s (a : Int) := by rw [hm, if_neg (by omega), if_pos (by omega)]
        rw [if_pos c2]
        unfold rk
        rw [hm', moved_size]
        have h3 := hg.2 (a : Int) (by omega) (by omega)
        by_cases c3 : bt s (a : Int) = 114
        · rw [if_pos c3, if_pos c3]; omega
        · have c4 : bt s (a : Int) = 108 := by
            rcases h3 with e | e | e
            · exact absurd e c3
            · exact e
            · exact absurd e h2.2.1
          rw [if_neg c3, if_neg c3, if_pos c4]; omega
      · have hm' : bt (movedB s (a : Int)) (j : Int) = bt s (j : Int) := by rw [hm, if_neg (by omega), if_neg (by omega)]
        rw [if_neg c2]
        unfold rk
        rw [hm', moved_size]
  rw [e, sumTo_upd _ a 0 s.size, sumTo_upd _ b _ s.size, if_pos ha, if_pos hbs]
  have r1 : rk s b = 0 := by
    unfold rk
    rw [hb] at h2
    rw [h2.1, if_neg (by decide), if_neg (by decide)]
  rw [if_neg (Ne.symm hab), r1]
  have h3 := hg.2 (a : Int) (by omega) (by omega)
  show sumTo (rk s) s.size + 1 ≤ _
  unfold rk
  by_cases c3 : bt s (a : Int) = 114
  · rw [if_pos c3, if_pos c3]
    rcases h2.2.2 with ⟨e1, e2⟩ | ⟨e1, e2⟩
    · omega
    · omega
  · have c4 : bt s (a : Int) = 108 := by
      rcases h3 with e | e | e
      · exact absurd e c3
      · exact e
      · exact absurd e h2.2.1
    rw [if_neg c3, if_neg c3, if_pos c4]
    rcases h2.2.2 with ⟨e1, e2⟩ | ⟨e1, e2⟩
    · omega
    · exact absurd c4 e1
theorem moves_go {s : ByteArray} {m : Int} (h : m ∈ moves s) : 0 ≤ frogTo s m := ((movesF_mem s s.size 0 m).1 h).2
theorem moves_len (s : ByteArray) : (moves s).length ≤ s.size := movesF_len s s.size 0
/-- The first move by which the one whose turn it is wins, -1 if there is none; so many plies looked at. -/
def win : Nat → ByteArray → Bool → Int
  | 0, _, _ => -1
  | d + 1, s, b => ((moves s).find? (fun m => ((bt s m == 114) == b) && decide (win d (movedB s m) (!b) < 0))).getD (-1)
theorem rd_at (pre rest : List Int) (x i : Int) (h : i = pre.length) : rd (pre ++ x :: rest) i = x := by
  subst h; unfold rd; simp
theorem winning_l0 (s : ByteArray) (hg : Pond s) (b : Bool) (d : Nat) (ih : ∀ (k : Nat) (t : ByteArray) (c : Bool), Pond t → 73 - rank t ≤ d → 20 * d ≤ k → spec_fgWinning.f k t c = some (win d t c)) (hr : 73 - rank s ≤ d + 1) (rest : List Int) : ∀ (k : Nat) (pre : List Int) (i : Int), moves s = pre ++ rest → i = pre.length → 20 * d + rest.length < k → spec_fgWinning.l0 k s b (moves s) i = some ((rest.find? (fun m => ((bt s m == 114) == b) && decide (win d (movedB s m) (!b) < 0))).getD (-1)) := by
  induction rest with
  | nil =>
    intro k pre i h hi hk
    obtain ⟨k, rfl⟩ : ∃ m, k = m + 1 := ⟨k - 1, by omega⟩
    rw [List.append_nil] at h
    simp only [spec_fgWinning.l0]; rw [if_neg (by rw [h]; omega)]; rfl
  | cons x rest ihr =>
    intro k pre i h hi hk
    simp only [List.length_cons] at hk
    obtain ⟨k, rfl⟩ : ∃ m, k = m + 1 := ⟨k - 1, by omega⟩
    have hlen : (moves s).length = pre.length + (rest.length + 1) := by rw [h]; simp
    have h9 := moves_len s
    have hs9 := hg.1
    have hrd : rd (moves s) i = x := by rw [h]; exact rd_at pre rest x i hi
    have hx : 0 ≤ frogTo s x := moves_go (by rw [h]; simp)
    have hin := frogTo_in hx
    have hgo := ihr k (pre ++ [x]) (i + 1) (by rw [h]; simp) (by simp; omega) (by omega)
    simp only [spec_fgWinning.l0]
    rw [if_pos (by omega), if_pos (by omega), hrd, if_pos hin.1.1, if_pos hin.1.2, w64 (by omega) (by omega), fgMove_eq hg hx, List.find?_cons]
    simp only [Option.bind_some]
    by_cases c : ((bt s x == 114) == b) = true
    · rw [if_pos c, c]
      have hr2 := rank_moved hg hx
      rw [ih k (movedB s x) (!b) (pond_moved hg hx) (by omega) (by omega)]
      simp only [Option.bind_some, Bool.true_and]
      by_cases c2 : win d (movedB s x) (!b) < 0
      · rw [if_neg (by omega), decide_eq_true c2]; rfl
      · rw [if_pos (by omega), decide_eq_false c2]; exact hgo
    · rw [if_neg c]
      have c' : ((bt s x == 114) == b) = false := by simpa using c
      rw [c']; simp only [Bool.false_and]; exact hgo
theorem winning_eq (d : Nat) : ∀ (k : Nat) (s : ByteArray) (b : Bool), Pond s → 73 - rank s ≤ d → 20 * d ≤ k → spec_fgWinning.f k s b = some (win d s b) := by
  induction d with
  | zero => intro k s b hg hr; have := rank_bound hg; omega
  | succ d ih =>
    intro k s b hg hr hk
    obtain ⟨k, rfl⟩ : ∃ m, k = m + 1 := ⟨k - 1, by omega⟩
    have h9 := moves_len s
    have hs9 := hg.1
    simp only [spec_fgWinning.f, win]
    rw [fgMoves_eq hg]
    simp only [Option.bind_some]
    exact winning_l0 s hg b d ih (by omega) (moves s) k [] 0 rfl rfl (by omega)
theorem iwinning_l0 (s : ByteArray) (hg : Pond s) (b : Bool) (q : Int) (hq : q = if b = true then 114 else 108) (d : Nat) (ih : ∀ (k : Nat) (t : ByteArray) (c : Bool), Pond t → 73 - rank t ≤ d → 20 * d ≤ k → impl_winning.f k t c = some (win d t c)) (hr : 73 - rank s ≤ d + 1) (rest : List Int) : ∀ (k : Nat) (pre : List Int) (i : Int), moves s = pre ++ rest → i = pre.length → 20 * d + rest.length < k → impl_winning.l0 k s b q (moves s) ((moves s).length : Int) i = some ((rest.find? (fun m => ((bt s m == 114) == b) && decide (win d (movedB s m) (!b) < 0))).getD (-1)) := by
  induction rest with
  | nil =>
    intro k pre i h hi hk
    obtain ⟨k, rfl⟩ : ∃ m, k = m + 1 := ⟨k - 1, by omega⟩
    rw [List.append_nil] at h
    simp only [impl_winning.l0]; rw [if_neg (by rw [h]; omega)]; rfl
  | cons x rest ihr =>
    intro k pre i h hi hk
    simp only [List.length_cons] at hk
    obtain ⟨k, rfl⟩ : ∃ m, k = m + 1 := ⟨k - 1, by omega⟩
    have hlen : (moves s).length = pre.length + (rest.length + 1) := by rw [h]; simp
    have h9 := moves_len s
    have hs9 := hg.1
    have hrd : rd (moves s) i = x := by rw [h]; exact rd_at pre rest x i hi
    have hx : 0 ≤ frogTo s x := moves_go (by rw [h]; simp)
    have hin := frogTo_in hx
    have hgo2 := frogTo_go hx
    have hgo := ihr k (pre ++ [x]) (i + 1) (by rw [h]; simp) (by simp; omega) (by omega)
    have hb : (bt s x = q) ↔ ((bt s x == 114) == b) = true := by
      have h3 := hg.2 x hin.1.1 hin.1.2
      cases b
      · rw [if_neg (by decide)] at hq
        rcases h3 with e | e | e
        · rw [e, hq]; decide
        · rw [e, hq]; decide
        · exact absurd e hgo2.2.1
      · rw [if_pos rfl] at hq
        rcases h3 with e | e | e
        · rw [e, hq]; decide
        · rw [e, hq]; decide
        · exact absurd e hgo2.2.1
    simp only [impl_winning.l0]
    rw [if_pos (by omega), if_pos (by omega), if_pos (by omega), hrd, if_pos hin.1.1, if_pos hin.1.2, w64 (by omega) (by omega), hopped_eq hg hx, List.find?_cons]
    simp only [Option.bind_some]
    by_cases c : ((bt s x == 114) == b) = true
    · rw [if_pos (hb.2 c), c]
      have hr2 := rank_moved hg hx
      rw [ih k (movedB s x) (!b) (pond_moved hg hx) (by omega) (by omega)]
      simp only [Option.bind_some, Bool.true_and]
      by_cases c2 : win d (movedB s x) (!b) < 0
      · rw [if_pos (by omega), decide_eq_true c2]; rfl
      · rw [if_neg (by omega), decide_eq_false c2]; exact hgo
    · rw [if_neg (fun e => c (hb.1 e))]
      have c' : ((bt s x == 114) == b) = false := by simpa using c
      rw [c']; simp only [Bool.false_and]; exact hgo
theorem iwinning_eq (d : Nat) : ∀ (k : Nat) (s : ByteArray) (b : Bool), Pond s → 73 - rank s ≤ d → 20 * d ≤ k → impl_winning.f k s b = some (win d s b) := by
  induction d with
  | zero => intro k s b hg hr; have := rank_bound hg; omega
  | succ d ih =>
    intro k s b hg hr hk
    obtain ⟨k, rfl⟩ : ∃ m, k = m + 1 + 1 := ⟨k - 2, by omega⟩
    have h9 := moves_len s
    have hs9 := hg.1
    have hb : impl_winning.f (k + 1 + 1) s b = impl_winning.j0 (k + 1) s b (if b = true then 114 else 108) := by
      simp only [impl_winning.f]; cases b <;> rfl
    rw [hb]
    obtain ⟨q, hq⟩ : ∃ q : Int, q = if b = true then 114 else 108 := ⟨_, rfl⟩
    rw [← hq]
    simp only [impl_winning.j0, win]
    rw [hops_eq hs9.2 (by omega)]
    simp only [Option.bind_some]
    exact iwinning_l0 s hg b q hq d ih (by omega) (moves s) k [] 0 rfl rfl (by omega)
theorem FnExactWinningMove : laws_FnExactWinningMove.Pure := by
  intro s b _
  obtain ⟨d, hd⟩ : ∃ d : Nat, 73 ≤ d := ⟨73, Nat.le_refl _⟩
  obtain ⟨k, hk⟩ : ∃ k : Nat, 20 * d ≤ k := ⟨20 * d, Nat.le_refl _⟩
  have hk10 : 10 < k := by omega
  refine ⟨k, ?_⟩
  unfold laws_FnExactWinningMove.f spec_WinningMove.f impl_WinningMove.f
  by_cases hb : (s.size : Int) > 1048576
  · rw [if_pos hb]
  · rw [if_neg hb]
    by_cases hg : Pond s
    · have hrk := rank_bound hg
      rw [fgGood_true hg hk10, isPond_true hg, iwinning_eq d k s b hg (by omega) hk, winning_eq d k s b hg (by omega) hk]
      obtain ⟨v, hv⟩ : ∃ v, win d s b = v := ⟨_, rfl⟩
      rw [hv]
      simp only [Option.bind_some, if_true]
      by_cases c : 0 ≤ v
      · rw [if_pos c, if_neg (by omega)]; simp
      · rw [if_neg c, if_pos (by omega)]; simp
    · rw [fgGood_false hg hk10, isPond_false hg]; simp

end Go.Proofs.YtfmbcfbbhokbaaaDoor.Pure
