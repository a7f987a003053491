/- For every text and list of moves the program's PlayFrogs and the reference's answer alike, and the list is as it was. Conditions: the text takes at most 140737488351232 bytes, the list's numbers are whole numbers of 64 bits, and it fits into memory. -/
import Derived.Test.YtfmbcfbbhokbaaaDoorPFnExactPlayFrogsx
namespace Go.Proofs.YtfmbcfbbhokbaaaDoor.Pure
open Go.RowKit Go.Proofs.YtfmbcfbbhokbaaaDoor.PFnExactPlayFrogs Go.Proofs.YtfmbcfbbhokbaaaDoorW.PrintWords Go.Proofs.YtfmbcfbbhokbaaaDoorW.PrintLast Go.Proofs.YtfmbcfbbhokbaaaDoorW.PrintMore

set_option linter.unusedVariables false
set_option linter.unusedSimpArgs false
def inB (a b c : Int) : Bool := decide (b ≤ a ∧ a ≤ c)
theorem inB_true {a b c : Int} (h : inB a b c = true) : b ≤ a ∧ a ≤ c := of_decide_eq_true h
theorem inB_mk {a b c : Int} (h : b ≤ a ∧ a ≤ c) : inB a b c = true := decide_eq_true h
theorem inB_not {a b c : Int} (h : ¬ (b ≤ a ∧ a ≤ c)) : inB a b c = false := decide_eq_false h
theorem inB_false {a b c : Int} (h : inB a b c = false) : ¬ (b ≤ a ∧ a ≤ c) := of_decide_eq_false h
theorem in_eq (a b c : Int) : spec_l1In.f a b c = some (inB a b c) := by
  unfold spec_l1In.f inB
  by_cases h : a ≥ b
  · rw [if_pos h]; congr 1; rw [decide_eq_decide]; omega
  · rw [if_neg h]; congr 1; symm; rw [decide_eq_false_iff_not]; omega
theorem within_eq (a b c : Int) : impl_within.f a b c = some (inB a b c) := by
  unfold impl_within.f inB
  by_cases h : b ≤ a
  · rw [if_pos h]; congr 1; rw [decide_eq_decide]; omega
  · rw [if_neg h]; congr 1; symm; rw [decide_eq_false_iff_not]; omega
theorem w64 {x : Int} (h0 : -9223372036854775808 ≤ x) (h1 : x < 9223372036854775808) : wrap64 x = x := by unfold wrap64; omega
/-- A pond: 1..9 signs, each a frog of one kind or a free stone. -/
def Pond (s : ByteArray) : Prop := (1 ≤ s.size ∧ s.size ≤ 9) ∧ ∀ i : Int, 0 ≤ i → i < s.size → bt s i = 114 ∨ bt s i = 108 ∨ bt s i = 46
theorem fgGood_l0_true (s : ByteArray) (hs : s.size ≤ 9) (d : Nat) : ∀ (k : Nat) (i : Int), 0 ≤ i → (s.size : Int) - i ≤ d → d < k → (∀ j : Int, i ≤ j → j < s.size → bt s j = 114 ∨ bt s j = 108 ∨ bt s j = 46) → spec_fgGood.l0 k s i = some true := by
  induction d with
  | zero =>
    intro k i h0 hd hk h
    obtain ⟨k, rfl⟩ : ∃ m, k = m + 1 := ⟨k - 1, by omega⟩
    simp only [spec_fgGood.l0]; rw [if_neg (by omega)]
  | succ d ih =>
    intro k i h0 hd hk h
    obtain ⟨k, rfl⟩ : ∃ m, k = m + 1 := ⟨k - 1, by omega⟩
    simp only [spec_fgGood.l0]
    by_cases hlt : i < (s.size : Int)
    · rw [if_pos hlt, if_pos h0, w64 (by omega) (by omega)]
      have hr := ih k (i + 1) (by omega) (by omega) (by omega) (fun j h1 h2 => h j (by omega) h2)
      rw [hr]
      rcases h i (by omega) hlt with e | e | e
      · rw [if_pos e]
      · rw [if_neg (by omega), if_pos e]
      · rw [if_neg (by omega), if_neg (by omega), if_pos e]
    · rw [if_neg hlt]
theorem fgGood_l0_false (s : ByteArray) (hs : s.size ≤ 9) (d : Nat) : ∀ (k : Nat) (i : Int), 0 ≤ i → (s.size : Int) - i ≤ d → d < k → (¬ ∀ j : Int, i ≤ j → j < s.size → bt s j = 114 ∨ bt s j = 108 ∨ bt s j = 46) → spec_fgGood.l0 k s i = some false := by
  induction d with
  | zero =>
    intro k i h0 hd hk h
    exact absurd (fun j h1 h2 => absurd h1 (by omega)) h
  | succ d ih =>
    intro k i h0 hd hk h
    obtain ⟨k, rfl⟩ : ∃ m, k = m + 1 := ⟨k - 1, by omega⟩
    simp only [spec_fgGood.l0]
    by_cases hlt : i < (s.size : Int)
    · rw [if_pos hlt, if_pos h0, w64 (by omega) (by omega)]
      have hgo : (bt s i = 114 ∨ bt s i = 108 ∨ bt s i = 46) → spec_fgGood.l0 k s (i + 1) = some false := fun e => ih k (i + 1) (by omega) (by omega) (by omega) (fun g => h (fun j h1 h2 => if c : j = i then by rw [c]; exact e else g j (by omega) h2))
      by_cases e1 : bt s i = 114
      · rw [if_pos e1]; exact hgo (.inl e1)
      · rw [if_neg e1]
        by_cases e2 : bt s i = 108
        · rw [if_pos e2]; exact hgo (.inr (.inl e2))
        · rw [if_neg e2]
          by_cases e3 : bt s i = 46
          · rw [if_pos e3]; exact hgo (.inr (.inr e3))
          · rw [if_neg e3]
    · exact absurd (fun j h1 h2 => absurd h2 (by omega)) h
theorem fgGood_true {s : ByteArray} (hg : Pond s) {k : Nat} (hk : 10 < k) : spec_fgGood.f k s = some true := by
  unfold spec_fgGood.f
  obtain ⟨h1, h2⟩ := hg
  rw [in_eq, inB_mk ⟨by omega, by omega⟩]
  exact fgGood_l0_true s h1.2 s.size k 0 (by omega) (by omega) (by omega) h2
theorem fgGood_false {s : ByteArray} (hg : ¬ Pond s) {k : Nat} (hk : 10 < k) : spec_fgGood.f k s = some false := by
  unfold spec_fgGood.f
  rw [in_eq]
  cases hb : inB (s.size : Int) 1 9
  · rfl
  · have h1 := inB_true hb
    exact fgGood_l0_false s (by omega) s.size k 0 (by omega) (by omega) (by omega) (fun h => hg ⟨⟨by omega, by omega⟩, h⟩)
theorem bt_list (s : ByteArray) (i : Nat) (h : i < s.data.toList.length) : bt s (i : Int) = ((s.data.toList[i]'h).toNat : Int) := by
  have h' : i < s.size := by simpa using h
  unfold bt
  rw [dif_pos (by simpa using h')]
  rfl
theorem dropWhile_nil {α : Type} (p : α → Bool) (l : List α) : l.dropWhile p = [] ↔ ∀ x ∈ l, p x = true := by
  induction l with
  | nil => simp
  | cons a l ih =>
    rw [List.dropWhile_cons]
    by_cases h : p a = true
    · rw [if_pos h, ih]; simp [h]
    · rw [if_neg h]; simp [h]
theorem trimS_nil (l cs : List UInt8) : Lib.trimS l cs = [] ↔ ∀ x ∈ l, cs.contains x = true := by
  unfold Lib.trimS Lib.trimLeftS Lib.trimRightS
  rw [dropWhile_nil]
  constructor
  · intro h x hx
    by_cases hall : ∀ y ∈ l.reverse, cs.contains y = true
    · exact hall x (by simpa using hx)
    · exfalso
      have hne : l.reverse.dropWhile (cs.contains ·) ≠ [] := fun e => hall ((dropWhile_nil _ _).1 e)
      obtain ⟨y, ys, hy⟩ : ∃ y ys, l.reverse.dropWhile (cs.contains ·) = y :: ys := by
        cases e : l.reverse.dropWhile (cs.contains ·) with
        | nil => exact absurd e hne
        | cons y ys => exact ⟨y, ys, rfl⟩
      have hp := List.head?_dropWhile_not (cs.contains ·) l.reverse
      rw [hy] at hp
      have := h y (by rw [hy]; simp)
      simp at hp this
      exact hp this
  · intro h x hx
    rw [List.mem_reverse] at hx
    exact h x (by simpa using (List.dropWhile_sublist _).subset hx)
theorem trim_pond (s : ByteArray) (hs : s.size ≤ 9223372036854775807) : ∃ t : ByteArray, strings_Trim.f s (⟨#[114, 108, 46]⟩ : ByteArray) = some t ∧ (t.toList = [] ↔ ∀ i : Int, 0 ≤ i → i < s.size → bt s i = 114 ∨ bt s i = 108 ∨ bt s i = 46) := by
  refine ⟨⟨(Lib.trimS s.data.toList [114, 108, 46]).toArray⟩, ?_, ?_⟩
  · unfold strings_Trim.f
    rw [if_pos ⟨hs, by decide, by decide⟩]
  · rw [Lib.toList_data]
    show (Lib.trimS s.data.toList [114, 108, 46]).toArray.toList = [] ↔ _
    rw [show (Lib.trimS s.data.toList [114, 108, 46]).toArray.toList = Lib.trimS s.data.toList [114, 108, 46] from rfl, trimS_nil]
    constructor
    · intro h i h0 h1
      have hi : i.toNat < s.data.toList.length := by
        have : s.data.toList.length = s.size := by simp
        omega
      have hb := bt_list s i.toNat hi
      rw [show ((i.toNat : Nat) : Int) = i by omega] at hb
      have := h _ (List.getElem_mem hi)
      rw [hb]
      simp at this
      rcases this with e | e | e <;> simp [e]
    · intro h x hx
      obtain ⟨n, hn, rfl⟩ := List.mem_iff_getElem.1 hx
      have hb := bt_list s n hn
      have hlt : n < s.size := by simpa using hn
      have := h n (by omega) (by omega)
      rw [hb] at this
      simp
      rcases this with e | e | e
      · left; apply UInt8.toNat_inj.1; simpa using Int.ofNat.inj e
      · right; left; apply UInt8.toNat_inj.1; simpa using Int.ofNat.inj e
      · right; right; apply UInt8.toNat_inj.1; simpa using Int.ofNat.inj e
theorem isPond_true {s : ByteArray} (hg : Pond s) : impl_IsPond.f s = some true := by
  unfold impl_IsPond.f
  obtain ⟨h1, h2⟩ := hg
  obtain ⟨t, ht, hiff⟩ := trim_pond s (by omega)
  rw [within_eq, inB_mk ⟨by omega, by omega⟩]
  simp only [Option.bind_some, if_true, ht]
  rw [hiff.2 h2]; rfl
theorem isPond_false {s : ByteArray} (hg : ¬ Pond s) : impl_IsPond.f s = some false := by
  unfold impl_IsPond.f
  rw [within_eq]
  cases hb : inB (s.size : Int) 1 9
  · rfl
  · have h1 := inB_true hb
    obtain ⟨t, ht, hiff⟩ := trim_pond s (by omega)
    simp only [Option.bind_some, if_true, ht]
    congr 1
    cases hc : (t.toList == ([] : List UInt8)) with
    | false => rfl
    | true => exact absurd ⟨⟨by omega, by omega⟩, hiff.1 (by simpa using hc)⟩ hg
theorem pond_ascii {s : ByteArray} (hg : Pond s) : asciiB s = true := by
  unfold asciiB
  apply List.all_eq_true.2
  intro i hi
  have h1 := List.mem_range.1 hi
  have h2 := hg.2 (i : Int) (by omega) (by omega)
  apply decide_eq_true
  omega
theorem frogTo_in {s : ByteArray} {i : Int} (h : 0 ≤ frogTo s i) : (0 ≤ i ∧ i < (s.size : Int)) ∧ frogTo s i < (s.size : Int) ∧ frogTo s i ≠ i := by
  revert h
  unfold frogTo
  generalize hd : (if bt s i = 108 then (-1 : Int) else 1) = d
  have hd2 : d = -1 ∨ d = 1 := by rw [← hd]; split <;> simp
  clear hd
  by_cases c : (0 ≤ i ∧ i < (s.size : Int)) ∧ ¬ bt s i = 46
  · rw [if_pos c]
    by_cases c1 : (0 ≤ i + d ∧ i + d < (s.size : Int)) ∧ bt s (i + d) = 46
    · rw [if_pos c1]; intro h; exact ⟨c.1, by omega, by omega⟩
    · rw [if_neg c1]
      by_cases c2 : ((0 ≤ i + 2 * d ∧ i + 2 * d < (s.size : Int)) ∧ bt s (i + 2 * d) = 46) ∧ ¬ bt s (i + d) = bt s i
      · rw [if_pos c2]; intro h; exact ⟨c.1, by omega, by omega⟩
      · rw [if_neg c2]; intro h; omega
  · rw [if_neg c]; intro h; omega
/-- How far a move goes: one stone or two. -/
theorem frogTo_far {s : ByteArray} {i : Int} (h : 0 ≤ frogTo s i) : -2 ≤ frogTo s i - i ∧ frogTo s i - i ≤ 2 := by
  revert h
  unfold frogTo
  generalize hd : (if bt s i = 108 then (-1 : Int) else 1) = d
  have hd2 : d = -1 ∨ d = 1 := by rw [← hd]; split <;> simp
  clear hd
  by_cases c : (0 ≤ i ∧ i < (s.size : Int)) ∧ ¬ bt s i = 46
  · rw [if_pos c]
    by_cases c1 : (0 ≤ i + d ∧ i + d < (s.size : Int)) ∧ bt s (i + d) = 46
    · rw [if_pos c1]; intro h; omega
    · rw [if_neg c1]
      by_cases c2 : ((0 ≤ i + 2 * d ∧ i + 2 * d < (s.size : Int)) ∧ bt s (i + 2 * d) = 46) ∧ ¬ bt s (i + d) = bt s i
      · rw [if_pos c2]; intro h; omega
      · rw [if_neg c2]; intro h; omega
  · rw [if_neg c]; intro h; omega
theorem moved_size (s : ByteArray) (i : Int) : (movedB s i).size = s.size := by
  show ((List.range s.size).map (movedAt s i (frogTo s i))).toArray.size = s.size
  rw [List.size_toArray, List.length_map, List.length_range]
theorem bt_in (s : ByteArray) (j : Nat) (h : j < s.size) : bt s (j : Int) = ((s.data.toList.getD j 0).toNat : Int) := by
  rw [bt_list s j (by simpa using h), List.getD_eq_getElem?_getD, List.getElem?_eq_getElem (by simpa using h)]; rfl
theorem bt_moved (s : ByteArray) (i : Int) (j : Nat) (h : j < s.size) (hi : 0 ≤ i ∧ i < (s.size : Int)) : bt (movedB s i) (j : Int) = if (j : Int) = i then 46 else if (j : Int) = frogTo s i then bt s i else bt s (j : Int) := by
  have hm : j < (movedB s i).size := by rw [moved_size]; exact h
  rw [bt_list _ j (by simpa using hm)]
  have e : (movedB s i).data.toList[j]'(by simpa using hm) = movedAt s i (frogTo s i) j := by simp [movedB]
  rw [e]
  unfold movedAt
  by_cases c1 : (j : Int) = i
  · rw [if_pos c1, if_pos c1]; rfl
  · rw [if_neg c1, if_neg c1]
    by_cases c2 : (j : Int) = frogTo s i
    · rw [if_pos c2, if_pos c2, ← bt_in s i.toNat (by omega), show ((i.toNat : Nat) : Int) = i by omega]
    · rw [if_neg c2, if_neg c2, ← bt_in s j h]
theorem pond_moved {s : ByteArray} (hg : Pond s) {i : Int} (hi : 0 ≤ frogTo s i) : Pond (movedB s i) := by
  have h1 := frogTo_in hi
  refine ⟨by rw [moved_size]; exact hg.1, fun j h0 hj => ?_⟩
  rw [moved_size] at hj
  have h := bt_moved s i j.toNat (by omega) h1.1
  rw [show ((j.toNat : Nat) : Int) = j by omega] at h
  rw [h]
  by_cases c1 : j = i
  · rw [if_pos c1]; exact .inr (.inr rfl)
  · rw [if_neg c1]
    by_cases c2 : j = frogTo s i
    · rw [if_pos c2]; exact hg.2 i h1.1.1 h1.1.2
    · rw [if_neg c2]; exact hg.2 j h0 hj
theorem fgTo_eq {s : ByteArray} (hg : Pond s) (i : Int) : spec_fgTo.f s i = some (frogTo s i) := by
  have := hg.1.2
  unfold spec_fgTo.f; rw [if_pos (by omega)]
theorem fgMove_eq {s : ByteArray} (hg : Pond s) {i : Int} (hi : 0 ≤ frogTo s i) : spec_fgMove.f s i = some (movedB s i) := by
  have := hg.1.2
  have h1 := frogTo_in hi
  unfold spec_fgMove.f; rw [if_pos ⟨⟨by omega, pond_ascii hg⟩, h1.1⟩]
theorem hopped_eq {s : ByteArray} (hg : Pond s) {i : Int} (hi : 0 ≤ frogTo s i) : impl_hopped.f s i = some (movedB s i) := by
  have := hg.1.2
  have h1 := frogTo_in hi
  unfold impl_hopped.f; rw [if_pos ⟨⟨by omega, h1.1⟩, hi, h1.2.1⟩]
theorem target_eq {s : ByteArray} (hg : Pond s) {i : Int} (h : 0 ≤ i ∧ i < (s.size : Int)) : impl_target.f s i = some (frogTo s i) := by
  have := hg.1.2
  unfold impl_target.f; rw [if_pos ⟨by omega, h⟩]
theorem iMove_yes {s : ByteArray} (hg : Pond s) {i : Int} (hi : 0 ≤ frogTo s i) : impl_MoveFrog.f s i = some (movedB s i, true) := by
  have h1 := frogTo_in hi
  have h9 := hg.1
  unfold impl_MoveFrog.f
  rw [isPond_true hg, within_eq, w64 (by omega) (by omega), inB_mk ⟨by omega, by omega⟩, target_eq hg h1.1, hopped_eq hg hi]
  simp only [Option.bind_some, if_true]
  rw [if_neg (by omega)]
theorem iMove_no {s : ByteArray} (hg : Pond s) {i : Int} (hi : ¬ 0 ≤ frogTo s i) : impl_MoveFrog.f s i = some ((⟨#[]⟩ : ByteArray), false) := by
  have h9 := hg.1
  unfold impl_MoveFrog.f
  rw [isPond_true hg, within_eq, w64 (by omega) (by omega)]
  cases hb : inB i 0 ((s.size : Int) - 1)
  · rfl
  · have h1 := inB_true hb
    simp only [Option.bind_some, if_true]
    rw [target_eq hg ⟨by omega, by omega⟩]
    simp only [Option.bind_some]
    rw [if_pos (by omega)]
theorem iMove_none {s : ByteArray} (hg : ¬ Pond s) (i : Int) : impl_MoveFrog.f s i = some ((⟨#[]⟩ : ByteArray), false) := by
  unfold impl_MoveFrog.f
  rw [isPond_false hg]; rfl
theorem toIntS_l0 (l : List Int) (hl : l.length < 4611686018427387904) (d : Nat) : ∀ (k : Nat) (pre suf : List Int) (i : Int), pre.length = suf.length → i = pre.length → (∃ rest, l = pre ++ rest ∧ rest.length = d ∧ ∃ zs : List Int, suf ++ zs = suf ++ zs) → d < k → ∀ z : List Int, z.length = l.length → z.take pre.length = pre → laws_toIntS.l0 k l z i = some l := by
  induction d with
  | zero =>
    intro k pre suf i _ hi h hk z hz hzp
    obtain ⟨rest, rfl, hr, _⟩ := h
    obtain ⟨k, rfl⟩ : ∃ m, k = m + 1 := ⟨k - 1, by omega⟩
    obtain rfl : rest = [] := List.eq_nil_of_length_eq_zero hr
    simp only [laws_toIntS.l0]
    rw [List.append_nil] at hz ⊢
    rw [if_neg (by omega)]
    congr 1
    rw [← hzp, List.take_of_length_le (by omega)]
  | succ d ih =>
    intro k pre suf i hps hi h hk z hz hzp
    obtain ⟨rest, rfl, hr, _⟩ := h
    obtain ⟨k, rfl⟩ : ∃ m, k = m + 1 := ⟨k - 1, by omega⟩
    obtain ⟨x, rest, rfl⟩ : ∃ x r, rest = x :: r := by
      cases rest with
      | nil => simp at hr
      | cons x r => exact ⟨x, r, rfl⟩
    simp only [List.length_cons] at hr
    simp only [List.length_append, List.length_cons] at hz hl
    simp only [laws_toIntS.l0]
    rw [if_pos (by simp; omega), if_pos (by omega), if_pos (by omega), w64 (by omega) (by omega)]
    have hrd : rd (pre ++ x :: rest) i = x := by subst hi; unfold rd; simp
    rw [hrd]
    refine ih k (pre ++ [x]) (suf ++ [x]) (i + 1) (by simp [hps]) (by simp; omega) ⟨rest, by simp, by omega, [], rfl⟩ (by omega) _ (by simp [hz]) ?_
    subst hi
    have e : ((pre.length : Int)).toNat = pre.length := by simp
    rw [e, List.length_append, List.length_singleton, List.take_set, List.take_add_one, hzp, List.getElem?_eq_getElem (by omega)]
    simp
theorem toIntS_eq (l : List Int) (hl : l.length ≤ 35184372088832) {k : Nat} (hk : l.length < k) : laws_toIntS.f k l = some l := by
  unfold laws_toIntS.f
  rw [if_pos (by omega), if_pos (by simp; omega)]
  exact toIntS_l0 l (by omega) l.length k [] [] 0 rfl rfl ⟨l, rfl, rfl, [], rfl⟩ hk _ (by simp) rfl
theorem eqIntS_l0 (l : List Int) (hl : l.length < 4611686018427387904) (d : Nat) : ∀ (k : Nat) (i : Int), 0 ≤ i → (l.length : Int) - i ≤ d → d < k → laws_eqIntS.l0 k l l i = some true := by
  induction d with
  | zero =>
    intro k i h0 hd hk
    obtain ⟨k, rfl⟩ : ∃ m, k = m + 1 := ⟨k - 1, by omega⟩
    simp only [laws_eqIntS.l0]; rw [if_neg (by omega)]
  | succ d ih =>
    intro k i h0 hd hk
    obtain ⟨k, rfl⟩ : ∃ m, k = m + 1 := ⟨k - 1, by omega⟩
    simp only [laws_eqIntS.l0]
    by_cases hlt : i < (l.length : Int)
    · rw [if_pos hlt, if_pos h0, if_pos hlt, if_pos trivial, w64 (by omega) (by omega)]
      exact ih k (i + 1) (by omega) (by omega) (by omega)
    · rw [if_neg hlt]
theorem eqIntS_self (l : List Int) (hl : l.length < 4611686018427387904) {k : Nat} (hk : l.length < k) : laws_eqIntS.f k l l = some true := by
  unfold laws_eqIntS.f
  rw [if_pos rfl]
  exact eqIntS_l0 l hl l.length k 0 (by omega) (by omega) hk
/-- What playing some moves brings: the pond behind them and how many leaps; nothing at a move that cannot be made. -/
def playAll : ByteArray → Int → List Int → ByteArray × Int × Bool
  | s, n, [] => (s, n, true)
  | s, n, i :: l => if 0 ≤ frogTo s i then playAll (movedB s i) (n + if frogTo s i - i = 2 ∨ frogTo s i - i = -2 then 1 else 0) l else ((⟨#[]⟩ : ByteArray), 0, false)
theorem rd_pre (pre rest : List Int) (x i : Int) (h : i = pre.length) : rd (pre ++ x :: rest) i = x := by
  subst h; unfold rd; simp
theorem fgPlay_l0 (l : List Int) (hl : l.length ≤ 60) (rest : List Int) : ∀ (k : Nat) (pre : List Int) (s : ByteArray) (n i : Int), l = pre ++ rest → i = pre.length → rest.length < k → Pond s → 0 ≤ n → n ≤ i → spec_fgPlay.l0 k s n l (l.length : Int) i = some (playAll s n rest) := by
  induction rest with
  | nil =>
    intro k pre s n i h hi hk hg h0 hn
    obtain ⟨k, rfl⟩ : ∃ m, k = m + 1 := ⟨k - 1, by simp at hk; omega⟩
    rw [List.append_nil] at h
    simp only [spec_fgPlay.l0, playAll]; rw [if_neg (by subst h; omega)]
  | cons x rest ih =>
    intro k pre s n i h hi hk hg h0 hn
    simp only [List.length_cons] at hk
    obtain ⟨k, rfl⟩ : ∃ m, k = m + 1 := ⟨k - 1, by omega⟩
    have hlen : l.length = pre.length + (rest.length + 1) := by subst h; simp
    have hrd : rd l i = x := by subst h; exact rd_pre pre rest x i hi
    simp only [spec_fgPlay.l0, playAll]
    rw [if_pos (by omega), if_pos (by omega), if_pos (by omega), hrd, fgTo_eq hg]
    simp only [Option.bind_some]
    by_cases ht : 0 ≤ frogTo s x
    · have hf := frogTo_far ht
      have hin := frogTo_in ht
      have h9 := hg.1
      rw [if_neg (by omega), if_pos ht, fgMove_eq hg ht]
      unfold spec_l1Abs.f spec_l1Most.f
      rw [w64 (x := frogTo s x - x) (by omega) (by omega), w64 (x := -(frogTo s x - x)) (by omega) (by omega)]
      have hgo := fun (n' : Int) (h0' : 0 ≤ n') (hn' : n' ≤ i + 1) => ih k (pre ++ [x]) (movedB s x) n' (i + 1) (by subst h; simp) (by simp; omega) (by omega) (pond_moved hg ht) h0' hn'
      rw [w64 (x := i + 1) (by omega) (by omega), w64 (x := n + 1) (by omega) (by omega)]
      by_cases c : frogTo s x - x = 2 ∨ frogTo s x - x = -2
      · rw [if_pos c, ← hgo (n + 1) (by omega) (by omega)]
        by_cases c1 : frogTo s x - x > -(frogTo s x - x)
        · rw [if_pos c1]; simp only [Option.bind_some]; rw [if_pos (by omega)]
        · rw [if_neg c1]; simp only [Option.bind_some]; rw [if_pos (by omega)]
      · rw [if_neg c, Int.add_zero, ← hgo n (by omega) (by omega)]
        by_cases c1 : frogTo s x - x > -(frogTo s x - x)
        · rw [if_pos c1]; simp only [Option.bind_some]; rw [if_neg (by omega)]
        · rw [if_neg c1]; simp only [Option.bind_some]; rw [if_neg (by omega)]
    · rw [if_pos (by omega), if_neg ht]
theorem far_sq {x : Int} (h : -2 ≤ x ∧ x ≤ 2) : x * x > 1 ↔ x = 2 ∨ x = -2 := by
  have : x = -2 ∨ x = -1 ∨ x = 0 ∨ x = 1 ∨ x = 2 := by omega
  rcases this with rfl | rfl | rfl | rfl | rfl <;> simp
theorem sq_small {x : Int} (h : -2 ≤ x ∧ x ≤ 2) : 0 ≤ x * x ∧ x * x ≤ 4 := by
  have : x = -2 ∨ x = -1 ∨ x = 0 ∨ x = 1 ∨ x = 2 := by omega
  rcases this with rfl | rfl | rfl | rfl | rfl <;> simp
theorem played_l0 (l : List Int) (hl : l.length ≤ 60) (rest : List Int) : ∀ (k : Nat) (pre : List Int) (s : ByteArray) (n i : Int), l = pre ++ rest → i = pre.length → rest.length < k → Pond s → 0 ≤ n → n ≤ i → impl_played.l0 k s n l (l.length : Int) i = some (playAll s n rest) := by
  induction rest with
  | nil =>
    intro k pre s n i h hi hk hg h0 hn
    obtain ⟨k, rfl⟩ : ∃ m, k = m + 1 := ⟨k - 1, by simp at hk; omega⟩
    rw [List.append_nil] at h
    simp only [impl_played.l0, playAll]; rw [if_neg (by subst h; omega)]
  | cons x rest ih =>
    intro k pre s n i h hi hk hg h0 hn
    simp only [List.length_cons] at hk
    obtain ⟨k, rfl⟩ : ∃ m, k = m + 1 := ⟨k - 1, by omega⟩
    have hlen : l.length = pre.length + (rest.length + 1) := by subst h; simp
    have hrd : rd l i = x := by subst h; exact rd_pre pre rest x i hi
    simp only [impl_played.l0, playAll]
    rw [if_pos (by omega), if_pos (by omega), if_pos (by omega), hrd]
    by_cases ht : 0 ≤ frogTo s x
    · have hf := frogTo_far ht
      have hin := frogTo_in ht
      have h9 := hg.1
      have hsq := sq_small hf
      have hgo := fun (n' : Int) (h0' : 0 ≤ n') (hn' : n' ≤ i + 1) => ih k (pre ++ [x]) (movedB s x) n' (i + 1) (by subst h; simp) (by simp; omega) (by omega) (pond_moved hg ht) h0' hn'
      rw [iMove_yes hg ht, if_pos ht, target_eq hg hin.1]
      simp only [Option.bind_some, if_true]
      rw [w64 (x := frogTo s x - x) (by omega) (by omega), w64 (x := (frogTo s x - x) * (frogTo s x - x)) (by omega) (by omega), w64 (x := i + 1) (by omega) (by omega)]
      unfold impl_bit.f
      by_cases c : frogTo s x - x = 2 ∨ frogTo s x - x = -2
      · rw [if_pos c, decide_eq_true ((far_sq hf).2 c), if_pos rfl]
        simp only [Option.bind_some]
        rw [w64 (x := n + 1) (by omega) (by omega), hgo (n + 1) (by omega) (by omega)]
      · rw [if_neg c, decide_eq_false (fun e => c ((far_sq hf).1 e)), if_neg (by decide)]
        simp only [Option.bind_some]
        rw [w64 (x := n + 0) (by omega) (by omega), hgo (n + 0) (by omega) (by omega)]
    · rw [iMove_no hg ht, if_neg ht]; rfl
theorem played_eq {s : ByteArray} (hg : Pond s) (l : List Int) (hl : l.length ≤ 60) {k : Nat} (hk : 70 < k) : impl_played.f k s l = some (playAll s 0 l) := by
  unfold impl_played.f
  obtain ⟨k, rfl⟩ : ∃ m, k = m + 1 := ⟨k - 1, by omega⟩
  rw [isPond_true hg]
  simp only [Option.bind_some, if_true, impl_played.j0]
  rw [decide_eq_false (by omega), if_neg (by decide)]
  exact played_l0 l hl l k [] s 0 0 rfl rfl (by omega) hg (by omega) (by omega)
theorem played_no (s : ByteArray) (l : List Int) (h : ¬ (Pond s ∧ l.length ≤ 60)) {k : Nat} (hk : 70 < k) : impl_played.f k s l = some ((⟨#[]⟩ : ByteArray), 0, false) := by
  unfold impl_played.f
  obtain ⟨k, rfl⟩ : ∃ m, k = m + 1 := ⟨k - 1, by omega⟩
  by_cases hg : Pond s
  · have hn : (l.length : Int) > 60 := by
      have : ¬ l.length ≤ 60 := fun c => h ⟨hg, c⟩
      omega
    rw [isPond_true hg]
    simp only [Option.bind_some, if_true, impl_played.j0]
    rw [decide_eq_true hn, if_pos rfl]
  · rw [isPond_false hg]
    simp [impl_played.j0]
theorem fgPlay_eq {s : ByteArray} (hg : Pond s) (l : List Int) (hl : l.length ≤ 60) {k : Nat} (hk : 70 < k) : spec_fgPlay.f k s l = some (playAll s 0 l) := by
  unfold spec_fgPlay.f
  exact fgPlay_l0 l hl l k [] s 0 0 rfl rfl (by omega) hg (by omega) (by omega)
theorem FnExactPlayFrogs : laws_FnExactPlayFrogs.Pure := by
  intro s l _ _ _ _
  obtain ⟨k, hk⟩ : ∃ k : Nat, l.length + 100 ≤ k := ⟨l.length + 100, Nat.le_refl _⟩
  have hk10 : 10 < k + 1 := by omega
  have hk70 : 70 < k + 1 := by omega
  refine ⟨k + 1, ?_⟩
  unfold laws_FnExactPlayFrogs.f
  by_cases hb : (s.size : Int) > 1048576
  · rw [if_pos hb]
  rw [if_neg hb]
  by_cases hb2 : (l.length : Int) > 1048576
  · rw [if_pos hb2]
  rw [if_neg hb2]
  have t1 := toIntS_eq l (by omega) (show l.length < k + 1 by omega)
  have t0 := toIntS_eq l (by omega) (show l.length < k by omega)
  have e0 := eqIntS_self l (by omega) (show l.length < k by omega)
  have key : ∃ r : ByteArray × Int × Bool, impl_PlayFrogs.f (k + 1) s l = some (r.1, r.2.2) ∧ spec_PlayFrogs.f (k + 1) s l = some (r.1, r.2.2) := by
    unfold impl_PlayFrogs.f spec_PlayFrogs.f
    by_cases hg : Pond s
    · rw [fgGood_true hg hk10]
      by_cases hl : l.length ≤ 60
      · refine ⟨playAll s 0 l, ?_, ?_⟩
        · rw [played_eq hg l hl hk70]; rfl
        · simp only [Option.bind_some, if_true]
          rw [if_neg (by omega), fgPlay_eq hg l hl hk70]; rfl
      · refine ⟨((⟨#[]⟩ : ByteArray), 0, false), ?_, ?_⟩
        · rw [played_no s l (fun c => hl c.2) hk70]; rfl
        · simp only [Option.bind_some, if_true]
          rw [if_pos (by omega)]
    · refine ⟨((⟨#[]⟩ : ByteArray), 0, false), ?_, ?_⟩
      · rw [played_no s l (fun c => hg c.1) hk70]; rfl
      · rw [fgGood_false hg hk10]; rfl
  obtain ⟨r, hi, hs⟩ := key
  simp only [t1, hs, hi, Option.bind_some, if_true, bne_self_eq_false, laws_FnExactPlayFrogs.j0, t0, e0]
  simp

end Go.Proofs.YtfmbcfbbhokbaaaDoor.Pure
