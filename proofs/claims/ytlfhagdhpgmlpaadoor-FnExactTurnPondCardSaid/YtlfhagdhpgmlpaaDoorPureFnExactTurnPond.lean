/- For every text the program's TurnPond and the reference's answer alike. Conditions: the text takes at most 140737488351232 bytes. -/
import Derived.Test.YtlfhagdhpgmlpaaDoorPFnExactTurnPondx
namespace Go.Proofs.YtlfhagdhpgmlpaaDoor.Pure
open Go.RowKit Go.Proofs.YtlfhagdhpgmlpaaDoor.PFnExactTurnPond Go.Proofs.YtlfhagdhpgmlpaaDoorW.PrintWords Go.Proofs.YtlfhagdhpgmlpaaDoorW.PrintLast Go.Proofs.YtlfhagdhpgmlpaaDoorW.PrintMore

set_option linter.unusedVariables false
set_option linter.unusedSimpArgs false
def inB (a b c : Int) : Bool := decide (b ≤ a ∧ a ≤ c)
theorem inB_true {a b c : Int} (h : inB a b c = true) : b ≤ a ∧ a ≤ c := of_decide_eq_true h
theorem inB_mk {a b c : Int} (h : b ≤ a ∧ a ≤ c) : inB a b c = true := decide_eq_true h
theorem inB_not {a b c : Int} (h : ¬ (b ≤ a ∧ a ≤ c)) : inB a b c = false := decide_eq_false h
theorem inB_false {a b c : Int} (h : inB a b c = false) : ¬ (b ≤ a ∧ a ≤ c) := of_decide_eq_false h
theorem in_eq (a b c : Int) : spec_l1In.f a b c = some (inB a b c) := by
  unfold spec_l1In.f inB
  by_cases h : a ≥ b
  · rw [if_pos h]; congr 1; rw [decide_eq_decide]; omega
  · rw [if_neg h]; congr 1; symm; rw [decide_eq_false_iff_not]; omega
theorem within_eq (a b c : Int) : impl_within.f a b c = some (inB a b c) := by
  unfold impl_within.f inB
  by_cases h : b ≤ a
  · rw [if_pos h]; congr 1; rw [decide_eq_decide]; omega
  · rw [if_neg h]; congr 1; symm; rw [decide_eq_false_iff_not]; omega
theorem w64 {x : Int} (h0 : -9223372036854775808 ≤ x) (h1 : x < 9223372036854775808) : wrap64 x = x := by unfold wrap64; omega
/-- A pond: 1..9 signs, each a frog of one kind or a free stone. -/
def Pond (s : ByteArray) : Prop := (1 ≤ s.size ∧ s.size ≤ 9) ∧ ∀ i : Int, 0 ≤ i → i < s.size → bt s i = 114 ∨ bt s i = 108 ∨ bt s i = 46
theorem fgGood_l0_true (s : ByteArray) (hs : s.size ≤ 9) (d : Nat) : ∀ (k : Nat) (i : Int), 0 ≤ i → (s.size : Int) - i ≤ d → d < k → (∀ j : Int, i ≤ j → j < s.size → bt s j = 114 ∨ bt s j = 108 ∨ bt s j = 46) → spec_fgGood.l0 k s i = some true := by
  induction d with
  | zero =>
    intro k i h0 hd hk h
    obtain ⟨k, rfl⟩ : ∃ m, k = m + 1 := ⟨k - 1, by omega⟩
    simp only [spec_fgGood.l0]; rw [if_neg (by omega)]
  | succ d ih =>
    intro k i h0 hd hk h
    obtain ⟨k, rfl⟩ : ∃ m, k = m + 1 := ⟨k - 1, by omega⟩
    simp only [spec_fgGood.l0]
    by_cases hlt : i < (s.size : Int)
    · rw [if_pos hlt, if_pos h0, w64 (by omega) (by omega)]
      have hr := ih k (i + 1) (by omega) (by omega) (by omega) (fun j h1 h2 => h j (by omega) h2)
      rw [hr]
      rcases h i (by omega) hlt with e | e | e
      · rw [if_pos e]
      · rw [if_neg (by omega), if_pos e]
      · rw [if_neg (by omega), if_neg (by omega), if_pos e]
    · rw [if_neg hlt]
theorem fgGood_l0_false (s : ByteArray) (hs : s.size ≤ 9) (d : Nat) : ∀ (k : Nat) (i : Int), 0 ≤ i → (s.size : Int) - i ≤ d → d < k → (¬ ∀ j : Int, i ≤ j → j < s.size → bt s j = 114 ∨ bt s j = 108 ∨ bt s j = 46) → spec_fgGood.l0 k s i = some false := by
  induction d with
  | zero =>
    intro k i h0 hd hk h
    exact absurd (fun j h1 h2 => absurd h1 (by omega)) h
  | succ d ih =>
    intro k i h0 hd hk h
    obtain ⟨k, rfl⟩ : ∃ m, k = m + 1 := ⟨k - 1, by omega⟩
    simp only [spec_fgGood.l0]
    by_cases hlt : i < (s.size : Int)
    · rw [if_pos hlt, if_pos h0, w64 (by omega) (by omega)]
      have hgo : (bt s i = 114 ∨ bt s i = 108 ∨ bt s i = 46) → spec_fgGood.l0 k s (i + 1) = some false := fun e => ih k (i + 1) (by omega) (by omega) (by omega) (fun g => h (fun j h1 h2 => if c : j = i then by rw [c]; exact e else g j (by omega) h2))
      by_cases e1 : bt s i = 114
      · rw [if_pos e1]; exact hgo (.inl e1)
      · rw [if_neg e1]
        by_cases e2 : bt s i = 108
        · rw [if_pos e2]; exact hgo (.inr (.inl e2))
        · rw [if_neg e2]
          by_cases e3 : bt s i = 46
          · rw [if_pos e3]; exact hgo (.inr (.inr e3))
          · rw [if_neg e3]
    · exact absurd (fun j h1 h2 => absurd h2 (by omega)) h
theorem fgGood_true {s : ByteArray} (hg : Pond s) {k : Nat} (hk : 10 < k) : spec_fgGood.f k s = some true := by
  unfold spec_fgGood.f
  obtain ⟨h1, h2⟩ := hg
  rw [in_eq, inB_mk ⟨by omega, by omega⟩]
  exact fgGood_l0_true s h1.2 s.size k 0 (by omega) (by omega) (by omega) h2
theorem fgGood_false {s : ByteArray} (hg : ¬ Pond s) {k : Nat} (hk : 10 < k) : spec_fgGood.f k s = some false := by
  unfold spec_fgGood.f
  rw [in_eq]
  cases hb : inB (s.size : Int) 1 9
  · rfl
  · have h1 := inB_true hb
    exact fgGood_l0_false s (by omega) s.size k 0 (by omega) (by omega) (by omega) (fun h => hg ⟨⟨by omega, by omega⟩, h⟩)
theorem bt_list (s : ByteArray) (i : Nat) (h : i < s.data.toList.length) : bt s (i : Int) = ((s.data.toList[i]'h).toNat : Int) := by
  have h' : i < s.size := by simpa using h
  unfold bt
  rw [dif_pos (by simpa using h')]
  rfl
theorem dropWhile_nil {α : Type} (p : α → Bool) (l : List α) : l.dropWhile p = [] ↔ ∀ x ∈ l, p x = true := by
  induction l with
  | nil => simp
  | cons a l ih =>
    rw [List.dropWhile_cons]
    by_cases h : p a = true
    · rw [if_pos h, ih]; simp [h]
    · rw [if_neg h]; simp [h]
theorem trimS_nil (l cs : List UInt8) : Lib.trimS l cs = [] ↔ ∀ x ∈ l, cs.contains x = true := by
  unfold Lib.trimS Lib.trimLeftS Lib.trimRightS
  rw [dropWhile_nil]
  constructor
  · intro h x hx
    by_cases hall : ∀ y ∈ l.reverse, cs.contains y = true
    · exact hall x (by simpa using hx)
    · exfalso
      have hne : l.reverse.dropWhile (cs.contains ·) ≠ [] := fun e => hall ((dropWhile_nil _ _).1 e)
      obtain ⟨y, ys, hy⟩ : ∃ y ys, l.reverse.dropWhile (cs.contains ·) = y :: ys := by
        cases e : l.reverse.dropWhile (cs.contains ·) with
        | nil => exact absurd e hne
        | cons y ys => exact ⟨y, ys, rfl⟩
      have hp := List.head?_dropWhile_not (cs.contains ·) l.reverse
      rw [hy] at hp
      have := h y (by rw [hy]; simp)
      simp at hp this
      exact hp this
  · intro h x hx
    rw [List.mem_reverse] at hx
    exact h x (by simpa using (List.dropWhile_sublist _).subset hx)
theorem trim_pond (s : ByteArray) (hs : s.size ≤ 9223372036854775807) : ∃ t : ByteArray, strings_Trim.f s (⟨#[114, 108, 46]⟩ : ByteArray) = some t ∧ (t.toList = [] ↔ ∀ i : Int, 0 ≤ i → i < s.size → bt s i = 114 ∨ bt s i = 108 ∨ bt s i = 46) := by
  refine ⟨⟨(Lib.trimS s.data.toList [114, 108, 46]).toArray⟩, ?_, ?_⟩
  · unfold strings_Trim.f
    rw [if_pos ⟨hs, by decide, by decide⟩]
  · rw [Lib.toList_data]
    show (Lib.trimS s.data.toList [114, 108, 46]).toArray.toList = [] ↔ _
    rw [show (Lib.trimS s.data.toList [114, 108, 46]).toArray.toList = Lib.trimS s.data.toList [114, 108, 46] from rfl, trimS_nil]
    constructor
    · intro h i h0 h1
      have hi : i.toNat < s.data.toList.length := by
        have : s.data.toList.length = s.size := by simp
        omega
      have hb := bt_list s i.toNat hi
      rw [show ((i.toNat : Nat) : Int) = i by omega] at hb
      have := h _ (List.getElem_mem hi)
      rw [hb]
      simp at this
      rcases this with e | e | e <;> simp [e]
    · intro h x hx
      obtain ⟨n, hn, rfl⟩ := List.mem_iff_getElem.1 hx
      have hb := bt_list s n hn
      have hlt : n < s.size := by simpa using hn
      have := h n (by omega) (by omega)
      rw [hb] at this
      simp
      rcases this with e | e | e
      · left; apply UInt8.toNat_inj.1; simpa using Int.ofNat.inj e
      · right; left; apply UInt8.toNat_inj.1; simpa using Int.ofNat.inj e
      · right; right; apply UInt8.toNat_inj.1; simpa using Int.ofNat.inj e
theorem isPond_true {s : ByteArray} (hg : Pond s) : impl_IsPond.f s = some true := by
  unfold impl_IsPond.f
  obtain ⟨h1, h2⟩ := hg
  obtain ⟨t, ht, hiff⟩ := trim_pond s (by omega)
  rw [within_eq, inB_mk ⟨by omega, by omega⟩]
  simp only [Option.bind_some, if_true, ht]
  rw [hiff.2 h2]; rfl
theorem isPond_false {s : ByteArray} (hg : ¬ Pond s) : impl_IsPond.f s = some false := by
  unfold impl_IsPond.f
  rw [within_eq]
  cases hb : inB (s.size : Int) 1 9
  · rfl
  · have h1 := inB_true hb
    obtain ⟨t, ht, hiff⟩ := trim_pond s (by omega)
    simp only [Option.bind_some, if_true, ht]
    congr 1
    cases hc : (t.toList == ([] : List UInt8)) with
    | false => rfl
    | true => exact absurd ⟨⟨by omega, by omega⟩, hiff.1 (by simpa using hc)⟩ hg
theorem ext_list {a b : ByteArray} (h : a.data.toList = b.data.toList) : a = b := by
  cases a; cases b; simp only at h; congr 1; exact Array.toList_inj.1 h
theorem turn_l0 (s : ByteArray) (hg : Pond s) (d : Nat) : ∀ (k : Nat) (acc : ByteArray) (i : Int), i + 1 = d → d ≤ s.size → d < k → acc.data.toList = ((s.data.toList.drop d).map impl_TurnPond.swapB).reverse → spec_fgTurn.l0 k s acc i = some ⟨(s.data.toList.reverse.map impl_TurnPond.swapB).toArray⟩ := by
  induction d with
  | zero =>
    intro k acc i hi hd hk ha
    obtain ⟨k, rfl⟩ : ∃ m, k = m + 1 := ⟨k - 1, by omega⟩
    simp only [spec_fgTurn.l0]
    rw [if_neg (by omega)]
    congr 1
    apply ext_list
    rw [ha]; simp
  | succ d ih =>
    intro k acc i hi hd hk ha
    obtain ⟨k, rfl⟩ : ∃ m, k = m + 1 := ⟨k - 1, by omega⟩
    obtain rfl : i = (d : Int) := by omega
    have hs := hg.1.2
    have hl : s.data.toList.length = s.size := by simp
    have hdl : d < s.data.toList.length := by omega
    have hb := bt_list s d hdl
    have hacc : acc.size ≤ 9 := by
      have h1 : acc.data.toList.length = acc.size := by simp
      have h2 : acc.data.toList.length ≤ s.data.toList.length := by rw [ha]; simp
      omega
    have hgo : ∀ c : UInt8, c = impl_TurnPond.swapB (s.data.toList[d]'hdl) → spec_fgTurn.l0 k s (acc ++ (⟨#[c]⟩ : ByteArray)) ((d : Int) - 1) = some ⟨(s.data.toList.reverse.map impl_TurnPond.swapB).toArray⟩ := by
      intro c hc
      refine ih k _ ((d : Int) - 1) (by omega) (by omega) (by omega) ?_
      have e4 : (acc ++ (⟨#[c]⟩ : ByteArray)).data.toList = acc.data.toList ++ [c] := by simp
      rw [e4, ha, hc, List.drop_eq_getElem_cons hdl]
      simp
    simp only [spec_fgTurn.l0]
    rw [if_pos (by omega), if_pos (by omega), if_pos (by omega), w64 (x := (d : Int) - 1) (by omega) (by omega)]
    rcases hg.2 (d : Int) (by omega) (by omega) with e | e | e
    · rw [if_pos e, if_pos (by omega)]
      refine hgo 108 ?_
      rw [show s.data.toList[d]'hdl = 114 from UInt8.toNat_inj.1 (by rw [hb] at e; simpa using Int.ofNat.inj e)]; rfl
    · rw [if_neg (by omega), if_pos e, if_pos (by omega)]
      refine hgo 114 ?_
      rw [show s.data.toList[d]'hdl = 108 from UInt8.toNat_inj.1 (by rw [hb] at e; simpa using Int.ofNat.inj e)]; rfl
    · rw [if_neg (by omega), if_neg (by omega), if_pos (by omega)]
      refine hgo 46 ?_
      rw [show s.data.toList[d]'hdl = 46 from UInt8.toNat_inj.1 (by rw [hb] at e; simpa using Int.ofNat.inj e)]; rfl
theorem FnExactTurnPond : laws_FnExactTurnPond.Pure := by
  intro s _
  obtain ⟨k, hk⟩ : ∃ k : Nat, 12 ≤ k := ⟨12, Nat.le_refl _⟩
  have hk10 : 10 < k := by omega
  refine ⟨k, ?_⟩
  unfold laws_FnExactTurnPond.f
  by_cases hb : (s.size : Int) > 1048576
  · rw [if_pos hb]
  rw [if_neg hb]
  by_cases hg : Pond s
  · have h9 := hg.1.2
    have e1 : impl_mirrored.f s = some ⟨s.data.toList.reverse.toArray⟩ := by unfold impl_mirrored.f; rw [if_pos (by omega)]
    have e2 : wrap64 ((s.size : Int) - 1) = (s.size : Int) - 1 := w64 (by omega) (by omega)
    have hsz : (⟨s.data.toList.reverse.toArray⟩ : ByteArray).size ≤ 1000 := by
      have e : s.data.toList.reverse.toArray.size = s.size := by rw [List.size_toArray, List.length_reverse]; simp
      show s.data.toList.reverse.toArray.size ≤ 1000
      omega
    have e3 : spec_fgTurn.l0 k s (⟨#[]⟩ : ByteArray) ((s.size : Int) - 1) = some ⟨(s.data.toList.reverse.map impl_TurnPond.swapB).toArray⟩ :=
      turn_l0 s hg s.size k _ _ (by omega) (Nat.le_refl _) (by omega) (by rw [List.drop_of_length_le (by simp)]; rfl)
    have e4 : spec_fgTurn.f k s = some ⟨(s.data.toList.reverse.map impl_TurnPond.swapB).toArray⟩ := by unfold spec_fgTurn.f; rw [e2]; exact e3
    have e5 : spec_TurnPond.f k s = some (⟨(s.data.toList.reverse.map impl_TurnPond.swapB).toArray⟩, true) := by
      unfold spec_TurnPond.f
      rw [fgGood_true hg hk10, Option.bind_some, if_pos rfl, e4]; rfl
    have e6 : impl_TurnPond.f s = some (⟨(s.data.toList.reverse.map impl_TurnPond.swapB).toArray⟩, true) := by
      unfold impl_TurnPond.f
      rw [isPond_true hg, Option.bind_some, if_pos rfl, e1, Option.bind_some, if_pos hsz]; rfl
    rw [e5, e6, Option.bind_some, Option.bind_some, if_pos rfl]; rfl
  · unfold spec_TurnPond.f impl_TurnPond.f
    rw [fgGood_false hg hk10, isPond_false hg]; simp

end Go.Proofs.YtlfhagdhpgmlpaaDoor.Pure
