/- For every text and number the program's NeededStones and the reference's answer alike, and the result is memory of its own. Conditions: the text takes at most 140737488351232 bytes, the number is one of 64 bits. -/
import Derived.Test.YtlcgimeebhoefaaDoorPFnExactNeededStonesx
namespace Go.Proofs.YtlcgimeebhoefaaDoor.Pure
open Go.RowKit Go.Proofs.YtlcgimeebhoefaaDoor.PFnExactNeededStones Go.Proofs.YtlcgimeebhoefaaDoorW.PrintWords Go.Proofs.YtlcgimeebhoefaaDoorW.PrintLast Go.Proofs.YtlcgimeebhoefaaDoorW.PrintMore

set_option linter.unusedVariables false
set_option linter.unusedSimpArgs false
def inB (a b c : Int) : Bool := decide (b ≤ a ∧ a ≤ c)
theorem inB_true {a b c : Int} (h : inB a b c = true) : b ≤ a ∧ a ≤ c := of_decide_eq_true h
theorem inB_mk {a b c : Int} (h : b ≤ a ∧ a ≤ c) : inB a b c = true := decide_eq_true h
theorem inB_not {a b c : Int} (h : ¬ (b ≤ a ∧ a ≤ c)) : inB a b c = false := decide_eq_false h
theorem inB_false {a b c : Int} (h : inB a b c = false) : ¬ (b ≤ a ∧ a ≤ c) := of_decide_eq_false h
theorem in_eq (a b c : Int) : spec_l1In.f a b c = some (inB a b c) := by
  unfold spec_l1In.f inB
  by_cases h : a ≥ b
  · rw [if_pos h]; congr 1; rw [decide_eq_decide]; omega
  · rw [if_neg h]; congr 1; symm; rw [decide_eq_false_iff_not]; omega
theorem within_eq (a b c : Int) : impl_within.f a b c = some (inB a b c) := by
  unfold impl_within.f inB
  by_cases h : b ≤ a
  · rw [if_pos h]; congr 1; rw [decide_eq_decide]; omega
  · rw [if_neg h]; congr 1; symm; rw [decide_eq_false_iff_not]; omega
theorem w64 {x : Int} (h0 : -9223372036854775808 ≤ x) (h1 : x < 9223372036854775808) : wrap64 x = x := by unfold wrap64; omega
/-- A river: 1..40 signs, each a stone or water. -/
def Good (s : ByteArray) : Prop := (1 ≤ s.size ∧ s.size ≤ 40) ∧ ∀ i : Int, 0 ≤ i → i < s.size → bt s i = 111 ∨ bt s i = 46
theorem rvGood_l0_true (s : ByteArray) (hs : s.size ≤ 40) (d : Nat) : ∀ (k : Nat) (i : Int), 0 ≤ i → (s.size : Int) - i ≤ d → d < k → (∀ j : Int, i ≤ j → j < s.size → bt s j = 111 ∨ bt s j = 46) → spec_rvGood.l0 k s i = some true := by
  induction d with
  | zero =>
    intro k i h0 hd hk h
    obtain ⟨k, rfl⟩ : ∃ m, k = m + 1 := ⟨k - 1, by omega⟩
    simp only [spec_rvGood.l0]; rw [if_neg (by omega)]
  | succ d ih =>
    intro k i h0 hd hk h
    obtain ⟨k, rfl⟩ : ∃ m, k = m + 1 := ⟨k - 1, by omega⟩
    simp only [spec_rvGood.l0]
    by_cases hlt : i < (s.size : Int)
    · rw [if_pos hlt, if_pos h0, w64 (by omega) (by omega)]
      have hr := ih k (i + 1) (by omega) (by omega) (by omega) (fun j h1 h2 => h j (by omega) h2)
      rw [hr]
      rcases h i (by omega) hlt with e | e
      · rw [if_pos e]
      · rw [if_neg (by omega), if_pos e]
    · rw [if_neg hlt]
theorem rvGood_l0_false (s : ByteArray) (hs : s.size ≤ 40) (d : Nat) : ∀ (k : Nat) (i : Int), 0 ≤ i → (s.size : Int) - i ≤ d → d < k → (¬ ∀ j : Int, i ≤ j → j < s.size → bt s j = 111 ∨ bt s j = 46) → spec_rvGood.l0 k s i = some false := by
  induction d with
  | zero =>
    intro k i h0 hd hk h
    exact absurd (fun j h1 h2 => absurd h1 (by omega)) h
  | succ d ih =>
    intro k i h0 hd hk h
    obtain ⟨k, rfl⟩ : ∃ m, k = m + 1 := ⟨k - 1, by omega⟩
    simp only [spec_rvGood.l0]
    by_cases hlt : i < (s.size : Int)
    · rw [if_pos hlt, if_pos h0, w64 (by omega) (by omega)]
      by_cases e1 : bt s i = 111
      · rw [if_pos e1]
        exact ih k (i + 1) (by omega) (by omega) (by omega) (fun g => h (fun j h1 h2 => if c : j = i then by rw [c]; exact .inl e1 else g j (by omega) h2))
      · rw [if_neg e1]
        by_cases e2 : bt s i = 46
        · rw [if_pos e2]
          exact ih k (i + 1) (by omega) (by omega) (by omega) (fun g => h (fun j h1 h2 => if c : j = i then by rw [c]; exact .inr e2 else g j (by omega) h2))
        · rw [if_neg e2]
    · exact absurd (fun j h1 h2 => absurd h2 (by omega)) h
theorem rvGood_true {s : ByteArray} (hg : Good s) {k : Nat} (hk : 41 < k) : spec_rvGood.f k s = some true := by
  unfold spec_rvGood.f
  obtain ⟨h1, h2⟩ := hg
  rw [in_eq, inB_mk ⟨by omega, by omega⟩]
  exact rvGood_l0_true s h1.2 s.size k 0 (by omega) (by omega) (by omega) h2
theorem rvGood_false {s : ByteArray} (hg : ¬ Good s) {k : Nat} (hk : 41 < k) : spec_rvGood.f k s = some false := by
  unfold spec_rvGood.f
  rw [in_eq]
  cases hb : inB (s.size : Int) 1 40
  · rfl
  · have h1 := inB_true hb
    exact rvGood_l0_false s (by omega) s.size k 0 (by omega) (by omega) (by omega) (fun h => hg ⟨⟨by omega, by omega⟩, h⟩)
theorem bt_list (s : ByteArray) (i : Nat) (h : i < s.data.toList.length) : bt s (i : Int) = ((s.data.toList[i]'h).toNat : Int) := by
  have h' : i < s.size := by simpa using h
  unfold bt
  rw [dif_pos (by simpa using h')]
  rfl
theorem dropWhile_nil {α : Type} (p : α → Bool) (l : List α) : l.dropWhile p = [] ↔ ∀ x ∈ l, p x = true := by
  induction l with
  | nil => simp
  | cons a l ih =>
    rw [List.dropWhile_cons]
    by_cases h : p a = true
    · rw [if_pos h, ih]; simp [h]
    · rw [if_neg h]; simp [h]
theorem trimS_nil (l cs : List UInt8) : Lib.trimS l cs = [] ↔ ∀ x ∈ l, cs.contains x = true := by
  unfold Lib.trimS Lib.trimLeftS Lib.trimRightS
  rw [dropWhile_nil]
  constructor
  · intro h x hx
    by_cases hall : ∀ y ∈ l.reverse, cs.contains y = true
    · exact hall x (by simpa using hx)
    · exfalso
      have hne : l.reverse.dropWhile (cs.contains ·) ≠ [] := fun e => hall ((dropWhile_nil _ _).1 e)
      obtain ⟨y, ys, hy⟩ : ∃ y ys, l.reverse.dropWhile (cs.contains ·) = y :: ys := by
        cases e : l.reverse.dropWhile (cs.contains ·) with
        | nil => exact absurd e hne
        | cons y ys => exact ⟨y, ys, rfl⟩
      have hp := List.head?_dropWhile_not (cs.contains ·) l.reverse
      rw [hy] at hp
      have := h y (by rw [hy]; simp)
      simp at hp this
      exact hp this
  · intro h x hx
    rw [List.mem_reverse] at hx
    exact h x (by simpa using (List.dropWhile_sublist _).subset hx)
theorem trim_river (s : ByteArray) (hs : s.size ≤ 9223372036854775807) : ∃ t : ByteArray, strings_Trim.f s (⟨#[111, 46]⟩ : ByteArray) = some t ∧ (t.toList = [] ↔ ∀ i : Int, 0 ≤ i → i < s.size → bt s i = 111 ∨ bt s i = 46) := by
  refine ⟨⟨(Lib.trimS s.data.toList [111, 46]).toArray⟩, ?_, ?_⟩
  · unfold strings_Trim.f
    rw [if_pos ⟨hs, by decide, by decide⟩]
  · rw [Lib.toList_data]
    show (Lib.trimS s.data.toList [111, 46]).toArray.toList = [] ↔ _
    rw [show (Lib.trimS s.data.toList [111, 46]).toArray.toList = Lib.trimS s.data.toList [111, 46] from rfl, trimS_nil]
    constructor
    · intro h i h0 h1
      have hi : i.toNat < s.data.toList.length := by
        have : s.data.toList.length = s.size := by simp
        omega
      have hb := bt_list s i.toNat hi
      rw [show ((i.toNat : Nat) : Int) = i by omega] at hb
      have := h _ (List.getElem_mem hi)
      rw [hb]
      simp at this
      rcases this with e | e <;> simp [e]
    · intro h x hx
      obtain ⟨n, hn, rfl⟩ := List.mem_iff_getElem.1 hx
      have hb := bt_list s n hn
      have hlt : n < s.size := by simpa using hn
      have := h n (by omega) (by omega)
      rw [hb] at this
      simp
      rcases this with e | e
      · left; apply UInt8.toNat_inj.1; simpa using Int.ofNat.inj e
      · right; apply UInt8.toNat_inj.1; simpa using Int.ofNat.inj e
theorem isRiver_true {s : ByteArray} (hg : Good s) : impl_IsRiver.f s = some true := by
  unfold impl_IsRiver.f
  obtain ⟨h1, h2⟩ := hg
  obtain ⟨t, ht, hiff⟩ := trim_river s (by omega)
  rw [within_eq, inB_mk ⟨by omega, by omega⟩]
  simp only [Option.bind_some, if_true, ht]
  rw [hiff.2 h2]; rfl
theorem isRiver_false {s : ByteArray} (hg : ¬ Good s) : impl_IsRiver.f s = some false := by
  unfold impl_IsRiver.f
  rw [within_eq]
  cases hb : inB (s.size : Int) 1 40
  · rfl
  · have h1 := inB_true hb
    obtain ⟨t, ht, hiff⟩ := trim_river s (by omega)
    simp only [Option.bind_some, if_true, ht]
    congr 1
    cases hc : (t.toList == ([] : List UInt8)) with
    | false => rfl
    | true => exact absurd ⟨⟨by omega, by omega⟩, hiff.1 (by simpa using hc)⟩ hg
theorem rvAsked_true {s : ByteArray} {l : Int} (hg : Good s) (hl : 1 ≤ l ∧ l ≤ 50) {k : Nat} (hk : 41 < k) : spec_rvAsked.f k s l = some true := by
  unfold spec_rvAsked.f
  rw [rvGood_true hg hk, in_eq, inB_mk hl]; rfl
theorem rvAsked_false {s : ByteArray} {l : Int} (h : ¬ (Good s ∧ 1 ≤ l ∧ l ≤ 50)) {k : Nat} (hk : 41 < k) : spec_rvAsked.f k s l = some false := by
  unfold spec_rvAsked.f
  by_cases hg : Good s
  · rw [rvGood_true hg hk, in_eq, inB_not (fun c => h ⟨hg, c⟩)]; rfl
  · rw [rvGood_false hg hk]; rfl
theorem isCrossed_true {s : ByteArray} {l : Int} (hg : Good s) (hl : 1 ≤ l ∧ l ≤ 50) : impl_isCrossed.f s l = some true := by
  unfold impl_isCrossed.f
  rw [isRiver_true hg, within_eq, inB_mk hl]; rfl
theorem isCrossed_false {s : ByteArray} {l : Int} (h : ¬ (Good s ∧ 1 ≤ l ∧ l ≤ 50)) : impl_isCrossed.f s l = some false := by
  unfold impl_isCrossed.f
  by_cases hg : Good s
  · rw [isRiver_true hg, within_eq, inB_not (fun c => h ⟨hg, c⟩)]; rfl
  · rw [isRiver_false hg]; rfl
/-- Does one stand on this place? -/
def stB (s : ByteArray) (p : Int) : Bool := decide (p = 0) || decide (p = (s.size : Int) + 1) || (bt s (p - 1) == 111)
theorem rvStand_eq (s : ByteArray) (hs : s.size ≤ 40) (p : Int) (h0 : 0 ≤ p) (h1 : p ≤ (s.size : Int) + 1) : spec_rvStand.f s p = some (stB s p) := by
  unfold spec_rvStand.f stB
  rw [w64 (x := (s.size : Int) + 1) (by omega) (by omega), w64 (x := p - 1) (by omega) (by omega)]
  by_cases e0 : p = 0
  · rw [if_pos e0]; simp [e0]
  · rw [if_neg e0]
    by_cases e1 : p = (s.size : Int) + 1
    · rw [if_pos e1]; simp [e1]
    · rw [if_neg e1, if_pos (by omega), if_pos (by omega)]; simp [e0, e1]
/-- The places from p on, so many of them, on which one stands. -/
def stFrom (s : ByteArray) : Nat → Int → List Int
  | 0, _ => []
  | d + 1, p => if stB s p = true then p :: stFrom s d (p + 1) else stFrom s d (p + 1)
theorem stFrom_mem (s : ByteArray) (d : Nat) : ∀ (p x : Int), x ∈ stFrom s d p ↔ (p ≤ x ∧ x < p + d) ∧ stB s x = true := by
  induction d with
  | zero => intro p x; simp [stFrom]; omega
  | succ d ih =>
    intro p x
    simp only [stFrom]
    by_cases h : stB s p = true
    · rw [if_pos h, List.mem_cons, ih]
      constructor
      · rintro (e | ⟨h1, h2⟩)
        · subst e; exact ⟨⟨by omega, by omega⟩, h⟩
        · exact ⟨⟨by omega, by omega⟩, h2⟩
      · rintro ⟨h1, h2⟩
        by_cases e : x = p
        · exact .inl e
        · exact .inr ⟨⟨by omega, by omega⟩, h2⟩
    · rw [if_neg h, ih]
      constructor
      · rintro ⟨h1, h2⟩; exact ⟨⟨by omega, by omega⟩, h2⟩
      · rintro ⟨h1, h2⟩
        have : x ≠ p := fun e => h (e ▸ h2)
        exact ⟨⟨by omega, by omega⟩, h2⟩
theorem stFrom_len (s : ByteArray) (d : Nat) : ∀ p : Int, (stFrom s d p).length ≤ d := by
  induction d with
  | zero => intro p; simp [stFrom]
  | succ d ih =>
    intro p
    simp only [stFrom]
    have := ih (p + 1)
    split <;> simp <;> omega
theorem stand_l0 (s : ByteArray) (hs : s.size ≤ 40) (d : Nat) : ∀ (k : Nat) (i : Int) (acc : List Int), 0 ≤ i → (s.size : Int) - i = d → d < k → acc.length + d < 17592186044416 → impl_stand.l0 k s acc (s.size : Int) i = some (acc ++ stFrom s (d + 1) (i + 1)) := by
  induction d with
  | zero =>
    intro k i acc h0 hd hk hl
    obtain ⟨k, rfl⟩ : ∃ m, k = m + 1 := ⟨k - 1, by omega⟩
    obtain rfl : i = (s.size : Int) := by omega
    simp only [impl_stand.l0]
    rw [if_neg (by omega), if_pos (by omega), w64 (by omega) (by omega)]
    simp [stFrom, stB]
  | succ d ih =>
    intro k i acc h0 hd hk hl
    obtain ⟨k, rfl⟩ : ∃ m, k = m + 1 := ⟨k - 1, by omega⟩
    simp only [impl_stand.l0]
    rw [if_pos (by omega), if_pos h0, if_pos (by omega), w64 (by omega) (by omega)]
    have hst : stB s (i + 1) = decide (bt s i = 111) := by
      unfold stB
      rw [show i + 1 - 1 = i by omega]
      have e0 : decide (i + 1 = 0) = false := decide_eq_false (by omega)
      have e1 : decide (i + 1 = (s.size : Int) + 1) = false := decide_eq_false (by omega)
      rw [e0, e1]
      rfl
    have hstep : stFrom s (d + 1 + 1) (i + 1) = if stB s (i + 1) = true then (i + 1) :: stFrom s (d + 1) (i + 1 + 1) else stFrom s (d + 1) (i + 1 + 1) := rfl
    rw [hstep, hst]
    by_cases hb : bt s i = 111
    · rw [if_pos hb, if_pos (by omega), if_pos (decide_eq_true hb), ih k (i + 1) (acc ++ [i + 1]) (by omega) (by omega) (by omega) (by simp; omega)]
      simp
    · rw [if_neg hb, if_neg (by simp [hb]), ih k (i + 1) acc (by omega) (by omega) (by omega) (by omega)]
theorem stand_eq (s : ByteArray) (hs : s.size ≤ 40) {k : Nat} (hk : s.size < k) : impl_stand.f k s = some (0 :: stFrom s (s.size + 1) 1) := by
  unfold impl_stand.f
  rw [stand_l0 s hs s.size k 0 [0] (by omega) (by omega) hk (by simp; omega)]
  rfl
theorem rd_mid (pre rest : List Int) (x i : Int) (h : i = pre.length) : rd (pre ++ x :: rest) i = x := by
  subst h; unfold rd; simp
theorem rd_app (A B : List Int) (i : Int) (h : (A.length : Int) ≤ i) : rd (A ++ B) i = rd B (i - A.length) := by
  unfold rd
  rw [List.getD_eq_getElem?_getD, List.getD_eq_getElem?_getD, List.getElem?_append_right (by omega)]
  congr 2; omega
theorem set_app (A B : List Int) (i v : Int) (h : (A.length : Int) ≤ i) : (A ++ B).set i.toNat v = A ++ B.set (i - A.length).toNat v := by
  rw [List.set_append, if_neg (by omega)]
  congr 2; omega
theorem stepL_app (A B : List Int) (f t : Int) (hf : (A.length : Int) ≤ f) (ht : (A.length : Int) ≤ t) : impl_leapsLeft.stepL (A ++ B) f t = A ++ impl_leapsLeft.stepL B (f - A.length) (t - A.length) := by
  unfold impl_leapsLeft.stepL
  rw [rd_app A B t ht, rd_app A B f hf, set_app A B f _ hf]
  split <;> rfl
theorem innerL_app (A : List Int) (d : Nat) : ∀ (B : List Int) (f t : Int), (A.length : Int) ≤ f → (A.length : Int) ≤ t → impl_leapsLeft.innerL d (A ++ B) f t = A ++ impl_leapsLeft.innerL d B (f - A.length) (t - A.length) := by
  induction d with
  | zero => intro B f t _ _; rfl
  | succ d ih =>
    intro B f t hf ht
    simp only [impl_leapsLeft.innerL]
    rw [stepL_app A B f t hf ht, ih _ f (t + 1) hf (by omega), show t + 1 - (A.length : Int) = t - A.length + 1 by omega]
/-- The row from the place n + 1 - d on. -/
def leftF (s : ByteArray) (leap : Int) : Nat → List Int
  | 0 => [0]
  | d + 1 => if stB s ((s.size : Int) - d) = true then impl_leapsLeft.innerL (min ((s.size : Int) - d + leap) ((s.size : Int) + 1) - ((s.size : Int) - d)).toNat (-1 :: leftF s leap d) 0 1 else -1 :: leftF s leap d
theorem leftF_len (s : ByteArray) (leap : Int) (d : Nat) : (leftF s leap d).length = d + 1 := by
  induction d with
  | zero => rfl
  | succ d ih =>
    simp only [leftF]
    split
    · rw [impl_leapsLeft.innerL_len]; simp [ih]
    · simp [ih]
theorem at_app (s : ByteArray) (leap : Int) (c : Int) (d : Nat) (hd : d ≤ s.size) : impl_leapsLeft.at (s.size : Int) leap (List.replicate (s.size - d) c ++ -1 :: leftF s leap d) ((s.size : Int) - d) = List.replicate (s.size - d) c ++ impl_leapsLeft.innerL (min ((s.size : Int) - d + leap) ((s.size : Int) + 1) - ((s.size : Int) - d)).toNat (-1 :: leftF s leap d) 0 1 := by
  unfold impl_leapsLeft.at
  have hl : ((List.replicate (s.size - d) c).length : Int) = (s.size : Int) - d := by rw [List.length_replicate]; omega
  rw [innerL_app _ _ _ _ _ (by omega) (by omega), hl, show (s.size : Int) - d - ((s.size : Int) - d) = 0 by omega, show (s.size : Int) - d + 1 - ((s.size : Int) - d) = 1 by omega]
theorem rep_succ_app (n : Nat) (c : Int) (B : List Int) : List.replicate (n + 1) c ++ B = List.replicate n c ++ c :: B := by
  rw [List.replicate_succ', List.append_assoc]; rfl
theorem implRow_fold (s : ByteArray) (leap : Int) (d : Nat) : ∀ (_ : d ≤ s.size + 1), (stFrom s (d + 1) ((s.size : Int) + 1 - d)).foldr (fun f xs => impl_leapsLeft.at (s.size : Int) leap xs f) (impl_leapsLeft.start s.size) = List.replicate (s.size + 1 - d) (-1) ++ leftF s leap d := by
  induction d with
  | zero =>
    intro _
    have h1 : stB s ((s.size : Int) + 1 - (0 : Nat)) = true := by unfold stB; simp
    have e : stFrom s (0 + 1) ((s.size : Int) + 1 - (0 : Nat)) = [(s.size : Int) + 1] := by simp only [stFrom]; rw [if_pos h1]; simp
    rw [e]
    show impl_leapsLeft.at (s.size : Int) leap (impl_leapsLeft.start s.size) ((s.size : Int) + 1) = _
    unfold impl_leapsLeft.at
    have h0 : (min ((s.size : Int) + 1 + leap) ((s.size : Int) + 1) - ((s.size : Int) + 1)).toNat = 0 := by omega
    rw [h0]
    simp only [impl_leapsLeft.innerL, leftF]
    unfold impl_leapsLeft.start
    rw [List.replicate_succ' (n := s.size + 1), List.set_append, if_neg (by simp)]
    simp
  | succ d ih =>
    intro hd
    have ih := ih (by omega)
    have e1 : (s.size : Int) + 1 - (d + 1 : Nat) = (s.size : Int) - d := by omega
    have e2 : (s.size : Int) - d + 1 = (s.size : Int) + 1 - d := by omega
    rw [e1]
    simp only [stFrom]
    simp only [stFrom] at ih
    rw [e2]
    have e3 : s.size + 1 - d = (s.size - d) + 1 := by omega
    have e4 : s.size + 1 - (d + 1) = s.size - d := by omega
    rw [e3, rep_succ_app] at ih
    rw [e4]
    by_cases hst : stB s ((s.size : Int) - d) = true
    · rw [if_pos hst, List.foldr_cons, ih, at_app s leap (-1) d (by omega)]
      simp only [leftF]
      rw [if_pos hst]
    · rw [if_neg hst, ih]
      simp only [leftF]
      rw [if_neg hst]
/-- The whole row. -/
def LL (s : ByteArray) (leap : Int) : List Int := leftF s leap (s.size + 1)
theorem LL_len (s : ByteArray) (leap : Int) : (LL s leap).length = s.size + 2 := leftF_len s leap (s.size + 1)
theorem implRow_eq (s : ByteArray) (leap : Int) : impl_leapsLeft.row s.size leap ((0 : Int) :: stFrom s (s.size + 1) 1).reverse = LL s leap := by
  unfold impl_leapsLeft.row LL
  rw [List.foldl_reverse]
  have h := implRow_fold s leap (s.size + 1) (Nat.le_refl _)
  rw [show (s.size : Int) + 1 - (s.size + 1 : Nat) = 0 by omega, show s.size + 1 - (s.size + 1) = 0 by omega] at h
  have e : stFrom s (s.size + 1 + 1) 0 = 0 :: stFrom s (s.size + 1) 1 := by
    have h0 : stB s 0 = true := by unfold stB; simp
    rw [show stFrom s (s.size + 1 + 1) 0 = if stB s 0 = true then 0 :: stFrom s (s.size + 1) (0 + 1) else stFrom s (s.size + 1) (0 + 1) from rfl, if_pos h0]
    rfl
  rw [e] at h
  rw [h]; rfl
theorem implLeft_eq (s : ByteArray) (hs : s.size ≤ 40) (leap : Int) (hl : 1 ≤ leap ∧ leap ≤ 50) {k : Nat} (hk : s.size < k) : impl_leapsLeft.f k s leap = some (LL s leap) := by
  unfold impl_leapsLeft.f
  rw [stand_eq s hs hk]
  simp only [Option.bind_some]
  have hlen := stFrom_len s (s.size + 1) 1
  rw [if_pos ?_, implRow_eq]
  refine ⟨⟨by omega, by omega, by omega⟩, ⟨by simp, by simp; omega⟩, ?_⟩
  unfold impl_leapsLeft.okB
  rw [List.all_eq_true]
  intro x hx
  apply decide_eq_true
  rcases List.mem_cons.1 hx with e | e
  · omega
  · have := ((stFrom_mem s _ _ _).1 e).1; omega
theorem specLeft_l1 (s : ByteArray) (hs : s.size ≤ 40) (leap : Int) (hl : 1 ≤ leap ∧ leap ≤ 50) (p : Int) (hp : 0 ≤ p ∧ p ≤ s.size) (R : List Int) (n : Nat) : ∀ (k K : Nat) (xs : List Int) (t : Int), (min (p + leap) ((s.size : Int) + 1) + 1 - t).toNat = n → p < t → t ≤ (s.size : Int) + 2 → xs.length = s.size + 2 → (∀ k', K ≤ k' → spec_rvLeft.l0 k' s leap ((s.size : Int) + 1) (impl_leapsLeft.innerL n xs p t) (p - 1) = some R) → K + 2 * n + 2 ≤ k → spec_rvLeft.l1 k s leap ((s.size : Int) + 1) xs p t = some R := by
  induction n with
  | zero =>
    intro k K xs t hn ht0 ht1 hx hK hk
    obtain ⟨k, rfl⟩ : ∃ m, k = m + 1 + 1 := ⟨k - 2, by omega⟩
    simp only [spec_rvLeft.l1]
    have hstop : ∀ b : Bool, b = false → spec_rvLeft.j2 (k + 1) s leap ((s.size : Int) + 1) xs p t b = some R := fun b hb => by
      simp only [spec_rvLeft.j2, hb]
      rw [if_neg (by simp), w64 (x := p - 1) (by omega) (by omega)]
      exact hK k (by omega)
    rw [w64 (x := p + leap) (by omega) (by omega)]
    by_cases h1 : t ≤ (s.size : Int) + 1
    · rw [if_pos h1]; exact hstop _ (decide_eq_false (by omega))
    · rw [if_neg h1]; exact hstop _ rfl
  | succ n ih =>
    intro k K xs t hn ht0 ht1 hx hK hk
    obtain ⟨k, rfl⟩ : ∃ m, k = m + 1 + 1 := ⟨k - 2, by omega⟩
    have hgo := fun (ys : List Int) (hy : ys.length = s.size + 2) (he : impl_leapsLeft.innerL (n + 1) xs p t = impl_leapsLeft.innerL n ys p (t + 1)) => ih k K ys (t + 1) (by omega) (by omega) (by omega) hy (fun k' hk' => by rw [← he]; exact hK k' hk') (by omega)
    have hin : impl_leapsLeft.innerL (n + 1) xs p t = impl_leapsLeft.innerL n (impl_leapsLeft.stepL xs p t) p (t + 1) := rfl
    simp only [spec_rvLeft.l1]
    rw [w64 (x := p + leap) (by omega) (by omega), if_pos (by omega), decide_eq_true (show t ≤ p + leap by omega)]
    simp only [spec_rvLeft.j2]
    rw [if_pos trivial, if_pos (by omega), if_pos (by omega), w64 (x := t + 1) (by omega) (by omega)]
    by_cases c1 : rd xs t ≥ 0
    · rw [if_pos c1, if_pos (by omega), if_pos (by omega)]
      by_cases c2 : rd xs p < 0
      · rw [if_pos c2]
        exact hgo _ (by simp [hx]) (by rw [hin]; unfold impl_leapsLeft.stepL; rw [if_pos ⟨c1, .inl c2⟩])
      · rw [if_neg c2]
        by_cases c3 : wrap64 (rd xs t + 1) < rd xs p
        · rw [if_pos c3]
          exact hgo _ (by simp [hx]) (by rw [hin]; unfold impl_leapsLeft.stepL; rw [if_pos ⟨c1, .inr c3⟩])
        · rw [if_neg c3]
          exact hgo _ hx (by rw [hin]; unfold impl_leapsLeft.stepL; rw [if_neg (fun h => h.2.elim c2 c3)])
    · rw [if_neg c1]
      exact hgo _ hx (by rw [hin]; unfold impl_leapsLeft.stepL; rw [if_neg (fun h => c1 h.1)])
theorem specLeft_l0 (s : ByteArray) (hs : s.size ≤ 40) (leap : Int) (hl : 1 ≤ leap ∧ leap ≤ 50) (m : Nat) : ∀ (k d : Nat), d + m = s.size + 1 → 120 * m + 1 ≤ k → spec_rvLeft.l0 k s leap ((s.size : Int) + 1) (List.replicate m 0 ++ leftF s leap d) ((m : Int) - 1) = some (LL s leap) := by
  induction m with
  | zero =>
    intro k d hd hk
    obtain ⟨k, rfl⟩ : ∃ j, k = j + 1 := ⟨k - 1, by omega⟩
    obtain rfl : d = s.size + 1 := by omega
    simp only [spec_rvLeft.l0]
    rw [if_neg (by omega)]; rfl
  | succ m ih =>
    intro k d hd hk
    obtain ⟨k, rfl⟩ : ∃ j, k = j + 1 := ⟨k - 1, by omega⟩
    have em : ((m + 1 : Nat) : Int) - 1 = (m : Int) := by omega
    have hd1 : (m : Int) = (s.size : Int) - d := by omega
    have hml : s.size - d = m := by omega
    have hll := leftF_len s leap d
    rw [em]
    simp only [spec_rvLeft.l0]
    rw [if_pos (by omega), if_pos (by omega), if_pos (by simp; omega), rvStand_eq s hs (m : Int) (by omega) (by omega), w64 (x := (m : Int) + 1) (by omega) (by omega), w64 (x := (m : Int) - 1) (by omega) (by omega)]
    have e1 : ((List.replicate (m + 1) (0 : Int)) ++ leftF s leap d).set ((m : Int)).toNat (-1) = List.replicate m 0 ++ -1 :: leftF s leap d := by
      rw [rep_succ_app, List.set_append, if_neg (by simp)]
      simp
    rw [e1]
    simp only [Option.bind_some]
    have hat := at_app s leap 0 d (by omega)
    rw [hml] at hat
    by_cases hst : stB s (m : Int) = true
    · rw [if_pos hst]
      refine specLeft_l1 s hs leap hl (m : Int) (by omega) _ _ k (120 * m + 1) _ _ rfl (by omega) (by omega) (by simp [hll]; omega) (fun k' hk' => ?_) (by omega)
      have h2 : impl_leapsLeft.innerL (min ((m : Int) + leap) ((s.size : Int) + 1) + 1 - ((m : Int) + 1)).toNat (List.replicate m 0 ++ -1 :: leftF s leap d) (m : Int) ((m : Int) + 1) = List.replicate m 0 ++ leftF s leap (d + 1) := by
        rw [show (min ((m : Int) + leap) ((s.size : Int) + 1) + 1 - ((m : Int) + 1)) = min ((m : Int) + leap) ((s.size : Int) + 1) - (m : Int) by omega]
        unfold impl_leapsLeft.at at hat
        rw [← hd1] at hat
        rw [hat]
        simp only [leftF]
        rw [← hd1, if_pos hst]
      rw [h2]
      exact ih k' (d + 1) (by omega) (by omega)
    · rw [if_neg hst]
      have h2 : -1 :: leftF s leap d = leftF s leap (d + 1) := by
        simp only [leftF]
        rw [← hd1, if_neg hst]
      rw [h2]
      exact ih k (d + 1) (by omega) (by omega)
theorem specLeft_eq (s : ByteArray) (hs : s.size ≤ 40) (leap : Int) (hl : 1 ≤ leap ∧ leap ≤ 50) {k : Nat} (hk : 5000 ≤ k) : spec_rvLeft.f k s leap = some (LL s leap) := by
  unfold spec_rvLeft.f
  have e1 : wrap64 ((s.size : Int) + 1) = (s.size : Int) + 1 := w64 (by omega) (by omega)
  rw [e1, w64 (x := (s.size : Int) + 1 + 1) (by omega) (by omega), w64 (x := (s.size : Int) + 1 - 1) (by omega) (by omega), if_pos (by omega), if_pos (by omega)]
  have e2 : List.replicate ((s.size : Int) + 1 + 1).toNat (0 : Int) = List.replicate (s.size + 1) 0 ++ leftF s leap 0 := by
    rw [show ((s.size : Int) + 1 + 1).toNat = s.size + 1 + 1 by omega, List.replicate_succ']; rfl
  rw [e2, show (s.size : Int) + 1 - 1 = ((s.size + 1 : Nat) : Int) - 1 by omega]
  exact specLeft_l0 s hs leap hl (s.size + 1) k 0 (by omega) (by omega)
theorem specCan_eq (s : ByteArray) (hs : s.size ≤ 40) (leap : Int) (hl : 1 ≤ leap ∧ leap ≤ 50) {k : Nat} (hk : 5000 ≤ k) : spec_rvCan.f k s leap = some (decide (rd (LL s leap) 0 ≥ 0)) := by
  unfold spec_rvCan.f
  rw [specLeft_eq s hs leap hl hk]
  simp only [Option.bind_some]
  rw [if_pos (by rw [LL_len]; omega)]
theorem implCan_eq (s : ByteArray) (hs : s.size ≤ 40) (leap : Int) (hl : 1 ≤ leap ∧ leap ≤ 50) {k : Nat} (hk : 5000 ≤ k) : impl_canCross.f k s leap = some (decide (rd (LL s leap) 0 ≥ 0)) := by
  unfold impl_canCross.f
  rw [implLeft_eq s hs leap hl (by omega)]
  simp only [Option.bind_some]
  rw [if_pos (by rw [LL_len]; omega)]
theorem stFrom_last (s : ByteArray) (d : Nat) : ∀ (p : Int), stB s (p + d) = true → stFrom s (d + 1) p = stFrom s d p ++ [p + d] := by
  induction d with
  | zero =>
    intro p h
    have h : stB s p = true := by simpa using h
    simp only [stFrom]
    rw [if_pos h]
    simp
  | succ d ih =>
    intro p h
    have h2 := ih (p + 1) (by rw [show p + 1 + (d : Int) = p + ((d + 1 : Nat) : Int) by omega]; exact h)
    rw [show stFrom s (d + 1 + 1) p = if stB s p = true then p :: stFrom s (d + 1) (p + 1) else stFrom s (d + 1) (p + 1) from rfl, h2, show stFrom s (d + 1) p = if stB s p = true then p :: stFrom s d (p + 1) else stFrom s d (p + 1) from rfl]
    rw [show p + 1 + (d : Int) = p + ((d + 1 : Nat) : Int) by omega]
    split <;> simp
theorem eqIntS_l0 (l : List Int) (hl : l.length < 4611686018427387904) (d : Nat) : ∀ (k : Nat) (i : Int), 0 ≤ i → (l.length : Int) - i ≤ d → d < k → laws_eqIntS.l0 k l l i = some true := by
  induction d with
  | zero =>
    intro k i h0 hd hk
    obtain ⟨k, rfl⟩ : ∃ m, k = m + 1 := ⟨k - 1, by omega⟩
    simp only [laws_eqIntS.l0]; rw [if_neg (by omega)]
  | succ d ih =>
    intro k i h0 hd hk
    obtain ⟨k, rfl⟩ : ∃ m, k = m + 1 := ⟨k - 1, by omega⟩
    simp only [laws_eqIntS.l0]
    by_cases hlt : i < (l.length : Int)
    · rw [if_pos hlt, if_pos h0, if_pos hlt, if_pos trivial, w64 (by omega) (by omega)]
      exact ih k (i + 1) (by omega) (by omega) (by omega)
    · rw [if_neg hlt]
theorem eqIntS_self (l : List Int) (hl : l.length < 4611686018427387904) {k : Nat} (hk : l.length < k) : laws_eqIntS.f k l l = some true := by
  unfold laws_eqIntS.f
  rw [if_pos rfl]
  exact eqIntS_l0 l hl l.length k 0 (by omega) (by omega) hk
theorem rd_set (l : List Int) (i j v : Int) (h0 : 0 ≤ i) (h1 : i < l.length) (h2 : 0 ≤ j) : rd (l.set i.toNat v) j = if j = i then v else rd l j := by
  unfold rd
  rw [List.getD_eq_getElem?_getD, List.getD_eq_getElem?_getD, List.getElem?_set]
  by_cases e : j = i
  · subst e; rw [if_pos rfl, if_pos rfl, if_pos (by omega)]; rfl
  · rw [if_neg e, if_neg (by omega)]
theorem markIntS_l0 (d : Nat) : ∀ (k : Nat) (l : List Int) (v i : Int), l.length < 4611686018427387904 → 0 ≤ i → i ≤ l.length → (l.length : Int) - i ≤ d → d < k → 0 ≤ v → v + ((l.length : Int) - i) < 9223372036854775807 →
    ∃ m, laws_markIntS.l0 k l v i = some (v + ((l.length : Int) - i), m) ∧ m.length = l.length ∧ (∀ j : Int, 0 ≤ j → j < i → rd m j = rd l j) ∧ ∀ j : Int, i ≤ j → j < l.length → rd m j = v + (j - i) := by
  induction d with
  | zero =>
    intro k l v i hl h0 hi hd hk hv hb
    obtain ⟨k, rfl⟩ : ∃ m, k = m + 1 := ⟨k - 1, by omega⟩
    refine ⟨l, ?_, rfl, fun _ _ _ => rfl, fun j h1 h2 => by omega⟩
    simp only [laws_markIntS.l0]; rw [if_neg (by omega)]; congr 2; omega
  | succ d ih =>
    intro k l v i hl h0 hi hd hk hv hb
    obtain ⟨k, rfl⟩ : ∃ m, k = m + 1 := ⟨k - 1, by omega⟩
    simp only [laws_markIntS.l0]
    by_cases hlt : i < (l.length : Int)
    · rw [if_pos hlt, if_pos h0, w64 (by omega) (by omega), w64 (by omega) (by omega)]
      have hlen : (l.set i.toNat v).length = l.length := by simp
      obtain ⟨m, hm, hml, hm1, hm2⟩ := ih k (l.set i.toNat v) (v + 1) (i + 1) (by omega) (by omega) (by omega) (by omega) (by omega) (by omega) (by omega)
      rw [hlen] at hm hml hm2
      refine ⟨m, by rw [hm]; congr 2; omega, hml, ?_, ?_⟩
      · intro j h1 h2
        rw [hm1 j h1 (by omega), rd_set l i j v h0 hlt h1, if_neg (by omega)]
      · intro j h1 h2
        by_cases e : j = i
        · subst e; rw [hm1 j h0 (by omega), rd_set l j j v h0 hlt h0, if_pos rfl]; omega
        · rw [hm2 j (by omega) h2]; omega
    · rw [if_neg hlt]
      exact ⟨l, by congr 2; omega, rfl, fun _ _ _ => rfl, fun j h1 h2 => by omega⟩
theorem heldIntS_l0 (m : List Int) (hl : m.length < 4611686018427387904) (d : Nat) : ∀ (k : Nat) (v i : Int), 0 ≤ i → i ≤ m.length → (m.length : Int) - i ≤ d → d < k → 0 ≤ v → v + ((m.length : Int) - i) < 9223372036854775807 → (∀ j : Int, i ≤ j → j < m.length → rd m j = v + (j - i)) → laws_heldIntS.l0 k m v i = some (v + ((m.length : Int) - i)) := by
  induction d with
  | zero =>
    intro k v i h0 hi hd hk hv hb h
    obtain ⟨k, rfl⟩ : ∃ m, k = m + 1 := ⟨k - 1, by omega⟩
    simp only [laws_heldIntS.l0]; rw [if_neg (by omega)]; congr 1; omega
  | succ d ih =>
    intro k v i h0 hi hd hk hv hb h
    obtain ⟨k, rfl⟩ : ∃ m, k = m + 1 := ⟨k - 1, by omega⟩
    simp only [laws_heldIntS.l0]
    by_cases hlt : i < (m.length : Int)
    · rw [if_pos hlt, if_pos h0, if_pos (by rw [h i (by omega) hlt]; omega), w64 (by omega) (by omega), w64 (by omega) (by omega), ih k (v + 1) (i + 1) (by omega) (by omega) (by omega) (by omega) (by omega) (by omega) (fun j h1 h2 => by rw [h j (by omega) h2]; omega)]
      congr 1; omega
    · rw [if_neg hlt]; congr 1; omega
theorem mark_held (l : List Int) (hl : l.length < 1000000) : ∃ m, m.length = l.length ∧ (∀ k, l.length < k → laws_markIntS.f k l 1 = some (1 + (l.length : Int), m)) ∧ ∀ k, l.length < k → laws_heldIntS.f k m 1 = some (1 + (l.length : Int)) := by
  obtain ⟨m, hm, hml, _, hm2⟩ := markIntS_l0 l.length (l.length + 1) l 1 0 (by omega) (by omega) (by omega) (by omega) (by omega) (by omega) (by omega)
  refine ⟨m, hml, fun k hk => ?_, fun k hk => ?_⟩
  · have := at_rounds (g := fun k => laws_markIntS.f k l 1) (fun k => laws_markIntS.mono l 1 k) (show l.length + 1 ≤ k by omega) hm
    rw [this]; congr 2 <;> omega
  · unfold laws_heldIntS.f
    rw [heldIntS_l0 m (by omega) m.length k 1 0 (by omega) (by omega) (by omega) (by omega) (by omega) (by omega) (fun j h1 h2 => hm2 j h1 (by omega))]
    congr 1; omega
theorem go_eq (n : Int) (p : Int → Option Bool) (q : Int → Bool) (l : List Int) : ∀ (acc : List Int), (∀ x ∈ l, 1 ≤ x ∧ x ≤ n → p x = some (q x)) → impl_NeededStones.go n p l acc = some (acc ++ l.filter (fun x => decide (1 ≤ x ∧ x ≤ n) && q x)) := by
  induction l with
  | nil => intro acc _; simp [impl_NeededStones.go]
  | cons x l ih =>
    intro acc h
    simp only [impl_NeededStones.go]
    have hl := fun y hy => h y (List.mem_cons_of_mem _ hy)
    by_cases c : 1 ≤ x ∧ x ≤ n
    · rw [if_pos c, h x List.mem_cons_self c]
      simp only [Option.bind_some]
      rw [ih _ hl]
      cases hq : q x
      · simp [hq, List.filter_cons]
      · simp [hq, List.filter_cons, c]
    · rw [if_neg c, ih _ hl]
      have : decide (1 ≤ x ∧ x ≤ n) = false := decide_eq_false c
      rw [List.filter_cons, this]; simp
theorem filt_eq (s : ByteArray) (q : Int → Bool) : ((0 : Int) :: stFrom s (s.size + 1) 1).filter (fun x => decide (1 ≤ x ∧ x ≤ (s.size : Int)) && q x) = (stFrom s s.size 1).filter q := by
  have h := stFrom_last s s.size 1 (by unfold stB; rw [show (1 : Int) + (s.size : Int) = (s.size : Int) + 1 by omega]; simp)
  rw [h, List.filter_cons, List.filter_append]
  have e1 : decide ((1 : Int) ≤ 0 ∧ (0 : Int) ≤ (s.size : Int)) = false := decide_eq_false (by omega)
  have e2 : decide ((1 : Int) ≤ 1 + (s.size : Int) ∧ 1 + (s.size : Int) ≤ (s.size : Int)) = false := decide_eq_false (by omega)
  have e3 : (stFrom s s.size 1).filter (fun x => decide (1 ≤ x ∧ x ≤ (s.size : Int)) && q x) = (stFrom s s.size 1).filter q := by
    apply List.filter_congr
    intro x hx
    have := ((stFrom_mem s _ _ _).1 hx).1
    rw [decide_eq_true (show 1 ≤ x ∧ x ≤ (s.size : Int) by omega)]; rfl
  rw [e3]
  simp [e1, List.filter_cons]
  intro h1 h2; omega
theorem st_eq (s : ByteArray) (hs : s.size ≤ 40) (p : Int → Option Bool) (q : Int → Bool) (k : Nat) (hk : s.size < k) (h : ∀ x, 1 ≤ x → x ≤ (s.size : Int) → p x = some (q x)) : impl_NeededStones.st k s p = some ((stFrom s s.size 1).filter q) := by
  have h1 := stand_eq s hs hk
  have hlen := stFrom_len s (s.size + 1) 1
  have h2 : 1 ≤ ((0 : Int) :: stFrom s (s.size + 1) 1).length ∧ ((0 : Int) :: stFrom s (s.size + 1) 1).length ≤ 1000 := ⟨by simp, by simp; omega⟩
  unfold impl_NeededStones.st
  rw [h1]
  simp only [Option.bind_some]
  rw [if_pos h2, go_eq (s.size : Int) p q _ [] (fun x _ hx => h x hx.1 hx.2), filt_eq]
  simp
theorem law_of (s : ByteArray) (leap : Int) (L : List Int) (b : Bool) (hL : L.length < 3000) (hb : ¬ (s.size : Int) > 1048576) (hs : ∀ k, 10000 ≤ k → spec_NeededStones.f k s leap = some (L, b)) (hi : ∀ k, 10000 ≤ k → impl_NeededStones.f k s leap = some (L, b)) : ∃ k, laws_FnExactNeededStones.f k s leap = some true := by
  obtain ⟨m, hml, hm, hh⟩ := mark_held L (by omega)
  obtain ⟨k, hk⟩ : ∃ k : Nat, 10000 ≤ k := ⟨10000, Nat.le_refl _⟩
  refine ⟨k + 1 + 1, ?_⟩
  unfold laws_FnExactNeededStones.f
  rw [if_neg hb, hs _ (by omega), hi _ (by omega)]
  simp only [Option.bind_some, eqIntS_self L (by omega) (show L.length < k + 1 + 1 by omega), if_true, bne_self_eq_false]
  simp only [laws_FnExactNeededStones.j0]
  rw [if_neg (by simp), hm (k + 1) (by omega)]
  simp only [Option.bind_some, hh (k + 1) (by omega)]
  rw [if_neg (by omega), if_pos trivial, hi (k + 1) (by omega)]
  simp only [Option.bind_some, eqIntS_self L (by omega) (show L.length < k + 1 by omega), if_true, bne_self_eq_false]
  simp only [laws_FnExactNeededStones.j1]
  rw [if_neg (by simp), hh k (by omega)]
  simp only [Option.bind_some]
  rw [if_neg (by omega), if_pos trivial]
/-- The river without a stone. -/
def Wo (s : ByteArray) (p : Int) : ByteArray := s.extract 0 (p - 1).toNat ++ (⟨#[46]⟩ : ByteArray) ++ s.extract p.toNat s.size
theorem Wo_size (s : ByteArray) (hs : s.size ≤ 40) (p : Int) (h0 : 1 ≤ p) (h1 : p ≤ s.size) : (Wo s p).size ≤ 40 := by
  unfold Wo
  have e : (⟨#[46]⟩ : ByteArray).size = 1 := rfl
  simp only [ByteArray.size_append, ByteArray.size_extract]; omega
theorem without_eq (s : ByteArray) (hs : s.size ≤ 40) (p : Int) (h0 : 1 ≤ p) (h1 : p ≤ s.size) : spec_rvWithout.f s p = some (Wo s p) := by
  have e1 : wrap64 (p - 1) = p - 1 := w64 (by omega) (by omega)
  have e2 : (s.extract 0 (p - 1).toNat).size + 1 ≤ 9223372036854775807 := by simp only [ByteArray.size_extract]; omega
  have e5 : (⟨#[46]⟩ : ByteArray).size = 1 := rfl
  have e4 : ((s.extract 0 (p - 1).toNat) ++ (⟨#[46]⟩ : ByteArray)).size + (s.extract p.toNat s.size).size ≤ 9223372036854775807 := by
    simp only [ByteArray.size_append, ByteArray.size_extract]; omega
  have e7 : 0 ≤ p - 1 := by omega
  have e8 : p - 1 ≤ (s.size : Int) := by omega
  have e10 : 0 ≤ p := by omega
  unfold spec_rvWithout.f
  rw [e1, if_pos e7, if_pos e8, if_pos e2, if_pos e10, if_pos h1, if_pos e4]; rfl
theorem put_eq (s : ByteArray) (hs : s.size ≤ 40) (p : Int) (h0 : 1 ≤ p) (h1 : p ≤ s.size) : impl_put.f s p 46 = some (Wo s p) := by
  have hc : (strOfNums [46]).size = 1 := rfl
  have e1 : wrap64 (p - 1) = p - 1 := w64 (by omega) (by omega)
  have e2 : (s.extract 0 (p - 1).toNat).size ≤ 40 := by simp only [ByteArray.size_extract]; omega
  have e3 : (s.extract p.toNat s.size).size ≤ 40 := by simp only [ByteArray.size_extract]; omega
  have e4 : (s.extract 0 (p - 1).toNat ++ strOfNums [46]).size ≤ 41 := by simp only [ByteArray.size_append]; omega
  unfold impl_put.f impl_put.f0
  rw [if_pos (by omega), e1, if_pos (by omega), if_pos (by omega)]
  simp only [Option.bind_some]
  rw [if_pos (by omega), if_pos (by omega), if_pos (by omega), if_pos (by omega)]; rfl
def needs (s : ByteArray) (leap p : Int) : Bool := !decide (rd (LL (Wo s p) leap) 0 ≥ 0)
theorem impl_p (s : ByteArray) (hs : s.size ≤ 40) (leap : Int) (hl : 1 ≤ leap ∧ leap ≤ 50) (k : Nat) (hk : 5000 ≤ k) (p : Int) (h0 : 1 ≤ p) (h1 : p ≤ s.size) : impl_NeededStones.p k s leap p = some (needs s leap p) := by
  have e1 := put_eq s hs p h0 h1
  have e2 := implCan_eq (Wo s p) (Wo_size s hs p h0 h1) leap hl hk
  unfold impl_NeededStones.p needs
  rw [e1]
  simp only [Option.bind_some]
  rw [e2]; rfl
theorem spec_l0 (s : ByteArray) (hs : s.size ≤ 40) (leap : Int) (hl : 1 ≤ leap ∧ leap ≤ 50) (K : Nat) (hK : ∀ k, K ≤ k → ∀ p : Int, 1 ≤ p → p ≤ (s.size : Int) → spec_rvCan.f k (Wo s p) leap = some (decide (rd (LL (Wo s p) leap) 0 ≥ 0))) (d : Nat) : ∀ (k : Nat) (acc : List Int) (p : Int), 1 ≤ p → p + d = (s.size : Int) + 1 → K + d < k → acc.length + d < 1000 → spec_NeededStones.l0 k s leap acc p = some (acc ++ (stFrom s d p).filter (needs s leap), true) := by
  induction d with
  | zero =>
    intro k acc p h0 h1 hk ha
    obtain ⟨k, rfl⟩ : ∃ m, k = m + 1 := ⟨k - 1, by omega⟩
    have g : ¬ p ≤ (s.size : Int) := by omega
    simp only [spec_NeededStones.l0]
    rw [if_neg g]; simp [stFrom]
  | succ d ih =>
    intro k acc p h0 h1 hk ha
    obtain ⟨k, rfl⟩ : ∃ m, k = m + 1 := ⟨k - 1, by omega⟩
    have g : p ≤ (s.size : Int) := by omega
    have hw := w64 (x := p + 1) (by omega) (by omega)
    have e := rvStand_eq s hs p (by omega) (by omega)
    have e1 := without_eq s hs p h0 g
    have e2 := hK k (by omega) p h0 g
    have g3 : acc.length < 17592186044416 := by omega
    have i1 := ih k acc (p + 1) (by omega) (by omega) (by omega) (by omega)
    have i2 := ih k (acc ++ [p]) (p + 1) (by omega) (by omega) (by omega) (by simp; omega)
    simp only [spec_NeededStones.l0, stFrom]
    rw [if_pos g, e]
    simp only [Option.bind_some]
    by_cases hst : stB s p = true
    · rw [if_pos hst, if_pos hst, e1, Option.bind_some, e2, Option.bind_some]
      by_cases hc : rd (LL (Wo s p) leap) 0 ≥ 0
      · have hn : needs s leap p = false := by unfold needs; rw [decide_eq_true hc]; rfl
        rw [if_pos (decide_eq_true hc), hw, i1, List.filter_cons, hn]; simp
      · have hn : needs s leap p = true := by unfold needs; rw [decide_eq_false hc]; rfl
        rw [if_neg (by simpa using hc), if_pos g3, hw, i2, List.filter_cons, hn]; simp
    · rw [if_neg hst, if_neg hst, hw, i1]
theorem FnExactNeededStones : laws_FnExactNeededStones.Pure := by
  intro s leap _ _
  by_cases hb : (s.size : Int) > 1048576
  · exact ⟨0, by unfold laws_FnExactNeededStones.f; rw [if_pos hb]⟩
  have hno : ∀ (k : Nat), 10000 ≤ k → spec_NeededStones.j0 k s leap true = some ([], false) := fun k hk => by
    obtain ⟨k, rfl⟩ : ∃ m, k = m + 1 := ⟨k - 1, by omega⟩
    simp only [spec_NeededStones.j0]; rw [if_pos trivial]
  by_cases hg : Good s ∧ 1 ≤ leap ∧ leap ≤ 50
  · have hs := hg.1.1.2
    by_cases hc : rd (LL s leap) 0 ≥ 0
    · have hd : (!decide (rd (LL s leap) 0 ≥ 0)) = false := by rw [decide_eq_true hc]; rfl
      have hR : ((stFrom s s.size 1).filter (needs s leap)).length ≤ 40 := Nat.le_trans (List.length_filter_le _ _) (Nat.le_trans (stFrom_len s s.size 1) hs)
      refine law_of s leap ((stFrom s s.size 1).filter (needs s leap)) true (by omega) hb (fun k hk => ?_) (fun k hk => ?_)
      · have h1 := rvAsked_true hg.1 hg.2 (k := k) (by omega)
        have h2 := specCan_eq s hs leap hg.2 (k := k) (by omega)
        have h3 := spec_l0 s hs leap hg.2 5000 (fun k hk p p0 p1 => specCan_eq (Wo s p) (Wo_size s hs p p0 p1) leap hg.2 hk) s.size (k - 1) [] 1 (by omega) (by omega) (by omega) (by simp; omega)
        unfold spec_NeededStones.f
        rw [h1]
        simp only [Option.bind_some, if_true, h2]
        rw [hd]
        obtain ⟨k, rfl⟩ : ∃ m, k = m + 1 := ⟨k - 1, by omega⟩
        rw [show k + 1 - 1 = k by omega] at h3
        simp only [spec_NeededStones.j0]
        rw [if_neg (by simp), h3]; simp
      · have h1 := isCrossed_true hg.1 hg.2
        have h2 := implCan_eq s hs leap hg.2 (k := k) (by omega)
        have h3 := st_eq s hs (impl_NeededStones.p k s leap) (needs s leap) k (by omega) (fun x x0 x1 => impl_p s hs leap hg.2 k (by omega) x x0 x1)
        unfold impl_NeededStones.f
        rw [h1]
        simp only [Option.bind_some, if_true, h2]
        rw [if_pos (decide_eq_true hc), h3]
        simp only [Option.bind_some]
    · have hd : (!decide (rd (LL s leap) 0 ≥ 0)) = true := by rw [decide_eq_false hc]; rfl
      refine law_of s leap [] false (by simp) hb (fun k hk => ?_) (fun k hk => ?_)
      · have h1 := rvAsked_true hg.1 hg.2 (k := k) (by omega)
        have h2 := specCan_eq s hs leap hg.2 (k := k) (by omega)
        have h3 := hno k hk
        unfold spec_NeededStones.f
        rw [h1]
        simp only [Option.bind_some, if_true, h2]
        rw [hd, h3]
      · have h1 := isCrossed_true hg.1 hg.2
        have h2 := implCan_eq s hs leap hg.2 (k := k) (by omega)
        unfold impl_NeededStones.f
        rw [h1]
        simp only [Option.bind_some, if_true, h2]
        rw [if_neg (by simpa using hc)]
  · refine law_of s leap [] false (by simp) hb (fun k hk => ?_) (fun k hk => ?_)
    · have h1 := rvAsked_false hg (k := k) (by omega)
      have h3 := hno k hk
      unfold spec_NeededStones.f
      rw [h1]
      simp only [Option.bind_some, Bool.false_eq_true, if_false, h3]
    · have h1 := isCrossed_false hg
      unfold impl_NeededStones.f
      rw [h1]; simp

end Go.Proofs.YtlcgimeebhoefaaDoor.Pure
