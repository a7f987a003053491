/- For every text and number the program's IdleStones and the reference's answer alike, and the result is memory of its own. Conditions: the text takes at most 140737488351232 bytes, the number is one of 64 bits. -/
import Derived.Test.YtlcgimeebhoefaaDoorPFnExactIdleStonesx
namespace Go.Proofs.YtlcgimeebhoefaaDoor.Pure
open Go.RowKit Go.Proofs.YtlcgimeebhoefaaDoor.PFnExactIdleStones Go.Proofs.YtlcgimeebhoefaaDoorW.PrintWords Go.Proofs.YtlcgimeebhoefaaDoorW.PrintLast Go.Proofs.YtlcgimeebhoefaaDoorW.PrintMore

set_option linter.unusedVariables false
set_option linter.unusedSimpArgs false
def inB (a b c : Int) : Bool := decide (b ≤ a ∧ a ≤ c)
theorem inB_true {a b c : Int} (h : inB a b c = true) : b ≤ a ∧ a ≤ c := of_decide_eq_true h
theorem inB_mk {a b c : Int} (h : b ≤ a ∧ a ≤ c) : inB a b c = true := decide_eq_true h
theorem inB_not {a b c : Int} (h : ¬ (b ≤ a ∧ a ≤ c)) : inB a b c = false := decide_eq_false h
theorem inB_false {a b c : Int} (h : inB a b c = false) : ¬ (b ≤ a ∧ a ≤ c) := of_decide_eq_false h
theorem in_eq (a b c : Int) : spec_l1In.f a b c = some (inB a b c) := by
  unfold spec_l1In.f inB
  by_cases h : a ≥ b
  · rw [if_pos h]; congr 1; rw [decide_eq_decide]; omega
  · rw [if_neg h]; congr 1; symm; rw [decide_eq_false_iff_not]; omega
theorem within_eq (a b c : Int) : impl_within.f a b c = some (inB a b c) := by
  unfold impl_within.f inB
  by_cases h : b ≤ a
  · rw [if_pos h]; congr 1; rw [decide_eq_decide]; omega
  · rw [if_neg h]; congr 1; symm; rw [decide_eq_false_iff_not]; omega
theorem w64 {x : Int} (h0 : -9223372036854775808 ≤ x) (h1 : x < 9223372036854775808) : wrap64 x = x := by unfold wrap64; omega
/-- A river: 1..40 signs, each a stone or water. -/
def Good (s : ByteArray) : Prop := (1 ≤ s.size ∧ s.size ≤ 40) ∧ ∀ i : Int, 0 ≤ i → i < s.size → bt s i = 111 ∨ bt s i = 46
theorem rvGood_l0_true (s : ByteArray) (hs : s.size ≤ 40) (d : Nat) : ∀ (k : Nat) (i : Int), 0 ≤ i → (s.size : Int) - i ≤ d → d < k → (∀ j : Int, i ≤ j → j < s.size → bt s j = 111 ∨ bt s j = 46) → spec_rvGood.l0 k s i = some true := by
  induction d with
  | zero =>
    intro k i h0 hd hk h
    obtain ⟨k, rfl⟩ : ∃ m, k = m + 1 := ⟨k - 1, by omega⟩
    simp only [spec_rvGood.l0]; rw [if_neg (by omega)]
  | succ d ih =>
    intro k i h0 hd hk h
    obtain ⟨k, rfl⟩ : ∃ m, k = m + 1 := ⟨k - 1, by omega⟩
    simp only [spec_rvGood.l0]
    by_cases hlt : i < (s.size : Int)
    · rw [if_pos hlt, if_pos h0, w64 (by omega) (by omega)]
      have hr := ih k (i + 1) (by omega) (by omega) (by omega) (fun j h1 h2 => h j (by omega) h2)
      rw [hr]
      rcases h i (by omega) hlt with e | e
      · rw [if_pos e]
      · rw [if_neg (by omega), if_pos e]
    · rw [if_neg hlt]
theorem rvGood_l0_false (s : ByteArray) (hs : s.size ≤ 40) (d : Nat) : ∀ (k : Nat) (i : Int), 0 ≤ i → (s.size : Int) - i ≤ d → d < k → (¬ ∀ j : Int, i ≤ j → j < s.size → bt s j = 111 ∨ bt s j = 46) → spec_rvGood.l0 k s i = some false := by
  induction d with
  | zero =>
    intro k i h0 hd hk h
    exact absurd (fun j h1 h2 => absurd h1 (by omega)) h
  | succ d ih =>
    intro k i h0 hd hk h
    obtain ⟨k, rfl⟩ : ∃ m, k = m + 1 := ⟨k - 1, by omega⟩
    simp only [spec_rvGood.l0]
    by_cases hlt : i < (s.size : Int)
    · rw [if_pos hlt, if_pos h0, w64 (by omega) (by omega)]
      by_cases e1 : bt s i = 111
      · rw [if_pos e1]
        exact ih k (i + 1) (by omega) (by omega) (by omega) (fun g => h (fun j h1 h2 => if c : j = i then by rw [c]; exact .inl e1 else g j (by omega) h2))
      · rw [if_neg e1]
        by_cases e2 : bt s i = 46
        · rw [if_pos e2]
          exact ih k (i + 1) (by omega) (by omega) (by omega) (fun g => h (fun j h1 h2 => if c : j = i then by rw [c]; exact .inr e2 else g j (by omega) h2))
        · rw [if_neg e2]
    · exact absurd (fun j h1 h2 => absurd h2 (by omega)) h
theorem rvGood_true {s : ByteArray} (hg : Good s) {k : Nat} (hk : 41 < k) : spec_rvGood.f k s = some true := by
  unfold spec_rvGood.f
  obtain ⟨h1, h2⟩ := hg
  rw [in_eq, inB_mk ⟨by omega, by omega⟩]
  exact rvGood_l0_true s h1.2 s.size k 0 (by omega) (by omega) (by omega) h2
theorem rvGood_false {s : ByteArray} (hg : ¬ Good s) {k : Nat} (hk : 41 < k) : spec_rvGood.f k s = some false := by
  unfold spec_rvGood.f
  rw [in_eq]
  cases hb : inB (s.size : Int) 1 40
  · rfl
  · have h1 := inB_true hb
    exact rvGood_l0_false s (by omega) s.size k 0 (by omega) (by omega) (by omega) (fun h => hg ⟨⟨by omega, by omega⟩, h⟩)
theorem bt_list (s : ByteArray) (i : Nat) (h : i < s.data.toList.length) : bt s (i : Int) = ((s.data.toList[i]'h).toNat : Int) := by
  have h' : i < s.size := by simpa using h
  unfold bt
  rw [dif_pos (by simpa using h')]
  rfl
theorem dropWhile_nil {α : Type} (p : α → Bool) (l : List α) : l.dropWhile p = [] ↔ ∀ x ∈ l, p x = true := by
  induction l with
  | nil => simp
  | cons a l ih =>
    rw [List.dropWhile_cons]
    by_cases h : p a = true
    · rw [if_pos h, ih]; simp [h]
    · rw [if_neg h]; simp [h]
theorem trimS_nil (l cs : List UInt8) : Lib.trimS l cs = [] ↔ ∀ x ∈ l, cs.contains x = true := by
  unfold Lib.trimS Lib.trimLeftS Lib.trimRightS
  rw [dropWhile_nil]
  constructor
  · intro h x hx
    by_cases hall : ∀ y ∈ l.reverse, cs.contains y = true
    · exact hall x (by simpa using hx)
    · exfalso
      have hne : l.reverse.dropWhile (cs.contains ·) ≠ [] := fun e => hall ((dropWhile_nil _ _).1 e)
      obtain ⟨y, ys, hy⟩ : ∃ y ys, l.reverse.dropWhile (cs.contains ·) = y :: ys := by
        cases e : l.reverse.dropWhile (cs.contains ·) with
        | nil => exact absurd e hne
        | cons y ys => exact ⟨y, ys, rfl⟩
      have hp := List.head?_dropWhile_not (cs.contains ·) l.reverse
      rw [hy] at hp
      have := h y (by rw [hy]; simp)
      simp at hp this
      exact hp this
  · intro h x hx
    rw [List.mem_reverse] at hx
    exact h x (by simpa using (List.dropWhile_sublist _).subset hx)
theorem trim_river (s : ByteArray) (hs : s.size ≤ 9223372036854775807) : ∃ t : ByteArray, strings_Trim.f s (⟨#[111, 46]⟩ : ByteArray) = some t ∧ (t.toList = [] ↔ ∀ i : Int, 0 ≤ i → i < s.size → bt s i = 111 ∨ bt s i = 46) := by
  refine ⟨⟨(Lib.trimS s.data.toList [111, 46]).toArray⟩, ?_, ?_⟩
  · unfold strings_Trim.f
    rw [if_pos ⟨hs, by decide, by decide⟩]
  · rw [Lib.toList_data]
    show (Lib.trimS s.data.toList [111, 46]).toArray.toList = [] ↔ _
    rw [show (Lib.trimS s.data.toList [111, 46]).toArray.toList = Lib.trimS s.data.toList [111, 46] from rfl, trimS_nil]
    constructor
    · intro h i h0 h1
      have hi : i.toNat < s.data.toList.length := by
        have : s.data.toList.length = s.size := by simp
        omega
      have hb := bt_list s i.toNat hi
      rw [show ((i.toNat : Nat) : Int) = i by omega] at hb
      have := h _ (List.getElem_mem hi)
      rw [hb]
      simp at this
      rcases this with e | e <;> simp [e]
    · intro h x hx
      obtain ⟨n, hn, rfl⟩ := List.mem_iff_getElem.1 hx
      have hb := bt_list s n hn
      have hlt : n < s.size := by simpa using hn
      have := h n (by omega) (by omega)
      rw [hb] at this
      simp
      rcases this with e | e
      · left; apply UInt8.toNat_inj.1; simpa using Int.ofNat.inj e
      · right; apply UInt8.toNat_inj.1; simpa using Int.ofNat.inj e
theorem isRiver_true {s : ByteArray} (hg : Good s) : impl_IsRiver.f s = some true := by
  unfold impl_IsRiver.f
  obtain ⟨h1, h2⟩ := hg
  obtain ⟨t, ht, hiff⟩ := trim_river s (by omega)
  rw [within_eq, inB_mk ⟨by omega, by omega⟩]
  simp only [Option.bind_some, if_true, ht]
  rw [hiff.2 h2]; rfl
theorem isRiver_false {s : ByteArray} (hg : ¬ Good s) : impl_IsRiver.f s = some false := by
  unfold impl_IsRiver.f
  rw [within_eq]
  cases hb : inB (s.size : Int) 1 40
  · rfl
  · have h1 := inB_true hb
    obtain ⟨t, ht, hiff⟩ := trim_river s (by omega)
    simp only [Option.bind_some, if_true, ht]
    congr 1
    cases hc : (t.toList == ([] : List UInt8)) with
    | false => rfl
    | true => exact absurd ⟨⟨by omega, by omega⟩, hiff.1 (by simpa using hc)⟩ hg
theorem rvAsked_true {s : ByteArray} {l : Int} (hg : Good s) (hl : 1 ≤ l ∧ l ≤ 50) {k : Nat} (hk : 41 < k) : spec_rvAsked.f k s l = some true := by
  unfold spec_rvAsked.f
  rw [rvGood_true hg hk, in_eq, inB_mk hl]; rfl
theorem rvAsked_false {s : ByteArray} {l : Int} (h : ¬ (Good s ∧ 1 ≤ l ∧ l ≤ 50)) {k : Nat} (hk : 41 < k) : spec_rvAsked.f k s l = some false := by
  unfold spec_rvAsked.f
  by_cases hg : Good s
  · rw [rvGood_true hg hk, in_eq, inB_not (fun c => h ⟨hg, c⟩)]; rfl
  · rw [rvGood_false hg hk]; rfl
theorem isCrossed_true {s : ByteArray} {l : Int} (hg : Good s) (hl : 1 ≤ l ∧ l ≤ 50) : impl_isCrossed.f s l = some true := by
  unfold impl_isCrossed.f
  rw [isRiver_true hg, within_eq, inB_mk hl]; rfl
theorem isCrossed_false {s : ByteArray} {l : Int} (h : ¬ (Good s ∧ 1 ≤ l ∧ l ≤ 50)) : impl_isCrossed.f s l = some false := by
  unfold impl_isCrossed.f
  by_cases hg : Good s
  · rw [isRiver_true hg, within_eq, inB_not (fun c => h ⟨hg, c⟩)]; rfl
  · rw [isRiver_false hg]; rfl
/-- Does one stand on this place? -/
def stB (s : ByteArray) (p : Int) : Bool := decide (p = 0) || decide (p = (s.size : Int) + 1) || (bt s (p - 1) == 111)
theorem rvStand_eq (s : ByteArray) (hs : s.size ≤ 40) (p : Int) (h0 : 0 ≤ p) (h1 : p ≤ (s.size : Int) + 1) : spec_rvStand.f s p = some (stB s p) := by
  unfold spec_rvStand.f stB
  rw [w64 (x := (s.size : Int) + 1) (by omega) (by omega), w64 (x := p - 1) (by omega) (by omega)]
  by_cases e0 : p = 0
  · rw [if_pos e0]; simp [e0]
  · rw [if_neg e0]
    by_cases e1 : p = (s.size : Int) + 1
    · rw [if_pos e1]; simp [e1]
    · rw [if_neg e1, if_pos (by omega), if_pos (by omega)]; simp [e0, e1]
/-- The places from p on, so many of them, on which one stands. -/
def stFrom (s : ByteArray) : Nat → Int → List Int
  | 0, _ => []
  | d + 1, p => if stB s p = true then p :: stFrom s d (p + 1) else stFrom s d (p + 1)
theorem stFrom_mem (s : ByteArray) (d : Nat) : ∀ (p x : Int), x ∈ stFrom s d p ↔ (p ≤ x ∧ x < p + d) ∧ stB s x = true := by
  induction d with
  | zero => intro p x; simp [stFrom]; omega
  | succ d ih =>
    intro p x
    simp only [stFrom]
    by_cases h : stB s p = true
    · rw [if_pos h, List.mem_cons, ih]
      constructor
      · rintro (e | ⟨h1, h2⟩)
        · subst e; exact ⟨⟨by omega, by omega⟩, h⟩
        · exact ⟨⟨by omega, by omega⟩, h2⟩
      · rintro ⟨h1, h2⟩
        by_cases e : x = p
        · exact .inl e
        · exact .inr ⟨⟨by omega, by omega⟩, h2⟩
    · rw [if_neg h, ih]
      constructor
      · rintro ⟨h1, h2⟩; exact ⟨⟨by omega, by omega⟩, h2⟩
      · rintro ⟨h1, h2⟩
        have : x ≠ p := fun e => h (e ▸ h2)
        exact ⟨⟨by omega, by omega⟩, h2⟩
theorem stFrom_len (s : ByteArray) (d : Nat) : ∀ p : Int, (stFrom s d p).length ≤ d := by
  induction d with
  | zero => intro p; simp [stFrom]
  | succ d ih =>
    intro p
    simp only [stFrom]
    have := ih (p + 1)
    split <;> simp <;> omega
theorem stand_l0 (s : ByteArray) (hs : s.size ≤ 40) (d : Nat) : ∀ (k : Nat) (i : Int) (acc : List Int), 0 ≤ i → (s.size : Int) - i = d → d < k → acc.length + d < 17592186044416 → impl_stand.l0 k s acc (s.size : Int) i = some (acc ++ stFrom s (d + 1) (i + 1)) := by
  induction d with
  | zero =>
    intro k i acc h0 hd hk hl
    obtain ⟨k, rfl⟩ : ∃ m, k = m + 1 := ⟨k - 1, by omega⟩
    obtain rfl : i = (s.size : Int) := by omega
    simp only [impl_stand.l0]
    rw [if_neg (by omega), if_pos (by omega), w64 (by omega) (by omega)]
    simp [stFrom, stB]
  | succ d ih =>
    intro k i acc h0 hd hk hl
    obtain ⟨k, rfl⟩ : ∃ m, k = m + 1 := ⟨k - 1, by omega⟩
    simp only [impl_stand.l0]
    rw [if_pos (by omega), if_pos h0, if_pos (by omega), w64 (by omega) (by omega)]
    have hst : stB s (i + 1) = decide (bt s i = 111) := by
      unfold stB
      rw [show i + 1 - 1 = i by omega]
      have e0 : decide (i + 1 = 0) = false := decide_eq_false (by omega)
      have e1 : decide (i + 1 = (s.size : Int) + 1) = false := decide_eq_false (by omega)
      rw [e0, e1]
      rfl
    have hstep : stFrom s (d + 1 + 1) (i + 1) = if stB s (i + 1) = true then (i + 1) :: stFrom s (d + 1) (i + 1 + 1) else stFrom s (d + 1) (i + 1 + 1) := rfl
    rw [hstep, hst]
    by_cases hb : bt s i = 111
    · rw [if_pos hb, if_pos (by omega), if_pos (decide_eq_true hb), ih k (i + 1) (acc ++ [i + 1]) (by omega) (by omega) (by omega) (by simp; omega)]
      simp
    · rw [if_neg hb, if_neg (by simp [hb]), ih k (i + 1) acc (by omega) (by omega) (by omega) (by omega)]
theorem stand_eq (s : ByteArray) (hs : s.size ≤ 40) {k : Nat} (hk : s.size < k) : impl_stand.f k s = some (0 :: stFrom s (s.size + 1) 1) := by
  unfold impl_stand.f
  rw [stand_l0 s hs s.size k 0 [0] (by omega) (by omega) hk (by simp; omega)]
  rfl
theorem rd_mid (pre rest : List Int) (x i : Int) (h : i = pre.length) : rd (pre ++ x :: rest) i = x := by
  subst h; unfold rd; simp
theorem rd_app (A B : List Int) (i : Int) (h : (A.length : Int) ≤ i) : rd (A ++ B) i = rd B (i - A.length) := by
  unfold rd
  rw [List.getD_eq_getElem?_getD, List.getD_eq_getElem?_getD, List.getElem?_append_right (by omega)]
  congr 2; omega
theorem set_app (A B : List Int) (i v : Int) (h : (A.length : Int) ≤ i) : (A ++ B).set i.toNat v = A ++ B.set (i - A.length).toNat v := by
  rw [List.set_append, if_neg (by omega)]
  congr 2; omega
theorem stepL_app (A B : List Int) (f t : Int) (hf : (A.length : Int) ≤ f) (ht : (A.length : Int) ≤ t) : impl_leapsLeft.stepL (A ++ B) f t = A ++ impl_leapsLeft.stepL B (f - A.length) (t - A.length) := by
  unfold impl_leapsLeft.stepL
  rw [rd_app A B t ht, rd_app A B f hf, set_app A B f _ hf]
  split <;> rfl
theorem innerL_app (A : List Int) (d : Nat) : ∀ (B : List Int) (f t : Int), (A.length : Int) ≤ f → (A.length : Int) ≤ t → impl_leapsLeft.innerL d (A ++ B) f t = A ++ impl_leapsLeft.innerL d B (f - A.length) (t - A.length) := by
  induction d with
  | zero => intro B f t _ _; rfl
  | succ d ih =>
    intro B f t hf ht
    simp only [impl_leapsLeft.innerL]
    rw [stepL_app A B f t hf ht, ih _ f (t + 1) hf (by omega), show t + 1 - (A.length : Int) = t - A.length + 1 by omega]
/-- The row from the place n + 1 - d on. -/
def leftF (s : ByteArray) (leap : Int) : Nat → List Int
  | 0 => [0]
  | d + 1 => if stB s ((s.size : Int) - d) = true then impl_leapsLeft.innerL (min ((s.size : Int) - d + leap) ((s.size : Int) + 1) - ((s.size : Int) - d)).toNat (-1 :: leftF s leap d) 0 1 else -1 :: leftF s leap d
theorem leftF_len (s : ByteArray) (leap : Int) (d : Nat) : (leftF s leap d).length = d + 1 := by
  induction d with
  | zero => rfl
  | succ d ih =>
    simp only [leftF]
    split
    · rw [impl_leapsLeft.innerL_len]; simp [ih]
    · simp [ih]
theorem at_app (s : ByteArray) (leap : Int) (c : Int) (d : Nat) (hd : d ≤ s.size) : impl_leapsLeft.at (s.size : Int) leap (List.replicate (s.size - d) c ++ -1 :: leftF s leap d) ((s.size : Int) - d) = List.replicate (s.size - d) c ++ impl_leapsLeft.innerL (min ((s.size : Int) - d + leap) ((s.size : Int) + 1) - ((s.size : Int) - d)).toNat (-1 :: leftF s leap d) 0 1 := by
  unfold impl_leapsLeft.at
  have hl : ((List.replicate (s.size - d) c).length : Int) = (s.size : Int) - d := by rw [List.length_replicate]; omega
  rw [innerL_app _ _ _ _ _ (by omega) (by omega), hl, show (s.size : Int) - d - ((s.size : Int) - d) = 0 by omega, show (s.size : Int) - d + 1 - ((s.size : Int) - d) = 1 by omega]
theorem rep_succ_app (n : Nat) (c : Int) (B : List Int) : List.replicate (n + 1) c ++ B = List.replicate n c ++ c :: B := by
  rw [List.replicate_succ', List.append_assoc]; rfl
theorem implRow_fold (s : ByteArray) (leap : Int) (d : Nat) : ∀ (_ : d ≤ s.size + 1), (stFrom s (d + 1) ((s.size : Int) + 1 - d)).foldr (fun f xs => impl_leapsLeft.at (s.size : Int) leap xs f) (impl_leapsLeft.start s.size) = List.replicate (s.size + 1 - d) (-1) ++ leftF s leap d := by
  induction d with
  | zero =>
    intro _
    have h1 : stB s ((s.size : Int) + 1 - (0 : Nat)) = true := by unfold stB; simp
    have e : stFrom s (0 + 1) ((s.size : Int) + 1 - (0 : Nat)) = [(s.size : Int) + 1] := by simp only [stFrom]; rw [if_pos h1]; simp
    rw [e]
    show impl_leapsLeft.at (s.size : Int) leap (impl_leapsLeft.start s.size) ((s.size : Int) + 1) = _
    unfold impl_leapsLeft.at
    have h0 : (min ((s.size : Int) + 1 + leap) ((s.size : Int) + 1) - ((s.size : Int) + 1)).toNat = 0 := by omega
    rw [h0]
    simp only [impl_leapsLeft.innerL, leftF]
    unfold impl_leapsLeft.start
    rw [List.replicate_succ' (n := s.size + 1), List.set_append, if_neg (by simp)]
    simp
  | succ d ih =>
    intro hd
    have ih := ih (by omega)
    have e1 : (s.size : Int) + 1 - (d + 1 : Nat) = (s.size : Int) - d := by omega
    have e2 : (s.size : Int) - d + 1 = (s.size : Int) + 1 - d := by omega
    rw [e1]
    simp only [stFrom]
    simp only [stFrom] at ih
    rw [e2]
    have e3 : s.size + 1 - d = (s.size - d) + 1 := by omega
    have e4 : s.size + 1 - (d + 1) = s.size - d := by omega
    rw [e3, rep_succ_app] at ih
    rw [e4]
    by_cases hst : stB s ((s.size : Int) - d) = true
    · rw [if_pos hst, List.foldr_cons, ih, at_app s leap (-1) d (by omega)]
      simp only [leftF]
      rw [if_pos hst]
    · rw [if_neg hst, ih]
      simp only [leftF]
      rw [if_neg hst]
/-- The whole row. -/
def LL (s : ByteArray) (leap : Int) : List Int := leftF s leap (s.size + 1)
theorem LL_len (s : ByteArray) (leap : Int) : (LL s leap).length = s.size + 2 := leftF_len s leap (s.size + 1)
theorem implRow_eq (s : ByteArray) (leap : Int) : impl_leapsLeft.row s.size leap ((0 : Int) :: stFrom s (s.size + 1) 1).reverse = LL s leap := by
  unfold impl_leapsLeft.row LL
  rw [List.foldl_reverse]
  have h := implRow_fold s leap (s.size + 1) (Nat.le_refl _)
  rw [show (s.size : Int) + 1 - (s.size + 1 : Nat) = 0 by omega, show s.size + 1 - (s.size + 1) = 0 by omega] at h
  have e : stFrom s (s.size + 1 + 1) 0 = 0 :: stFrom s (s.size + 1) 1 := by
    have h0 : stB s 0 = true := by unfold stB; simp
    rw [show stFrom s (s.size + 1 + 1) 0 = if stB s 0 = true then 0 :: stFrom s (s.size + 1) (0 + 1) else stFrom s (s.size + 1) (0 + 1) from rfl, if_pos h0]
    rfl
  rw [e] at h
  rw [h]; rfl
theorem implLeft_eq (s : ByteArray) (hs : s.size ≤ 40) (leap : Int) (hl : 1 ≤ leap ∧ leap ≤ 50) {k : Nat} (hk : s.size < k) : impl_leapsLeft.f k s leap = some (LL s leap) := by
  unfold impl_leapsLeft.f
  rw [stand_eq s hs hk]
  simp only [Option.bind_some]
  have hlen := stFrom_len s (s.size + 1) 1
  rw [if_pos ?_, implRow_eq]
  refine ⟨⟨by omega, by omega, by omega⟩, ⟨by simp, by simp; omega⟩, ?_⟩
  unfold impl_leapsLeft.okB
  rw [List.all_eq_true]
  intro x hx
  apply decide_eq_true
  rcases List.mem_cons.1 hx with e | e
  · omega
  · have := ((stFrom_mem s _ _ _).1 e).1; omega
theorem specLeft_l1 (s : ByteArray) (hs : s.size ≤ 40) (leap : Int) (hl : 1 ≤ leap ∧ leap ≤ 50) (p : Int) (hp : 0 ≤ p ∧ p ≤ s.size) (R : List Int) (n : Nat) : ∀ (k K : Nat) (xs : List Int) (t : Int), (min (p + leap) ((s.size : Int) + 1) + 1 - t).toNat = n → p < t → t ≤ (s.size : Int) + 2 → xs.length = s.size + 2 → (∀ k', K ≤ k' → spec_rvLeft.l0 k' s leap ((s.size : Int) + 1) (impl_leapsLeft.innerL n xs p t) (p - 1) = some R) → K + 2 * n + 2 ≤ k → spec_rvLeft.l1 k s leap ((s.size : Int) + 1) xs p t = some R := by
  induction n with
  | zero =>
    intro k K xs t hn ht0 ht1 hx hK hk
    obtain ⟨k, rfl⟩ : ∃ m, k = m + 1 + 1 := ⟨k - 2, by omega⟩
    simp only [spec_rvLeft.l1]
    have hstop : ∀ b : Bool, b = false → spec_rvLeft.j2 (k + 1) s leap ((s.size : Int) + 1) xs p t b = some R := fun b hb => by
      simp only [spec_rvLeft.j2, hb]
      rw [if_neg (by simp), w64 (x := p - 1) (by omega) (by omega)]
      exact hK k (by omega)
    rw [w64 (x := p + leap) (by omega) (by omega)]
    by_cases h1 : t ≤ (s.size : Int) + 1
    · rw [if_pos h1]; exact hstop _ (decide_eq_false (by omega))
    · rw [if_neg h1]; exact hstop _ rfl
  | succ n ih =>
    intro k K xs t hn ht0 ht1 hx hK hk
    obtain ⟨k, rfl⟩ : ∃ m, k = m + 1 + 1 := ⟨k - 2, by omega⟩
    have hgo := fun (ys : List Int) (hy : ys.length = s.size + 2) (he : impl_leapsLeft.innerL (n + 1) xs p t = impl_leapsLeft.innerL n ys p (t + 1)) => ih k K ys (t + 1) (by omega) (by omega) (by omega) hy (fun k' hk' => by rw [← he]; exact hK k' hk') (by omega)
    have hin : impl_leapsLeft.innerL (n + 1) xs p t = impl_leapsLeft.innerL n (impl_leapsLeft.stepL xs p t) p (t + 1) := rfl
    simp only [spec_rvLeft.l1]
    rw [w64 (x := p + leap) (by omega) (by omega), if_pos (by omega), decide_eq_true (show t ≤ p + leap by omega)]
    simp only [spec_rvLeft.j2]
    rw [if_pos trivial, if_pos (by omega), if_pos (by omega), w64 (x := t + 1) (by omega) (by omega)]
    by_cases c1 : rd xs t ≥ 0
    · rw [if_pos c1, if_pos (by omega), if_pos (by omega)]
      by_cases c2 : rd xs p < 0
      · rw [if_pos c2]
        exact hgo _ (by simp [hx]) (by rw [hin]; unfold impl_leapsLeft.stepL; rw [if_pos ⟨c1, .inl c2⟩])
      · rw [if_neg c2]
        by_cases c3 : wrap64 (rd xs t + 1) < rd xs p
        · rw [if_pos c3]
          exact hgo _ (by simp [hx]) (by rw [hin]; unfold impl_leapsLeft.stepL; rw [if_pos ⟨c1, .inr c3⟩])
        · rw [if_neg c3]
          exact hgo _ hx (by rw [hin]; unfold impl_leapsLeft.stepL; rw [if_neg (fun h => h.2.elim c2 c3)])
    · rw [if_neg c1]
      exact hgo _ hx (by rw [hin]; unfold impl_leapsLeft.stepL; rw [if_neg (fun h => c1 h.1)])
theorem specLeft_l0 (s : ByteArray) (hs : s.size ≤ 40) (leap : Int) (hl : 1 ≤ leap ∧ leap ≤ 50) (m : Nat) : ∀ (k d : Nat), d + m = s.size + 1 → 120 * m + 1 ≤ k → spec_rvLeft.l0 k s leap ((s.size : Int) + 1) (List.replicate m 0 ++ leftF s leap d) ((m : Int) - 1) = some (LL s leap) := by
  induction m with
  | zero =>
    intro k d hd hk
    obtain ⟨k, rfl⟩ : ∃ j, k = j + 1 := ⟨k - 1, by omega⟩
    obtain rfl : d = s.size + 1 := by omega
    simp only [spec_rvLeft.l0]
    rw [if_neg (by omega)]; rfl
  | succ m ih =>
    intro k d hd hk
    obtain ⟨k, rfl⟩ : ∃ j, k = j + 1 := ⟨k - 1, by omega⟩
    have em : ((m + 1 : Nat) : Int) - 1 = (m : Int) := by omega
    have hd1 : (m : Int) = (s.size : Int) - d := by omega
    have hml : s.size - d = m := by omega
    have hll := leftF_len s leap d
    rw [em]
    simp only [spec_rvLeft.l0]
    rw [if_pos (by omega), if_pos (by omega), if_pos (by simp; omega), rvStand_eq s hs (m : Int) (by omega) (by omega), w64 (x := (m : Int) + 1) (by omega) (by omega), w64 (x := (m : Int) - 1) (by omega) (by omega)]
    have e1 : ((List.replicate (m + 1) (0 : Int)) ++ leftF s leap d).set ((m : Int)).toNat (-1) = List.replicate m 0 ++ -1 :: leftF s leap d := by
      rw [rep_succ_app, List.set_append, if_neg (by simp)]
      simp
    rw [e1]
    simp only [Option.bind_some]
    have hat := at_app s leap 0 d (by omega)
    rw [hml] at hat
    by_cases hst : stB s (m : Int) = true
    · rw [if_pos hst]
      refine specLeft_l1 s hs leap hl (m : Int) (by omega) _ _ k (120 * m + 1) _ _ rfl (by omega) (by omega) (by simp [hll]; omega) (fun k' hk' => ?_) (by omega)
      have h2 : impl_leapsLeft.innerL (min ((m : Int) + leap) ((s.size : Int) + 1) + 1 - ((m : Int) + 1)).toNat (List.replicate m 0 ++ -1 :: leftF s leap d) (m : Int) ((m : Int) + 1) = List.replicate m 0 ++ leftF s leap (d + 1) := by
        rw [show (min ((m : Int) + leap) ((s.size : Int) + 1) + 1 - ((m : Int) + 1)) = min ((m : Int) + leap) ((s.size : Int) + 1) - (m : Int) by omega]
        unfold impl_leapsLeft.at at hat
        rw [← hd1] at hat
        rw [hat]
        simp only [leftF]
        rw [← hd1, if_pos hst]
      rw [h2]
      exact ih k' (d + 1) (by omega) (by omega)
    · rw [if_neg hst]
      have h2 : -1 :: leftF s leap d = leftF s leap (d + 1) := by
        simp only [leftF]
        rw [← hd1, if_neg hst]
      rw [h2]
      exact ih k (d + 1) (by omega) (by omega)
theorem specLeft_eq (s : ByteArray) (hs : s.size ≤ 40) (leap : Int) (hl : 1 ≤ leap ∧ leap ≤ 50) {k : Nat} (hk : 5000 ≤ k) : spec_rvLeft.f k s leap = some (LL s leap) := by
  unfold spec_rvLeft.f
  have e1 : wrap64 ((s.size : Int) + 1) = (s.size : Int) + 1 := w64 (by omega) (by omega)
  rw [e1, w64 (x := (s.size : Int) + 1 + 1) (by omega) (by omega), w64 (x := (s.size : Int) + 1 - 1) (by omega) (by omega), if_pos (by omega), if_pos (by omega)]
  have e2 : List.replicate ((s.size : Int) + 1 + 1).toNat (0 : Int) = List.replicate (s.size + 1) 0 ++ leftF s leap 0 := by
    rw [show ((s.size : Int) + 1 + 1).toNat = s.size + 1 + 1 by omega, List.replicate_succ']; rfl
  rw [e2, show (s.size : Int) + 1 - 1 = ((s.size + 1 : Nat) : Int) - 1 by omega]
  exact specLeft_l0 s hs leap hl (s.size + 1) k 0 (by omega) (by omega)
theorem stFrom_last (s : ByteArray) (d : Nat) : ∀ (p : Int), stB s (p + d) = true → stFrom s (d + 1) p = stFrom s d p ++ [p + d] := by
  induction d with
  | zero =>
    intro p h
    have h : stB s p = true := by simpa using h
    simp only [stFrom]
    rw [if_pos h]
    simp
  | succ d ih =>
    intro p h
    have h2 := ih (p + 1) (by rw [show p + 1 + (d : Int) = p + ((d + 1 : Nat) : Int) by omega]; exact h)
    rw [show stFrom s (d + 1 + 1) p = if stB s p = true then p :: stFrom s (d + 1) (p + 1) else stFrom s (d + 1) (p + 1) from rfl, h2, show stFrom s (d + 1) p = if stB s p = true then p :: stFrom s d (p + 1) else stFrom s d (p + 1) from rfl]
    rw [show p + 1 + (d : Int) = p + ((d + 1 : Nat) : Int) by omega]
    split <;> simp
theorem eqIntS_l0 (l : List Int) (hl : l.length < 4611686018427387904) (d : Nat) : ∀ (k : Nat) (i : Int), 0 ≤ i → (l.length : Int) - i ≤ d → d < k → laws_eqIntS.l0 k l l i = some true := by
  induction d with
  | zero =>
    intro k i h0 hd hk
    obtain ⟨k, rfl⟩ : ∃ m, k = m + 1 := ⟨k - 1, by omega⟩
    simp only [laws_eqIntS.l0]; rw [if_neg (by omega)]
  | succ d ih =>
    intro k i h0 hd hk
    obtain ⟨k, rfl⟩ : ∃ m, k = m + 1 := ⟨k - 1, by omega⟩
    simp only [laws_eqIntS.l0]
    by_cases hlt : i < (l.length : Int)
    · rw [if_pos hlt, if_pos h0, if_pos hlt, if_pos trivial, w64 (by omega) (by omega)]
      exact ih k (i + 1) (by omega) (by omega) (by omega)
    · rw [if_neg hlt]
theorem eqIntS_self (l : List Int) (hl : l.length < 4611686018427387904) {k : Nat} (hk : l.length < k) : laws_eqIntS.f k l l = some true := by
  unfold laws_eqIntS.f
  rw [if_pos rfl]
  exact eqIntS_l0 l hl l.length k 0 (by omega) (by omega) hk
theorem rd_set (l : List Int) (i j v : Int) (h0 : 0 ≤ i) (h1 : i < l.length) (h2 : 0 ≤ j) : rd (l.set i.toNat v) j = if j = i then v else rd l j := by
  unfold rd
  rw [List.getD_eq_getElem?_getD, List.getD_eq_getElem?_getD, List.getElem?_set]
  by_cases e : j = i
  · subst e; rw [if_pos rfl, if_pos rfl, if_pos (by omega)]; rfl
  · rw [if_neg e, if_neg (by omega)]
theorem markIntS_l0 (d : Nat) : ∀ (k : Nat) (l : List Int) (v i : Int), l.length < 4611686018427387904 → 0 ≤ i → i ≤ l.length → (l.length : Int) - i ≤ d → d < k → 0 ≤ v → v + ((l.length : Int) - i) < 9223372036854775807 →
    ∃ m, laws_markIntS.l0 k l v i = some (v + ((l.length : Int) - i), m) ∧ m.length = l.length ∧ (∀ j : Int, 0 ≤ j → j < i → rd m j = rd l j) ∧ ∀ j : Int, i ≤ j → j < l.length → rd m j = v + (j - i) := by
  induction d with
  | zero =>
    intro k l v i hl h0 hi hd hk hv hb
    obtain ⟨k, rfl⟩ : ∃ m, k = m + 1 := ⟨k - 1, by omega⟩
    refine ⟨l, ?_, rfl, fun _ _ _ => rfl, fun j h1 h2 => by omega⟩
    simp only [laws_markIntS.l0]; rw [if_neg (by omega)]; congr 2; omega
  | succ d ih =>
    intro k l v i hl h0 hi hd hk hv hb
    obtain ⟨k, rfl⟩ : ∃ m, k = m + 1 := ⟨k - 1, by omega⟩
    simp only [laws_markIntS.l0]
    by_cases hlt : i < (l.length : Int)
    · rw [if_pos hlt, if_pos h0, w64 (by omega) (by omega), w64 (by omega) (by omega)]
      have hlen : (l.set i.toNat v).length = l.length := by simp
      obtain ⟨m, hm, hml, hm1, hm2⟩ := ih k (l.set i.toNat v) (v + 1) (i + 1) (by omega) (by omega) (by omega) (by omega) (by omega) (by omega) (by omega)
      rw [hlen] at hm hml hm2
      refine ⟨m, by rw [hm]; congr 2; omega, hml, ?_, ?_⟩
      · intro j h1 h2
        rw [hm1 j h1 (by omega), rd_set l i j v h0 hlt h1, if_neg (by omega)]
      · intro j h1 h2
        by_cases e : j = i
        · subst e; rw [hm1 j h0 (by omega), rd_set l j j v h0 hlt h0, if_pos rfl]; omega
        · rw [hm2 j (by omega) h2]; omega
    · rw [if_neg hlt]
      exact ⟨l, by congr 2; omega, rfl, fun _ _ _ => rfl, fun j h1 h2 => by omega⟩
theorem heldIntS_l0 (m : List Int) (hl : m.length < 4611686018427387904) (d : Nat) : ∀ (k : Nat) (v i : Int), 0 ≤ i → i ≤ m.length → (m.length : Int) - i ≤ d → d < k → 0 ≤ v → v + ((m.length : Int) - i) < 9223372036854775807 → (∀ j : Int, i ≤ j → j < m.length → rd m j = v + (j - i)) → laws_heldIntS.l0 k m v i = some (v + ((m.length : Int) - i)) := by
  induction d with
  | zero =>
    intro k v i h0 hi hd hk hv hb h
    obtain ⟨k, rfl⟩ : ∃ m, k = m + 1 := ⟨k - 1, by omega⟩
    simp only [laws_heldIntS.l0]; rw [if_neg (by omega)]; congr 1; omega
  | succ d ih =>
    intro k v i h0 hi hd hk hv hb h
    obtain ⟨k, rfl⟩ : ∃ m, k = m + 1 := ⟨k - 1, by omega⟩
    simp only [laws_heldIntS.l0]
    by_cases hlt : i < (m.length : Int)
    · rw [if_pos hlt, if_pos h0, if_pos (by rw [h i (by omega) hlt]; omega), w64 (by omega) (by omega), w64 (by omega) (by omega), ih k (v + 1) (i + 1) (by omega) (by omega) (by omega) (by omega) (by omega) (by omega) (fun j h1 h2 => by rw [h j (by omega) h2]; omega)]
      congr 1; omega
    · rw [if_neg hlt]; congr 1; omega
theorem mark_held (l : List Int) (hl : l.length < 1000000) : ∃ m, m.length = l.length ∧ (∀ k, l.length < k → laws_markIntS.f k l 1 = some (1 + (l.length : Int), m)) ∧ ∀ k, l.length < k → laws_heldIntS.f k m 1 = some (1 + (l.length : Int)) := by
  obtain ⟨m, hm, hml, _, hm2⟩ := markIntS_l0 l.length (l.length + 1) l 1 0 (by omega) (by omega) (by omega) (by omega) (by omega) (by omega) (by omega)
  refine ⟨m, hml, fun k hk => ?_, fun k hk => ?_⟩
  · have := at_rounds (g := fun k => laws_markIntS.f k l 1) (fun k => laws_markIntS.mono l 1 k) (show l.length + 1 ≤ k by omega) hm
    rw [this]; congr 2 <;> omega
  · unfold laws_heldIntS.f
    rw [heldIntS_l0 m (by omega) m.length k 1 0 (by omega) (by omega) (by omega) (by omega) (by omega) (by omega) (fun j h1 h2 => hm2 j h1 (by omega))]
    congr 1; omega
theorem go_eq (n : Int) (p : Int → Option Bool) (q : Int → Bool) (l : List Int) : ∀ (acc : List Int), (∀ x ∈ l, 1 ≤ x ∧ x ≤ n → p x = some (q x)) → impl_IdleStones.go n p l acc = some (acc ++ l.filter (fun x => decide (1 ≤ x ∧ x ≤ n) && q x)) := by
  induction l with
  | nil => intro acc _; simp [impl_IdleStones.go]
  | cons x l ih =>
    intro acc h
    simp only [impl_IdleStones.go]
    have hl := fun y hy => h y (List.mem_cons_of_mem _ hy)
    by_cases c : 1 ≤ x ∧ x ≤ n
    · rw [if_pos c, h x List.mem_cons_self c]
      simp only [Option.bind_some]
      rw [ih _ hl]
      cases hq : q x
      · simp [hq, List.filter_cons]
      · simp [hq, List.filter_cons, c]
    · rw [if_neg c, ih _ hl]
      have : decide (1 ≤ x ∧ x ≤ n) = false := decide_eq_false c
      rw [List.filter_cons, this]; simp
theorem filt_eq (s : ByteArray) (q : Int → Bool) : ((0 : Int) :: stFrom s (s.size + 1) 1).filter (fun x => decide (1 ≤ x ∧ x ≤ (s.size : Int)) && q x) = (stFrom s s.size 1).filter q := by
  have h := stFrom_last s s.size 1 (by unfold stB; rw [show (1 : Int) + (s.size : Int) = (s.size : Int) + 1 by omega]; simp)
  rw [h, List.filter_cons, List.filter_append]
  have e1 : decide ((1 : Int) ≤ 0 ∧ (0 : Int) ≤ (s.size : Int)) = false := decide_eq_false (by omega)
  have e2 : decide ((1 : Int) ≤ 1 + (s.size : Int) ∧ 1 + (s.size : Int) ≤ (s.size : Int)) = false := decide_eq_false (by omega)
  have e3 : (stFrom s s.size 1).filter (fun x => decide (1 ≤ x ∧ x ≤ (s.size : Int)) && q x) = (stFrom s s.size 1).filter q := by
    apply List.filter_congr
    intro x hx
    have := ((stFrom_mem s _ _ _).1 hx).1
    rw [decide_eq_true (show 1 ≤ x ∧ x ≤ (s.size : Int) by omega)]; rfl
  rw [e3]
  simp [e1, List.filter_cons]
  intro h1 h2; omega
theorem st_eq (s : ByteArray) (hs : s.size ≤ 40) (p : Int → Option Bool) (q : Int → Bool) (k : Nat) (hk : s.size < k) (h : ∀ x, 1 ≤ x → x ≤ (s.size : Int) → p x = some (q x)) : impl_IdleStones.st k s p = some ((stFrom s s.size 1).filter q) := by
  have h1 := stand_eq s hs hk
  have hlen := stFrom_len s (s.size + 1) 1
  have h2 : 1 ≤ ((0 : Int) :: stFrom s (s.size + 1) 1).length ∧ ((0 : Int) :: stFrom s (s.size + 1) 1).length ≤ 1000 := ⟨by simp, by simp; omega⟩
  unfold impl_IdleStones.st
  rw [h1]
  simp only [Option.bind_some]
  rw [if_pos h2, go_eq (s.size : Int) p q _ [] (fun x _ hx => h x hx.1 hx.2), filt_eq]
  simp
theorem law_of (s : ByteArray) (leap : Int) (L : List Int) (b : Bool) (hL : L.length < 3000) (hb : ¬ (s.size : Int) > 1048576) (hs : ∀ k, 10000 ≤ k → spec_IdleStones.f k s leap = some (L, b)) (hi : ∀ k, 10000 ≤ k → impl_IdleStones.f k s leap = some (L, b)) : ∃ k, laws_FnExactIdleStones.f k s leap = some true := by
  obtain ⟨m, hml, hm, hh⟩ := mark_held L (by omega)
  obtain ⟨k, hk⟩ : ∃ k : Nat, 10000 ≤ k := ⟨10000, Nat.le_refl _⟩
  refine ⟨k + 1 + 1, ?_⟩
  unfold laws_FnExactIdleStones.f
  rw [if_neg hb, hs _ (by omega), hi _ (by omega)]
  simp only [Option.bind_some, eqIntS_self L (by omega) (show L.length < k + 1 + 1 by omega), if_true, bne_self_eq_false]
  simp only [laws_FnExactIdleStones.j0]
  rw [if_neg (by simp), hm (k + 1) (by omega)]
  simp only [Option.bind_some, hh (k + 1) (by omega)]
  rw [if_neg (by omega), if_pos trivial, hi (k + 1) (by omega)]
  simp only [Option.bind_some, eqIntS_self L (by omega) (show L.length < k + 1 by omega), if_true, bne_self_eq_false]
  simp only [laws_FnExactIdleStones.j1]
  rw [if_neg (by simp), hh k (by omega)]
  simp only [Option.bind_some]
  rw [if_neg (by omega), if_pos trivial]
theorem rdOf_set (l : List Bool) (i j : Int) (v : Bool) (h0 : 0 ≤ i) (h1 : i < l.length) (h2 : 0 ≤ j) : rdOf false (l.set i.toNat v) j = if j = i then v else rdOf false l j := by
  unfold rdOf
  rw [List.getD_eq_getElem?_getD, List.getD_eq_getElem?_getD, List.getElem?_set]
  by_cases e : j = i
  · subst e; rw [if_pos rfl, if_pos rfl, if_pos (by omega)]; rfl
  · rw [if_neg e, if_neg (by omega)]
/-- The farthest place, over a list of places. -/
def reachF (leap : Int) : List Int → Int → Int
  | [], now => now
  | p :: rest, now => if p - now ≤ leap then reachF leap rest p else reachF leap rest now
/-- What is known of the places reached, those before p having been looked at: 'now' is the farthest. -/
def Inv (s : ByteArray) (leap : Int) (B : List Bool) (p now : Int) : Prop := B.length = s.size + 2 ∧ 0 ≤ now ∧ now < p ∧ rdOf false B now = true ∧ (∀ q : Int, 0 ≤ q → q < p → rdOf false B q = true → q ≤ now ∧ stB s q = true) ∧ (∀ q : Int, p ≤ q → q < (s.size + 2 : Nat) → rdOf false B q = false) ∧ (∀ q : Int, 0 ≤ q → q ≤ now → stB s q = true → rdOf false B q = true) ∧ ∀ q : Int, now < q → q < p → stB s q = true → leap < q - now
theorem reach_l1 (s : ByteArray) (hs : s.size ≤ 40) (leap e : Int) (p : Int) (hp : 1 ≤ p ∧ p ≤ (s.size : Int) + 1) (hst : stB s p = true) (R : List Bool) (n : Nat) : ∀ (k K : Nat) (B : List Bool) (b : Int), p - b ≤ n → 0 ≤ b → b ≤ p → B.length = s.size + 2 → n + K < k →
    (∀ B' : List Bool, B'.length = s.size + 2 → (∀ q : Int, 0 ≤ q → q ≠ p → rdOf false B' q = rdOf false B q) → (rdOf false B' p = true ↔ rdOf false B p = true ∨ ∃ q : Int, (b ≤ q ∧ q < p) ∧ rdOf false B q = true) → ∀ k', K ≤ k' → spec_rvReach.l0 k' s leap e B' (p + 1) = some R) → spec_rvReach.l1 k s leap e B p b = some R := by
  induction n with
  | zero =>
    intro k K B b hd h0 h1 hB hk hK
    obtain ⟨k, rfl⟩ : ∃ m, k = m + 1 := ⟨k - 1, by omega⟩
    simp only [spec_rvReach.l1]
    rw [if_neg (by omega), w64 (x := p + 1) (by omega) (by omega)]
    refine hK B hB (fun _ _ _ => rfl) ⟨.inl, fun h => h.elim id (fun ⟨q, hq, _⟩ => by omega)⟩ k (by omega)
  | succ n ih =>
    intro k K B b hd h0 h1 hB hk hK
    obtain ⟨k, rfl⟩ : ∃ m, k = m + 1 := ⟨k - 1, by omega⟩
    simp only [spec_rvReach.l1]
    by_cases hlt : b < p
    · rw [if_pos hlt, rvStand_eq s hs p (by omega) (by omega), hst]
      simp only [Option.bind_some]
      rw [if_pos trivial, if_pos (by omega), if_pos (by omega), w64 (x := b + 1) (by omega) (by omega)]
      by_cases hbp : rdOf false B p = true
      · rw [if_pos hbp]
        refine ih k K _ (b + 1) (by omega) (by omega) (by omega) (by simp [hB]) (by omega) (fun B' hl hq hpi k' hk' => hK B' hl (fun q h2 h3 => by rw [hq q h2 h3, rdOf_set B p q true (by omega) (by omega) h2, if_neg h3]) ?_ k' hk')
        rw [hpi, rdOf_set B p p true (by omega) (by omega) (by omega), if_pos rfl]
        exact ⟨fun _ => .inl hbp, fun _ => .inl rfl⟩
      · rw [if_neg hbp, if_pos h0, if_pos (by omega)]
        refine ih k K _ (b + 1) (by omega) (by omega) (by omega) (by simp [hB]) (by omega) (fun B' hl hq hpi k' hk' => hK B' hl (fun q h2 h3 => by rw [hq q h2 h3, rdOf_set B p q _ (by omega) (by omega) h2, if_neg h3]) ?_ k' hk')
        rw [hpi, rdOf_set B p p _ (by omega) (by omega) (by omega), if_pos rfl]
        constructor
        · rintro (h | ⟨q, hq, h⟩)
          · exact .inr ⟨b, ⟨by omega, hlt⟩, h⟩
          · rw [rdOf_set B p q _ (by omega) (by omega) (by omega), if_neg (by omega)] at h
            exact .inr ⟨q, ⟨by omega, hq.2⟩, h⟩
        · rintro (h | ⟨q, hq, h⟩)
          · exact absurd h hbp
          · by_cases e2 : q = b
            · subst e2; exact .inl h
            · exact .inr ⟨q, ⟨by omega, hq.2⟩, by rw [rdOf_set B p q _ (by omega) (by omega) (by omega), if_neg (by omega)]; exact h⟩
    · rw [if_neg hlt, w64 (x := p + 1) (by omega) (by omega)]
      refine hK B hB (fun _ _ _ => rfl) ⟨.inl, fun h => h.elim id (fun ⟨q, hq, _⟩ => by omega)⟩ k (by omega)
theorem reach_l1_no (s : ByteArray) (hs : s.size ≤ 40) (leap e : Int) (p b : Int) (hp : 1 ≤ p ∧ p ≤ (s.size : Int) + 1) (hst : ¬ stB s p = true) (B : List Bool) (k : Nat) : spec_rvReach.l1 (k + 1) s leap e B p b = spec_rvReach.l0 k s leap e B (p + 1) := by
  simp only [spec_rvReach.l1]
  rw [w64 (x := p + 1) (by omega) (by omega)]
  by_cases hlt : b < p
  · rw [if_pos hlt, rvStand_eq s hs p (by omega) (by omega)]
    simp only [Option.bind_some]
    rw [if_neg hst]
  · rw [if_neg hlt]
theorem l1Most_eq (x : Int) : spec_l1Most.f 0 x = some (if 0 > x then 0 else x) := by
  unfold spec_l1Most.f
  by_cases h : (0 : Int) > x
  · rw [if_pos h, if_pos h]
  · rw [if_neg h, if_neg h]
theorem reach_l0 (s : ByteArray) (hs : s.size ≤ 40) (leap : Int) (hl : 1 ≤ leap ∧ leap ≤ 50) (d : Nat) : ∀ (k : Nat) (B : List Bool) (p now : Int), 1 ≤ p → (s.size : Int) + 2 - p = d → 60 * d < k → Inv s leap B p now →
    ∃ B', spec_rvReach.l0 k s leap ((s.size : Int) + 1) B p = some B' ∧ Inv s leap B' ((s.size : Int) + 2) (reachF leap (stFrom s d p) now) := by
  induction d with
  | zero =>
    intro k B p now hp hd hk hI
    obtain ⟨k, rfl⟩ : ∃ m, k = m + 1 := ⟨k - 1, by omega⟩
    obtain rfl : p = (s.size : Int) + 2 := by omega
    refine ⟨B, ?_, hI⟩
    simp only [spec_rvReach.l0]
    rw [if_neg (by omega)]
  | succ d ih =>
    intro k B p now hp hd hk hI
    obtain ⟨k, rfl⟩ : ∃ m, k = m + 1 := ⟨k - 1, by omega⟩
    simp only [spec_rvReach.l0, stFrom]
    rw [if_pos (by omega), w64 (x := p - leap) (by omega) (by omega), l1Most_eq]
    simp only [Option.bind_some]
    obtain ⟨b, hb⟩ : ∃ b : Int, (if 0 > p - leap then 0 else p - leap) = b := ⟨_, rfl⟩
    have hb0 : 0 ≤ b ∧ b ≤ p ∧ p - leap ≤ b ∧ (b = 0 ∨ b = p - leap) := by
      rw [← hb]; split <;> omega
    rw [hb]
    obtain ⟨i1, i2, i3, i4, i5, i6, i7, i8⟩ := hI
    by_cases hst : stB s p = true
    · rw [if_pos hst]
      simp only [reachF]
      -- what the looking back finds
      have hfind : (∃ q : Int, (b ≤ q ∧ q < p) ∧ rdOf false B q = true) ↔ p - now ≤ leap := by
        constructor
        · rintro ⟨q, hq, h⟩
          have := (i5 q (by omega) hq.2 h).1
          omega
        · intro h
          refine ⟨now, ⟨?_, i3⟩, i4⟩
          omega
      have hnext : ∀ B' : List Bool, B'.length = s.size + 2 → (∀ q : Int, 0 ≤ q → q ≠ p → rdOf false B' q = rdOf false B q) → (rdOf false B' p = true ↔ rdOf false B p = true ∨ ∃ q : Int, (b ≤ q ∧ q < p) ∧ rdOf false B q = true) → Inv s leap B' (p + 1) (if p - now ≤ leap then p else now) := by
        intro B' hlen hq hpi
        have hBp : rdOf false B p = false := i6 p (by omega) (by omega)
        rw [hBp, hfind] at hpi
        by_cases hc : p - now ≤ leap
        · rw [if_pos hc]
          refine ⟨hlen, by omega, by omega, hpi.2 (.inr hc), fun q h1 h2 h3 => ?_, fun q h1 h2 => by rw [hq q (by omega) (by omega)]; exact i6 q (by omega) h2, fun q h1 h2 h3 => ?_, fun q h1 h2 _ => by omega⟩
          · by_cases e : q = p
            · subst e; exact ⟨Int.le_refl _, hst⟩
            · rw [hq q h1 e] at h3
              exact ⟨by omega, (i5 q h1 (by omega) h3).2⟩
          · by_cases e : q = p
            · subst e; exact hpi.2 (.inr hc)
            · rw [hq q h1 e]
              by_cases hle : q ≤ now
              · exact i7 q h1 hle h3
              · have := i8 q (by omega) (by omega) h3
                omega
        · rw [if_neg hc]
          have hpf : ¬ rdOf false B' p = true := fun h => by
            rcases hpi.1 h with h | h
            · cases h
            · exact hc h
          refine ⟨hlen, i2, by omega, by rw [hq now i2 (by omega)]; exact i4, fun q h1 h2 h3 => ?_, fun q h1 h2 => by rw [hq q (by omega) (by omega)]; exact i6 q (by omega) h2, fun q h1 h2 h3 => by rw [hq q h1 (by omega)]; exact i7 q h1 h2 h3, fun q h1 h2 h3 => by by_cases e : q = p; (subst e; omega); exact i8 q h1 (by omega) h3⟩
          by_cases e : q = p
          · subst e; exact absurd h3 hpf
          · rw [hq q h1 e] at h3; exact i5 q h1 (by omega) h3
      have hx : (if p - now ≤ leap then reachF leap (stFrom s d (p + 1)) p else reachF leap (stFrom s d (p + 1)) now) = reachF leap (stFrom s d (p + 1)) (if p - now ≤ leap then p else now) := by split <;> rfl
      rw [hx]
      -- the end of the inner loop is one list: take what the loop over the rest gives there
      have hall : ∀ R, (∀ B' : List Bool, B'.length = s.size + 2 → (∀ q : Int, 0 ≤ q → q ≠ p → rdOf false B' q = rdOf false B q) → (rdOf false B' p = true ↔ rdOf false B p = true ∨ ∃ q : Int, (b ≤ q ∧ q < p) ∧ rdOf false B q = true) → ∀ k', 60 * d + 1 ≤ k' → spec_rvReach.l0 k' s leap ((s.size : Int) + 1) B' (p + 1) = some R) → spec_rvReach.l1 k s leap ((s.size : Int) + 1) B p b = some R := fun R hR =>
        reach_l1 s hs leap _ p (by omega) hst R 45 k (60 * d + 1) B b (by omega) hb0.1 hb0.2.1 i1 (by omega) hR
      -- all such lists are one
      have hone : ∀ B1 B2 : List Bool, B1.length = s.size + 2 → B2.length = s.size + 2 → (∀ q : Int, 0 ≤ q → q < (s.size : Int) + 2 → rdOf false B1 q = rdOf false B2 q) → B1 = B2 := by
        intro B1 B2 h1 h2 h
        apply List.ext_getElem (by omega)
        intro n hn1 hn2
        have := h n (by omega) (by omega)
        unfold rdOf at this
        rw [List.getD_eq_getElem?_getD, List.getD_eq_getElem?_getD] at this
        simpa [List.getElem?_eq_getElem hn1, List.getElem?_eq_getElem hn2] using this
      obtain ⟨B0, hB0⟩ : ∃ B0 : List Bool, B0 = if p - now ≤ leap then B.set p.toNat true else B := ⟨_, rfl⟩
      have hB0l : B0.length = s.size + 2 := by rw [hB0]; split <;> simp [i1]
      have hB0q : ∀ q : Int, 0 ≤ q → q ≠ p → rdOf false B0 q = rdOf false B q := by
        intro q h1 h2; rw [hB0]; split
        · rw [rdOf_set B p q true (by omega) (by omega) h1, if_neg h2]
        · rfl
      have hB0p : (rdOf false B0 p = true ↔ rdOf false B p = true ∨ ∃ q : Int, (b ≤ q ∧ q < p) ∧ rdOf false B q = true) := by
        rw [hfind, hB0]
        by_cases hc : p - now ≤ leap
        · rw [if_pos hc, rdOf_set B p p true (by omega) (by omega) (by omega), if_pos rfl]; exact ⟨fun _ => .inr hc, fun _ => rfl⟩
        · rw [if_neg hc]; exact ⟨.inl, fun h => h.elim id (fun h => absurd h hc)⟩
      obtain ⟨B', hB', hI'⟩ := ih (60 * d + 1) B0 (p + 1) _ (by omega) (by omega) (by omega) (hnext B0 hB0l hB0q hB0p)
      refine ⟨B', hall B' (fun B1 h1 h2 h3 k' hk' => ?_), hI'⟩
      have e : B1 = B0 := hone B1 B0 h1 hB0l (fun q hq0 hq1 => by
        by_cases e : q = p
        · subst e
          cases hx1 : rdOf false B1 q with
          | true => exact (hB0p.2 (h3.1 hx1)).symm
          | false =>
            cases hx0 : rdOf false B0 q with
            | true => rw [h3.2 (hB0p.1 hx0)] at hx1; cases hx1
            | false => rfl
        · rw [h2 q hq0 e, hB0q q hq0 e])
      rw [e]
      obtain ⟨j, rfl⟩ : ∃ j, k' = 60 * d + 1 + j := ⟨k' - (60 * d + 1), by omega⟩
      have hm : ∀ j, spec_rvReach.l0 (60 * d + 1 + j) s leap ((s.size : Int) + 1) B0 (p + 1) = some B' := fun j => more_rounds (g := fun k => spec_rvReach.l0 k s leap ((s.size : Int) + 1) B0 (p + 1)) (fun k => (spec_rvReach.mono_l k).1 _ _ _ _ _) (60 * d + 1) j _ hB'
      exact hm j
    · rw [if_neg hst]
      obtain ⟨k, rfl⟩ : ∃ m, k = m + 1 := ⟨k - 1, by omega⟩
      rw [reach_l1_no s hs leap _ p b (by omega) hst]
      refine ih k B (p + 1) now (by omega) (by omega) (by omega) ⟨i1, i2, by omega, i4, fun q h1 h2 h3 => ?_, fun q h1 h2 => i6 q (by omega) h2, i7, fun q h1 h2 h3 => by by_cases e : q = p; (subst e; exact absurd h3 hst); exact i8 q h1 (by omega) h3⟩
      by_cases e : q = p
      · subst e; rw [i6 q (by omega) (by omega)] at h3; cases h3
      · exact i5 q h1 (by omega) h3
theorem reach_eq (s : ByteArray) (hs : s.size ≤ 40) (leap : Int) (hl : 1 ≤ leap ∧ leap ≤ 50) {k : Nat} (hk : 2601 ≤ k) : ∃ B, spec_rvReach.f k s leap = some B ∧ Inv s leap B ((s.size : Int) + 2) (reachF leap (stFrom s (s.size + 1) 1) 0) := by
  have e1 : wrap64 ((s.size : Int) + 1) = (s.size : Int) + 1 := w64 (by omega) (by omega)
  have e2 : wrap64 ((s.size : Int) + 1 + 1) = (s.size : Int) + 2 := by rw [w64 (by omega) (by omega)]; omega
  unfold spec_rvReach.f
  rw [e1, e2, if_pos (by omega), if_pos (by omega)]
  simp only [Option.bind_some]
  have e3 : ((s.size : Int) + 2).toNat = s.size + 2 := by omega
  rw [e3, if_pos (by simp; omega)]
  have hrep : ∀ q : Int, rdOf false (List.replicate (s.size + 2) false) q = false := fun q => by
    unfold rdOf
    rw [List.getD_eq_getElem?_getD, List.getElem?_replicate]
    split <;> rfl
  refine reach_l0 s hs leap hl (s.size + 1) k _ 1 0 (by omega) (by omega) (by omega) ⟨by simp, by omega, by omega, ?_, fun q h1 h2 _ => ⟨by omega, by (rw [show q = 0 by omega]; unfold stB; simp)⟩, fun q h1 h2 => ?_, fun q h1 h2 _ => ?_, fun q h1 h2 _ => by omega⟩
  · rw [rdOf_set _ 0 0 true (by omega) (by simp; omega) (by omega), if_pos rfl]
  · rw [rdOf_set _ 0 q true (by omega) (by simp; omega) (by omega), if_neg (by omega), hrep]
  · obtain rfl : q = 0 := by omega
    rw [rdOf_set _ 0 0 true (by omega) (by simp; omega) (by omega), if_pos rfl]
/-- A row whose positive numbers each have one less further on. -/
def Steps (B : List Int) (c : Int) : Prop := (∀ x ∈ B, -1 ≤ x ∧ x ≤ c) ∧ ∀ i : Int, 0 ≤ i → i < B.length → 0 < rd B i → ∃ j : Int, i < j ∧ j < B.length ∧ rd B j = rd B i - 1
theorem rd_cons (x : Int) (B : List Int) (i : Int) (h : 1 ≤ i) : rd (x :: B) i = rd B (i - 1) := by
  have := rd_app [x] B i (by simpa using h)
  simpa using this
theorem rd_head (x : Int) (B : List Int) : rd (x :: B) 0 = x := rfl
theorem rd_mem (B : List Int) (i : Int) (h0 : 0 ≤ i) (h1 : i < B.length) : rd B i ∈ B := by
  unfold rd
  rw [List.getD_eq_getElem?_getD, List.getElem?_eq_getElem (by omega)]
  exact List.getElem_mem _
theorem innerL_head (B : List Int) (c : Int) (hc : 0 ≤ c ∧ c ≤ 1000) (hB : Steps B c) (d : Nat) : ∀ (h t : Int), (h = -1 ∨ (0 < h ∧ h ≤ c + 1 ∧ ∃ j : Int, 0 ≤ j ∧ j < B.length ∧ rd B j = h - 1)) → 1 ≤ t → t + d ≤ (B.length : Int) + 1 →
    ∃ h' : Int, impl_leapsLeft.innerL d (h :: B) 0 t = h' :: B ∧ (h' = -1 ∨ (0 < h' ∧ h' ≤ c + 1 ∧ ∃ j : Int, 0 ≤ j ∧ j < B.length ∧ rd B j = h' - 1)) := by
  induction d with
  | zero => intro h t hh _ _; exact ⟨h, rfl, hh⟩
  | succ d ih =>
    intro h t hh ht htd
    simp only [impl_leapsLeft.innerL]
    have e1 : rd (h :: B) t = rd B (t - 1) := rd_cons h B t ht
    unfold impl_leapsLeft.stepL
    rw [e1, rd_head]
    have hm := hB.1 _ (rd_mem B (t - 1) (by omega) (by omega))
    rw [w64 (x := rd B (t - 1) + 1) (by omega) (by omega)]
    split
    · rename_i hs
      exact ih (rd B (t - 1) + 1) (t + 1) (.inr ⟨by omega, by omega, t - 1, by omega, by omega, by omega⟩) (by omega) (by omega)
    · exact ih h (t + 1) hh (by omega) (by omega)
theorem steps_cons (B : List Int) (c h : Int) (hc : 0 ≤ c) (hB : Steps B c) (hh : h = -1 ∨ (0 < h ∧ h ≤ c + 1 ∧ ∃ j : Int, 0 ≤ j ∧ j < B.length ∧ rd B j = h - 1)) : Steps (h :: B) (c + 1) := by
  refine ⟨fun x hx => ?_, fun i h0 h1 hp => ?_⟩
  · rcases List.mem_cons.1 hx with e | e
    · subst e; omega
    · have := hB.1 x e; omega
  · by_cases hi : i = 0
    · subst hi
      rw [rd_head] at hp ⊢
      rcases hh with e | ⟨_, _, j, j0, j1, e⟩
      · omega
      · exact ⟨j + 1, by omega, by simp; omega, by rw [rd_cons h B (j + 1) (by omega), show j + 1 - 1 = j by omega, e]⟩
    · rw [rd_cons h B i (by omega)] at hp ⊢
      simp only [List.length_cons] at h1
      obtain ⟨j, j0, j1, e⟩ := hB.2 (i - 1) (by omega) (by omega) hp
      exact ⟨j + 1, by omega, by simp; omega, by rw [rd_cons h B (j + 1) (by omega), show j + 1 - 1 = j by omega, e]⟩
theorem leftF_steps (s : ByteArray) (hs : s.size ≤ 40) (leap : Int) (hl : 1 ≤ leap ∧ leap ≤ 50) (d : Nat) (hd : d ≤ s.size + 1) : Steps (leftF s leap d) d := by
  induction d with
  | zero =>
    refine ⟨fun x hx => by simp [leftF] at hx; omega, fun i h0 h1 hp => ?_⟩
    simp only [leftF, List.length_singleton] at h1
    obtain rfl : i = 0 := by omega
    simp only [leftF, rd_head] at hp
    omega
  | succ d ih =>
    have ih := ih (by omega)
    have hlen := leftF_len s leap d
    rw [show ((d + 1 : Nat) : Int) = (d : Int) + 1 by omega]
    simp only [leftF]
    split
    · obtain ⟨h', e, hh⟩ := innerL_head (leftF s leap d) d (by omega) ih (min ((s.size : Int) - d + leap) ((s.size : Int) + 1) - ((s.size : Int) - d)).toNat (-1) 1 (.inl rfl) (by omega) (by omega)
      rw [e]
      exact steps_cons _ _ _ (by omega) ih hh
    · exact steps_cons _ _ _ (by omega) ih (.inl rfl)
theorem innerL_sign (B : List Int) (c : Int) (hc : 0 ≤ c ∧ c ≤ 1000) (hB : ∀ x ∈ B, -1 ≤ x ∧ x ≤ c) (d : Nat) : ∀ (h t : Int), -1 ≤ h → 1 ≤ t → t + d ≤ (B.length : Int) + 1 →
    ∃ h' : Int, impl_leapsLeft.innerL d (h :: B) 0 t = h' :: B ∧ (0 ≤ h' ↔ 0 ≤ h ∨ ∃ j : Int, t - 1 ≤ j ∧ j < t - 1 + d ∧ 0 ≤ rd B j) := by
  induction d with
  | zero =>
    intro h t _ _ _
    refine ⟨h, rfl, .inl, ?_⟩
    rintro (h1 | ⟨j, j0, j1, _⟩)
    · exact h1
    · omega
  | succ d ih =>
    intro h t hh ht htd
    simp only [impl_leapsLeft.innerL]
    have e1 : rd (h :: B) t = rd B (t - 1) := rd_cons h B t ht
    unfold impl_leapsLeft.stepL
    rw [e1, rd_head]
    have hm := hB _ (rd_mem B (t - 1) (by omega) (by omega))
    rw [w64 (x := rd B (t - 1) + 1) (by omega) (by omega)]
    split
    · rename_i hs
      obtain ⟨h', e, hi⟩ := ih (rd B (t - 1) + 1) (t + 1) (by omega) (by omega) (by omega)
      refine ⟨h', e, fun _ => .inr ⟨t - 1, by omega, by omega, hs.1⟩, fun _ => hi.2 (.inl (by omega))⟩
    · rename_i hs
      obtain ⟨h', e, hi⟩ := ih h (t + 1) hh (by omega) (by omega)
      refine ⟨h', e, fun h1 => ?_, fun h1 => hi.2 ?_⟩
      · rcases hi.1 h1 with h2 | ⟨j, j0, j1, j2⟩
        · exact .inl h2
        · exact .inr ⟨j, by omega, by omega, j2⟩
      · rcases h1 with h2 | ⟨j, j0, j1, j2⟩
        · exact .inl h2
        · by_cases ej : j = t - 1
          · subst ej
            by_cases h0 : 0 ≤ h
            · exact .inl h0
            · exact absurd ⟨j2, .inl (by omega)⟩ hs
          · exact .inr ⟨j, by omega, by omega, j2⟩
theorem reachF_app (leap : Int) (b : List Int) : ∀ (a : List Int) (now : Int), reachF leap (a ++ b) now = reachF leap b (reachF leap a now)
  | [], now => rfl
  | x :: a, now => by
    simp only [List.cons_append, reachF]
    split <;> exact reachF_app leap b a _
theorem stFrom_snoc (s : ByteArray) (d : Nat) : ∀ p : Int, stFrom s (d + 1) p = stFrom s d p ++ (if stB s (p + d) = true then [p + d] else []) := by
  induction d with
  | zero => intro p; simp [stFrom]
  | succ d ih =>
    intro p
    rw [show stFrom s (d + 1 + 1) p = if stB s p = true then p :: stFrom s (d + 1) (p + 1) else stFrom s (d + 1) (p + 1) from rfl, ih (p + 1), show stFrom s (d + 1) p = if stB s p = true then p :: stFrom s d (p + 1) else stFrom s d (p + 1) from rfl, show p + 1 + (d : Int) = p + ((d + 1 : Nat) : Int) by omega]
    split <;> simp
/-- The farthest of the first places. -/
def far (s : ByteArray) (leap : Int) (d : Nat) : Int := reachF leap (stFrom s d 1) 0
theorem far_succ (s : ByteArray) (leap : Int) (d : Nat) : far s leap (d + 1) = if stB s ((d : Int) + 1) = true ∧ (d : Int) + 1 - far s leap d ≤ leap then (d : Int) + 1 else far s leap d := by
  unfold far
  rw [stFrom_snoc, reachF_app, show (1 : Int) + d = d + 1 by omega]
  generalize reachF leap (stFrom s d 1) 0 = x
  by_cases h : stB s ((d : Int) + 1) = true
  · rw [if_pos h]
    simp only [reachF, h, true_and]
  · rw [if_neg h, if_neg (fun h2 => h h2.1)]; rfl
theorem left_sign (s m : ByteArray) (hms : m.size = s.size) (hs : s.size ≤ 40) (leap : Int) (hl : 1 ≤ leap ∧ leap ≤ 50) (hmir : ∀ e : Int, 0 ≤ e → e ≤ (s.size : Int) + 1 → stB m ((s.size : Int) + 1 - e) = stB s e) (d : Nat) : d ≤ s.size + 1 → (0 ≤ far s leap d ∧ far s leap d ≤ d ∧ stB s (far s leap d) = true) ∧ (∀ e : Int, 0 ≤ e → e ≤ d → (0 ≤ rd (leftF m leap d) (d - e) ↔ stB s e = true ∧ e ≤ far s leap d)) ∧ ∀ e : Int, far s leap d < e → e ≤ d → stB s e = true → leap < e - far s leap d := by
  have hs0 : stB s 0 = true := by unfold stB; simp
  induction d with
  | zero =>
    intro _
    have e0 : far s leap 0 = 0 := rfl
    rw [e0]
    refine ⟨⟨by omega, by omega, hs0⟩, fun e h0 h1 => ?_, fun e h0 h1 => by omega⟩
    obtain rfl : e = 0 := by omega
    exact ⟨fun _ => ⟨hs0, by omega⟩, fun _ => by show (0 : Int) ≤ 0; omega⟩
  | succ d ih =>
    intro hd
    obtain ⟨⟨f0, f1, f2⟩, i1, i2⟩ := ih (by omega)
    have hst : stB m ((m.size : Int) - d) = stB s ((d : Int) + 1) := by
      rw [hms, ← hmir ((d : Int) + 1) (by omega) (by omega)]
      congr 1; omega
    have hlen := leftF_len m leap d
    have hsteps := leftF_steps m (by omega) leap hl d (by omega)
    rw [far_succ]
    simp only [leftF, hst]
    obtain ⟨x, hx⟩ : ∃ x, far s leap d = x := ⟨_, rfl⟩
    rw [hx] at f0 f1 f2 i1 i2 ⊢
    by_cases hstd : stB s ((d : Int) + 1) = true
    · rw [if_pos hstd]
      obtain ⟨c, hc⟩ : ∃ c : Nat, (min ((m.size : Int) - d + leap) ((m.size : Int) + 1) - ((m.size : Int) - d)).toNat = c := ⟨_, rfl⟩
      have hc2 : (c : Int) = min leap ((d : Int) + 1) := by rw [hms] at hc; omega
      rw [hc]
      obtain ⟨h', e', hh⟩ := innerL_sign (leftF m leap d) d (by omega) hsteps.1 c (-1) 1 (by omega) (by omega) (by omega)
      rw [e']
      have hfind : 0 ≤ h' ↔ (d : Int) + 1 - x ≤ leap := by
        rw [hh]
        constructor
        · rintro (h | ⟨j, j0, j1, j2⟩)
          · omega
          · have := (i1 (d - j) (by omega) (by omega)).1 (by rw [show (d : Int) - (d - j) = j by omega]; exact j2)
            omega
        · intro h
          exact .inr ⟨d - x, by omega, by omega, (i1 x f0 f1).2 ⟨f2, Int.le_refl _⟩⟩
      by_cases hr : (d : Int) + 1 - x ≤ leap
      · rw [if_pos ⟨hstd, hr⟩]
        refine ⟨⟨by omega, by omega, hstd⟩, fun e h0 h1 => ?_, fun e h0 h1 => by omega⟩
        by_cases he : e = (d : Int) + 1
        · subst he
          rw [show (((d + 1 : Nat) : Int)) - ((d : Int) + 1) = 0 by omega, rd_head]
          exact ⟨fun _ => ⟨hstd, Int.le_refl _⟩, fun _ => hfind.2 hr⟩
        · rw [rd_cons _ _ _ (by omega), show (((d + 1 : Nat) : Int)) - e - 1 = d - e by omega, i1 e h0 (by omega)]
          refine ⟨fun h => ⟨h.1, by omega⟩, fun h => ⟨h.1, ?_⟩⟩
          by_cases hle : e ≤ x
          · exact hle
          · have := i2 e (by omega) (by omega) h.1
            omega
      · rw [if_neg (fun h => hr h.2)]
        refine ⟨⟨f0, by omega, f2⟩, fun e h0 h1 => ?_, fun e h0 h1 h2 => ?_⟩
        · by_cases he : e = (d : Int) + 1
          · subst he
            rw [show (((d + 1 : Nat) : Int)) - ((d : Int) + 1) = 0 by omega, rd_head]
            exact ⟨fun h => absurd (hfind.1 h) hr, fun h => by omega⟩
          · rw [rd_cons _ _ _ (by omega), show (((d + 1 : Nat) : Int)) - e - 1 = d - e by omega, i1 e h0 (by omega)]
        · by_cases he : e = (d : Int) + 1
          · subst he; omega
          · exact i2 e h0 (by omega) h2
    · rw [if_neg hstd, if_neg (fun h => hstd h.1)]
      refine ⟨⟨f0, by omega, f2⟩, fun e h0 h1 => ?_, fun e h0 h1 h2 => ?_⟩
      · by_cases he : e = (d : Int) + 1
        · subst he
          rw [show (((d + 1 : Nat) : Int)) - ((d : Int) + 1) = 0 by omega, rd_head]
          exact ⟨fun h => by omega, fun h => absurd h.1 hstd⟩
        · rw [rd_cons _ _ _ (by omega), show (((d + 1 : Nat) : Int)) - e - 1 = d - e by omega, i1 e h0 (by omega)]
      · by_cases he : e = (d : Int) + 1
        · subst he; exact absurd h2 hstd
        · exact i2 e h0 (by omega) h2
/-- The river the other way round. -/
def Mi (s : ByteArray) : ByteArray := ⟨s.data.toList.reverse.toArray⟩
theorem Mi_size (s : ByteArray) : (Mi s).size = s.size := by
  show s.data.toList.reverse.toArray.size = s.data.size
  simp
theorem Mi_stB (s : ByteArray) (e : Int) (h0 : 0 ≤ e) (h1 : e ≤ (s.size : Int) + 1) : stB (Mi s) ((s.size : Int) + 1 - e) = stB s e := by
  unfold stB
  rw [Mi_size]
  by_cases e0 : e = 0
  · subst e0; simp
  by_cases e1 : e = (s.size : Int) + 1
  · subst e1; simp
  have hb : bt (Mi s) ((s.size : Int) + 1 - e - 1) = bt s (e - 1) := by
    have hl : s.data.toList.length = s.size := by rw [Array.length_toList]; rfl
    have hml : (Mi s).data.toList.length = s.size := by rw [Array.length_toList]; exact Mi_size s
    obtain ⟨j, hj⟩ : ∃ j : Nat, e = (j : Int) + 1 := ⟨(e - 1).toNat, by omega⟩
    have hjs : j < s.size := by omega
    rw [show (s.size : Int) + 1 - e - 1 = ((s.size - 1 - j : Nat) : Int) by omega, show e - 1 = (j : Int) by omega, bt_list (Mi s) _ (by omega), bt_list s j (by omega)]
    unfold Mi
    simp only [List.getElem_reverse, List.toList_toArray, hl]
    congr 3
    omega
  rw [hb, decide_eq_false (show ¬ (s.size : Int) + 1 - e = 0 by omega), decide_eq_false (show ¬ (s.size : Int) + 1 - e = (s.size : Int) + 1 by omega), decide_eq_false e0, decide_eq_false e1]
/-- Whether no crossing steps on a stone. -/
def idle (s : ByteArray) (leap x : Int) : Bool := decide (rd (LL s leap) x < 0) || decide (rd (LL (Mi s) leap) ((s.size : Int) + 1 - x) < 0)
theorem spec_l0 (s : ByteArray) (hs : s.size ≤ 40) (leap : Int) (B : List Bool) (hBl : B.length = s.size + 2) (hB : ∀ x : Int, 1 ≤ x → x ≤ (s.size : Int) → stB s x = true → (rdOf false B x = true ↔ 0 ≤ rd (LL (Mi s) leap) ((s.size : Int) + 1 - x))) (d : Nat) : ∀ (k : Nat) (acc : List Int) (p : Int), 1 ≤ p → p + d = (s.size : Int) + 1 → d < k → acc.length + d < 1000 → spec_IdleStones.l0 k s B (LL s leap) acc p = some (acc ++ (stFrom s d p).filter (idle s leap), true) := by
  have hL := LL_len s leap
  induction d with
  | zero =>
    intro k acc p h0 h1 hk ha
    obtain ⟨k, rfl⟩ : ∃ m, k = m + 1 := ⟨k - 1, by omega⟩
    have g : ¬ p ≤ (s.size : Int) := by omega
    simp only [spec_IdleStones.l0]
    rw [if_neg g]; simp [stFrom]
  | succ d ih =>
    intro k acc p h0 h1 hk ha
    obtain ⟨k, rfl⟩ : ∃ m, k = m + 1 := ⟨k - 1, by omega⟩
    have g : p ≤ (s.size : Int) := by omega
    have hw := w64 (x := p + 1) (by omega) (by omega)
    have e := rvStand_eq s hs p (by omega) (by omega)
    have g1 : 0 ≤ p := by omega
    have g2 : p < (B.length : Int) := by omega
    have g4 : p < ((LL s leap).length : Int) := by omega
    have g3 : acc.length < 17592186044416 := by omega
    have i1 := ih k acc (p + 1) (by omega) (by omega) (by omega) (by omega)
    have i2 := ih k (acc ++ [p]) (p + 1) (by omega) (by omega) (by omega) (by simp; omega)
    have hBp := hB p h0 g
    simp only [spec_IdleStones.l0, stFrom]
    rw [if_pos g, e, Option.bind_some]
    by_cases hst : stB s p = true
    · rw [if_pos hst, if_pos hst, if_pos g1, if_pos g2]
      have hBp := hBp hst
      by_cases hr : rdOf false B p = true
      · have hr2 : decide (rd (LL (Mi s) leap) ((s.size : Int) + 1 - p) < 0) = false := decide_eq_false (by have := hBp.1 hr; omega)
        rw [if_pos hr, if_pos g4]
        by_cases hc : rd (LL s leap) p < 0
        · have hn : idle s leap p = true := by unfold idle; rw [decide_eq_true hc]; rfl
          rw [if_pos hc, if_pos g3, hw, i2, List.filter_cons, hn]; simp
        · have hn : idle s leap p = false := by unfold idle; rw [decide_eq_false hc, hr2]; rfl
          rw [if_neg hc, hw, i1, List.filter_cons, hn]; simp
      · have hr2 : decide (rd (LL (Mi s) leap) ((s.size : Int) + 1 - p) < 0) = true := decide_eq_true (by
          by_cases h : rd (LL (Mi s) leap) ((s.size : Int) + 1 - p) < 0
          · exact h
          · exact absurd (hBp.2 (by omega)) hr)
        have hn : idle s leap p = true := by unfold idle; rw [hr2]; simp
        rw [if_neg hr, if_pos g3, hw, i2, List.filter_cons, hn]; simp
    · rw [if_neg hst, if_neg hst, hw, i1]
theorem FnExactIdleStones : laws_FnExactIdleStones.Pure := by
  intro s leap _ _
  by_cases hb : (s.size : Int) > 1048576
  · exact ⟨0, by unfold laws_FnExactIdleStones.f; rw [if_pos hb]⟩
  by_cases hg : Good s ∧ 1 ≤ leap ∧ leap ≤ 50
  · have hs := hg.1.1.2
    have hms := Mi_size s
    have hR : ((stFrom s s.size 1).filter (idle s leap)).length ≤ 40 := Nat.le_trans (List.length_filter_le _ _) (Nat.le_trans (stFrom_len s s.size 1) hs)
    refine law_of s leap ((stFrom s s.size 1).filter (idle s leap)) true (by omega) hb (fun k hk => ?_) (fun k hk => ?_)
    · have h1 := rvAsked_true hg.1 hg.2 (k := k) (by omega)
      obtain ⟨B, hB, hI⟩ := reach_eq s hs leap hg.2 (k := k) (by omega)
      have h2 := specLeft_eq s hs leap hg.2 (k := k) (by omega)
      obtain ⟨⟨f0, f1, f2⟩, j1, _⟩ := left_sign s (Mi s) hms hs leap hg.2 (fun e h0 h1 => Mi_stB s e h0 h1) (s.size + 1) (Nat.le_refl _)
      obtain ⟨b1, b2, b3, b4, b5, b6, b7, b8⟩ := hI
      have hfar : reachF leap (stFrom s (s.size + 1) 1) 0 = far s leap (s.size + 1) := rfl
      rw [hfar] at b2 b3 b4 b5 b7 b8
      have h3 := spec_l0 s hs leap B b1 (fun x h0 h1 hst => by
        have h4 := j1 x (by omega) (by omega)
        have e1 : (((s.size + 1 : Nat) : Int)) - x = (s.size : Int) + 1 - x := by omega
        have e2 : leftF (Mi s) leap (s.size + 1) = LL (Mi s) leap := by unfold LL; rw [hms]
        rw [e1, e2] at h4
        rw [h4]
        exact ⟨fun h => ⟨hst, (b5 x (by omega) (by omega) h).1⟩, fun h => b7 x (by omega) h.2 hst⟩) s.size k [] 1 (by omega) (by omega) (by omega) (by simp; omega)
      unfold spec_IdleStones.f
      rw [h1, Option.bind_some, if_pos rfl, hB, Option.bind_some, h2, Option.bind_some, h3]; simp
    · have h1 := isCrossed_true hg.1 hg.2
      have h2 := implLeft_eq s hs leap hg.2 (k := k) (by omega)
      have h3 := implLeft_eq (Mi s) (by omega) leap hg.2 (k := k) (by omega)
      have h4 : impl_mirrored.f s = some (Mi s) := by unfold impl_mirrored.f; rw [if_pos (by omega)]; rfl
      have l1 := LL_len s leap
      have l2 := LL_len (Mi s) leap
      have h5 := st_eq s hs (impl_IdleStones.p s (LL s leap) (LL (Mi s) leap)) (idle s leap) k (by omega) (fun x x0 x1 => by
        unfold impl_IdleStones.p idle
        rw [if_pos (by omega)])
      unfold impl_IdleStones.f
      rw [h1, Option.bind_some, if_pos rfl, h4, Option.bind_some, h3, Option.bind_some, h2, Option.bind_some, if_pos (by omega), h5, Option.bind_some]
  · refine law_of s leap [] false (by simp) hb (fun k hk => ?_) (fun k hk => ?_)
    · have h1 := rvAsked_false hg (k := k) (by omega)
      unfold spec_IdleStones.f
      rw [h1]; simp
    · have h1 := isCrossed_false hg
      unfold impl_IdleStones.f
      rw [h1]; simp

end Go.Proofs.YtlcgimeebhoefaaDoor.Pure
