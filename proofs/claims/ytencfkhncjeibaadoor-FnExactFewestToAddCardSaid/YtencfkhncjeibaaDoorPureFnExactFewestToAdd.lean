/- For every text and number the program's FewestToAdd and the reference's answer alike. Conditions: the text takes at most 140737488351232 bytes, the number is one of 64 bits. -/
import Derived.Test.YtencfkhncjeibaaDoorPFnExactFewestToAddx
namespace Go.Proofs.YtencfkhncjeibaaDoor.Pure
open Go.RowKit Go.Proofs.YtencfkhncjeibaaDoor.PFnExactFewestToAdd Go.Proofs.YtencfkhncjeibaaDoorW.PrintWords Go.Proofs.YtencfkhncjeibaaDoorW.PrintLast Go.Proofs.YtencfkhncjeibaaDoorW.PrintMore

def inB (a b c : Int) : Bool := decide (b ≤ a ∧ a ≤ c)
theorem inB_true {a b c : Int} (h : inB a b c = true) : b ≤ a ∧ a ≤ c := of_decide_eq_true h
theorem inB_mk {a b c : Int} (h : b ≤ a ∧ a ≤ c) : inB a b c = true := decide_eq_true h
theorem inB_not {a b c : Int} (h : ¬ (b ≤ a ∧ a ≤ c)) : inB a b c = false := decide_eq_false h
theorem inB_false {a b c : Int} (h : inB a b c = false) : ¬ (b ≤ a ∧ a ≤ c) := of_decide_eq_false h
theorem in_eq (a b c : Int) : spec_l1In.f a b c = some (inB a b c) := by
  unfold spec_l1In.f inB
  by_cases h : a ≥ b
  · rw [if_pos h]; congr 1; rw [decide_eq_decide]; omega
  · rw [if_neg h]; congr 1; symm; rw [decide_eq_false_iff_not]; omega
theorem within_eq (a b c : Int) : impl_within.f a b c = some (inB a b c) := by
  unfold impl_within.f inB
  by_cases h : b ≤ a
  · rw [if_pos h]; congr 1; rw [decide_eq_decide]; omega
  · rw [if_neg h]; congr 1; symm; rw [decide_eq_false_iff_not]; omega
theorem w64 {x : Int} (h0 : -9223372036854775808 ≤ x) (h1 : x < 9223372036854775808) : wrap64 x = x := by unfold wrap64; omega
/-- A river: 1..40 signs, each a stone or water. -/
def Good (s : ByteArray) : Prop := (1 ≤ s.size ∧ s.size ≤ 40) ∧ ∀ i : Int, 0 ≤ i → i < s.size → bt s i = 111 ∨ bt s i = 46
theorem rvGood_l0_true (s : ByteArray) (hs : s.size ≤ 40) (d : Nat) : ∀ (k : Nat) (i : Int), 0 ≤ i → (s.size : Int) - i ≤ d → d < k → (∀ j : Int, i ≤ j → j < s.size → bt s j = 111 ∨ bt s j = 46) → spec_rvGood.l0 k s i = some true := by
  induction d with
  | zero =>
    intro k i h0 hd hk h
    obtain ⟨k, rfl⟩ : ∃ m, k = m + 1 := ⟨k - 1, by omega⟩
    simp only [spec_rvGood.l0]; rw [if_neg (by omega)]
  | succ d ih =>
    intro k i h0 hd hk h
    obtain ⟨k, rfl⟩ : ∃ m, k = m + 1 := ⟨k - 1, by omega⟩
    simp only [spec_rvGood.l0]
    by_cases hlt : i < (s.size : Int)
    · rw [if_pos hlt, if_pos h0, w64 (by omega) (by omega)]
      have hr := ih k (i + 1) (by omega) (by omega) (by omega) (fun j h1 h2 => h j (by omega) h2)
      rw [hr]
      rcases h i (by omega) hlt with e | e
      · rw [if_pos e]
      · rw [if_neg (by omega), if_pos e]
    · rw [if_neg hlt]
theorem rvGood_l0_false (s : ByteArray) (hs : s.size ≤ 40) (d : Nat) : ∀ (k : Nat) (i : Int), 0 ≤ i → (s.size : Int) - i ≤ d → d < k → (¬ ∀ j : Int, i ≤ j → j < s.size → bt s j = 111 ∨ bt s j = 46) → spec_rvGood.l0 k s i = some false := by
  induction d with
  | zero =>
    intro k i h0 hd hk h
    exact absurd (fun j h1 h2 => absurd h1 (by omega)) h
  | succ d ih =>
    intro k i h0 hd hk h
    obtain ⟨k, rfl⟩ : ∃ m, k = m + 1 := ⟨k - 1, by omega⟩
    simp only [spec_rvGood.l0]
    by_cases hlt : i < (s.size : Int)
    · rw [if_pos hlt, if_pos h0, w64 (by omega) (by omega)]
      by_cases e1 : bt s i = 111
      · rw [if_pos e1]
        exact ih k (i + 1) (by omega) (by omega) (by omega) (fun g => h (fun j h1 h2 => if c : j = i then by rw [c]; exact .inl e1 else g j (by omega) h2))
      · rw [if_neg e1]
        by_cases e2 : bt s i = 46
        · rw [if_pos e2]
          exact ih k (i + 1) (by omega) (by omega) (by omega) (fun g => h (fun j h1 h2 => if c : j = i then by rw [c]; exact .inr e2 else g j (by omega) h2))
        · rw [if_neg e2]
    · exact absurd (fun j h1 h2 => absurd h2 (by omega)) h
theorem rvGood_true {s : ByteArray} (hg : Good s) {k : Nat} (hk : 41 < k) : spec_rvGood.f k s = some true := by
  unfold spec_rvGood.f
  obtain ⟨h1, h2⟩ := hg
  rw [in_eq, inB_mk ⟨by omega, by omega⟩]
  exact rvGood_l0_true s h1.2 s.size k 0 (by omega) (by omega) (by omega) h2
theorem rvGood_false {s : ByteArray} (hg : ¬ Good s) {k : Nat} (hk : 41 < k) : spec_rvGood.f k s = some false := by
  unfold spec_rvGood.f
  rw [in_eq]
  cases hb : inB (s.size : Int) 1 40
  · rfl
  · have h1 := inB_true hb
    exact rvGood_l0_false s (by omega) s.size k 0 (by omega) (by omega) (by omega) (fun h => hg ⟨⟨by omega, by omega⟩, h⟩)
theorem bt_list (s : ByteArray) (i : Nat) (h : i < s.data.toList.length) : bt s (i : Int) = ((s.data.toList[i]'h).toNat : Int) := by
  have h' : i < s.size := by simpa using h
  unfold bt
  rw [dif_pos (by simpa using h')]
  rfl
theorem dropWhile_nil {α : Type} (p : α → Bool) (l : List α) : l.dropWhile p = [] ↔ ∀ x ∈ l, p x = true := by
  induction l with
  | nil => simp
  | cons a l ih =>
    rw [List.dropWhile_cons]
    by_cases h : p a = true
    · rw [if_pos h, ih]; simp [h]
    · rw [if_neg h]; simp [h]
theorem trimS_nil (l cs : List UInt8) : Lib.trimS l cs = [] ↔ ∀ x ∈ l, cs.contains x = true := by
  unfold Lib.trimS Lib.trimLeftS Lib.trimRightS
  rw [dropWhile_nil]
  constructor
  · intro h x hx
    by_cases hall : ∀ y ∈ l.reverse, cs.contains y = true
    · exact hall x (by simpa using hx)
    · exfalso
      have hne : l.reverse.dropWhile (cs.contains ·) ≠ [] := fun e => hall ((dropWhile_nil _ _).1 e)
      obtain ⟨y, ys, hy⟩ : ∃ y ys, l.reverse.dropWhile (cs.contains ·) = y :: ys := by
        cases e : l.reverse.dropWhile (cs.contains ·) with
        | nil => exact absurd e hne
        | cons y ys => exact ⟨y, ys, rfl⟩
      have hp := List.head?_dropWhile_not (cs.contains ·) l.reverse
      rw [hy] at hp
      have := h y (by rw [hy]; simp)
      simp at hp this
      exact hp this
  · intro h x hx
    rw [List.mem_reverse] at hx
    exact h x (by simpa using (List.dropWhile_sublist _).subset hx)
theorem trim_river (s : ByteArray) (hs : s.size ≤ 9223372036854775807) : ∃ t : ByteArray, strings_Trim.f s (⟨#[111, 46]⟩ : ByteArray) = some t ∧ (t.toList = [] ↔ ∀ i : Int, 0 ≤ i → i < s.size → bt s i = 111 ∨ bt s i = 46) := by
  refine ⟨⟨(Lib.trimS s.data.toList [111, 46]).toArray⟩, ?_, ?_⟩
  · unfold strings_Trim.f
    rw [if_pos ⟨hs, by decide, by decide⟩]
  · rw [Lib.toList_data]
    show (Lib.trimS s.data.toList [111, 46]).toArray.toList = [] ↔ _
    rw [show (Lib.trimS s.data.toList [111, 46]).toArray.toList = Lib.trimS s.data.toList [111, 46] from rfl, trimS_nil]
    constructor
    · intro h i h0 h1
      have hi : i.toNat < s.data.toList.length := by
        have : s.data.toList.length = s.size := by simp
        omega
      have hb := bt_list s i.toNat hi
      rw [show ((i.toNat : Nat) : Int) = i by omega] at hb
      have := h _ (List.getElem_mem hi)
      rw [hb]
      simp at this
      rcases this with e | e <;> simp [e]
    · intro h x hx
      obtain ⟨n, hn, rfl⟩ := List.mem_iff_getElem.1 hx
      have hb := bt_list s n hn
      have hlt : n < s.size := by simpa using hn
      have := h n (by omega) (by omega)
      rw [hb] at this
      simp
      rcases this with e | e
      · left; apply UInt8.toNat_inj.1; simpa using Int.ofNat.inj e
      · right; apply UInt8.toNat_inj.1; simpa using Int.ofNat.inj e
theorem isRiver_true {s : ByteArray} (hg : Good s) : impl_IsRiver.f s = some true := by
  unfold impl_IsRiver.f
  obtain ⟨h1, h2⟩ := hg
  obtain ⟨t, ht, hiff⟩ := trim_river s (by omega)
  rw [within_eq, inB_mk ⟨by omega, by omega⟩]
  simp only [Option.bind_some, if_true, ht]
  rw [hiff.2 h2]; rfl
theorem isRiver_false {s : ByteArray} (hg : ¬ Good s) : impl_IsRiver.f s = some false := by
  unfold impl_IsRiver.f
  rw [within_eq]
  cases hb : inB (s.size : Int) 1 40
  · rfl
  · have h1 := inB_true hb
    obtain ⟨t, ht, hiff⟩ := trim_river s (by omega)
    simp only [Option.bind_some, if_true, ht]
    congr 1
    cases hc : (t.toList == ([] : List UInt8)) with
    | false => rfl
    | true => exact absurd ⟨⟨by omega, by omega⟩, hiff.1 (by simpa using hc)⟩ hg
theorem rvAsked_true {s : ByteArray} {l : Int} (hg : Good s) (hl : 1 ≤ l ∧ l ≤ 50) {k : Nat} (hk : 41 < k) : spec_rvAsked.f k s l = some true := by
  unfold spec_rvAsked.f
  rw [rvGood_true hg hk, in_eq, inB_mk hl]; rfl
theorem rvAsked_false {s : ByteArray} {l : Int} (h : ¬ (Good s ∧ 1 ≤ l ∧ l ≤ 50)) {k : Nat} (hk : 41 < k) : spec_rvAsked.f k s l = some false := by
  unfold spec_rvAsked.f
  by_cases hg : Good s
  · rw [rvGood_true hg hk, in_eq, inB_not (fun c => h ⟨hg, c⟩)]; rfl
  · rw [rvGood_false hg hk]; rfl
theorem isCrossed_true {s : ByteArray} {l : Int} (hg : Good s) (hl : 1 ≤ l ∧ l ≤ 50) : impl_isCrossed.f s l = some true := by
  unfold impl_isCrossed.f
  rw [isRiver_true hg, within_eq, inB_mk hl]; rfl
theorem isCrossed_false {s : ByteArray} {l : Int} (h : ¬ (Good s ∧ 1 ≤ l ∧ l ≤ 50)) : impl_isCrossed.f s l = some false := by
  unfold impl_isCrossed.f
  by_cases hg : Good s
  · rw [isRiver_true hg, within_eq, inB_not (fun c => h ⟨hg, c⟩)]; rfl
  · rw [isRiver_false hg]; rfl
/-- Does one stand on this place? -/
def stB (s : ByteArray) (p : Int) : Bool := decide (p = 0) || decide (p = (s.size : Int) + 1) || (bt s (p - 1) == 111)
theorem rvStand_eq (s : ByteArray) (hs : s.size ≤ 40) (p : Int) (h0 : 0 ≤ p) (h1 : p ≤ (s.size : Int) + 1) : spec_rvStand.f s p = some (stB s p) := by
  unfold spec_rvStand.f stB
  rw [w64 (x := (s.size : Int) + 1) (by omega) (by omega), w64 (x := p - 1) (by omega) (by omega)]
  by_cases e0 : p = 0
  · rw [if_pos e0]; simp [e0]
  · rw [if_neg e0]
    by_cases e1 : p = (s.size : Int) + 1
    · rw [if_pos e1]; simp [e1]
    · rw [if_neg e1, if_pos (by omega), if_pos (by omega)]; simp [e0, e1]
/-- The places from p on, so many of them, on which one stands. -/
def stFrom (s : ByteArray) : Nat → Int → List Int
  | 0, _ => []
  | d + 1, p => if stB s p = true then p :: stFrom s d (p + 1) else stFrom s d (p + 1)
theorem stFrom_mem (s : ByteArray) (d : Nat) : ∀ (p x : Int), x ∈ stFrom s d p ↔ (p ≤ x ∧ x < p + d) ∧ stB s x = true := by
  induction d with
  | zero => intro p x; simp [stFrom]; omega
  | succ d ih =>
    intro p x
    simp only [stFrom]
    by_cases h : stB s p = true
    · rw [if_pos h, List.mem_cons, ih]
      constructor
      · rintro (e | ⟨h1, h2⟩)
        · subst e; exact ⟨⟨by omega, by omega⟩, h⟩
        · exact ⟨⟨by omega, by omega⟩, h2⟩
      · rintro ⟨h1, h2⟩
        by_cases e : x = p
        · exact .inl e
        · exact .inr ⟨⟨by omega, by omega⟩, h2⟩
    · rw [if_neg h, ih]
      constructor
      · rintro ⟨h1, h2⟩; exact ⟨⟨by omega, by omega⟩, h2⟩
      · rintro ⟨h1, h2⟩
        have : x ≠ p := fun e => h (e ▸ h2)
        exact ⟨⟨by omega, by omega⟩, h2⟩
theorem stFrom_len (s : ByteArray) (d : Nat) : ∀ p : Int, (stFrom s d p).length ≤ d := by
  induction d with
  | zero => intro p; simp [stFrom]
  | succ d ih =>
    intro p
    simp only [stFrom]
    have := ih (p + 1)
    split <;> simp <;> omega
theorem stand_l0 (s : ByteArray) (hs : s.size ≤ 40) (d : Nat) : ∀ (k : Nat) (i : Int) (acc : List Int), 0 ≤ i → (s.size : Int) - i = d → d < k → acc.length + d < 17592186044416 → impl_stand.l0 k s acc (s.size : Int) i = some (acc ++ stFrom s (d + 1) (i + 1)) := by
  induction d with
  | zero =>
    intro k i acc h0 hd hk hl
    obtain ⟨k, rfl⟩ : ∃ m, k = m + 1 := ⟨k - 1, by omega⟩
    obtain rfl : i = (s.size : Int) := by omega
    simp only [impl_stand.l0]
    rw [if_neg (by omega), if_pos (by omega), w64 (by omega) (by omega)]
    simp [stFrom, stB]
  | succ d ih =>
    intro k i acc h0 hd hk hl
    obtain ⟨k, rfl⟩ : ∃ m, k = m + 1 := ⟨k - 1, by omega⟩
    simp only [impl_stand.l0]
    rw [if_pos (by omega), if_pos h0, if_pos (by omega), w64 (by omega) (by omega)]
    have hst : stB s (i + 1) = decide (bt s i = 111) := by
      unfold stB
      rw [show i + 1 - 1 = i by omega]
      have e0 : decide (i + 1 = 0) = false := decide_eq_false (by omega)
      have e1 : decide (i + 1 = (s.size : Int) + 1) = false := decide_eq_false (by omega)
      rw [e0, e1]
      rfl
    have hstep : stFrom s (d + 1 + 1) (i + 1) = if stB s (i + 1) = true then (i + 1) :: stFrom s (d + 1) (i + 1 + 1) else stFrom s (d + 1) (i + 1 + 1) := rfl
    rw [hstep, hst]
    by_cases hb : bt s i = 111
    · rw [if_pos hb, if_pos (by omega), if_pos (decide_eq_true hb), ih k (i + 1) (acc ++ [i + 1]) (by omega) (by omega) (by omega) (by simp; omega)]
      simp
    · rw [if_neg hb, if_neg (by simp [hb]), ih k (i + 1) acc (by omega) (by omega) (by omega) (by omega)]
theorem stand_eq (s : ByteArray) (hs : s.size ≤ 40) {k : Nat} (hk : s.size < k) : impl_stand.f k s = some (0 :: stFrom s (s.size + 1) 1) := by
  unfold impl_stand.f
  rw [stand_l0 s hs s.size k 0 [0] (by omega) (by omega) hk (by simp; omega)]
  rfl
theorem rd_mid (pre rest : List Int) (x i : Int) (h : i = pre.length) : rd (pre ++ x :: rest) i = x := by
  subst h; unfold rd; simp
def addIn (leap : Int) : Nat → Int → Int → List Int → List Int
  | 0, _, _, acc => acc
  | n + 1, now, next, acc => if next - now > leap then addIn leap n (now + leap) next (acc ++ [now + leap]) else acc
def addF (leap : Int) : List Int → Int → List Int → List Int
  | [], _, acc => acc
  | p :: rest, last, acc => addF leap rest p (addIn leap 50 last p acc)
theorem addIn_len (leap : Int) (n : Nat) : ∀ (now next : Int) (acc : List Int), (addIn leap n now next acc).length ≤ acc.length + n := by
  induction n with
  | zero => intro now next acc; simp [addIn]
  | succ n ih =>
    intro now next acc
    simp only [addIn]
    split
    · have := ih (now + leap) next (acc ++ [now + leap]); simp at this; omega
    · omega
theorem addIn_stop (leap : Int) (n : Nat) (now next : Int) (acc : List Int) (h : ¬ next - now > leap) : addIn leap (n + 1) now next acc = acc := by
  simp only [addIn]; rw [if_neg h]
theorem addF_len (leap : Int) (l : List Int) : ∀ (last : Int) (acc : List Int), (addF leap l last acc).length ≤ acc.length + 50 * l.length := by
  induction l with
  | nil => intro last acc; simp [addF]
  | cons p l ih =>
    intro last acc
    simp only [addF, List.length_cons]
    have := ih p (addIn leap 50 last p acc); have := addIn_len leap 50 last p acc
    omega
theorem rvAdd_l1 (s : ByteArray) (leap : Int) (hl : 1 ≤ leap ∧ leap ≤ 50) (p e : Int) (hp : 0 ≤ p ∧ p ≤ 41) (R : List Int) (n : Nat) : ∀ (k K : Nat) (acc : List Int) (now : Int), p - now ≤ n → 0 ≤ now → now ≤ 41 → acc.length + n < 10000 → (∀ k', K ≤ k' → spec_rvAdd.l0 k' s leap (addIn leap n now p acc) p e (p + 1) = some R) → K + n + 1 ≤ k → spec_rvAdd.l1 k s leap acc now e p = some R := by
  induction n with
  | zero =>
    intro k K acc now hd h0 h1 ha hK hk
    obtain ⟨k, rfl⟩ : ∃ m, k = m + 1 := ⟨k - 1, by omega⟩
    simp only [spec_rvAdd.l1]
    rw [w64 (x := p - now) (by omega) (by omega), if_neg (by omega), w64 (x := p + 1) (by omega) (by omega)]
    exact hK k (by omega)
  | succ n ih =>
    intro k K acc now hd h0 h1 ha hK hk
    obtain ⟨k, rfl⟩ : ∃ m, k = m + 1 := ⟨k - 1, by omega⟩
    simp only [spec_rvAdd.l1]
    simp only [addIn] at hK
    rw [w64 (x := p - now) (by omega) (by omega)]
    by_cases hg : p - now > leap
    · rw [if_pos hg] at hK ⊢
      rw [if_pos (by omega), w64 (x := now + leap) (by omega) (by omega)]
      exact ih k K _ (now + leap) (by omega) (by omega) (by omega) (by simp; omega) hK (by omega)
    · rw [if_neg hg] at hK ⊢
      rw [w64 (x := p + 1) (by omega) (by omega)]
      exact hK k (by omega)
theorem rvAdd_l0 (s : ByteArray) (hs : s.size ≤ 40) (leap : Int) (hl : 1 ≤ leap ∧ leap ≤ 50) (d : Nat) : ∀ (k : Nat) (acc : List Int) (last p : Int), 0 ≤ last → last ≤ 41 → 1 ≤ p → (s.size : Int) + 2 - p = d → 60 * d < k → acc.length + 50 * d < 9000 → spec_rvAdd.l0 k s leap acc last ((s.size : Int) + 1) p = some (addF leap (stFrom s d p) last acc) := by
  induction d with
  | zero =>
    intro k acc last p h0 h1 hp hd hk ha
    obtain ⟨k, rfl⟩ : ∃ m, k = m + 1 := ⟨k - 1, by omega⟩
    simp only [spec_rvAdd.l0]
    rw [if_neg (by omega)]
    rfl
  | succ d ih =>
    intro k acc last p h0 h1 hp hd hk ha
    obtain ⟨k, rfl⟩ : ∃ m, k = m + 1 := ⟨k - 1, by omega⟩
    simp only [spec_rvAdd.l0, stFrom]
    rw [if_pos (by omega), rvStand_eq s hs p (by omega) (by omega)]
    simp only [Option.bind_some]
    by_cases hst : stB s p = true
    · rw [if_pos hst, if_pos hst]
      simp only [addF]
      have hlen := addIn_len leap 50 last p acc
      exact rvAdd_l1 s leap hl p _ (by omega) _ 50 k (60 * d + 1) acc last (by omega) h0 h1 (by omega) (fun k' hk' => ih k' _ p (p + 1) (by omega) (by omega) (by omega) (by omega) (by omega) (by omega)) (by omega)
    · rw [if_neg hst, if_neg hst, w64 (x := p + 1) (by omega) (by omega)]
      exact ih k acc last (p + 1) h0 h1 (by omega) (by omega) (by omega) (by omega)
theorem rvAdd_eq (s : ByteArray) (hs : s.size ≤ 40) (leap : Int) (hl : 1 ≤ leap ∧ leap ≤ 50) {k : Nat} (hk : 2600 < k) : spec_rvAdd.f k s leap = some (addF leap (stFrom s (s.size + 1) 1) 0 []) := by
  unfold spec_rvAdd.f
  rw [w64 (x := (s.size : Int) + 1) (by omega) (by omega)]
  exact rvAdd_l0 s hs leap hl (s.size + 1) k [] 0 1 (by omega) (by omega) (by omega) (by omega) (by omega) (by simp; omega)
theorem toAdd_l1 (leap : Int) (hl : 1 ≤ leap ∧ leap ≤ 50) (p : Int) (hp : 0 ≤ p ∧ p ≤ 41) (L : List Int) (len i : Int) (hi : 0 ≤ i ∧ i < 1000) (R : List Int) (n : Nat) : ∀ (k K : Nat) (acc : List Int) (now : Int), p - now ≤ n → 0 ≤ now → now ≤ 41 → acc.length + n < 10000 → (∀ k', K ≤ k' → impl_toAdd.l0 k' leap (addIn leap n now p acc) p L len (i + 1) = some R) → K + n + 1 ≤ k → impl_toAdd.l1 k leap acc now p L len i = some R := by
  induction n with
  | zero =>
    intro k K acc now hd h0 h1 ha hK hk
    obtain ⟨k, rfl⟩ : ∃ m, k = m + 1 := ⟨k - 1, by omega⟩
    simp only [impl_toAdd.l1]
    rw [w64 (x := p - now) (by omega) (by omega), if_neg (by omega), w64 (x := i + 1) (by omega) (by omega)]
    exact hK k (by omega)
  | succ n ih =>
    intro k K acc now hd h0 h1 ha hK hk
    obtain ⟨k, rfl⟩ : ∃ m, k = m + 1 := ⟨k - 1, by omega⟩
    simp only [impl_toAdd.l1]
    simp only [addIn] at hK
    rw [w64 (x := p - now) (by omega) (by omega)]
    by_cases hg : p - now > leap
    · rw [if_pos hg] at hK ⊢
      rw [if_pos (by omega), w64 (x := now + leap) (by omega) (by omega)]
      exact ih k K _ (now + leap) (by omega) (by omega) (by omega) (by simp; omega) hK (by omega)
    · rw [if_neg hg] at hK ⊢
      rw [w64 (x := i + 1) (by omega) (by omega)]
      exact hK k (by omega)
theorem toAdd_l0 (leap : Int) (hl : 1 ≤ leap ∧ leap ≤ 50) (L : List Int) (hL : L.length < 100) (rest : List Int) : ∀ (k : Nat) (pre : List Int) (acc : List Int) (now i : Int), L = pre ++ rest → i = pre.length → 0 ≤ now → now ≤ 41 → (∀ x ∈ rest, 0 ≤ x ∧ x ≤ 41) → 60 * rest.length < k → acc.length + 50 * rest.length < 9000 → impl_toAdd.l0 k leap acc now L (L.length : Int) i = some (addF leap rest now acc) := by
  induction rest with
  | nil =>
    intro k pre acc now i hp hi h0 h1 h hk ha
    obtain ⟨k, rfl⟩ : ∃ m, k = m + 1 := ⟨k - 1, by omega⟩
    have : L.length = pre.length := by rw [hp]; simp
    simp only [impl_toAdd.l0]
    rw [if_neg (by omega)]; rfl
  | cons p rest ih =>
    intro k pre acc now i hp hi h0 h1 h hk ha
    simp only [List.length_cons] at hk ha
    obtain ⟨k, rfl⟩ : ∃ m, k = m + 1 := ⟨k - 1, by omega⟩
    have hlen : L.length = pre.length + (rest.length + 1) := by rw [hp]; simp
    have hpb := h p List.mem_cons_self
    have hrd : rd L i = p := by rw [hp]; exact rd_mid _ _ _ _ hi
    simp only [impl_toAdd.l0]
    rw [if_pos (by omega), if_pos (by omega), if_pos (by omega), hrd]
    simp only [addF]
    have hlen2 := addIn_len leap 50 now p acc
    exact toAdd_l1 leap hl p hpb L _ i (by omega) _ 50 k (60 * rest.length + 1) acc now (by omega) h0 h1 (by omega) (fun k' hk' => ih k' (pre ++ [p]) _ p (i + 1) (by rw [hp]; simp) (by simp; omega) hpb.1 hpb.2 (fun x hx => h x (List.mem_cons_of_mem _ hx)) (by omega) (by omega)) (by omega)
theorem toAdd_eq (s : ByteArray) (hs : s.size ≤ 40) (leap : Int) (hl : 1 ≤ leap ∧ leap ≤ 50) {k : Nat} (hk : 2600 < k) : impl_toAdd.f k s leap = some (addF leap (stFrom s (s.size + 1) 1) 0 []) := by
  unfold impl_toAdd.f
  rw [stand_eq s hs (by omega)]
  simp only [Option.bind_some]
  have hlen := stFrom_len s (s.size + 1) 1
  rw [toAdd_l0 leap hl (0 :: stFrom s (s.size + 1) 1) (by simp; omega) (0 :: stFrom s (s.size + 1) 1) k [] [] 0 0 rfl rfl (by omega) (by omega) ?_ (by simp; omega) (by simp; omega)]
  · show some (addF leap (stFrom s (s.size + 1) 1) 0 (addIn leap (49 + 1) 0 0 [])) = _
    rw [addIn_stop leap 49 0 0 [] (by omega)]
  · intro x hx
    rcases List.mem_cons.1 hx with e | e
    · omega
    · have := ((stFrom_mem s _ _ _).1 e).1; omega
theorem add_len (s : ByteArray) (hs : s.size ≤ 40) (leap : Int) : (addF leap (stFrom s (s.size + 1) 1) 0 []).length < 3000 := by
  have h1 := addF_len leap (stFrom s (s.size + 1) 1) 0 []; have h2 := stFrom_len s (s.size + 1) 1
  simp at h1; omega
theorem FnExactFewestToAdd : laws_FnExactFewestToAdd.Pure := by
  intro s leap _ _
  obtain ⟨k, hk⟩ : ∃ k : Nat, 3000 ≤ k := ⟨3000, Nat.le_refl _⟩
  refine ⟨k, ?_⟩
  unfold laws_FnExactFewestToAdd.f spec_FewestToAdd.f impl_FewestToAdd.f impl_StonesToAdd.f
  by_cases hb : (s.size : Int) > 1048576
  · rw [if_pos hb]
  · rw [if_neg hb]
    by_cases hg : Good s ∧ 1 ≤ leap ∧ leap ≤ 50
    · rw [rvAsked_true hg.1 hg.2 (by omega), isCrossed_true hg.1 hg.2]
      simp only [Option.bind_some, if_true]
      rw [rvAdd_eq s hg.1.1.2 leap hg.2 (by omega), toAdd_eq s hg.1.1.2 leap hg.2 (by omega)]
      simp
    · rw [rvAsked_false hg (by omega), isCrossed_false hg]; simp

end Go.Proofs.YtencfkhncjeibaaDoor.Pure
