/- For every text and number the program's CountCrossings and the reference's answer alike. Conditions: the text takes at most 140737488351232 bytes, the number is one of 64 bits. -/
import Derived.Test.YtlcgimeebhoefaaDoorPFnExactCountCrossingsx
namespace Go.Proofs.YtlcgimeebhoefaaDoor.Pure
open Go.RowKit Go.Proofs.YtlcgimeebhoefaaDoor.PFnExactCountCrossings Go.Proofs.YtlcgimeebhoefaaDoorW.PrintWords Go.Proofs.YtlcgimeebhoefaaDoorW.PrintLast Go.Proofs.YtlcgimeebhoefaaDoorW.PrintMore

set_option linter.unusedVariables false
set_option linter.unusedSimpArgs false
def inB (a b c : Int) : Bool := decide (b ≤ a ∧ a ≤ c)
theorem inB_true {a b c : Int} (h : inB a b c = true) : b ≤ a ∧ a ≤ c := of_decide_eq_true h
theorem inB_mk {a b c : Int} (h : b ≤ a ∧ a ≤ c) : inB a b c = true := decide_eq_true h
theorem inB_not {a b c : Int} (h : ¬ (b ≤ a ∧ a ≤ c)) : inB a b c = false := decide_eq_false h
theorem inB_false {a b c : Int} (h : inB a b c = false) : ¬ (b ≤ a ∧ a ≤ c) := of_decide_eq_false h
theorem in_eq (a b c : Int) : spec_l1In.f a b c = some (inB a b c) := by
  unfold spec_l1In.f inB
  by_cases h : a ≥ b
  · rw [if_pos h]; congr 1; rw [decide_eq_decide]; omega
  · rw [if_neg h]; congr 1; symm; rw [decide_eq_false_iff_not]; omega
theorem within_eq (a b c : Int) : impl_within.f a b c = some (inB a b c) := by
  unfold impl_within.f inB
  by_cases h : b ≤ a
  · rw [if_pos h]; congr 1; rw [decide_eq_decide]; omega
  · rw [if_neg h]; congr 1; symm; rw [decide_eq_false_iff_not]; omega
theorem w64 {x : Int} (h0 : -9223372036854775808 ≤ x) (h1 : x < 9223372036854775808) : wrap64 x = x := by unfold wrap64; omega
/-- A river: 1..40 signs, each a stone or water. -/
def Good (s : ByteArray) : Prop := (1 ≤ s.size ∧ s.size ≤ 40) ∧ ∀ i : Int, 0 ≤ i → i < s.size → bt s i = 111 ∨ bt s i = 46
theorem rvGood_l0_true (s : ByteArray) (hs : s.size ≤ 40) (d : Nat) : ∀ (k : Nat) (i : Int), 0 ≤ i → (s.size : Int) - i ≤ d → d < k → (∀ j : Int, i ≤ j → j < s.size → bt s j = 111 ∨ bt s j = 46) → spec_rvGood.l0 k s i = some true := by
  induction d with
  | zero =>
    intro k i h0 hd hk h
    obtain ⟨k, rfl⟩ : ∃ m, k = m + 1 := ⟨k - 1, by omega⟩
    simp only [spec_rvGood.l0]; rw [if_neg (by omega)]
  | succ d ih =>
    intro k i h0 hd hk h
    obtain ⟨k, rfl⟩ : ∃ m, k = m + 1 := ⟨k - 1, by omega⟩
    simp only [spec_rvGood.l0]
    by_cases hlt : i < (s.size : Int)
    · rw [if_pos hlt, if_pos h0, w64 (by omega) (by omega)]
      have hr := ih k (i + 1) (by omega) (by omega) (by omega) (fun j h1 h2 => h j (by omega) h2)
      rw [hr]
      rcases h i (by omega) hlt with e | e
      · rw [if_pos e]
      · rw [if_neg (by omega), if_pos e]
    · rw [if_neg hlt]
theorem rvGood_l0_false (s : ByteArray) (hs : s.size ≤ 40) (d : Nat) : ∀ (k : Nat) (i : Int), 0 ≤ i → (s.size : Int) - i ≤ d → d < k → (¬ ∀ j : Int, i ≤ j → j < s.size → bt s j = 111 ∨ bt s j = 46) → spec_rvGood.l0 k s i = some false := by
  induction d with
  | zero =>
    intro k i h0 hd hk h
    exact absurd (fun j h1 h2 => absurd h1 (by omega)) h
  | succ d ih =>
    intro k i h0 hd hk h
    obtain ⟨k, rfl⟩ : ∃ m, k = m + 1 := ⟨k - 1, by omega⟩
    simp only [spec_rvGood.l0]
    by_cases hlt : i < (s.size : Int)
    · rw [if_pos hlt, if_pos h0, w64 (by omega) (by omega)]
      by_cases e1 : bt s i = 111
      · rw [if_pos e1]
        exact ih k (i + 1) (by omega) (by omega) (by omega) (fun g => h (fun j h1 h2 => if c : j = i then by rw [c]; exact .inl e1 else g j (by omega) h2))
      · rw [if_neg e1]
        by_cases e2 : bt s i = 46
        · rw [if_pos e2]
          exact ih k (i + 1) (by omega) (by omega) (by omega) (fun g => h (fun j h1 h2 => if c : j = i then by rw [c]; exact .inr e2 else g j (by omega) h2))
        · rw [if_neg e2]
    · exact absurd (fun j h1 h2 => absurd h2 (by omega)) h
theorem rvGood_true {s : ByteArray} (hg : Good s) {k : Nat} (hk : 41 < k) : spec_rvGood.f k s = some true := by
  unfold spec_rvGood.f
  obtain ⟨h1, h2⟩ := hg
  rw [in_eq, inB_mk ⟨by omega, by omega⟩]
  exact rvGood_l0_true s h1.2 s.size k 0 (by omega) (by omega) (by omega) h2
theorem rvGood_false {s : ByteArray} (hg : ¬ Good s) {k : Nat} (hk : 41 < k) : spec_rvGood.f k s = some false := by
  unfold spec_rvGood.f
  rw [in_eq]
  cases hb : inB (s.size : Int) 1 40
  · rfl
  · have h1 := inB_true hb
    exact rvGood_l0_false s (by omega) s.size k 0 (by omega) (by omega) (by omega) (fun h => hg ⟨⟨by omega, by omega⟩, h⟩)
theorem bt_list (s : ByteArray) (i : Nat) (h : i < s.data.toList.length) : bt s (i : Int) = ((s.data.toList[i]'h).toNat : Int) := by
  have h' : i < s.size := by simpa using h
  unfold bt
  rw [dif_pos (by simpa using h')]
  rfl
theorem dropWhile_nil {α : Type} (p : α → Bool) (l : List α) : l.dropWhile p = [] ↔ ∀ x ∈ l, p x = true := by
  induction l with
  | nil => simp
  | cons a l ih =>
    rw [List.dropWhile_cons]
    by_cases h : p a = true
    · rw [if_pos h, ih]; simp [h]
    · rw [if_neg h]; simp [h]
theorem trimS_nil (l cs : List UInt8) : Lib.trimS l cs = [] ↔ ∀ x ∈ l, cs.contains x = true := by
  unfold Lib.trimS Lib.trimLeftS Lib.trimRightS
  rw [dropWhile_nil]
  constructor
  · intro h x hx
    by_cases hall : ∀ y ∈ l.reverse, cs.contains y = true
    · exact hall x (by simpa using hx)
    · exfalso
      have hne : l.reverse.dropWhile (cs.contains ·) ≠ [] := fun e => hall ((dropWhile_nil _ _).1 e)
      obtain ⟨y, ys, hy⟩ : ∃ y ys, l.reverse.dropWhile (cs.contains ·) = y :: ys := by
        cases e : l.reverse.dropWhile (cs.contains ·) with
        | nil => exact absurd e hne
        | cons y ys => exact ⟨y, ys, rfl⟩
      have hp := List.head?_dropWhile_not (cs.contains ·) l.reverse
      rw [hy] at hp
      have := h y (by rw [hy]; simp)
      simp at hp this
      exact hp this
  · intro h x hx
    rw [List.mem_reverse] at hx
    exact h x (by simpa using (List.dropWhile_sublist _).subset hx)
theorem trim_river (s : ByteArray) (hs : s.size ≤ 9223372036854775807) : ∃ t : ByteArray, strings_Trim.f s (⟨#[111, 46]⟩ : ByteArray) = some t ∧ (t.toList = [] ↔ ∀ i : Int, 0 ≤ i → i < s.size → bt s i = 111 ∨ bt s i = 46) := by
  refine ⟨⟨(Lib.trimS s.data.toList [111, 46]).toArray⟩, ?_, ?_⟩
  · unfold strings_Trim.f
    rw [if_pos ⟨hs, by decide, by decide⟩]
  · rw [Lib.toList_data]
    show (Lib.trimS s.data.toList [111, 46]).toArray.toList = [] ↔ _
    rw [show (Lib.trimS s.data.toList [111, 46]).toArray.toList = Lib.trimS s.data.toList [111, 46] from rfl, trimS_nil]
    constructor
    · intro h i h0 h1
      have hi : i.toNat < s.data.toList.length := by
        have : s.data.toList.length = s.size := by simp
        omega
      have hb := bt_list s i.toNat hi
      rw [show ((i.toNat : Nat) : Int) = i by omega] at hb
      have := h _ (List.getElem_mem hi)
      rw [hb]
      simp at this
      rcases this with e | e <;> simp [e]
    · intro h x hx
      obtain ⟨n, hn, rfl⟩ := List.mem_iff_getElem.1 hx
      have hb := bt_list s n hn
      have hlt : n < s.size := by simpa using hn
      have := h n (by omega) (by omega)
      rw [hb] at this
      simp
      rcases this with e | e
      · left; apply UInt8.toNat_inj.1; simpa using Int.ofNat.inj e
      · right; apply UInt8.toNat_inj.1; simpa using Int.ofNat.inj e
theorem isRiver_true {s : ByteArray} (hg : Good s) : impl_IsRiver.f s = some true := by
  unfold impl_IsRiver.f
  obtain ⟨h1, h2⟩ := hg
  obtain ⟨t, ht, hiff⟩ := trim_river s (by omega)
  rw [within_eq, inB_mk ⟨by omega, by omega⟩]
  simp only [Option.bind_some, if_true, ht]
  rw [hiff.2 h2]; rfl
theorem isRiver_false {s : ByteArray} (hg : ¬ Good s) : impl_IsRiver.f s = some false := by
  unfold impl_IsRiver.f
  rw [within_eq]
  cases hb : inB (s.size : Int) 1 40
  · rfl
  · have h1 := inB_true hb
    obtain ⟨t, ht, hiff⟩ := trim_river s (by omega)
    simp only [Option.bind_some, if_true, ht]
    congr 1
    cases hc : (t.toList == ([] : List UInt8)) with
    | false => rfl
    | true => exact absurd ⟨⟨by omega, by omega⟩, hiff.1 (by simpa using hc)⟩ hg
theorem rvAsked_true {s : ByteArray} {l : Int} (hg : Good s) (hl : 1 ≤ l ∧ l ≤ 50) {k : Nat} (hk : 41 < k) : spec_rvAsked.f k s l = some true := by
  unfold spec_rvAsked.f
  rw [rvGood_true hg hk, in_eq, inB_mk hl]; rfl
theorem rvAsked_false {s : ByteArray} {l : Int} (h : ¬ (Good s ∧ 1 ≤ l ∧ l ≤ 50)) {k : Nat} (hk : 41 < k) : spec_rvAsked.f k s l = some false := by
  unfold spec_rvAsked.f
  by_cases hg : Good s
  · rw [rvGood_true hg hk, in_eq, inB_not (fun c => h ⟨hg, c⟩)]; rfl
  · rw [rvGood_false hg hk]; rfl
theorem isCrossed_true {s : ByteArray} {l : Int} (hg : Good s) (hl : 1 ≤ l ∧ l ≤ 50) : impl_isCrossed.f s l = some true := by
  unfold impl_isCrossed.f
  rw [isRiver_true hg, within_eq, inB_mk hl]; rfl
theorem isCrossed_false {s : ByteArray} {l : Int} (h : ¬ (Good s ∧ 1 ≤ l ∧ l ≤ 50)) : impl_isCrossed.f s l = some false := by
  unfold impl_isCrossed.f
  by_cases hg : Good s
  · rw [isRiver_true hg, within_eq, inB_not (fun c => h ⟨hg, c⟩)]; rfl
  · rw [isRiver_false hg]; rfl
/-- Does one stand on this place? -/
def stB (s : ByteArray) (p : Int) : Bool := decide (p = 0) || decide (p = (s.size : Int) + 1) || (bt s (p - 1) == 111)
theorem rvStand_eq (s : ByteArray) (hs : s.size ≤ 40) (p : Int) (h0 : 0 ≤ p) (h1 : p ≤ (s.size : Int) + 1) : spec_rvStand.f s p = some (stB s p) := by
  unfold spec_rvStand.f stB
  rw [w64 (x := (s.size : Int) + 1) (by omega) (by omega), w64 (x := p - 1) (by omega) (by omega)]
  by_cases e0 : p = 0
  · rw [if_pos e0]; simp [e0]
  · rw [if_neg e0]
    by_cases e1 : p = (s.size : Int) + 1
    · rw [if_pos e1]; simp [e1]
    · rw [if_neg e1, if_pos (by omega), if_pos (by omega)]; simp [e0, e1]
/-- The places from p on, so many of them, on which one stands. -/
def stFrom (s : ByteArray) : Nat → Int → List Int
  | 0, _ => []
  | d + 1, p => if stB s p = true then p :: stFrom s d (p + 1) else stFrom s d (p + 1)
theorem stFrom_mem (s : ByteArray) (d : Nat) : ∀ (p x : Int), x ∈ stFrom s d p ↔ (p ≤ x ∧ x < p + d) ∧ stB s x = true := by
  induction d with
  | zero => intro p x; simp [stFrom]; omega
  | succ d ih =>
    intro p x
    simp only [stFrom]
    by_cases h : stB s p = true
    · rw [if_pos h, List.mem_cons, ih]
      constructor
      · rintro (e | ⟨h1, h2⟩)
        · subst e; exact ⟨⟨by omega, by omega⟩, h⟩
        · exact ⟨⟨by omega, by omega⟩, h2⟩
      · rintro ⟨h1, h2⟩
        by_cases e : x = p
        · exact .inl e
        · exact .inr ⟨⟨by omega, by omega⟩, h2⟩
    · rw [if_neg h, ih]
      constructor
      · rintro ⟨h1, h2⟩; exact ⟨⟨by omega, by omega⟩, h2⟩
      · rintro ⟨h1, h2⟩
        have : x ≠ p := fun e => h (e ▸ h2)
        exact ⟨⟨by omega, by omega⟩, h2⟩
theorem stFrom_len (s : ByteArray) (d : Nat) : ∀ p : Int, (stFrom s d p).length ≤ d := by
  induction d with
  | zero => intro p; simp [stFrom]
  | succ d ih =>
    intro p
    simp only [stFrom]
    have := ih (p + 1)
    split <;> simp <;> omega
theorem stand_l0 (s : ByteArray) (hs : s.size ≤ 40) (d : Nat) : ∀ (k : Nat) (i : Int) (acc : List Int), 0 ≤ i → (s.size : Int) - i = d → d < k → acc.length + d < 17592186044416 → impl_stand.l0 k s acc (s.size : Int) i = some (acc ++ stFrom s (d + 1) (i + 1)) := by
  induction d with
  | zero =>
    intro k i acc h0 hd hk hl
    obtain ⟨k, rfl⟩ : ∃ m, k = m + 1 := ⟨k - 1, by omega⟩
    obtain rfl : i = (s.size : Int) := by omega
    simp only [impl_stand.l0]
    rw [if_neg (by omega), if_pos (by omega), w64 (by omega) (by omega)]
    simp [stFrom, stB]
  | succ d ih =>
    intro k i acc h0 hd hk hl
    obtain ⟨k, rfl⟩ : ∃ m, k = m + 1 := ⟨k - 1, by omega⟩
    simp only [impl_stand.l0]
    rw [if_pos (by omega), if_pos h0, if_pos (by omega), w64 (by omega) (by omega)]
    have hst : stB s (i + 1) = decide (bt s i = 111) := by
      unfold stB
      rw [show i + 1 - 1 = i by omega]
      have e0 : decide (i + 1 = 0) = false := decide_eq_false (by omega)
      have e1 : decide (i + 1 = (s.size : Int) + 1) = false := decide_eq_false (by omega)
      rw [e0, e1]
      rfl
    have hstep : stFrom s (d + 1 + 1) (i + 1) = if stB s (i + 1) = true then (i + 1) :: stFrom s (d + 1) (i + 1 + 1) else stFrom s (d + 1) (i + 1 + 1) := rfl
    rw [hstep, hst]
    by_cases hb : bt s i = 111
    · rw [if_pos hb, if_pos (by omega), if_pos (decide_eq_true hb), ih k (i + 1) (acc ++ [i + 1]) (by omega) (by omega) (by omega) (by simp; omega)]
      simp
    · rw [if_neg hb, if_neg (by simp [hb]), ih k (i + 1) acc (by omega) (by omega) (by omega) (by omega)]
theorem stand_eq (s : ByteArray) (hs : s.size ≤ 40) {k : Nat} (hk : s.size < k) : impl_stand.f k s = some (0 :: stFrom s (s.size + 1) 1) := by
  unfold impl_stand.f
  rw [stand_l0 s hs s.size k 0 [0] (by omega) (by omega) hk (by simp; omega)]
  rfl
theorem rd_mid (pre rest : List Int) (x i : Int) (h : i = pre.length) : rd (pre ++ x :: rest) i = x := by
  subst h; unfold rd; simp
theorem stFrom_last (s : ByteArray) (d : Nat) : ∀ (p : Int), stB s (p + d) = true → stFrom s (d + 1) p = stFrom s d p ++ [p + d] := by
  induction d with
  | zero =>
    intro p h
    have h : stB s p = true := by simpa using h
    simp only [stFrom]
    rw [if_pos h]
    simp
  | succ d ih =>
    intro p h
    have h2 := ih (p + 1) (by rw [show p + 1 + (d : Int) = p + ((d + 1 : Nat) : Int) by omega]; exact h)
    rw [show stFrom s (d + 1 + 1) p = if stB s p = true then p :: stFrom s (d + 1) (p + 1) else stFrom s (d + 1) (p + 1) from rfl, h2, show stFrom s (d + 1) p = if stB s p = true then p :: stFrom s d (p + 1) else stFrom s d (p + 1) from rfl]
    rw [show p + 1 + (d : Int) = p + ((d + 1 : Nat) : Int) by omega]
    split <;> simp
theorem least_eq (x : Int) : (spec_l1Least.f x 1000000000000001).getD 0 = min x 1000000000000001 := by
  unfold spec_l1Least.f
  by_cases h : x < 1000000000000001
  · rw [if_pos h]; show x = _; omega
  · rw [if_neg h]; show (1000000000000001 : Int) = _; omega
/-- Every number of the row lies in 0..1000000000000001. -/
def Gd (a : List Int) : Prop := ∀ j : Int, 0 ≤ j → 0 ≤ rd a j ∧ rd a j ≤ 1000000000000001
theorem rd_setn (l : List Int) (i : Nat) (v : Int) (hi : i < l.length) (j : Int) (h : 0 ≤ j) : rd (l.set i v) j = if j = (i : Int) then v else rd l j := by
  unfold rd
  rw [List.getD_eq_getElem?_getD, List.getD_eq_getElem?_getD, List.getElem?_set]
  by_cases e : j = (i : Int)
  · subst e; rw [if_pos (by omega), if_pos hi, if_pos rfl]; rfl
  · rw [if_neg (by omega), if_neg e]
theorem addK_rd (row src : List Int) (k : Nat) (hr : Gd row) (hs : Gd src) (hk : k + 1 < row.length) (j : Int) (hj : 0 ≤ j) : rd (spec_rvCount.addK row src k) j = if j = (k : Int) + 1 then min (rd row j + rd src (j - 1)) 1000000000000001 else rd row j := by
  unfold spec_rvCount.addK
  have h1 := hr ((k : Int) + 1) (by omega)
  have h2 := hs (k : Int) (by omega)
  rw [least_eq, w64 (by omega) (by omega), rd_setn _ _ _ hk j hj, show ((k + 1 : Nat) : Int) = (k : Int) + 1 by omega]
  by_cases e : j = (k : Int) + 1
  · rw [if_pos e, if_pos e, e, show (k : Int) + 1 - 1 = k by omega]
  · rw [if_neg e, if_neg e]
theorem addK_gd (row src : List Int) (k : Nat) (hr : Gd row) (hs : Gd src) (hk : k + 1 < row.length) : Gd (spec_rvCount.addK row src k) := by
  intro j hj
  rw [addK_rd row src k hr hs hk j hj]
  have h1 := hr j hj
  split
  · have h2 := hs (j - 1) (by omega); omega
  · exact h1
theorem addL_rd (src : List Int) (hs : Gd src) (d : Nat) : ∀ (k : Nat) (row : List Int), Gd row → k + d < row.length → Gd (spec_rvCount.addL d k row src) ∧ ∀ j : Int, 0 ≤ j → rd (spec_rvCount.addL d k row src) j = if (k : Int) < j ∧ j ≤ k + d then min (rd row j + rd src (j - 1)) 1000000000000001 else rd row j := by
  induction d with
  | zero =>
    intro k row hr hk
    rw [spec_rvCount.addL_zero]
    exact ⟨hr, fun j hj => by rw [if_neg (by omega)]⟩
  | succ d ih =>
    intro k row hr hk
    rw [spec_rvCount.addL_succ]
    obtain ⟨g1, g2⟩ := ih (k + 1) (spec_rvCount.addK row src k) (addK_gd row src k hr hs (by omega)) (by rw [spec_rvCount.addK_len]; omega)
    refine ⟨g1, fun j hj => ?_⟩
    rw [g2 j hj, addK_rd row src k hr hs (by omega) j hj]
    by_cases e : j = (k : Int) + 1
    · rw [if_neg (by omega), if_pos e, if_pos (by omega)]
    · rw [if_neg e]
      by_cases c : ((k + 1 : Nat) : Int) < j ∧ j ≤ ((k + 1 : Nat) : Int) + d
      · rw [if_pos c, if_pos (by omega)]
      · rw [if_neg c, if_neg (by omega)]
theorem bef_props (e : Nat) (rows : List (List Int)) (p : Nat) (hrows : ∀ b : Nat, b < p → Gd (tabRd rows (b : Int)) ∧ ∀ j : Int, (b : Int) < j → rd (tabRd rows (b : Int)) j = 0) (d : Nat) : ∀ (b : Nat) (row : List Int), b + d ≤ p → e < row.length → Gd row → (∀ j : Int, (p : Int) < j → rd row j = 0) → Gd (spec_rvCount.befL e d b rows row) ∧ ∀ j : Int, (p : Int) < j → rd (spec_rvCount.befL e d b rows row) j = 0 := by
  induction d with
  | zero => intro b row _ _ hr hz; rw [spec_rvCount.befL_zero]; exact ⟨hr, hz⟩
  | succ d ih =>
    intro b row hb he hr hz
    rw [spec_rvCount.befL_succ]
    obtain ⟨s1, s2⟩ := hrows b (by omega)
    obtain ⟨g1, g2⟩ := addL_rd (tabRd rows (b : Int)) s1 e 0 row hr (by omega)
    refine ih (b + 1) _ (by omega) (by rw [spec_rvCount.addL_len]; exact he) g1 (fun j hj => ?_)
    rw [g2 j (by omega), hz j hj]
    split
    · rw [s2 (j - 1) (by omega)]; omega
    · rfl
theorem bef_rel (n : Nat) (hn : n ≤ 40) (A B : List (List Int)) (p : Nat) (hp : p ≤ n + 1) (hAB : ∀ b : Nat, b < p → ∀ j : Int, 0 ≤ j → rd (tabRd A (b : Int)) j = rd (tabRd B (b : Int)) j) (hB : ∀ b : Nat, b < p → Gd (tabRd B (b : Int)) ∧ ∀ j : Int, (b : Int) < j → rd (tabRd B (b : Int)) j = 0) (d : Nat) : ∀ (b : Nat) (ra rb : List Int), b + d ≤ p → ra.length = 42 → rb.length = n + 2 → Gd rb → (∀ j : Int, 0 ≤ j → rd ra j = rd rb j) → ∀ j : Int, 0 ≤ j → rd (spec_rvCount.befL 41 d b A ra) j = rd (spec_rvCount.befL (n + 1) d b B rb) j := by
  induction d with
  | zero => intro b ra rb _ _ _ _ h; rw [spec_rvCount.befL_zero, spec_rvCount.befL_zero]; exact h
  | succ d ih =>
    intro b ra rb hb la lb gb h
    rw [spec_rvCount.befL_succ, spec_rvCount.befL_succ]
    obtain ⟨s1, s2⟩ := hB b (by omega)
    have hab := hAB b (by omega)
    have sA : Gd (tabRd A (b : Int)) := fun j hj => by rw [hab j hj]; exact s1 j hj
    have gA : Gd ra := fun j hj => by rw [h j hj]; exact gb j hj
    obtain ⟨_, a2⟩ := addL_rd (tabRd A (b : Int)) sA 41 0 ra gA (by omega)
    obtain ⟨b1, b2⟩ := addL_rd (tabRd B (b : Int)) s1 (n + 1) 0 rb gb (by omega)
    refine ih (b + 1) _ _ (by omega) (by rw [spec_rvCount.addL_len]; exact la) (by rw [spec_rvCount.addL_len]; exact lb) b1 (fun j hj => ?_)
    rw [a2 j hj, b2 j hj, h j hj]
    have hg := gb j hj
    by_cases c1 : ((0 : Nat) : Int) < j ∧ j ≤ ((0 : Nat) : Int) + ((n + 1 : Nat) : Int)
    · rw [if_pos c1, if_pos (by omega), hab (j - 1) (by omega)]
    · rw [if_neg c1]
      by_cases c2 : ((0 : Nat) : Int) < j ∧ j ≤ ((0 : Nat) : Int) + ((41 : Nat) : Int)
      · rw [if_pos c2, hab (j - 1) (by omega), s2 (j - 1) (by omega)]; omega
      · rw [if_neg c2]
theorem first_rd (c p : Nat) (hc : 0 < c) (j : Int) (hj : 0 ≤ j) : rd (spec_rvCount.first c p) j = if p = 0 ∧ j = 0 then 1 else 0 := by
  have hz : ∀ j : Int, rd (List.replicate c (0 : Int)) j = 0 := fun j => by
    unfold rd
    rw [List.getD_eq_getElem?_getD, List.getElem?_replicate]
    split <;> rfl
  unfold spec_rvCount.first
  by_cases hp : p = 0
  · rw [if_pos hp, rd_setn _ 0 1 (by simp; omega) j hj, hz]
    by_cases e : j = 0
    · rw [if_pos (by omega), if_pos ⟨hp, e⟩]
    · rw [if_neg (by omega), if_neg (fun h => e h.2)]
  · rw [if_neg hp, hz, if_neg (fun h => hp h.1)]
theorem first_gd (c p : Nat) (hc : 0 < c) : Gd (spec_rvCount.first c p) ∧ ∀ j : Int, (p : Int) < j → rd (spec_rvCount.first c p) j = 0 := by
  refine ⟨fun j hj => ?_, fun j hj => ?_⟩
  · rw [first_rd c p hc j hj]; split <;> omega
  · rw [first_rd c p hc j (by omega), if_neg (by omega)]
theorem st_stB (s : ByteArray) (hs : s.size ≤ 40) (p : Nat) (hp : p ≤ s.size + 1) : spec_rvCount.st s p = stB s (p : Int) := by
  unfold spec_rvCount.st
  rw [rvStand_eq s hs (p : Int) (by omega) (by omega)]; rfl
theorem tab_get (s : ByteArray) (leap : Int) (p q : Nat) (hq : q < p) : tabRd (spec_rvCount.tab s leap p) (q : Int) = spec_rvCount.rowAt s leap (spec_rvCount.tab s leap q) q := by
  induction p with
  | zero => omega
  | succ p ih =>
    have hl := spec_rvCount.tab_len s leap p
    unfold tabRd at ih ⊢
    rw [Int.toNat_natCast] at ih ⊢
    simp only [spec_rvCount.tab]
    rw [List.getD_eq_getElem?_getD] at ih ⊢
    by_cases e : q = p
    · subst e
      rw [List.getElem?_append_right (by omega), hl]; simp
    · rw [List.getElem?_append_left (by omega)]
      exact ih (by omega)
theorem lo_le (leap : Int) (hl : 0 ≤ leap) (p : Nat) : spec_rvCount.lo leap p ≤ p := by unfold spec_rvCount.lo; omega
theorem row_len (s : ByteArray) (leap : Int) (rows : List (List Int)) (p : Nat) : (spec_rvCount.rowAt s leap rows p).length = s.size + 2 := by
  unfold spec_rvCount.rowAt
  split
  · rw [spec_rvCount.befL_len, spec_rvCount.first_len]
  · rw [spec_rvCount.first_len]
theorem row_props (s : ByteArray) (leap : Int) (hl : 1 ≤ leap ∧ leap ≤ 50) (p : Nat) : ∀ q : Nat, q < p → Gd (spec_rvCount.rowAt s leap (spec_rvCount.tab s leap q) q) ∧ ∀ j : Int, (q : Int) < j → rd (spec_rvCount.rowAt s leap (spec_rvCount.tab s leap q) q) j = 0 := by
  induction p with
  | zero => intro q hq; omega
  | succ p ih =>
    intro q hq
    by_cases e : q = p
    · subst e
      obtain ⟨f1, f2⟩ := first_gd (s.size + 2) q (by omega)
      have hlo := lo_le leap (by omega) q
      unfold spec_rvCount.rowAt
      split
      · refine bef_props (s.size + 1) _ q (fun b hb => ?_) _ _ _ (by omega) (by rw [spec_rvCount.first_len]; omega) f1 f2
        rw [tab_get s leap q b hb]
        exact ih b hb
      · exact ⟨f1, f2⟩
    · exact ih q (by omega)
/-- The program's table when the places below p are told. -/
def Inv (s : ByteArray) (leap : Int) (p : Nat) (A : List (List Int)) : Prop :=
  A.length = s.size + 2 ∧ (∀ q : Nat, q < s.size + 2 → (tabRd A (q : Int)).length = 42) ∧ (∀ q : Nat, q < p → ∀ j : Int, 0 ≤ j → rd (tabRd A (q : Int)) j = rd (spec_rvCount.rowAt s leap (spec_rvCount.tab s leap q) q) j) ∧ ∀ q : Nat, p ≤ q → q < s.size + 2 → tabRd A (q : Int) = spec_rvCount.first 42 q
theorem L1_set (A : List (List Int)) (i : Nat) (r : List Int) (hi : i < A.length) (q : Nat) : tabRd (A.set i r) (q : Int) = if q = i then r else tabRd A (q : Int) := by
  unfold tabRd
  rw [Int.toNat_natCast, List.getD_eq_getElem?_getD, List.getD_eq_getElem?_getD]
  by_cases e : q = i
  · subst e; rw [List.getElem?_set_self hi, if_pos rfl]; rfl
  · rw [List.getElem?_set_ne (fun h => e h.symm), if_neg e]
theorem inv_step (s : ByteArray) (hs : s.size ≤ 40) (leap : Int) (hl : 1 ≤ leap ∧ leap ≤ 50) (p : Nat) (h1 : 1 ≤ p) (hp : p < s.size + 2) (A : List (List Int)) (hA : Inv s leap p A) : Inv s leap (p + 1) (if stB s (p : Int) = true then impl_countBy.step leap A (p : Int) else A) := by
  obtain ⟨a1, a2, a3, a4⟩ := hA
  have hst := st_stB s hs p (by omega)
  have hlo := lo_le leap (by omega) p
  have hfp := a4 p (Nat.le_refl _) hp
  have hrel0 : ∀ j : Int, 0 ≤ j → rd (spec_rvCount.first 42 p) j = rd (spec_rvCount.first (s.size + 2) p) j := fun j hj => by rw [first_rd 42 p (by omega) j hj, first_rd (s.size + 2) p (by omega) j hj]
  by_cases c : stB s (p : Int) = true
  · rw [if_pos c]
    unfold impl_countBy.step
    rw [Int.toNat_natCast, hfp]
    refine ⟨by rw [List.length_set]; exact a1, fun q hq => ?_, fun q hq => ?_, fun q hq1 hq2 => ?_⟩
    · rw [L1_set A p _ (by omega) q]
      split
      · rw [spec_rvCount.befL_len, spec_rvCount.first_len]
      · exact a2 q hq
    · rw [L1_set A p _ (by omega) q]
      by_cases e : q = p
      · subst e
        rw [if_pos rfl]
        have hrow : spec_rvCount.rowAt s leap (spec_rvCount.tab s leap q) q = spec_rvCount.befL (s.size + 1) (q - spec_rvCount.lo leap q) (spec_rvCount.lo leap q) (spec_rvCount.tab s leap q) (spec_rvCount.first (s.size + 2) q) := by
          unfold spec_rvCount.rowAt
          rw [hst, if_pos c]
        rw [hrow]
        exact bef_rel s.size hs A (spec_rvCount.tab s leap q) q (by omega) (fun b hb j hj => by rw [tab_get s leap q b hb]; exact a3 b hb j hj) (fun b hb => by rw [tab_get s leap q b hb]; exact row_props s leap hl q b hb) _ _ _ _ (by omega) (spec_rvCount.first_len 42 q) (spec_rvCount.first_len _ q) (first_gd _ q (by omega)).1 hrel0
      · rw [if_neg e]; exact a3 q (by omega)
    · rw [L1_set A p _ (by omega) q, if_neg (by omega)]; exact a4 q (by omega) hq2
  · rw [if_neg c]
    refine ⟨a1, a2, fun q hq j hj => ?_, fun q hq1 hq2 => a4 q (by omega) hq2⟩
    by_cases e : q = p
    · subst e
      have hrow : spec_rvCount.rowAt s leap (spec_rvCount.tab s leap q) q = spec_rvCount.first (s.size + 2) q := by
        unfold spec_rvCount.rowAt
        rw [hst, if_neg c]
      rw [hrow, hfp]
      exact hrel0 j hj
    · exact a3 q (by omega) j hj
theorem inv_fold (s : ByteArray) (hs : s.size ≤ 40) (leap : Int) (hl : 1 ≤ leap ∧ leap ≤ 50) (d : Nat) : ∀ (p : Nat) (A : List (List Int)), 1 ≤ p → p + d = s.size + 2 → Inv s leap p A → Inv s leap (s.size + 2) ((stFrom s d (p : Int)).foldl (impl_countBy.step leap) A) := by
  induction d with
  | zero =>
    intro p A h1 hp hA
    rw [show p = s.size + 2 by omega] at hA
    exact hA
  | succ d ih =>
    intro p A h1 hp hA
    have h2 := inv_step s hs leap hl p h1 (by omega) A hA
    have h3 := ih (p + 1) _ (by omega) (by omega) h2
    rw [show ((p + 1 : Nat) : Int) = (p : Int) + 1 by omega] at h3
    rw [show stFrom s (d + 1) (p : Int) = if stB s (p : Int) = true then (p : Int) :: stFrom s d ((p : Int) + 1) else stFrom s d ((p : Int) + 1) from rfl]
    by_cases c : stB s (p : Int) = true
    · rw [if_pos c] at h3 ⊢
      rw [List.foldl_cons]; exact h3
    · rw [if_neg c] at h3 ⊢
      exact h3
theorem inv_start (s : ByteArray) (hs : s.size ≤ 40) (leap : Int) (hl : 1 ≤ leap ∧ leap ≤ 50) : Inv s leap 1 (impl_countBy.rows0 s.size) := by
  have hg : ∀ q : Nat, q < s.size + 2 → tabRd (impl_countBy.rows0 s.size) (q : Int) = spec_rvCount.first 42 q := fun q hq => by
    unfold impl_countBy.rows0
    rw [L1_set _ 0 _ (by simp) q]
    unfold spec_rvCount.first
    by_cases e : q = 0
    · rw [if_pos e, if_pos e]
    · rw [if_neg e, if_neg e]
      unfold tabRd
      rw [Int.toNat_natCast, List.getD_eq_getElem?_getD, List.getElem?_replicate, if_pos hq]; rfl
  refine ⟨by unfold impl_countBy.rows0; simp, fun q hq => by rw [hg q hq, spec_rvCount.first_len], fun q hq j hj => ?_, fun q _ hq => hg q hq⟩
  obtain rfl : q = 0 := by omega
  rw [hg 0 (by omega)]
  have hrow : spec_rvCount.rowAt s leap (spec_rvCount.tab s leap 0) 0 = spec_rvCount.first (s.size + 2) 0 := by
    have hlo := lo_le leap (by omega) 0
    unfold spec_rvCount.rowAt
    split
    · rw [show 0 - spec_rvCount.lo leap 0 = 0 by omega, spec_rvCount.befL_zero]
    · rfl
  rw [hrow, first_rd 42 0 (by omega) j hj, first_rd (s.size + 2) 0 (by omega) j hj]
/-- The reference's row at the far bank. -/
def CS (s : ByteArray) (leap : Int) : List Int := spec_rvCount.rowAt s leap (spec_rvCount.tab s leap (s.size + 1)) (s.size + 1)
theorem CS_len (s : ByteArray) (leap : Int) : (CS s leap).length = s.size + 2 := row_len _ _ _ _
theorem CS_gd (s : ByteArray) (leap : Int) (hl : 1 ≤ leap ∧ leap ≤ 50) : Gd (CS s leap) := (row_props s leap hl (s.size + 2) (s.size + 1) (by omega)).1
theorem specCount_eq (s : ByteArray) (hs : s.size ≤ 40) (leap : Int) (hl : 1 ≤ leap ∧ leap ≤ 50) : spec_rvCount.f s leap = some (CS s leap) := by
  unfold spec_rvCount.f
  rw [if_pos ⟨by omega, by omega, by omega⟩, show (s.size : Int) + 1 = ((s.size + 1 : Nat) : Int) by omega, tab_get s leap (s.size + 2) (s.size + 1) (by omega)]; rfl
theorem implCount_eq (s : ByteArray) (hs : s.size ≤ 40) (leap : Int) (hl : 1 ≤ leap ∧ leap ≤ 50) : ∃ CI : List Int, CI.length = 42 ∧ (∀ j : Int, 0 ≤ j → rd CI j = rd (CS s leap) j) ∧ ∀ k, s.size < k → impl_countBy.f k s leap = some CI := by
  have hI := inv_fold s hs leap hl (s.size + 1) 1 _ (by omega) (by omega) (inv_start s hs leap hl)
  obtain ⟨_, h2, h3, _⟩ := hI
  refine ⟨_, h2 (s.size + 1) (by omega), fun j hj => h3 (s.size + 1) (by omega) j hj, fun k hk => ?_⟩
  have h1 := stand_eq s hs hk
  have hlast := stFrom_last s s.size 1 (by unfold stB; rw [show (1 : Int) + (s.size : Int) = (s.size : Int) + 1 by omega]; simp)
  have hlen := stFrom_len s (s.size + 1) 1
  have hlen2 : 2 ≤ ((0 : Int) :: stFrom s (s.size + 1) 1).length ∧ ((0 : Int) :: stFrom s (s.size + 1) 1).length ≤ 1000 := by
    constructor
    · rw [hlast]; simp
    · simp; omega
  have hok : impl_countBy.okB s.size ((0 : Int) :: stFrom s (s.size + 1) 1) = true := by
    unfold impl_countBy.okB
    rw [List.all_eq_true]
    intro x hx
    apply decide_eq_true
    rcases List.mem_cons.1 hx with e | e
    · omega
    · have := ((stFrom_mem s _ _ _).1 e).1; omega
  unfold impl_countBy.f
  rw [h1]
  simp only [Option.bind_some]
  rw [if_pos ⟨⟨by omega, by omega, by omega⟩, hlen2, hok⟩, show (s.size : Int) + 1 = ((s.size + 1 : Nat) : Int) by omega]
  rfl
theorem rd_out (l : List Int) (j : Int) (h : (l.length : Int) ≤ j) : rd l j = 0 := by
  unfold rd
  rw [List.getD_eq_getElem?_getD, List.getElem?_eq_none (by omega)]; rfl
theorem law_ii (x y : Int) (b : Bool) (h : x = y) : (if y = x then (if (b != b) = true then (some false) else (some true)) else (some false)) = some true := by
  subst h; simp
/-- The sum of so many numbers of a row from a place on, no more than 1000000000000001. -/
def sumF (row : List Int) : Nat → Nat → Int → Int
  | 0, _, acc => acc
  | d + 1, i, acc => sumF row d (i + 1) (min (acc + rd row (i : Int)) 1000000000000001)
theorem sumF_succ (row : List Int) (d i : Nat) (acc : Int) : sumF row (d + 1) i acc = sumF row d (i + 1) (min (acc + rd row (i : Int)) 1000000000000001) := rfl
theorem sumF_gd (row : List Int) (hr : Gd row) (d : Nat) : ∀ (i : Nat) (acc : Int), 0 ≤ acc ∧ acc ≤ 1000000000000001 → 0 ≤ sumF row d i acc ∧ sumF row d i acc ≤ 1000000000000001 := by
  induction d with
  | zero => intro i acc h; exact h
  | succ d ih =>
    intro i acc h
    rw [sumF_succ]
    have := hr (i : Int) (by omega)
    exact ih (i + 1) _ (by omega)
theorem sumF_rel (a b : List Int) (h : ∀ j : Int, 0 ≤ j → rd a j = rd b j) (d : Nat) : ∀ (i : Nat) (acc : Int), sumF a d i acc = sumF b d i acc := by
  induction d with
  | zero => intro i acc; rfl
  | succ d ih => intro i acc; rw [sumF_succ, sumF_succ, h (i : Int) (by omega), ih]
theorem sumF_zero (row : List Int) (d : Nat) : ∀ (i : Nat) (acc : Int), (row.length ≤ i) → 0 ≤ acc ∧ acc ≤ 1000000000000001 → sumF row d i acc = acc := by
  induction d with
  | zero => intro i acc _ _; rfl
  | succ d ih =>
    intro i acc hi h
    rw [sumF_succ, rd_out row (i : Int) (by omega), show min (acc + 0) 1000000000000001 = acc by omega]
    exact ih (i + 1) acc (by omega) h
theorem sumF_more (row : List Int) (hr : Gd row) (d e : Nat) : ∀ (i : Nat) (acc : Int), row.length ≤ i + d → 0 ≤ acc ∧ acc ≤ 1000000000000001 → sumF row (d + e) i acc = sumF row d i acc := by
  induction d with
  | zero =>
    intro i acc hi h
    rw [Nat.zero_add, sumF_zero row e i acc (by omega) h]; rfl
  | succ d ih =>
    intro i acc hi h
    rw [show d + 1 + e = (d + e) + 1 by omega, sumF_succ, sumF_succ]
    have := hr (i : Int) (by omega)
    exact ih (i + 1) _ (by omega) (by omega)
def told (x : Int) : Int × Bool := if x > 1000000000000000 then (0, false) else (x, true)
theorem least_some (x : Int) : spec_l1Least.f x 1000000000000001 = some (min x 1000000000000001) := by
  rw [← least_eq]
  unfold spec_l1Least.f
  split <;> rfl
theorem mn_eq (x y : Int) : mn x y = min x y := by unfold mn; omega
theorem spec_l0 (row : List Int) (hr : Gd row) (hl : row.length < 1000) (d : Nat) : ∀ (k i : Nat) (acc : Int), i + d = row.length → d < k → 0 ≤ acc ∧ acc ≤ 1000000000000001 → spec_CountCrossings.l0 k acc row (row.length : Int) (i : Int) = some (told (sumF row d i acc)) := by
  induction d with
  | zero =>
    intro k i acc hi hk h
    obtain ⟨k, rfl⟩ : ∃ m, k = m + 1 := ⟨k - 1, by omega⟩
    have g : ¬ (i : Int) < (row.length : Int) := by omega
    simp only [spec_CountCrossings.l0]
    rw [if_neg g]
    unfold told sumF
    split <;> rfl
  | succ d ih =>
    intro k i acc hi hk h
    obtain ⟨k, rfl⟩ : ∃ m, k = m + 1 := ⟨k - 1, by omega⟩
    have g : (i : Int) < (row.length : Int) := by omega
    have g0 : (0 : Int) ≤ (i : Int) := by omega
    have hb := hr (i : Int) g0
    have hw := w64 (x := acc + rd row (i : Int)) (by omega) (by omega)
    have hw2 := w64 (x := (i : Int) + 1) (by omega) (by omega)
    have h2 := ih k (i + 1) (min (acc + rd row (i : Int)) 1000000000000001) (by omega) (by omega) (by omega)
    rw [show ((i + 1 : Nat) : Int) = (i : Int) + 1 by omega] at h2
    simp only [spec_CountCrossings.l0]
    rw [if_pos g, if_pos g0, if_pos g, hw, least_some, Option.bind_some, hw2, h2, sumF_succ]
theorem impl_l0 (row : List Int) (hr : Gd row) (hl : row.length < 1000) (d : Nat) : ∀ (k i : Nat) (acc : Int), i + d = row.length → d < k → 0 ≤ acc ∧ acc ≤ 1000000000000001 → impl_CountCrossings.l0 k acc row (row.length : Int) (i : Int) = some (told (sumF row d i acc)) := by
  induction d with
  | zero =>
    intro k i acc hi hk h
    obtain ⟨k, rfl⟩ : ∃ m, k = m + 1 := ⟨k - 1, by omega⟩
    have g : ¬ (i : Int) < (row.length : Int) := by omega
    simp only [impl_CountCrossings.l0]
    rw [if_neg g]
    unfold told sumF
    split <;> rfl
  | succ d ih =>
    intro k i acc hi hk h
    obtain ⟨k, rfl⟩ : ∃ m, k = m + 1 := ⟨k - 1, by omega⟩
    have g : (i : Int) < (row.length : Int) := by omega
    have g0 : (0 : Int) ≤ (i : Int) := by omega
    have hb := hr (i : Int) g0
    have hw := w64 (x := acc + rd row (i : Int)) (by omega) (by omega)
    have hw2 := w64 (x := (i : Int) + 1) (by omega) (by omega)
    have h2 := ih k (i + 1) (min (acc + rd row (i : Int)) 1000000000000001) (by omega) (by omega) (by omega)
    rw [show ((i + 1 : Nat) : Int) = (i : Int) + 1 by omega] at h2
    simp only [impl_CountCrossings.l0]
    rw [if_pos g, if_pos g0, if_pos g, hw, mn_eq, hw2, h2, sumF_succ]
theorem FnExactCountCrossings : laws_FnExactCountCrossings.Pure := by
  intro s leap _ _
  by_cases hb : (s.size : Int) > 1048576
  · exact ⟨0, by unfold laws_FnExactCountCrossings.f; rw [if_pos hb]⟩
  obtain ⟨k, hk⟩ : ∃ k : Nat, 100 ≤ k := ⟨100, Nat.le_refl _⟩
  refine ⟨k, ?_⟩
  have h41 : 41 < k := by omega
  have fin : ∀ r : Int × Bool, spec_CountCrossings.f k s leap = some r → impl_CountCrossings.f k s leap = some r → laws_FnExactCountCrossings.f k s leap = some true := fun r h1 h2 => by
    unfold laws_FnExactCountCrossings.f
    rw [if_neg hb, h1, Option.bind_some, h2, Option.bind_some]
    exact law_ii _ _ _ rfl
  by_cases hg : Good s ∧ 1 ≤ leap ∧ leap ≤ 50
  · have hs := hg.1.1.2
    have q1 := rvAsked_true hg.1 hg.2 h41
    have q2 := isCrossed_true hg.1 hg.2
    have e1 := specCount_eq s hs leap hg.2
    obtain ⟨CI, c1, c2, c3⟩ := implCount_eq s hs leap hg.2
    have e2 := c3 k (by omega)
    have hl := CS_len s leap
    have gS := CS_gd s leap hg.2
    have gI : Gd CI := fun j hj => by rw [c2 j hj]; exact gS j hj
    have t1 := spec_l0 (CS s leap) gS (by omega) (s.size + 2) k 0 0 (by omega) (by omega) (by omega)
    have t2 := impl_l0 CI gI (by omega) 42 k 0 0 (by omega) (by omega) (by omega)
    have hsum : sumF CI 42 0 0 = sumF (CS s leap) (s.size + 2) 0 0 := by
      rw [sumF_rel CI (CS s leap) c2 42 0 0, show 42 = (s.size + 2) + (40 - s.size) by omega]
      exact sumF_more (CS s leap) gS _ _ 0 0 (by omega) (by omega)
    rw [hsum] at t2
    refine fin (told (sumF (CS s leap) (s.size + 2) 0 0)) ?_ ?_
    · unfold spec_CountCrossings.f
      rw [q1, Option.bind_some, if_pos rfl, e1, Option.bind_some]
      exact t1
    · unfold impl_CountCrossings.f
      rw [q2, Option.bind_some, if_pos rfl, e2, Option.bind_some]
      exact t2
  · refine fin (0, false) ?_ ?_
    · unfold spec_CountCrossings.f
      rw [rvAsked_false hg h41, Option.bind_some, if_neg (by simp)]
    · unfold impl_CountCrossings.f
      rw [isCrossed_false hg, Option.bind_some, if_neg (by simp)]

end Go.Proofs.YtlcgimeebhoefaaDoor.Pure
