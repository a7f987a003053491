/- For every text and number the program's ReachOf and the reference's answer alike. Conditions: the text takes at most 140737488351232 bytes, the number is one of 64 bits. -/
import Derived.Test.YtencfkhncjeibaaDoorPFnExactReachOfx
namespace Go.Proofs.YtencfkhncjeibaaDoor.Pure
open Go.RowKit Go.Proofs.YtencfkhncjeibaaDoor.PFnExactReachOf Go.Proofs.YtencfkhncjeibaaDoorW.PrintWords Go.Proofs.YtencfkhncjeibaaDoorW.PrintLast Go.Proofs.YtencfkhncjeibaaDoorW.PrintMore

def inB (a b c : Int) : Bool := decide (b ≤ a ∧ a ≤ c)
theorem inB_true {a b c : Int} (h : inB a b c = true) : b ≤ a ∧ a ≤ c := of_decide_eq_true h
theorem inB_mk {a b c : Int} (h : b ≤ a ∧ a ≤ c) : inB a b c = true := decide_eq_true h
theorem inB_not {a b c : Int} (h : ¬ (b ≤ a ∧ a ≤ c)) : inB a b c = false := decide_eq_false h
theorem inB_false {a b c : Int} (h : inB a b c = false) : ¬ (b ≤ a ∧ a ≤ c) := of_decide_eq_false h
theorem in_eq (a b c : Int) : spec_l1In.f a b c = some (inB a b c) := by
  unfold spec_l1In.f inB
  by_cases h : a ≥ b
  · rw [if_pos h]; congr 1; rw [decide_eq_decide]; omega
  · rw [if_neg h]; congr 1; symm; rw [decide_eq_false_iff_not]; omega
theorem within_eq (a b c : Int) : impl_within.f a b c = some (inB a b c) := by
  unfold impl_within.f inB
  by_cases h : b ≤ a
  · rw [if_pos h]; congr 1; rw [decide_eq_decide]; omega
  · rw [if_neg h]; congr 1; symm; rw [decide_eq_false_iff_not]; omega
theorem w64 {x : Int} (h0 : -9223372036854775808 ≤ x) (h1 : x < 9223372036854775808) : wrap64 x = x := by unfold wrap64; omega
/-- A river: 1..40 signs, each a stone or water. -/
def Good (s : ByteArray) : Prop := (1 ≤ s.size ∧ s.size ≤ 40) ∧ ∀ i : Int, 0 ≤ i → i < s.size → bt s i = 111 ∨ bt s i = 46
theorem rvGood_l0_true (s : ByteArray) (hs : s.size ≤ 40) (d : Nat) : ∀ (k : Nat) (i : Int), 0 ≤ i → (s.size : Int) - i ≤ d → d < k → (∀ j : Int, i ≤ j → j < s.size → bt s j = 111 ∨ bt s j = 46) → spec_rvGood.l0 k s i = some true := by
  induction d with
  | zero =>
    intro k i h0 hd hk h
    obtain ⟨k, rfl⟩ : ∃ m, k = m + 1 := ⟨k - 1, by omega⟩
    simp only [spec_rvGood.l0]; rw [if_neg (by omega)]
  | succ d ih =>
    intro k i h0 hd hk h
    obtain ⟨k, rfl⟩ : ∃ m, k = m + 1 := ⟨k - 1, by omega⟩
    simp only [spec_rvGood.l0]
    by_cases hlt : i < (s.size : Int)
    · rw [if_pos hlt, if_pos h0, w64 (by omega) (by omega)]
      have hr := ih k (i + 1) (by omega) (by omega) (by omega) (fun j h1 h2 => h j (by omega) h2)
      rw [hr]
      rcases h i (by omega) hlt with e | e
      · rw [if_pos e]
      · rw [if_neg (by omega), if_pos e]
    · rw [if_neg hlt]
theorem rvGood_l0_false (s : ByteArray) (hs : s.size ≤ 40) (d : Nat) : ∀ (k : Nat) (i : Int), 0 ≤ i → (s.size : Int) - i ≤ d → d < k → (¬ ∀ j : Int, i ≤ j → j < s.size → bt s j = 111 ∨ bt s j = 46) → spec_rvGood.l0 k s i = some false := by
  induction d with
  | zero =>
    intro k i h0 hd hk h
    exact absurd (fun j h1 h2 => absurd h1 (by omega)) h
  | succ d ih =>
    intro k i h0 hd hk h
    obtain ⟨k, rfl⟩ : ∃ m, k = m + 1 := ⟨k - 1, by omega⟩
    simp only [spec_rvGood.l0]
    by_cases hlt : i < (s.size : Int)
    · rw [if_pos hlt, if_pos h0, w64 (by omega) (by omega)]
      by_cases e1 : bt s i = 111
      · rw [if_pos e1]
        exact ih k (i + 1) (by omega) (by omega) (by omega) (fun g => h (fun j h1 h2 => if c : j = i then by rw [c]; exact .inl e1 else g j (by omega) h2))
      · rw [if_neg e1]
        by_cases e2 : bt s i = 46
        · rw [if_pos e2]
          exact ih k (i + 1) (by omega) (by omega) (by omega) (fun g => h (fun j h1 h2 => if c : j = i then by rw [c]; exact .inr e2 else g j (by omega) h2))
        · rw [if_neg e2]
    · exact absurd (fun j h1 h2 => absurd h2 (by omega)) h
theorem rvGood_true {s : ByteArray} (hg : Good s) {k : Nat} (hk : 41 < k) : spec_rvGood.f k s = some true := by
  unfold spec_rvGood.f
  obtain ⟨h1, h2⟩ := hg
  rw [in_eq, inB_mk ⟨by omega, by omega⟩]
  exact rvGood_l0_true s h1.2 s.size k 0 (by omega) (by omega) (by omega) h2
theorem rvGood_false {s : ByteArray} (hg : ¬ Good s) {k : Nat} (hk : 41 < k) : spec_rvGood.f k s = some false := by
  unfold spec_rvGood.f
  rw [in_eq]
  cases hb : inB (s.size : Int) 1 40
  · rfl
  · have h1 := inB_true hb
    exact rvGood_l0_false s (by omega) s.size k 0 (by omega) (by omega) (by omega) (fun h => hg ⟨⟨by omega, by omega⟩, h⟩)
theorem bt_list (s : ByteArray) (i : Nat) (h : i < s.data.toList.length) : bt s (i : Int) = ((s.data.toList[i]'h).toNat : Int) := by
  have h' : i < s.size := by simpa using h
  unfold bt
  rw [dif_pos (by simpa using h')]
  rfl
theorem dropWhile_nil {α : Type} (p : α → Bool) (l : List α) : l.dropWhile p = [] ↔ ∀ x ∈ l, p x = true := by
  induction l with
  | nil => simp
  | cons a l ih =>
    rw [List.dropWhile_cons]
    by_cases h : p a = true
    · rw [if_pos h, ih]; simp [h]
    · rw [if_neg h]; simp [h]
theorem trimS_nil (l cs : List UInt8) : Lib.trimS l cs = [] ↔ ∀ x ∈ l, cs.contains x = true := by
  unfold Lib.trimS Lib.trimLeftS Lib.trimRightS
  rw [dropWhile_nil]
  constructor
  · intro h x hx
    by_cases hall : ∀ y ∈ l.reverse, cs.contains y = true
    · exact hall x (by simpa using hx)
    · exfalso
      have hne : l.reverse.dropWhile (cs.contains ·) ≠ [] := fun e => hall ((dropWhile_nil _ _).1 e)
      obtain ⟨y, ys, hy⟩ : ∃ y ys, l.reverse.dropWhile (cs.contains ·) = y :: ys := by
        cases e : l.reverse.dropWhile (cs.contains ·) with
        | nil => exact absurd e hne
        | cons y ys => exact ⟨y, ys, rfl⟩
      have hp := List.head?_dropWhile_not (cs.contains ·) l.reverse
      rw [hy] at hp
      have := h y (by rw [hy]; simp)
      simp at hp this
      exact hp this
  · intro h x hx
    rw [List.mem_reverse] at hx
    exact h x (by simpa using (List.dropWhile_sublist _).subset hx)
theorem trim_river (s : ByteArray) (hs : s.size ≤ 9223372036854775807) : ∃ t : ByteArray, strings_Trim.f s (⟨#[111, 46]⟩ : ByteArray) = some t ∧ (t.toList = [] ↔ ∀ i : Int, 0 ≤ i → i < s.size → bt s i = 111 ∨ bt s i = 46) := by
  refine ⟨⟨(Lib.trimS s.data.toList [111, 46]).toArray⟩, ?_, ?_⟩
  · unfold strings_Trim.f
    rw [if_pos ⟨hs, by decide, by decide⟩]
  · rw [Lib.toList_data]
    show (Lib.trimS s.data.toList [111, 46]).toArray.toList = [] ↔ _
    rw [show (Lib.trimS s.data.toList [111, 46]).toArray.toList = Lib.trimS s.data.toList [111, 46] from rfl, trimS_nil]
    constructor
    · intro h i h0 h1
      have hi : i.toNat < s.data.toList.length := by
        have : s.data.toList.length = s.size := by simp
        omega
      have hb := bt_list s i.toNat hi
      rw [show ((i.toNat : Nat) : Int) = i by omega] at hb
      have := h _ (List.getElem_mem hi)
      rw [hb]
      simp at this
      rcases this with e | e <;> simp [e]
    · intro h x hx
      obtain ⟨n, hn, rfl⟩ := List.mem_iff_getElem.1 hx
      have hb := bt_list s n hn
      have hlt : n < s.size := by simpa using hn
      have := h n (by omega) (by omega)
      rw [hb] at this
      simp
      rcases this with e | e
      · left; apply UInt8.toNat_inj.1; simpa using Int.ofNat.inj e
      · right; apply UInt8.toNat_inj.1; simpa using Int.ofNat.inj e
theorem isRiver_true {s : ByteArray} (hg : Good s) : impl_IsRiver.f s = some true := by
  unfold impl_IsRiver.f
  obtain ⟨h1, h2⟩ := hg
  obtain ⟨t, ht, hiff⟩ := trim_river s (by omega)
  rw [within_eq, inB_mk ⟨by omega, by omega⟩]
  simp only [Option.bind_some, if_true, ht]
  rw [hiff.2 h2]; rfl
theorem isRiver_false {s : ByteArray} (hg : ¬ Good s) : impl_IsRiver.f s = some false := by
  unfold impl_IsRiver.f
  rw [within_eq]
  cases hb : inB (s.size : Int) 1 40
  · rfl
  · have h1 := inB_true hb
    obtain ⟨t, ht, hiff⟩ := trim_river s (by omega)
    simp only [Option.bind_some, if_true, ht]
    congr 1
    cases hc : (t.toList == ([] : List UInt8)) with
    | false => rfl
    | true => exact absurd ⟨⟨by omega, by omega⟩, hiff.1 (by simpa using hc)⟩ hg
theorem rvAsked_true {s : ByteArray} {l : Int} (hg : Good s) (hl : 1 ≤ l ∧ l ≤ 50) {k : Nat} (hk : 41 < k) : spec_rvAsked.f k s l = some true := by
  unfold spec_rvAsked.f
  rw [rvGood_true hg hk, in_eq, inB_mk hl]; rfl
theorem rvAsked_false {s : ByteArray} {l : Int} (h : ¬ (Good s ∧ 1 ≤ l ∧ l ≤ 50)) {k : Nat} (hk : 41 < k) : spec_rvAsked.f k s l = some false := by
  unfold spec_rvAsked.f
  by_cases hg : Good s
  · rw [rvGood_true hg hk, in_eq, inB_not (fun c => h ⟨hg, c⟩)]; rfl
  · rw [rvGood_false hg hk]; rfl
theorem isCrossed_true {s : ByteArray} {l : Int} (hg : Good s) (hl : 1 ≤ l ∧ l ≤ 50) : impl_isCrossed.f s l = some true := by
  unfold impl_isCrossed.f
  rw [isRiver_true hg, within_eq, inB_mk hl]; rfl
theorem isCrossed_false {s : ByteArray} {l : Int} (h : ¬ (Good s ∧ 1 ≤ l ∧ l ≤ 50)) : impl_isCrossed.f s l = some false := by
  unfold impl_isCrossed.f
  by_cases hg : Good s
  · rw [isRiver_true hg, within_eq, inB_not (fun c => h ⟨hg, c⟩)]; rfl
  · rw [isRiver_false hg]; rfl
/-- Does one stand on this place? -/
def stB (s : ByteArray) (p : Int) : Bool := decide (p = 0) || decide (p = (s.size : Int) + 1) || (bt s (p - 1) == 111)
theorem rvStand_eq (s : ByteArray) (hs : s.size ≤ 40) (p : Int) (h0 : 0 ≤ p) (h1 : p ≤ (s.size : Int) + 1) : spec_rvStand.f s p = some (stB s p) := by
  unfold spec_rvStand.f stB
  rw [w64 (x := (s.size : Int) + 1) (by omega) (by omega), w64 (x := p - 1) (by omega) (by omega)]
  by_cases e0 : p = 0
  · rw [if_pos e0]; simp [e0]
  · rw [if_neg e0]
    by_cases e1 : p = (s.size : Int) + 1
    · rw [if_pos e1]; simp [e1]
    · rw [if_neg e1, if_pos (by omega), if_pos (by omega)]; simp [e0, e1]
/-- The places from p on, so many of them, on which one stands. -/
def stFrom (s : ByteArray) : Nat → Int → List Int
  | 0, _ => []
  | d + 1, p => if stB s p = true then p :: stFrom s d (p + 1) else stFrom s d (p + 1)
theorem stFrom_mem (s : ByteArray) (d : Nat) : ∀ (p x : Int), x ∈ stFrom s d p ↔ (p ≤ x ∧ x < p + d) ∧ stB s x = true := by
  induction d with
  | zero => intro p x; simp [stFrom]; omega
  | succ d ih =>
    intro p x
    simp only [stFrom]
    by_cases h : stB s p = true
    · rw [if_pos h, List.mem_cons, ih]
      constructor
      · rintro (e | ⟨h1, h2⟩)
        · subst e; exact ⟨⟨by omega, by omega⟩, h⟩
        · exact ⟨⟨by omega, by omega⟩, h2⟩
      · rintro ⟨h1, h2⟩
        by_cases e : x = p
        · exact .inl e
        · exact .inr ⟨⟨by omega, by omega⟩, h2⟩
    · rw [if_neg h, ih]
      constructor
      · rintro ⟨h1, h2⟩; exact ⟨⟨by omega, by omega⟩, h2⟩
      · rintro ⟨h1, h2⟩
        have : x ≠ p := fun e => h (e ▸ h2)
        exact ⟨⟨by omega, by omega⟩, h2⟩
theorem stFrom_len (s : ByteArray) (d : Nat) : ∀ p : Int, (stFrom s d p).length ≤ d := by
  induction d with
  | zero => intro p; simp [stFrom]
  | succ d ih =>
    intro p
    simp only [stFrom]
    have := ih (p + 1)
    split <;> simp <;> omega
theorem stand_l0 (s : ByteArray) (hs : s.size ≤ 40) (d : Nat) : ∀ (k : Nat) (i : Int) (acc : List Int), 0 ≤ i → (s.size : Int) - i = d → d < k → acc.length + d < 17592186044416 → impl_stand.l0 k s acc (s.size : Int) i = some (acc ++ stFrom s (d + 1) (i + 1)) := by
  induction d with
  | zero =>
    intro k i acc h0 hd hk hl
    obtain ⟨k, rfl⟩ : ∃ m, k = m + 1 := ⟨k - 1, by omega⟩
    obtain rfl : i = (s.size : Int) := by omega
    simp only [impl_stand.l0]
    rw [if_neg (by omega), if_pos (by omega), w64 (by omega) (by omega)]
    simp [stFrom, stB]
  | succ d ih =>
    intro k i acc h0 hd hk hl
    obtain ⟨k, rfl⟩ : ∃ m, k = m + 1 := ⟨k - 1, by omega⟩
    simp only [impl_stand.l0]
    rw [if_pos (by omega), if_pos h0, if_pos (by omega), w64 (by omega) (by omega)]
    have hst : stB s (i + 1) = decide (bt s i = 111) := by
      unfold stB
      rw [show i + 1 - 1 = i by omega]
      have e0 : decide (i + 1 = 0) = false := decide_eq_false (by omega)
      have e1 : decide (i + 1 = (s.size : Int) + 1) = false := decide_eq_false (by omega)
      rw [e0, e1]
      rfl
    have hstep : stFrom s (d + 1 + 1) (i + 1) = if stB s (i + 1) = true then (i + 1) :: stFrom s (d + 1) (i + 1 + 1) else stFrom s (d + 1) (i + 1 + 1) := rfl
    rw [hstep, hst]
    by_cases hb : bt s i = 111
    · rw [if_pos hb, if_pos (by omega), if_pos (decide_eq_true hb), ih k (i + 1) (acc ++ [i + 1]) (by omega) (by omega) (by omega) (by simp; omega)]
      simp
    · rw [if_neg hb, if_neg (by simp [hb]), ih k (i + 1) acc (by omega) (by omega) (by omega) (by omega)]
theorem stand_eq (s : ByteArray) (hs : s.size ≤ 40) {k : Nat} (hk : s.size < k) : impl_stand.f k s = some (0 :: stFrom s (s.size + 1) 1) := by
  unfold impl_stand.f
  rw [stand_l0 s hs s.size k 0 [0] (by omega) (by omega) hk (by simp; omega)]
  rfl
theorem rd_mid (pre rest : List Int) (x i : Int) (h : i = pre.length) : rd (pre ++ x :: rest) i = x := by
  subst h; unfold rd; simp
theorem rdOf_set (l : List Bool) (i j : Int) (v : Bool) (h0 : 0 ≤ i) (h1 : i < l.length) (h2 : 0 ≤ j) : rdOf false (l.set i.toNat v) j = if j = i then v else rdOf false l j := by
  unfold rdOf
  rw [List.getD_eq_getElem?_getD, List.getD_eq_getElem?_getD, List.getElem?_set]
  by_cases e : j = i
  · subst e; rw [if_pos rfl, if_pos rfl, if_pos (by omega)]; rfl
  · rw [if_neg e, if_neg (by omega)]
/-- The farthest place, over a list of places. -/
def reachF (leap : Int) : List Int → Int → Int
  | [], now => now
  | p :: rest, now => if p - now ≤ leap then reachF leap rest p else reachF leap rest now
/-- What is known of the places reached, those before p having been looked at: 'now' is the farthest. -/
def Inv (n : Nat) (B : List Bool) (p now : Int) : Prop := B.length = n ∧ 0 ≤ now ∧ now < p ∧ rdOf false B now = true ∧ (∀ q : Int, 0 ≤ q → q < p → rdOf false B q = true → q ≤ now) ∧ ∀ q : Int, p ≤ q → q < n → rdOf false B q = false
theorem reach_l1 (s : ByteArray) (hs : s.size ≤ 40) (leap e : Int) (p : Int) (hp : 1 ≤ p ∧ p ≤ (s.size : Int) + 1) (hst : stB s p = true) (R : List Bool) (n : Nat) : ∀ (k K : Nat) (B : List Bool) (b : Int), p - b ≤ n → 0 ≤ b → b ≤ p → B.length = s.size + 2 → n + K < k →
    (∀ B' : List Bool, B'.length = s.size + 2 → (∀ q : Int, 0 ≤ q → q ≠ p → rdOf false B' q = rdOf false B q) → (rdOf false B' p = true ↔ rdOf false B p = true ∨ ∃ q : Int, (b ≤ q ∧ q < p) ∧ rdOf false B q = true) → ∀ k', K ≤ k' → spec_rvReach.l0 k' s leap e B' (p + 1) = some R) → spec_rvReach.l1 k s leap e B p b = some R := by
  induction n with
  | zero =>
    intro k K B b hd h0 h1 hB hk hK
    obtain ⟨k, rfl⟩ : ∃ m, k = m + 1 := ⟨k - 1, by omega⟩
    simp only [spec_rvReach.l1]
    rw [if_neg (by omega), w64 (x := p + 1) (by omega) (by omega)]
    refine hK B hB (fun _ _ _ => rfl) ⟨.inl, fun h => h.elim id (fun ⟨q, hq, _⟩ => by omega)⟩ k (by omega)
  | succ n ih =>
    intro k K B b hd h0 h1 hB hk hK
    obtain ⟨k, rfl⟩ : ∃ m, k = m + 1 := ⟨k - 1, by omega⟩
    simp only [spec_rvReach.l1]
    by_cases hlt : b < p
    · rw [if_pos hlt, rvStand_eq s hs p (by omega) (by omega), hst]
      simp only [Option.bind_some]
      rw [if_pos trivial, if_pos (by omega), if_pos (by omega), w64 (x := b + 1) (by omega) (by omega)]
      by_cases hbp : rdOf false B p = true
      · rw [if_pos hbp]
        refine ih k K _ (b + 1) (by omega) (by omega) (by omega) (by simp [hB]) (by omega) (fun B' hl hq hpi k' hk' => hK B' hl (fun q h2 h3 => by rw [hq q h2 h3, rdOf_set B p q true (by omega) (by omega) h2, if_neg h3]) ?_ k' hk')
        rw [hpi, rdOf_set B p p true (by omega) (by omega) (by omega), if_pos rfl]
        exact ⟨fun _ => .inl hbp, fun _ => .inl rfl⟩
      · rw [if_neg hbp, if_pos h0, if_pos (by omega)]
        refine ih k K _ (b + 1) (by omega) (by omega) (by omega) (by simp [hB]) (by omega) (fun B' hl hq hpi k' hk' => hK B' hl (fun q h2 h3 => by rw [hq q h2 h3, rdOf_set B p q _ (by omega) (by omega) h2, if_neg h3]) ?_ k' hk')
        rw [hpi, rdOf_set B p p _ (by omega) (by omega) (by omega), if_pos rfl]
        constructor
        · rintro (h | ⟨q, hq, h⟩)
          · exact .inr ⟨b, ⟨by omega, hlt⟩, h⟩
          · rw [rdOf_set B p q _ (by omega) (by omega) (by omega), if_neg (by omega)] at h
            exact .inr ⟨q, ⟨by omega, hq.2⟩, h⟩
        · rintro (h | ⟨q, hq, h⟩)
          · exact absurd h hbp
          · by_cases e2 : q = b
            · subst e2; exact .inl h
            · exact .inr ⟨q, ⟨by omega, hq.2⟩, by rw [rdOf_set B p q _ (by omega) (by omega) (by omega), if_neg (by omega)]; exact h⟩
    · rw [if_neg hlt, w64 (x := p + 1) (by omega) (by omega)]
      refine hK B hB (fun _ _ _ => rfl) ⟨.inl, fun h => h.elim id (fun ⟨q, hq, _⟩ => by omega)⟩ k (by omega)
theorem reach_l1_no (s : ByteArray) (hs : s.size ≤ 40) (leap e : Int) (p b : Int) (hp : 1 ≤ p ∧ p ≤ (s.size : Int) + 1) (hst : ¬ stB s p = true) (B : List Bool) (k : Nat) : spec_rvReach.l1 (k + 1) s leap e B p b = spec_rvReach.l0 k s leap e B (p + 1) := by
  simp only [spec_rvReach.l1]
  rw [w64 (x := p + 1) (by omega) (by omega)]
  by_cases hlt : b < p
  · rw [if_pos hlt, rvStand_eq s hs p (by omega) (by omega)]
    simp only [Option.bind_some]
    rw [if_neg hst]
  · rw [if_neg hlt]
theorem l1Most_eq (x : Int) : spec_l1Most.f 0 x = some (if 0 > x then 0 else x) := by
  unfold spec_l1Most.f
  by_cases h : (0 : Int) > x
  · rw [if_pos h, if_pos h]
  · rw [if_neg h, if_neg h]
theorem reach_l0 (s : ByteArray) (hs : s.size ≤ 40) (leap : Int) (hl : 1 ≤ leap ∧ leap ≤ 50) (d : Nat) : ∀ (k : Nat) (B : List Bool) (p now : Int), 1 ≤ p → (s.size : Int) + 2 - p = d → 60 * d < k → Inv (s.size + 2) B p now →
    ∃ B', spec_rvReach.l0 k s leap ((s.size : Int) + 1) B p = some B' ∧ Inv (s.size + 2) B' ((s.size : Int) + 2) (reachF leap (stFrom s d p) now) := by
  induction d with
  | zero =>
    intro k B p now hp hd hk hI
    obtain ⟨k, rfl⟩ : ∃ m, k = m + 1 := ⟨k - 1, by omega⟩
    obtain rfl : p = (s.size : Int) + 2 := by omega
    refine ⟨B, ?_, hI⟩
    simp only [spec_rvReach.l0]
    rw [if_neg (by omega)]
  | succ d ih =>
    intro k B p now hp hd hk hI
    obtain ⟨k, rfl⟩ : ∃ m, k = m + 1 := ⟨k - 1, by omega⟩
    simp only [spec_rvReach.l0, stFrom]
    rw [if_pos (by omega), w64 (x := p - leap) (by omega) (by omega), l1Most_eq]
    simp only [Option.bind_some]
    obtain ⟨b, hb⟩ : ∃ b : Int, (if 0 > p - leap then 0 else p - leap) = b := ⟨_, rfl⟩
    have hb0 : 0 ≤ b ∧ b ≤ p ∧ p - leap ≤ b ∧ (b = 0 ∨ b = p - leap) := by
      rw [← hb]; split <;> omega
    rw [hb]
    obtain ⟨i1, i2, i3, i4, i5, i6⟩ := hI
    by_cases hst : stB s p = true
    · rw [if_pos hst]
      simp only [reachF]
      -- what the looking back finds
      have hfind : (∃ q : Int, (b ≤ q ∧ q < p) ∧ rdOf false B q = true) ↔ p - now ≤ leap := by
        constructor
        · rintro ⟨q, hq, h⟩
          have := i5 q (by omega) hq.2 h
          omega
        · intro h
          refine ⟨now, ⟨?_, i3⟩, i4⟩
          omega
      have hnext : ∀ B' : List Bool, B'.length = s.size + 2 → (∀ q : Int, 0 ≤ q → q ≠ p → rdOf false B' q = rdOf false B q) → (rdOf false B' p = true ↔ rdOf false B p = true ∨ ∃ q : Int, (b ≤ q ∧ q < p) ∧ rdOf false B q = true) → Inv (s.size + 2) B' (p + 1) (if p - now ≤ leap then p else now) := by
        intro B' hlen hq hpi
        have hBp : rdOf false B p = false := i6 p (by omega) (by omega)
        rw [hBp, hfind] at hpi
        by_cases hc : p - now ≤ leap
        · rw [if_pos hc]
          refine ⟨hlen, by omega, by omega, hpi.2 (.inr hc), fun q h1 h2 _ => by omega, fun q h1 h2 => by rw [hq q (by omega) (by omega)]; exact i6 q (by omega) h2⟩
        · rw [if_neg hc]
          have hpf : ¬ rdOf false B' p = true := fun h => by
            rcases hpi.1 h with h | h
            · cases h
            · exact hc h
          refine ⟨hlen, i2, by omega, by rw [hq now i2 (by omega)]; exact i4, fun q h1 h2 h3 => ?_, fun q h1 h2 => by rw [hq q (by omega) (by omega)]; exact i6 q (by omega) h2⟩
          by_cases e : q = p
          · subst e; exact absurd h3 hpf
          · rw [hq q h1 e] at h3; exact i5 q h1 (by omega) h3
      have hx : (if p - now ≤ leap then reachF leap (stFrom s d (p + 1)) p else reachF leap (stFrom s d (p + 1)) now) = reachF leap (stFrom s d (p + 1)) (if p - now ≤ leap then p else now) := by split <;> rfl
      rw [hx]
      -- the end of the inner loop is one list: take what the loop over the rest gives there
      have hall : ∀ R, (∀ B' : List Bool, B'.length = s.size + 2 → (∀ q : Int, 0 ≤ q → q ≠ p → rdOf false B' q = rdOf false B q) → (rdOf false B' p = true ↔ rdOf false B p = true ∨ ∃ q : Int, (b ≤ q ∧ q < p) ∧ rdOf false B q = true) → ∀ k', 60 * d + 1 ≤ k' → spec_rvReach.l0 k' s leap ((s.size : Int) + 1) B' (p + 1) = some R) → spec_rvReach.l1 k s leap ((s.size : Int) + 1) B p b = some R := fun R hR =>
        reach_l1 s hs leap _ p (by omega) hst R 45 k (60 * d + 1) B b (by omega) hb0.1 hb0.2.1 i1 (by omega) hR
      -- all such lists are one
      have hone : ∀ B1 B2 : List Bool, B1.length = s.size + 2 → B2.length = s.size + 2 → (∀ q : Int, 0 ≤ q → q < (s.size : Int) + 2 → rdOf false B1 q = rdOf false B2 q) → B1 = B2 := by
        intro B1 B2 h1 h2 h
        apply List.ext_getElem (by omega)
        intro n hn1 hn2
        have := h n (by omega) (by omega)
        unfold rdOf at this
        rw [List.getD_eq_getElem?_getD, List.getD_eq_getElem?_getD] at this
        simpa [List.getElem?_eq_getElem hn1, List.getElem?_eq_getElem hn2] using this
      obtain ⟨B0, hB0⟩ : ∃ B0 : List Bool, B0 = if p - now ≤ leap then B.set p.toNat true else B := ⟨_, rfl⟩
      have hB0l : B0.length = s.size + 2 := by rw [hB0]; split <;> simp [i1]
      have hB0q : ∀ q : Int, 0 ≤ q → q ≠ p → rdOf false B0 q = rdOf false B q := by
        intro q h1 h2; rw [hB0]; split
        · rw [rdOf_set B p q true (by omega) (by omega) h1, if_neg h2]
        · rfl
      have hB0p : (rdOf false B0 p = true ↔ rdOf false B p = true ∨ ∃ q : Int, (b ≤ q ∧ q < p) ∧ rdOf false B q = true) := by
        rw [hfind, hB0]
        by_cases hc : p - now ≤ leap
        · rw [if_pos hc, rdOf_set B p p true (by omega) (by omega) (by omega), if_pos rfl]; exact ⟨fun _ => .inr hc, fun _ => rfl⟩
        · rw [if_neg hc]; exact ⟨.inl, fun h => h.elim id (fun h => absurd h hc)⟩
      obtain ⟨B', hB', hI'⟩ := ih (60 * d + 1) B0 (p + 1) _ (by omega) (by omega) (by omega) (hnext B0 hB0l hB0q hB0p)
      refine ⟨B', hall B' (fun B1 h1 h2 h3 k' hk' => ?_), hI'⟩
      have e : B1 = B0 := hone B1 B0 h1 hB0l (fun q hq0 hq1 => by
        by_cases e : q = p
        · subst e
          cases hx1 : rdOf false B1 q with
          | true => exact (hB0p.2 (h3.1 hx1)).symm
          | false =>
            cases hx0 : rdOf false B0 q with
            | true => rw [h3.2 (hB0p.1 hx0)] at hx1; cases hx1
            | false => rfl
        · rw [h2 q hq0 e, hB0q q hq0 e])
      rw [e]
      obtain ⟨j, rfl⟩ : ∃ j, k' = 60 * d + 1 + j := ⟨k' - (60 * d + 1), by omega⟩
      have hm : ∀ j, spec_rvReach.l0 (60 * d + 1 + j) s leap ((s.size : Int) + 1) B0 (p + 1) = some B' := fun j => more_rounds (g := fun k => spec_rvReach.l0 k s leap ((s.size : Int) + 1) B0 (p + 1)) (fun k => (spec_rvReach.mono_l k).1 _ _ _ _ _) (60 * d + 1) j _ hB'
      exact hm j
    · rw [if_neg hst]
      obtain ⟨k, rfl⟩ : ∃ m, k = m + 1 := ⟨k - 1, by omega⟩
      rw [reach_l1_no s hs leap _ p b (by omega) hst]
      refine ih k B (p + 1) now (by omega) (by omega) (by omega) ⟨i1, i2, by omega, i4, fun q h1 h2 h3 => ?_, fun q h1 h2 => i6 q (by omega) h2⟩
      by_cases e : q = p
      · subst e; rw [i6 q (by omega) (by omega)] at h3; cases h3
      · exact i5 q h1 (by omega) h3
theorem reach_eq (s : ByteArray) (hs : s.size ≤ 40) (leap : Int) (hl : 1 ≤ leap ∧ leap ≤ 50) {k : Nat} (hk : 2601 ≤ k) : ∃ B, spec_rvReach.f k s leap = some B ∧ Inv (s.size + 2) B ((s.size : Int) + 2) (reachF leap (stFrom s (s.size + 1) 1) 0) := by
  have e1 : wrap64 ((s.size : Int) + 1) = (s.size : Int) + 1 := w64 (by omega) (by omega)
  have e2 : wrap64 ((s.size : Int) + 1 + 1) = (s.size : Int) + 2 := by rw [w64 (by omega) (by omega)]; omega
  unfold spec_rvReach.f
  rw [e1, e2, if_pos (by omega), if_pos (by omega)]
  simp only [Option.bind_some]
  have e3 : ((s.size : Int) + 2).toNat = s.size + 2 := by omega
  rw [e3, if_pos (by simp; omega)]
  have hrep : ∀ q : Int, rdOf false (List.replicate (s.size + 2) false) q = false := fun q => by
    unfold rdOf
    rw [List.getD_eq_getElem?_getD, List.getElem?_replicate]
    split <;> rfl
  refine reach_l0 s hs leap hl (s.size + 1) k _ 1 0 (by omega) (by omega) (by omega) ⟨by simp, by omega, by omega, ?_, fun q h1 h2 _ => by omega, fun q h1 h2 => ?_⟩
  · rw [rdOf_set _ 0 0 true (by omega) (by simp; omega) (by omega), if_pos rfl]
  · rw [rdOf_set _ 0 q true (by omega) (by simp; omega) (by omega), if_neg (by omega), hrep]
theorem reachOf_l0 (n : Nat) (hn : n < 1000) (B : List Bool) (m : Int) (hI : Inv n B n m) (d : Nat) : ∀ (k : Nat) (far i : Int), 0 ≤ i → (n : Int) - i = d → d < k → (m < i → far = m) → spec_ReachOf.l0 k far B (n : Int) i = some (m, true) := by
  obtain ⟨i1, i2, i3, i4, i5, _⟩ := hI
  induction d with
  | zero =>
    intro k far i h0 hd hk hf
    obtain ⟨k, rfl⟩ : ∃ m, k = m + 1 := ⟨k - 1, by omega⟩
    simp only [spec_ReachOf.l0]
    rw [if_neg (by omega), hf (by omega)]
  | succ d ih =>
    intro k far i h0 hd hk hf
    obtain ⟨k, rfl⟩ : ∃ m, k = m + 1 := ⟨k - 1, by omega⟩
    simp only [spec_ReachOf.l0]
    rw [if_pos (by omega), if_pos h0, if_pos (by omega), w64 (x := i + 1) (by omega) (by omega)]
    by_cases hb : rdOf false B i = true
    · rw [if_pos hb]
      have := i5 i h0 (by omega) hb
      exact ih k i (i + 1) (by omega) (by omega) (by omega) (fun h => by omega)
    · rw [if_neg hb]
      refine ih k far (i + 1) (by omega) (by omega) (by omega) (fun h => ?_)
      by_cases e : i = m
      · subst e; exact absurd i4 hb
      · exact hf (by omega)
theorem implReach_l0 (leap : Int) (_hl : 1 ≤ leap ∧ leap ≤ 50) (L : List Int) (hL : L.length < 100) (rest : List Int) : ∀ (k : Nat) (pre : List Int) (now i : Int), L = pre ++ rest → i = pre.length → 0 ≤ now → now ≤ 41 → (∀ x ∈ rest, 0 ≤ x ∧ x ≤ 41) → rest.length < k → impl_reach.l0 k leap now L (L.length : Int) i = some (reachF leap rest now) := by
  induction rest with
  | nil =>
    intro k pre now i hp hi h0 h1 h hk
    obtain ⟨k, rfl⟩ : ∃ m, k = m + 1 := ⟨k - 1, by omega⟩
    have : L.length = pre.length := by rw [hp]; simp
    simp only [impl_reach.l0]
    rw [if_neg (by omega)]; rfl
  | cons p rest ih =>
    intro k pre now i hp hi h0 h1 h hk
    simp only [List.length_cons] at hk
    obtain ⟨k, rfl⟩ : ∃ m, k = m + 1 := ⟨k - 1, by omega⟩
    have hlen : L.length = pre.length + (rest.length + 1) := by rw [hp]; simp
    have hpb := h p List.mem_cons_self
    have hrd : rd L i = p := by rw [hp]; exact rd_mid _ _ _ _ hi
    simp only [impl_reach.l0]
    rw [if_pos (by omega), if_pos (by omega), if_pos (by omega), hrd, w64 (x := p - now) (by omega) (by omega), w64 (x := i + 1) (by omega) (by omega)]
    simp only [reachF]
    by_cases hc : p - now ≤ leap
    · rw [if_pos hc, if_pos hc]
      exact ih k (pre ++ [p]) p (i + 1) (by rw [hp]; simp) (by simp; omega) hpb.1 hpb.2 (fun x hx => h x (List.mem_cons_of_mem _ hx)) (by omega)
    · rw [if_neg hc, if_neg hc]
      exact ih k (pre ++ [p]) now (i + 1) (by rw [hp]; simp) (by simp; omega) h0 h1 (fun x hx => h x (List.mem_cons_of_mem _ hx)) (by omega)
theorem implReach_eq (s : ByteArray) (hs : s.size ≤ 40) (leap : Int) (hl : 1 ≤ leap ∧ leap ≤ 50) {k : Nat} (hk : 2601 ≤ k) : impl_reach.f k s leap = some (reachF leap (stFrom s (s.size + 1) 1) 0) := by
  unfold impl_reach.f
  rw [stand_eq s hs (by omega)]
  simp only [Option.bind_some]
  have hlen := stFrom_len s (s.size + 1) 1
  rw [implReach_l0 leap hl (0 :: stFrom s (s.size + 1) 1) (by simp; omega) (0 :: stFrom s (s.size + 1) 1) k [] 0 0 rfl rfl (by omega) (by omega) ?_ (by simp; omega)]
  · simp only [reachF]
    rw [if_pos (by omega)]
  · intro x hx
    rcases List.mem_cons.1 hx with e | e
    · omega
    · have := ((stFrom_mem s _ _ _).1 e).1; omega
theorem bindtrue {α : Type} (o : Option Bool) (f g : Option α) (h : o = some true) : (o.bind fun t => if t = true then f else g) = f := by subst h; rfl
theorem specReachOf_1 (s : ByteArray) (leap : Int) (hg : Good s) (hl : 1 ≤ leap ∧ leap ≤ 50) (k : Nat) (hk : 2601 ≤ k) : spec_ReachOf.f k s leap = (spec_rvReach.f k s leap).bind fun t115 => (spec_ReachOf.l0 k 0 t115 (t115.length : Int) 0) := by
  have h41 : 41 < k := by omega
  unfold spec_ReachOf.f
  exact bindtrue _ _ _ (rvAsked_true hg hl h41)
theorem specReachOf_2 (B : List Bool) (m : Int) (n : Nat) (hn : n < 1000) (k : Nat) (hk : n < k) (hI : Inv n B (n : Int) m) : spec_ReachOf.l0 k 0 B (B.length : Int) 0 = some (m, true) := by
  have hm := hI.2.1
  rw [hI.1]
  exact reachOf_l0 n hn B m hI n k 0 0 (by omega) (by omega) (by omega) (fun h => by omega)
theorem specReachOf_eq (s : ByteArray) (leap : Int) (hg : Good s) (hl : 1 ≤ leap ∧ leap ≤ 50) (k : Nat) (hk : 2601 ≤ k) : spec_ReachOf.f k s leap = some (reachF leap (stFrom s (s.size + 1) 1) 0, true) := by
  have h40 := hg.1.2
  have hn : s.size + 2 < 1000 := by omega
  have hn2 : s.size + 2 < k := by omega
  rw [specReachOf_1 s leap hg hl k hk]
  obtain ⟨B, hB, hI⟩ := reach_eq s h40 leap hl hk
  rw [hB]
  exact specReachOf_2 B _ (s.size + 2) hn k hn2 hI
theorem implReachOf_eq (s : ByteArray) (leap : Int) (hg : Good s) (hl : 1 ≤ leap ∧ leap ≤ 50) (k : Nat) (hk : 2601 ≤ k) : impl_ReachOf.f k s leap = some (reachF leap (stFrom s (s.size + 1) 1) 0, true) := by
  unfold impl_ReachOf.f
  rw [isCrossed_true hg hl]
  simp only [Option.bind_some, if_true]
  rw [implReach_eq s hg.1.2 leap hl hk]; rfl
theorem FnExactReachOf : laws_FnExactReachOf.Pure := by
  intro s leap _ _
  by_cases hb : (s.size : Int) > 1048576
  · exact ⟨0, by unfold laws_FnExactReachOf.f; rw [if_pos hb]⟩
  obtain ⟨k, hk⟩ : ∃ k : Nat, 2601 ≤ k := ⟨2601, Nat.le_refl _⟩
  refine ⟨k, ?_⟩
  have h41 : 41 < k := by omega
  unfold laws_FnExactReachOf.f
  rw [if_neg hb]
  by_cases hg : Good s ∧ 1 ≤ leap ∧ leap ≤ 50
  · rw [specReachOf_eq s leap hg.1 hg.2 k hk, implReachOf_eq s leap hg.1 hg.2 k hk]
    simp
  · unfold spec_ReachOf.f impl_ReachOf.f
    rw [rvAsked_false hg h41, isCrossed_false hg]; simp

end Go.Proofs.YtencfkhncjeibaaDoor.Pure
