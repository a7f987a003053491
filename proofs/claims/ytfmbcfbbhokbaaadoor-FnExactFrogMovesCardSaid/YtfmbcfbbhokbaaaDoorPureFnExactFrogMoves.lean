/- For every text the program's FrogMoves and the reference's answer alike, and the result is memory of its own. Conditions: the text takes at most 140737488351232 bytes. -/
import Derived.Test.YtfmbcfbbhokbaaaDoorPFnExactFrogMovesx
namespace Go.Proofs.YtfmbcfbbhokbaaaDoor.Pure
open Go.RowKit Go.Proofs.YtfmbcfbbhokbaaaDoor.PFnExactFrogMoves Go.Proofs.YtfmbcfbbhokbaaaDoorW.PrintWords Go.Proofs.YtfmbcfbbhokbaaaDoorW.PrintLast Go.Proofs.YtfmbcfbbhokbaaaDoorW.PrintMore

set_option linter.unusedVariables false
set_option linter.unusedSimpArgs false
def inB (a b c : Int) : Bool := decide (b ≤ a ∧ a ≤ c)
theorem inB_true {a b c : Int} (h : inB a b c = true) : b ≤ a ∧ a ≤ c := of_decide_eq_true h
theorem inB_mk {a b c : Int} (h : b ≤ a ∧ a ≤ c) : inB a b c = true := decide_eq_true h
theorem inB_not {a b c : Int} (h : ¬ (b ≤ a ∧ a ≤ c)) : inB a b c = false := decide_eq_false h
theorem inB_false {a b c : Int} (h : inB a b c = false) : ¬ (b ≤ a ∧ a ≤ c) := of_decide_eq_false h
theorem in_eq (a b c : Int) : spec_l1In.f a b c = some (inB a b c) := by
  unfold spec_l1In.f inB
  by_cases h : a ≥ b
  · rw [if_pos h]; congr 1; rw [decide_eq_decide]; omega
  · rw [if_neg h]; congr 1; symm; rw [decide_eq_false_iff_not]; omega
theorem within_eq (a b c : Int) : impl_within.f a b c = some (inB a b c) := by
  unfold impl_within.f inB
  by_cases h : b ≤ a
  · rw [if_pos h]; congr 1; rw [decide_eq_decide]; omega
  · rw [if_neg h]; congr 1; symm; rw [decide_eq_false_iff_not]; omega
theorem w64 {x : Int} (h0 : -9223372036854775808 ≤ x) (h1 : x < 9223372036854775808) : wrap64 x = x := by unfold wrap64; omega
/-- A pond: 1..9 signs, each a frog of one kind or a free stone. -/
def Pond (s : ByteArray) : Prop := (1 ≤ s.size ∧ s.size ≤ 9) ∧ ∀ i : Int, 0 ≤ i → i < s.size → bt s i = 114 ∨ bt s i = 108 ∨ bt s i = 46
theorem fgGood_l0_true (s : ByteArray) (hs : s.size ≤ 9) (d : Nat) : ∀ (k : Nat) (i : Int), 0 ≤ i → (s.size : Int) - i ≤ d → d < k → (∀ j : Int, i ≤ j → j < s.size → bt s j = 114 ∨ bt s j = 108 ∨ bt s j = 46) → spec_fgGood.l0 k s i = some true := by
  induction d with
  | zero =>
    intro k i h0 hd hk h
    obtain ⟨k, rfl⟩ : ∃ m, k = m + 1 := ⟨k - 1, by omega⟩
    simp only [spec_fgGood.l0]; rw [if_neg (by omega)]
  | succ d ih =>
    intro k i h0 hd hk h
    obtain ⟨k, rfl⟩ : ∃ m, k = m + 1 := ⟨k - 1, by omega⟩
    simp only [spec_fgGood.l0]
    by_cases hlt : i < (s.size : Int)
    · rw [if_pos hlt, if_pos h0, w64 (by omega) (by omega)]
      have hr := ih k (i + 1) (by omega) (by omega) (by omega) (fun j h1 h2 => h j (by omega) h2)
      rw [hr]
      rcases h i (by omega) hlt with e | e | e
      · rw [if_pos e]
      · rw [if_neg (by omega), if_pos e]
      · rw [if_neg (by omega), if_neg (by omega), if_pos e]
    · rw [if_neg hlt]
theorem fgGood_l0_false (s : ByteArray) (hs : s.size ≤ 9) (d : Nat) : ∀ (k : Nat) (i : Int), 0 ≤ i → (s.size : Int) - i ≤ d → d < k → (¬ ∀ j : Int, i ≤ j → j < s.size → bt s j = 114 ∨ bt s j = 108 ∨ bt s j = 46) → spec_fgGood.l0 k s i = some false := by
  induction d with
  | zero =>
    intro k i h0 hd hk h
    exact absurd (fun j h1 h2 => absurd h1 (by omega)) h
  | succ d ih =>
    intro k i h0 hd hk h
    obtain ⟨k, rfl⟩ : ∃ m, k = m + 1 := ⟨k - 1, by omega⟩
    simp only [spec_fgGood.l0]
    by_cases hlt : i < (s.size : Int)
    · rw [if_pos hlt, if_pos h0, w64 (by omega) (by omega)]
      have hgo : (bt s i = 114 ∨ bt s i = 108 ∨ bt s i = 46) → spec_fgGood.l0 k s (i + 1) = some false := fun e => ih k (i + 1) (by omega) (by omega) (by omega) (fun g => h (fun j h1 h2 => if c : j = i then by rw [c]; exact e else g j (by omega) h2))
      by_cases e1 : bt s i = 114
      · rw [if_pos e1]; exact hgo (.inl e1)
      · rw [if_neg e1]
        by_cases e2 : bt s i = 108
        · rw [if_pos e2]; exact hgo (.inr (.inl e2))
        · rw [if_neg e2]
          by_cases e3 : bt s i = 46
          · rw [if_pos e3]; exact hgo (.inr (.inr e3))
          · rw [if_neg e3]
    · exact absurd (fun j h1 h2 => absurd h2 (by omega)) h
theorem fgGood_true {s : ByteArray} (hg : Pond s) {k : Nat} (hk : 10 < k) : spec_fgGood.f k s = some true := by
  unfold spec_fgGood.f
  obtain ⟨h1, h2⟩ := hg
  rw [in_eq, inB_mk ⟨by omega, by omega⟩]
  exact fgGood_l0_true s h1.2 s.size k 0 (by omega) (by omega) (by omega) h2
theorem fgGood_false {s : ByteArray} (hg : ¬ Pond s) {k : Nat} (hk : 10 < k) : spec_fgGood.f k s = some false := by
  unfold spec_fgGood.f
  rw [in_eq]
  cases hb : inB (s.size : Int) 1 9
  · rfl
  · have h1 := inB_true hb
    exact fgGood_l0_false s (by omega) s.size k 0 (by omega) (by omega) (by omega) (fun h => hg ⟨⟨by omega, by omega⟩, h⟩)
theorem bt_list (s : ByteArray) (i : Nat) (h : i < s.data.toList.length) : bt s (i : Int) = ((s.data.toList[i]'h).toNat : Int) := by
  have h' : i < s.size := by simpa using h
  unfold bt
  rw [dif_pos (by simpa using h')]
  rfl
theorem dropWhile_nil {α : Type} (p : α → Bool) (l : List α) : l.dropWhile p = [] ↔ ∀ x ∈ l, p x = true := by
  induction l with
  | nil => simp
  | cons a l ih =>
    rw [List.dropWhile_cons]
    by_cases h : p a = true
    · rw [if_pos h, ih]; simp [h]
    · rw [if_neg h]; simp [h]
theorem trimS_nil (l cs : List UInt8) : Lib.trimS l cs = [] ↔ ∀ x ∈ l, cs.contains x = true := by
  unfold Lib.trimS Lib.trimLeftS Lib.trimRightS
  rw [dropWhile_nil]
  constructor
  · intro h x hx
    by_cases hall : ∀ y ∈ l.reverse, cs.contains y = true
    · exact hall x (by simpa using hx)
    · exfalso
      have hne : l.reverse.dropWhile (cs.contains ·) ≠ [] := fun e => hall ((dropWhile_nil _ _).1 e)
      obtain ⟨y, ys, hy⟩ : ∃ y ys, l.reverse.dropWhile (cs.contains ·) = y :: ys := by
        cases e : l.reverse.dropWhile (cs.contains ·) with
        | nil => exact absurd e hne
        | cons y ys => exact ⟨y, ys, rfl⟩
      have hp := List.head?_dropWhile_not (cs.contains ·) l.reverse
      rw [hy] at hp
      have := h y (by rw [hy]; simp)
      simp at hp this
      exact hp this
  · intro h x hx
    rw [List.mem_reverse] at hx
    exact h x (by simpa using (List.dropWhile_sublist _).subset hx)
theorem trim_pond (s : ByteArray) (hs : s.size ≤ 9223372036854775807) : ∃ t : ByteArray, strings_Trim.f s (⟨#[114, 108, 46]⟩ : ByteArray) = some t ∧ (t.toList = [] ↔ ∀ i : Int, 0 ≤ i → i < s.size → bt s i = 114 ∨ bt s i = 108 ∨ bt s i = 46) := by
  refine ⟨⟨(Lib.trimS s.data.toList [114, 108, 46]).toArray⟩, ?_, ?_⟩
  · unfold strings_Trim.f
    rw [if_pos ⟨hs, by decide, by decide⟩]
  · rw [Lib.toList_data]
    show (Lib.trimS s.data.toList [114, 108, 46]).toArray.toList = [] ↔ _
    rw [show (Lib.trimS s.data.toList [114, 108, 46]).toArray.toList = Lib.trimS s.data.toList [114, 108, 46] from rfl, trimS_nil]
    constructor
    · intro h i h0 h1
      have hi : i.toNat < s.data.toList.length := by
        have : s.data.toList.length = s.size := by simp
        omega
      have hb := bt_list s i.toNat hi
      rw [show ((i.toNat : Nat) : Int) = i by omega] at hb
      have := h _ (List.getElem_mem hi)
      rw [hb]
      simp at this
      rcases this with e | e | e <;> simp [e]
    · intro h x hx
      obtain ⟨n, hn, rfl⟩ := List.mem_iff_getElem.1 hx
      have hb := bt_list s n hn
      have hlt : n < s.size := by simpa using hn
      have := h n (by omega) (by omega)
      rw [hb] at this
      simp
      rcases this with e | e | e
      · left; apply UInt8.toNat_inj.1; simpa using Int.ofNat.inj e
      · right; left; apply UInt8.toNat_inj.1; simpa using Int.ofNat.inj e
      · right; right; apply UInt8.toNat_inj.1; simpa using Int.ofNat.inj e
theorem isPond_true {s : ByteArray} (hg : Pond s) : impl_IsPond.f s = some true := by
  unfold impl_IsPond.f
  obtain ⟨h1, h2⟩ := hg
  obtain ⟨t, ht, hiff⟩ := trim_pond s (by omega)
  rw [within_eq, inB_mk ⟨by omega, by omega⟩]
  simp only [Option.bind_some, if_true, ht]
  rw [hiff.2 h2]; rfl
theorem isPond_false {s : ByteArray} (hg : ¬ Pond s) : impl_IsPond.f s = some false := by
  unfold impl_IsPond.f
  rw [within_eq]
  cases hb : inB (s.size : Int) 1 9
  · rfl
  · have h1 := inB_true hb
    obtain ⟨t, ht, hiff⟩ := trim_pond s (by omega)
    simp only [Option.bind_some, if_true, ht]
    congr 1
    cases hc : (t.toList == ([] : List UInt8)) with
    | false => rfl
    | true => exact absurd ⟨⟨by omega, by omega⟩, hiff.1 (by simpa using hc)⟩ hg
theorem pond_ascii {s : ByteArray} (hg : Pond s) : asciiB s = true := by
  unfold asciiB
  apply List.all_eq_true.2
  intro i hi
  have h1 := List.mem_range.1 hi
  have h2 := hg.2 (i : Int) (by omega) (by omega)
  apply decide_eq_true
  omega
/-- The moves from stone i on, so many stones. -/
def movesF (s : ByteArray) : Nat → Nat → List Int
  | 0, _ => []
  | d + 1, i => if frogTo s (i : Int) ≥ 0 then (i : Int) :: movesF s d (i + 1) else movesF s d (i + 1)
theorem movesF_len (s : ByteArray) (d : Nat) : ∀ i : Nat, (movesF s d i).length ≤ d := by
  induction d with
  | zero => intro i; simp [movesF]
  | succ d ih => intro i; simp only [movesF]; have := ih (i + 1); split <;> simp <;> omega
theorem movesF_mem (s : ByteArray) (d : Nat) : ∀ (i : Nat) (x : Int), x ∈ movesF s d i ↔ ((i : Int) ≤ x ∧ x < (i : Int) + d) ∧ 0 ≤ frogTo s x := by
  induction d with
  | zero => intro i x; simp [movesF]; omega
  | succ d ih =>
    intro i x
    simp only [movesF]
    by_cases h : frogTo s (i : Int) ≥ 0
    · rw [if_pos h, List.mem_cons, ih]
      constructor
      · rintro (e | ⟨h1, h2⟩)
        · subst e; exact ⟨⟨by omega, by omega⟩, h⟩
        · exact ⟨⟨by omega, by omega⟩, h2⟩
      · rintro ⟨h1, h2⟩
        by_cases e : x = (i : Int)
        · exact .inl e
        · exact .inr ⟨⟨by omega, by omega⟩, h2⟩
    · rw [if_neg h, ih]
      constructor
      · rintro ⟨h1, h2⟩; exact ⟨⟨by omega, by omega⟩, h2⟩
      · rintro ⟨h1, h2⟩
        have : x ≠ (i : Int) := fun e => h (e ▸ h2)
        exact ⟨⟨by omega, by omega⟩, h2⟩
def moves (s : ByteArray) : List Int := movesF s s.size 0
theorem fgMoves_l0 (s : ByteArray) (hs : s.size ≤ 9) (d : Nat) : ∀ (k i : Nat) (acc : List Int), i + d = s.size → d < k → acc.length ≤ i → spec_fgMoves.l0 k s acc i = some (acc ++ movesF s d i) := by
  induction d with
  | zero =>
    intro k i acc hi hk ha
    obtain ⟨k, rfl⟩ : ∃ m, k = m + 1 := ⟨k - 1, by omega⟩
    simp only [spec_fgMoves.l0, movesF]
    rw [if_neg (by omega)]; simp
  | succ d ih =>
    intro k i acc hi hk ha
    obtain ⟨k, rfl⟩ : ∃ m, k = m + 1 := ⟨k - 1, by omega⟩
    have ht : spec_fgTo.f s (i : Int) = some (frogTo s (i : Int)) := by unfold spec_fgTo.f; rw [if_pos (by omega)]
    simp only [spec_fgMoves.l0, movesF]
    rw [if_pos (by omega), ht]
    simp only [Option.bind_some]
    by_cases h : frogTo s (i : Int) ≥ 0
    · rw [if_pos h, if_pos h, if_pos (by omega), ih k (i + 1) (acc ++ [(i : Int)]) (by omega) (by omega) (by simp; omega)]
      simp
    · rw [if_neg h, if_neg h, ih k (i + 1) acc (by omega) (by omega) (by omega)]
theorem fgMoves_eq {s : ByteArray} (hg : Pond s) : spec_fgMoves.f s = some (moves s) := by
  have h9 := hg.1.2
  unfold spec_fgMoves.f
  rw [if_pos ⟨by omega, pond_ascii hg⟩, fgMoves_l0 s h9 s.size (s.size + 1) 0 [] (by omega) (by omega) (by simp)]
  rfl
theorem hops_l0 (s : ByteArray) (hs : s.size ≤ 9) (d : Nat) : ∀ (k i : Nat) (acc : List Int), i + d = s.size → d < k → acc.length ≤ i → impl_hops.l0 k s acc (s.size : Int) (i : Int) = some (acc ++ movesF s d i) := by
  induction d with
  | zero =>
    intro k i acc hi hk ha
    obtain ⟨k, rfl⟩ : ∃ m, k = m + 1 := ⟨k - 1, by omega⟩
    simp only [impl_hops.l0, movesF]
    rw [if_neg (by omega)]; simp
  | succ d ih =>
    intro k i acc hi hk ha
    obtain ⟨k, rfl⟩ : ∃ m, k = m + 1 := ⟨k - 1, by omega⟩
    have ht : impl_target.f s (i : Int) = some (frogTo s (i : Int)) := by unfold impl_target.f; rw [if_pos ⟨by omega, by omega, by omega⟩]
    have hw : wrap64 ((i : Int) + 1) = ((i + 1 : Nat) : Int) := by rw [w64 (by omega) (by omega)]; omega
    simp only [impl_hops.l0, movesF]
    rw [if_pos (by omega), ht, hw]
    simp only [Option.bind_some]
    by_cases h : frogTo s (i : Int) ≥ 0
    · rw [if_pos h, if_pos h, if_pos (by omega), ih k (i + 1) (acc ++ [(i : Int)]) (by omega) (by omega) (by simp; omega)]
      simp
    · rw [if_neg h, if_neg h, ih k (i + 1) acc (by omega) (by omega) (by omega)]
theorem hops_eq {s : ByteArray} (hs : s.size ≤ 9) {k : Nat} (hk : 10 < k) : impl_hops.f k s = some (moves s) := by
  unfold impl_hops.f
  rw [show (0 : Int) = ((0 : Nat) : Int) from rfl, hops_l0 s hs s.size k 0 [] (by omega) (by omega) (by simp)]
  rfl
theorem eqIntS_l0 (l : List Int) (hl : l.length < 4611686018427387904) (d : Nat) : ∀ (k : Nat) (i : Int), 0 ≤ i → (l.length : Int) - i ≤ d → d < k → laws_eqIntS.l0 k l l i = some true := by
  induction d with
  | zero =>
    intro k i h0 hd hk
    obtain ⟨k, rfl⟩ : ∃ m, k = m + 1 := ⟨k - 1, by omega⟩
    simp only [laws_eqIntS.l0]; rw [if_neg (by omega)]
  | succ d ih =>
    intro k i h0 hd hk
    obtain ⟨k, rfl⟩ : ∃ m, k = m + 1 := ⟨k - 1, by omega⟩
    simp only [laws_eqIntS.l0]
    by_cases hlt : i < (l.length : Int)
    · rw [if_pos hlt, if_pos h0, if_pos hlt, if_pos trivial, w64 (by omega) (by omega)]
      exact ih k (i + 1) (by omega) (by omega) (by omega)
    · rw [if_neg hlt]
theorem eqIntS_self (l : List Int) (hl : l.length < 4611686018427387904) {k : Nat} (hk : l.length < k) : laws_eqIntS.f k l l = some true := by
  unfold laws_eqIntS.f
  rw [if_pos rfl]
  exact eqIntS_l0 l hl l.length k 0 (by omega) (by omega) hk
theorem rd_set (l : List Int) (i j v : Int) (h0 : 0 ≤ i) (h1 : i < l.length) (h2 : 0 ≤ j) : rd (l.set i.toNat v) j = if j = i then v else rd l j := by
  unfold rd
  rw [List.getD_eq_getElem?_getD, List.getD_eq_getElem?_getD, List.getElem?_set]
  by_cases e : j = i
  · subst e; rw [if_pos rfl, if_pos rfl, if_pos (by omega)]; rfl
  · rw [if_neg e, if_neg (by omega)]
theorem markIntS_l0 (d : Nat) : ∀ (k : Nat) (l : List Int) (v i : Int), l.length < 4611686018427387904 → 0 ≤ i → i ≤ l.length → (l.length : Int) - i ≤ d → d < k → 0 ≤ v → v + ((l.length : Int) - i) < 9223372036854775807 →
    ∃ m, laws_markIntS.l0 k l v i = some (v + ((l.length : Int) - i), m) ∧ m.length = l.length ∧ (∀ j : Int, 0 ≤ j → j < i → rd m j = rd l j) ∧ ∀ j : Int, i ≤ j → j < l.length → rd m j = v + (j - i) := by
  induction d with
  | zero =>
    intro k l v i hl h0 hi hd hk hv hb
    obtain ⟨k, rfl⟩ : ∃ m, k = m + 1 := ⟨k - 1, by omega⟩
    refine ⟨l, ?_, rfl, fun _ _ _ => rfl, fun j h1 h2 => by omega⟩
    simp only [laws_markIntS.l0]; rw [if_neg (by omega)]; congr 2; omega
  | succ d ih =>
    intro k l v i hl h0 hi hd hk hv hb
    obtain ⟨k, rfl⟩ : ∃ m, k = m + 1 := ⟨k - 1, by omega⟩
    simp only [laws_markIntS.l0]
    by_cases hlt : i < (l.length : Int)
    · rw [if_pos hlt, if_pos h0, w64 (by omega) (by omega), w64 (by omega) (by omega)]
      have hlen : (l.set i.toNat v).length = l.length := by simp
      obtain ⟨m, hm, hml, hm1, hm2⟩ := ih k (l.set i.toNat v) (v + 1) (i + 1) (by omega) (by omega) (by omega) (by omega) (by omega) (by omega) (by omega)
      rw [hlen] at hm hml hm2
      refine ⟨m, by rw [hm]; congr 2; omega, hml, ?_, ?_⟩
      · intro j h1 h2
        rw [hm1 j h1 (by omega), rd_set l i j v h0 hlt h1, if_neg (by omega)]
      · intro j h1 h2
        by_cases e : j = i
        · subst e; rw [hm1 j h0 (by omega), rd_set l j j v h0 hlt h0, if_pos rfl]; omega
        · rw [hm2 j (by omega) h2]; omega
    · rw [if_neg hlt]
      exact ⟨l, by congr 2; omega, rfl, fun _ _ _ => rfl, fun j h1 h2 => by omega⟩
theorem heldIntS_l0 (m : List Int) (hl : m.length < 4611686018427387904) (d : Nat) : ∀ (k : Nat) (v i : Int), 0 ≤ i → i ≤ m.length → (m.length : Int) - i ≤ d → d < k → 0 ≤ v → v + ((m.length : Int) - i) < 9223372036854775807 → (∀ j : Int, i ≤ j → j < m.length → rd m j = v + (j - i)) → laws_heldIntS.l0 k m v i = some (v + ((m.length : Int) - i)) := by
  induction d with
  | zero =>
    intro k v i h0 hi hd hk hv hb h
    obtain ⟨k, rfl⟩ : ∃ m, k = m + 1 := ⟨k - 1, by omega⟩
    simp only [laws_heldIntS.l0]; rw [if_neg (by omega)]; congr 1; omega
  | succ d ih =>
    intro k v i h0 hi hd hk hv hb h
    obtain ⟨k, rfl⟩ : ∃ m, k = m + 1 := ⟨k - 1, by omega⟩
    simp only [laws_heldIntS.l0]
    by_cases hlt : i < (m.length : Int)
    · rw [if_pos hlt, if_pos h0, if_pos (by rw [h i (by omega) hlt]; omega), w64 (by omega) (by omega), w64 (by omega) (by omega), ih k (v + 1) (i + 1) (by omega) (by omega) (by omega) (by omega) (by omega) (by omega) (fun j h1 h2 => by rw [h j (by omega) h2]; omega)]
      congr 1; omega
    · rw [if_neg hlt]; congr 1; omega
theorem mark_held (l : List Int) (hl : l.length < 1000000) : ∃ m, m.length = l.length ∧ (∀ k, l.length < k → laws_markIntS.f k l 1 = some (1 + (l.length : Int), m)) ∧ ∀ k, l.length < k → laws_heldIntS.f k m 1 = some (1 + (l.length : Int)) := by
  obtain ⟨m, hm, hml, _, hm2⟩ := markIntS_l0 l.length (l.length + 1) l 1 0 (by omega) (by omega) (by omega) (by omega) (by omega) (by omega) (by omega)
  refine ⟨m, hml, fun k hk => ?_, fun k hk => ?_⟩
  · have := at_rounds (g := fun k => laws_markIntS.f k l 1) (fun k => laws_markIntS.mono l 1 k) (show l.length + 1 ≤ k by omega) hm
    rw [this]; congr 2 <;> omega
  · unfold laws_heldIntS.f
    rw [heldIntS_l0 m (by omega) m.length k 1 0 (by omega) (by omega) (by omega) (by omega) (by omega) (by omega) (fun j h1 h2 => hm2 j h1 (by omega))]
    congr 1; omega
theorem law_of (s : ByteArray) (L : List Int) (b : Bool) (hL : L.length < 3000) (hb : ¬ (s.size : Int) > 1048576) (hs : ∀ k, 4000 ≤ k → spec_FrogMoves.f k s = some (L, b)) (hi : ∀ k, 4000 ≤ k → impl_FrogMoves.f k s = some (L, b)) : ∃ k, laws_FnExactFrogMoves.f k s = some true := by
  obtain ⟨m, hml, hm, hh⟩ := mark_held L (by omega)
  obtain ⟨k, hk⟩ : ∃ k : Nat, 4000 ≤ k := ⟨4000, Nat.le_refl _⟩
  have s2 := hs (k + 1 + 1) (by omega)
  have i2 := hi (k + 1 + 1) (by omega)
  have i1 := hi (k + 1) (by omega)
  have e2 := eqIntS_self L (by omega) (show L.length < k + 1 + 1 by omega)
  have e1 := eqIntS_self L (by omega) (show L.length < k + 1 by omega)
  have m1 := hm (k + 1) (by omega)
  have h1 := hh (k + 1) (by omega)
  have h0 := hh k (by omega)
  have n1 : ¬ (1 + (L.length : Int)) < 0 := by omega
  refine ⟨k + 1 + 1, ?_⟩
  unfold laws_FnExactFrogMoves.f
  simp only [if_neg hb, s2, i2, Option.bind_some, e2, if_true, bne_self_eq_false, laws_FnExactFrogMoves.j0, m1, h1, if_neg n1, i1, e1, laws_FnExactFrogMoves.j1, h0]
  simp
theorem FnExactFrogMoves : laws_FnExactFrogMoves.Pure := by
  intro s _
  by_cases hb : (s.size : Int) > 1048576
  · exact ⟨0, by unfold laws_FnExactFrogMoves.f; rw [if_pos hb]⟩
  by_cases hg : Pond s
  · have h9 := hg.1.2
    have hlen : (moves s).length < 3000 := by have := movesF_len s s.size 0; unfold moves; omega
    refine law_of s (moves s) true hlen hb (fun k hk => ?_) (fun k hk => ?_)
    · have hk10 : 10 < k := by omega
      unfold spec_FrogMoves.f
      rw [fgGood_true hg hk10, fgMoves_eq hg]; rfl
    · have hk10 : 10 < k := by omega
      unfold impl_FrogMoves.f
      rw [isPond_true hg, hops_eq h9 hk10]; rfl
  · refine law_of s [] false (by simp) hb (fun k hk => ?_) (fun k hk => ?_)
    · have hk10 : 10 < k := by omega
      unfold spec_FrogMoves.f
      rw [fgGood_false hg hk10]; rfl
    · unfold impl_FrogMoves.f
      rw [isPond_false hg]; rfl

end Go.Proofs.YtfmbcfbbhokbaaaDoor.Pure
