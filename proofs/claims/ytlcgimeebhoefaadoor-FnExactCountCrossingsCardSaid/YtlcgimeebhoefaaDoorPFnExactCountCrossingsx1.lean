-- Printed by this session's eprint.py over the kit's print (with this session's own texts for some functions)
import Derived.Test.YtlcgimeebhoefaaDoorPFnExactCountCrossingsx0
namespace Go.Proofs.YtlcgimeebhoefaaDoor.PFnExactCountCrossings
open Go.RowKit Go.Proofs.YtlcgimeebhoefaaDoorW.PrintWords Go.Proofs.YtlcgimeebhoefaaDoorW.PrintLast Go.Proofs.YtlcgimeebhoefaaDoorW.PrintMore
attribute [local go_sem] max2_int min2_int max_two min_two max_three min_three max_four min_four   -- for this text's walks alone
set_option linter.unusedVariables false
set_option linter.unusedSimpArgs false

theorem made_one (v : Value) (n : Nat) : madeCells #[v] n = (List.replicate n v).toArray := by
  apply Array.toList_inj.1
  unfold madeCells
  apply List.ext_getElem
  · simp
  · intro i h1 h2
    simp [Nat.mod_one]
def tabRd (xs : List (List Int)) (i : Int) : List Int := xs.getD i.toNat []
/-- A table of rows of numbers: the block wb of the rows' heads; row j, as it stands, in block g j. -/
def Tab (W : World) (H wb m c : Nat) (g : Nat → Nat) (rows : List (List Int)) : Prop :=
  H ≤ wb ∧ rows.length ≤ m ∧
  (∃ arr : Array Value, W.heap[wb]? = some (.cells arr 27 (0, 0)) ∧ arr.size = m ∧ ∀ j, j < rows.length → arr[j]? = some (.slice (some ⟨g j, 0, none⟩) c c)) ∧
  (∀ j r, rows[j]? = some r → r.length = c ∧ wb < g j ∧ W.heap[g j]? = some (.cells (r.map (Value.int .i64)).toArray 3 (0, 0))) ∧
  (∀ i j, i < rows.length → j < rows.length → g i = g j → i = j)
theorem Tab.kept {W W' : World} {H wb m c : Nat} {g : Nat → Nat} {rows : List (List Int)} (h : Tab W H wb m c g rows) (hk : ∀ k, k < W.heap.size → W'.heap[k]? = W.heap[k]?) : Tab W' H wb m c g rows := by
  obtain ⟨h1, h2, ⟨arr, ha, h3, h4⟩, h5, h6⟩ := h
  exact ⟨h1, h2, ⟨arr, (hk _ (blk_lt ha)).trans ha, h3, h4⟩, fun j r hr => ⟨(h5 j r hr).1, (h5 j r hr).2.1, (hk _ (blk_lt (h5 j r hr).2.2)).trans (h5 j r hr).2.2⟩, h6⟩
theorem Tab.drewN {W : World} {H wb m c : Nat} {g : Nat → Nat} {rows : List (List Int)} (h : Tab W H wb m c g rows) (n : Nat) : Tab (W.drewN n) H wb m c g rows := h.kept (fun _ _ => rfl)
theorem Tab.ways {W : World} {H wb m c : Nat} {g : Nat → Nat} {rows : List (List Int)} (h : Tab W H wb m c g rows) (j : Nat) (hj : j < rows.length) : W.cell? ⟨wb, j, none⟩ = some (.slice (some ⟨g j, 0, none⟩) c c) := by
  obtain ⟨_, _, ⟨arr, ha, _, h4⟩, _, _⟩ := h
  rw [blk_cell ha, h4 j hj]
theorem Tab.at {W : World} {H wb m c : Nat} {g : Nat → Nat} {rows : List (List Int)} (h : Tab W H wb m c g rows) (j : Nat) (r : List Int) (hr : rows[j]? = some r) (i : Nat) (hi : i < c) : W.cell? ⟨g j, i, none⟩ = some (.int .i64 (rd r (i : Int))) ∧ W.frozen? ⟨g j, i, none⟩ = false := by
  obtain ⟨h5, _, h7⟩ := h.2.2.2.1 j r hr
  refine ⟨?_, blk_frozen h7 i⟩
  rw [blk_cell h7]
  simp only [List.getElem?_toArray, List.getElem?_map]
  rw [List.getElem?_eq_getElem (by omega)]
  simp only [Option.map_some, rd, Int.toNat_natCast]
  rw [List.getD_eq_getElem?_getD, List.getElem?_eq_getElem (by omega)]; rfl
theorem Tab.put {W : World} {H wb m c : Nat} {g : Nat → Nat} {rows : List (List Int)} (h : Tab W H wb m c g rows) (j : Nat) (r : List Int) (hr : rows[j]? = some r) (i : Nat) (v : Int) :
    Tab (W.setCell ⟨g j, i, none⟩ (.int .i64 v)) H wb m c g (rows.set j (r.set i v)) := by
  obtain ⟨h1, h2, ⟨arr, ha, h3, h4⟩, h5, h6⟩ := h
  obtain ⟨q1, q2, q3⟩ := h5 j r hr
  have hjl : j < rows.length := (List.getElem?_eq_some_iff.1 hr).1
  have hf : ∀ k, k ≠ g j → (W.setCell ⟨g j, i, none⟩ (.int .i64 v)).heap[k]? = W.heap[k]? := fun k hk => Below.heap_setCell W _ _ k hk
  refine ⟨h1, by simpa using h2, ⟨arr, (hf _ (by omega)).trans ha, h3, fun j' hj' => h4 j' (by simpa using hj')⟩, fun j' r' hr' => ?_, fun a b ha hb he => h6 a b (by simpa using ha) (by simpa using hb) he⟩
  by_cases e : j' = j
  · subst e
    rw [List.getElem?_set_self hjl] at hr'
    obtain rfl := Option.some.inj hr'
    refine ⟨by simpa using q1, q2, ?_⟩
    rw [blk_put q3 i (.int .i64 v) rfl]
    congr 2
    apply Array.toList_inj.1
    simp [List.map_set]
  · rw [List.getElem?_set_ne (fun h => e h.symm)] at hr'
    obtain ⟨p1, p2, p3⟩ := h5 j' r' hr'
    refine ⟨p1, p2, (hf _ (fun he => e (h6 j' j (List.getElem?_eq_some_iff.1 hr').1 hjl he))).trans p3⟩
/-- The table as it is made: no row yet. -/
theorem Tab.start (W : World) (H m c : Nat) (hH : H ≤ W.heap.size) : Tab (W.alloc (.cells (madeCells #[.slice none 0 0] m) 27)) H W.heap.size m c (fun _ => 0) [] := by
  refine ⟨hH, by simp, ⟨_, blk_new W _, by rw [made_one]; simp, fun j hj => by simp at hj⟩, fun j r hr => by simp at hr, fun i j hi => by simp at hi⟩
/-- One row more: its block is laid, its head is stored. -/
theorem Tab.more {W : World} {H wb m c : Nat} {g : Nat → Nat} {rows : List (List Int)} (h : Tab W H wb m c g rows) (hm : rows.length < m) :
    ((W.alloc (.cells (madeCells #[.int .i64 0] c) 3)).frozen? ⟨wb, rows.length, none⟩ = false ∧ ∃ v, (W.alloc (.cells (madeCells #[.int .i64 0] c) 3)).cell? ⟨wb, rows.length, none⟩ = some v) ∧
    Tab ((W.alloc (.cells (madeCells #[.int .i64 0] c) 3)).setCell ⟨wb, rows.length, none⟩ (.slice (some ⟨W.heap.size, 0, none⟩) c c)) H wb m c (fun j => if j = rows.length then W.heap.size else g j) (rows ++ [List.replicate c 0]) := by
  have hk : ∀ k, k < W.heap.size → (W.alloc (.cells (madeCells #[.int .i64 0] c) 3)).heap[k]? = W.heap[k]? := fun k hk => (below_alloc (Below.refl W.heap.size W) _).block k hk
  have h' := h.kept hk
  obtain ⟨h1, h2, ⟨arr, ha, h3, h4⟩, h5, h6⟩ := h'
  have hnew : (W.alloc (.cells (madeCells #[.int .i64 0] c) 3)).heap[W.heap.size]? = some (.cells (madeCells #[.int .i64 0] c) 3) := blk_new W _
  have hwb : wb < W.heap.size := by obtain ⟨_, _, ⟨arr0, ha0, _, _⟩, _, _⟩ := h; exact blk_lt ha0
  have hg : ∀ j, j < rows.length → g j < W.heap.size := fun j hj => blk_lt (h.2.2.2.1 j _ (List.getElem?_eq_getElem hj)).2.2
  refine ⟨⟨blk_frozen ha _, arr[rows.length]'(by omega), by rw [blk_cell ha, Array.getElem?_eq_getElem (by omega)]⟩, ?_⟩
  have hf : ∀ k, k ≠ wb → ((W.alloc (.cells (madeCells #[.int .i64 0] c) 3)).setCell ⟨wb, rows.length, none⟩ (.slice (some ⟨W.heap.size, 0, none⟩) c c)).heap[k]? = (W.alloc (.cells (madeCells #[.int .i64 0] c) 3)).heap[k]? := fun k hk => Below.heap_setCell _ _ _ k hk
  refine ⟨h1, by simp; omega, ⟨_, blk_put ha rows.length _ rfl, by simpa using h3, fun j hj => ?_⟩, fun j r hr => ?_, fun i j hi hj he => ?_⟩
  · simp only [List.length_append, List.length_singleton] at hj
    dsimp only
    rw [Array.getElem?_setIfInBounds]
    by_cases e : rows.length = j
    · subst e; rw [if_pos rfl, if_pos (by omega), if_pos rfl]
    · have e' : ¬ j = rows.length := fun h => e h.symm
      rw [if_neg e, if_neg e']; exact h4 j (by omega)
  · by_cases e : j = rows.length
    · subst e
      simp only [List.getElem?_append_right (Nat.le_refl _), Nat.sub_self, List.getElem?_cons_zero, Option.some.injEq] at hr
      subst hr
      dsimp only
      rw [if_pos rfl]
      refine ⟨by simp, hwb, ?_⟩
      rw [hf _ (by omega), hnew, made_one]; simp
    · have hjl : j < rows.length := by
        have := (List.getElem?_eq_some_iff.1 hr).1
        simp at this; omega
      rw [List.getElem?_append_left hjl] at hr
      obtain ⟨p1, p2, p3⟩ := h5 j r hr
      dsimp only
      rw [if_neg e]
      exact ⟨p1, p2, (hf _ (by omega)).trans p3⟩
  · simp only [List.length_append, List.length_singleton] at hi hj
    by_cases e1 : i = rows.length
    · by_cases e2 : j = rows.length
      · omega
      · simp only [if_pos e1, if_neg e2] at he
        have := hg j (by omega); omega
    · by_cases e2 : j = rows.length
      · simp only [if_neg e1, if_pos e2] at he
        have := hg i (by omega); omega
      · simp only [if_neg e1, if_neg e2] at he
        exact h6 i j (by omega) (by omega) he
/-- A row of the table is one's own row. -/
theorem Tab.row {W : World} {H wb m c : Nat} {g : Nat → Nat} {rows : List (List Int)} (h : Tab W H wb m c g rows) (hc : c ≤ 1000) (j : Nat) (r : List Int) (hr : rows[j]? = some r) : Kd.R (Kd.int .i64) 3 W H (fun _ => True) (.slice (some ⟨g j, 0, none⟩) c c) r := by
  obtain ⟨q1, q2, q3⟩ := h.2.2.2.1 j r hr
  have h1 := h.1
  subst q1
  refine Kd.R_of_own ?_ (fun _ _ => trivial)
  refine ⟨by simp [encs], .inr ⟨g j, r.length, _, rfl, by omega, q3, Nat.le_refl _, by simp [maxLen]; omega, by simp, ?_⟩⟩
  simp only [encs, Nat.mul_one]
  rw [List.take_of_length_le (by simp)]
theorem Tab.get {W : World} {H wb m c : Nat} {g : Nat → Nat} {rows : List (List Int)} (h : Tab W H wb m c g rows) (j : Nat) (hj : j < rows.length) : rows[j]? = some (tabRd rows (j : Int)) := by
  rw [List.getElem?_eq_getElem hj]
  unfold tabRd
  simp [List.getD_eq_getElem?_getD, List.getElem?_eq_getElem hj]

/-! ### spec_l1In: function 47 -/
def spec_l1In.f (a0 : Int) (a1 : Int) (a2 : Int) : Option (Bool) := if a0 ≥ a1 then (some (decide (a0 ≤ a2))) else (some false)
set_option maxHeartbeats 8000000 in
set_option maxRecDepth 100000 in
theorem spec_l1In.calls (a0 : Int) (a1 : Int) (a2 : Int) (r : Bool) (w : World) (h : spec_l1In.f a0 a1 a2 = some r) :
    Calls Tryd.prog 47 #[.int .i64 a0, .int .i64 a1, .int .i64 a2] w fun e w' => e = .returned (.bool r) ∧ Drawn0 w w' := by
  have H : (if a0 ≥ a1 then (some (decide (a0 ≤ a2))) else (some false)) = some r := h
  clear h
  by_cases c4 : a0 ≥ a1
  · rw [if_pos c4] at H
    have c4b0 : decide (a1 ≤ a0) = true := decide_eq_true c4
    clear c4
    obtain rfl := Option.some.inj H
    go_enter Tryd.func47, Tryd.ntmps47
    go_wp2
    go_ret
    exact ⟨by first | rfl | (simp; done) | (simp [*]; done), by repeat (first | exact Drawn0.refl _ | apply Drawn0.step)⟩
  · rw [if_neg c4] at H
    have c4b0 : decide (a1 ≤ a0) = false := decide_eq_false c4
    clear c4
    obtain rfl := Option.some.inj H
    go_enter Tryd.func47, Tryd.ntmps47
    go_wp2
    go_ret
    exact ⟨by first | rfl | (simp; done) | (simp [*]; done), by repeat (first | exact Drawn0.refl _ | apply Drawn0.step)⟩

/-! ### spec_rvGood: function 52 -/
def spec_rvGood.l0 : Nat → ByteArray → Int → Option (Bool)
  | 0, _, _ => none
  | k + 1, x0, x3 => if x3 < (x0.size : Int) then (if 0 ≤ x3 then (if (bt x0 x3) = 111 then (spec_rvGood.l0 k x0 (wrap64 (x3 + 1))) else (if (bt x0 x3) = 46 then (spec_rvGood.l0 k x0 (wrap64 (x3 + 1))) else (some false))) else (none)) else (some true)
def spec_rvGood.f (k : Nat) (a0 : ByteArray) : Option (Bool) := (spec_l1In.f (a0.size : Int) 1 40).bind fun t101 => (if t101 = true then (spec_rvGood.l0 k a0 0) else (some false))
theorem spec_rvGood.mono_l : ∀ k, (∀ y0 y1, LeO (spec_rvGood.l0 k y0 y1) (spec_rvGood.l0 (k + 1) y0 y1))
  | 0 => fun _ _ r h => by simp [spec_rvGood.l0] at h
  | k + 1 => by
    have ih0 := spec_rvGood.mono_l k
    · intro y0 y1
      unfold spec_rvGood.l0
      repeat' first
      | (with_reducible exact ih0 _ _)
      | (with_reducible exact LeO.refl _)
      | (with_reducible exact LeO.none _)
      | (with_reducible refine LeO.ite ?_ ?_)
      | (with_reducible refine LeO.bind ?_ (fun _ => ?_))
      | exact ih0 _ _
      | exact LeO.none _
      | refine LeO.ite ?_ ?_
      | refine LeO.bind ?_ (fun _ => ?_)
theorem spec_rvGood.mono : ∀ a0 k, LeO (spec_rvGood.f k a0) (spec_rvGood.f (k + 1) a0) := by
  intro a0 k
  have ih0 := spec_rvGood.mono_l k
  unfold spec_rvGood.f
  repeat' first
      | (with_reducible exact ih0 _ _)
      | (with_reducible exact LeO.refl _)
      | (with_reducible exact LeO.none _)
      | (with_reducible refine LeO.ite ?_ ?_)
      | (with_reducible refine LeO.bind ?_ (fun _ => ?_))
      | exact ih0 _ _
      | exact LeO.none _
      | refine LeO.ite ?_ ?_
      | refine LeO.bind ?_ (fun _ => ?_)
set_option maxHeartbeats 8000000 in
set_option maxRecDepth 100000 in
theorem spec_rvGood.calls (k : Nat) (a0 : ByteArray) (r : Bool) (w : World) (h : spec_rvGood.f k a0 = some r) :
    Calls Tryd.prog 52 #[.string a0] w fun e w' => e = .returned (.bool r) ∧ Drawn0 w w' := by
  have H : ((spec_l1In.f (a0.size : Int) 1 40).bind fun t101 => (if t101 = true then (spec_rvGood.l0 k a0 0) else (some false))) = some r := h
  clear h
  replace H := Option.bind_eq_some_iff.mp H
  obtain ⟨t101, A20, H⟩ := H
  replace H : (if t101 = true then (spec_rvGood.l0 k a0 0) else (some false)) = some r := H
  have A2 := Aside0.mk A20
  clear A20
  by_cases c3 : t101 = true
  · subst c3
    have H1 : (spec_rvGood.l0 k a0 0) = some r := by rw [if_pos rfl] at H; exact H
    clear H
    have H := H1
    clear H1
    have H' := Aside0.mk H
    clear H
    go_enter Tryd.func52, Tryd.ntmps52
    go_wp2_with (first | ((with_reducible refine gate_callee (f := 47) rfl ?_); refine goesL_ (some 6) rfl rfl Tryd.func47 (by kernel_rfl) rfl #[.int .i64 (a0.size : Int), .int .i64 1, .int .i64 40] rfl (by (try simp only [List.map_toArray, List.map_cons, List.map_nil]); first | done | rfl | (simp only [List.length_drop, List.length_take]; rfl)) ?_; (with_reducible refine (spec_l1In.calls (a0.size : Int) 1 40 true _ A2.out).mono ?_); rintro e w' ⟨rfl, ⟨nd, rfl⟩⟩; refine ⟨_, rfl, ?_⟩))
    go_loopg [3] k (fun kq v3 w' => ∃ (x3_1 : Int), v3 = .int .i64 x3_1 ∧ Aside0 (spec_rvGood.l0 kq a0 x3_1 = some r) ∧ Aside0 (kq ≤ k) ∧ Drawn0 w w')
    case atStart => exact ⟨(0), (by first | rfl | (simp; done) | (simp [*]; done)), H', ⟨Nat.le_refl _⟩, by repeat (first | exact Drawn0.refl _ | apply Drawn0.step)⟩
    case round =>
      clear H'
      try clear p2
      try clear c3
      obtain ⟨x3_1, rfl, HA, HK1, ⟨m1, rfl⟩⟩ := hrel
      cases gk with
      | zero => exact absurd HA.out (by simp [spec_rvGood.l0])
      | succ k1 =>
        have H := HA.out
        clear HA
        simp only [spec_rvGood.l0] at H
        by_cases c4 : x3_1 < (a0.size : Int)
        · rw [if_pos c4] at H
          have c4b0 : decide (x3_1 < (a0.size : Int)) = true := decide_eq_true c4
          clear c4
          by_cases c5 : 0 ≤ x3_1
          · rw [if_pos c5] at H
            have c5b0 : decide (0 ≤ x3_1) = true := decide_eq_true c5
            clear c5
            by_cases c7 : (bt a0 x3_1) = 111
            · rw [if_pos c7] at H
              have c7b0 : ((bt a0 x3_1) == 111) = true := beq_iff_eq.mpr c7
              have c7b1 : ((bt a0 x3_1) != 111) = false := bne_eq_false_iff_eq.mpr c7
              clear c7
              have H' := Aside0.mk H
              clear H
              have p6 : 0 ≤ (x3_1 : Int) := of_decide_eq_true (by first | (with_reducible assumption) | assumption)
              have q6 : x3_1 < (a0.size : Int) := of_decide_eq_true (by first | (with_reducible assumption) | assumption)
              have hx6 := bt_at a0 x3_1
              replace p6 := eq_true p6
              replace q6 := eq_true q6
              go_wp2
              go_roundg k1
              case measure => have := HK1.out; omega
              case rel => exact ⟨(wrap64 (x3_1 + 1)), (by first | rfl | (simp; done) | (simp [*]; done)), H', ⟨by have := HK1.out; omega⟩, by repeat (first | exact Drawn0.refl _ | apply Drawn0.step)⟩
            · rw [if_neg c7] at H
              have c7b0 : ((bt a0 x3_1) == 111) = false := beq_eq_false_iff_ne.mpr c7
              have c7b1 : ((bt a0 x3_1) != 111) = true := bne_iff_ne.mpr c7
              by_cases c9 : (bt a0 x3_1) = 46
              · rw [if_pos c9] at H
                have c9b0 : ((bt a0 x3_1) == 46) = true := beq_iff_eq.mpr c9
                have c9b1 : ((bt a0 x3_1) != 46) = false := bne_eq_false_iff_eq.mpr c9
                clear c9
                have H' := Aside0.mk H
                clear H
                have p6 : 0 ≤ (x3_1 : Int) := of_decide_eq_true (by first | (with_reducible assumption) | assumption)
                have q6 : x3_1 < (a0.size : Int) := of_decide_eq_true (by first | (with_reducible assumption) | assumption)
                have hx6 := bt_at a0 x3_1
                replace p6 := eq_true p6
                replace q6 := eq_true q6
                have p8 : 0 ≤ (x3_1 : Int) := of_decide_eq_true (by first | (with_reducible assumption) | assumption)
                have q8 : x3_1 < (a0.size : Int) := of_decide_eq_true (by first | (with_reducible assumption) | assumption)
                have hx8 := bt_at a0 x3_1
                replace p8 := eq_true p8
                replace q8 := eq_true q8
                go_wp2
                go_roundg k1
                case measure => have := HK1.out; omega
                case rel => exact ⟨(wrap64 (x3_1 + 1)), (by first | rfl | (simp; done) | (simp [*]; done)), H', ⟨by have := HK1.out; omega⟩, by repeat (first | exact Drawn0.refl _ | apply Drawn0.step)⟩
              · rw [if_neg c9] at H
                have c9b0 : ((bt a0 x3_1) == 46) = false := beq_eq_false_iff_ne.mpr c9
                have c9b1 : ((bt a0 x3_1) != 46) = true := bne_iff_ne.mpr c9
                obtain rfl := Option.some.inj H
                have p6 : 0 ≤ (x3_1 : Int) := of_decide_eq_true (by first | (with_reducible assumption) | assumption)
                have q6 : x3_1 < (a0.size : Int) := of_decide_eq_true (by first | (with_reducible assumption) | assumption)
                have hx6 := bt_at a0 x3_1
                replace p6 := eq_true p6
                replace q6 := eq_true q6
                have p8 : 0 ≤ (x3_1 : Int) := of_decide_eq_true (by first | (with_reducible assumption) | assumption)
                have q8 : x3_1 < (a0.size : Int) := of_decide_eq_true (by first | (with_reducible assumption) | assumption)
                have hx8 := bt_at a0 x3_1
                replace p8 := eq_true p8
                replace q8 := eq_true q8
                go_wp2
                go_ret
                exact ⟨by first | rfl | (simp; done) | (simp [*]; done), by repeat (first | exact Drawn0.refl _ | apply Drawn0.step)⟩
          · rw [if_neg c5] at H
            exact absurd H (by simp)
        · rw [if_neg c4] at H
          have c4b0 : decide (x3_1 < (a0.size : Int)) = false := decide_eq_false c4
          clear c4
          obtain rfl := Option.some.inj H
          go_wp2
          go_ret
          exact ⟨by first | rfl | (simp; done) | (simp [*]; done), by repeat (first | exact Drawn0.refl _ | apply Drawn0.step)⟩
  · replace c3 := Bool.eq_false_iff.mpr c3
    subst c3
    have H1 : (some false) = some r := by rw [if_neg (show ¬ (false = true) by decide)] at H; exact H
    clear H
    have H := H1
    clear H1
    obtain rfl := Option.some.inj H
    go_enter Tryd.func52, Tryd.ntmps52
    go_wp2_with (first | ((with_reducible refine gate_callee (f := 47) rfl ?_); refine goesL_ (some 6) rfl rfl Tryd.func47 (by kernel_rfl) rfl #[.int .i64 (a0.size : Int), .int .i64 1, .int .i64 40] rfl (by (try simp only [List.map_toArray, List.map_cons, List.map_nil]); first | done | rfl | (simp only [List.length_drop, List.length_take]; rfl)) ?_; (with_reducible refine (spec_l1In.calls (a0.size : Int) 1 40 false _ A2.out).mono ?_); rintro e w' ⟨rfl, ⟨nd, rfl⟩⟩; refine ⟨_, rfl, ?_⟩))
    go_ret
    exact ⟨by first | rfl | (simp; done) | (simp [*]; done), by repeat (first | exact Drawn0.refl _ | apply Drawn0.step)⟩

/-! ### spec_rvAsked: function 33 -/
def spec_rvAsked.f (k : Nat) (a0 : ByteArray) (a1 : Int) : Option (Bool) := (spec_rvGood.f k a0).bind fun t102 => (if t102 = true then ((spec_l1In.f a1 1 50).bind fun t103 => (some t103)) else (some false))
theorem spec_rvAsked.mono : ∀ a0 a1 k, LeO (spec_rvAsked.f k a0 a1) (spec_rvAsked.f (k + 1) a0 a1) := by
  intro a0 a1 k
  unfold spec_rvAsked.f
  repeat' first
      | (with_reducible exact spec_rvGood.mono _ _)
      | (with_reducible exact LeO.refl _)
      | (with_reducible exact LeO.none _)
      | (with_reducible refine LeO.ite ?_ ?_)
      | (with_reducible refine LeO.bind ?_ (fun _ => ?_))
      | exact spec_rvGood.mono _ _
      | exact LeO.none _
      | refine LeO.ite ?_ ?_
      | refine LeO.bind ?_ (fun _ => ?_)
set_option maxHeartbeats 8000000 in
set_option maxRecDepth 100000 in
theorem spec_rvAsked.calls (k : Nat) (a0 : ByteArray) (a1 : Int) (r : Bool) (w : World) (h : spec_rvAsked.f k a0 a1 = some r) :
    Calls Tryd.prog 33 #[.string a0, .int .i64 a1] w fun e w' => e = .returned (.bool r) ∧ Drawn0 w w' := by
  have H : ((spec_rvGood.f k a0).bind fun t102 => (if t102 = true then ((spec_l1In.f a1 1 50).bind fun t103 => (some t103)) else (some false))) = some r := h
  clear h
  replace H := Option.bind_eq_some_iff.mp H
  obtain ⟨t102, A30, H⟩ := H
  replace H : (if t102 = true then ((spec_l1In.f a1 1 50).bind fun t103 => (some t103)) else (some false)) = some r := H
  have A3 := Aside0.mk A30
  clear A30
  by_cases c4 : t102 = true
  · subst c4
    have H1 : ((spec_l1In.f a1 1 50).bind fun t103 => (some t103)) = some r := by rw [if_pos rfl] at H; exact H
    clear H
    have H := H1
    clear H1
    replace H := Option.bind_eq_some_iff.mp H
    obtain ⟨t103, A50, H⟩ := H
    replace H : (some t103) = some r := H
    have A5 := Aside0.mk A50
    clear A50
    obtain rfl := Option.some.inj H
    go_enter Tryd.func33, Tryd.ntmps33
    go_wp2_with (first | ((with_reducible refine gate_callee (f := 52) rfl ?_); refine goesL_ (some 6) rfl rfl Tryd.func52 (by kernel_rfl) rfl #[.string a0] rfl (by (try simp only [List.map_toArray, List.map_cons, List.map_nil]); first | done | rfl | (simp only [List.length_drop, List.length_take]; rfl)) ?_; (with_reducible refine (spec_rvGood.calls k a0 true _ A3.out).mono ?_); rintro e w' ⟨rfl, ⟨nd, rfl⟩⟩; refine ⟨_, rfl, ?_⟩) | (go_at_call 47; (with_reducible refine (spec_l1In.calls a1 1 50 t103 _ A5.out).mono ?_); rintro e w' ⟨rfl, ⟨nd, rfl⟩⟩))
    go_ret
    exact ⟨by first | rfl | (simp; done) | (simp [*]; done), by repeat (first | exact Drawn0.refl _ | apply Drawn0.step)⟩
  · replace c4 := Bool.eq_false_iff.mpr c4
    subst c4
    have H1 : (some false) = some r := by rw [if_neg (show ¬ (false = true) by decide)] at H; exact H
    clear H
    have H := H1
    clear H1
    obtain rfl := Option.some.inj H
    go_enter Tryd.func33, Tryd.ntmps33
    go_wp2_with (first | ((with_reducible refine gate_callee (f := 52) rfl ?_); refine goesL_ (some 6) rfl rfl Tryd.func52 (by kernel_rfl) rfl #[.string a0] rfl (by (try simp only [List.map_toArray, List.map_cons, List.map_nil]); first | done | rfl | (simp only [List.length_drop, List.length_take]; rfl)) ?_; (with_reducible refine (spec_rvGood.calls k a0 false _ A3.out).mono ?_); rintro e w' ⟨rfl, ⟨nd, rfl⟩⟩; refine ⟨_, rfl, ?_⟩))
    go_ret
    exact ⟨by first | rfl | (simp; done) | (simp [*]; done), by repeat (first | exact Drawn0.refl _ | apply Drawn0.step)⟩

/-! ### spec_rvStand: function 39 -/
def spec_rvStand.f (a0 : ByteArray) (a1 : Int) : Option (Bool) := if a1 = 0 then (some true) else (if a1 = (wrap64 ((a0.size : Int) + 1)) then (some true) else (if 0 ≤ (wrap64 (a1 - 1)) then (if (wrap64 (a1 - 1)) < (a0.size : Int) then (some ((bt a0 (wrap64 (a1 - 1))) == 111)) else (none)) else (none)))
set_option maxHeartbeats 8000000 in
set_option maxRecDepth 100000 in
theorem spec_rvStand.calls (a0 : ByteArray) (a1 : Int) (r : Bool) (w : World) (h : spec_rvStand.f a0 a1 = some r) :
    Calls Tryd.prog 39 #[.string a0, .int .i64 a1] w fun e w' => e = .returned (.bool r) ∧ Drawn0 w w' := by
  have H : (if a1 = 0 then (some true) else (if a1 = (wrap64 ((a0.size : Int) + 1)) then (some true) else (if 0 ≤ (wrap64 (a1 - 1)) then (if (wrap64 (a1 - 1)) < (a0.size : Int) then (some ((bt a0 (wrap64 (a1 - 1))) == 111)) else (none)) else (none)))) = some r := h
  clear h
  by_cases c3 : a1 = 0
  · rw [if_pos c3] at H
    have c3b0 : (a1 == 0) = true := beq_iff_eq.mpr c3
    have c3b1 : (a1 != 0) = false := bne_eq_false_iff_eq.mpr c3
    clear c3
    obtain rfl := Option.some.inj H
    go_enter Tryd.func39, Tryd.ntmps39
    go_wp2
    go_ret
    exact ⟨by first | rfl | (simp; done) | (simp [*]; done), by repeat (first | exact Drawn0.refl _ | apply Drawn0.step)⟩
  · rw [if_neg c3] at H
    have c3b0 : (a1 == 0) = false := beq_eq_false_iff_ne.mpr c3
    have c3b1 : (a1 != 0) = true := bne_iff_ne.mpr c3
    by_cases c4 : a1 = (wrap64 ((a0.size : Int) + 1))
    · rw [if_pos c4] at H
      have c4b0 : (a1 == (wrap64 ((a0.size : Int) + 1))) = true := beq_iff_eq.mpr c4
      have c4b1 : (a1 != (wrap64 ((a0.size : Int) + 1))) = false := bne_eq_false_iff_eq.mpr c4
      clear c4
      obtain rfl := Option.some.inj H
      go_enter Tryd.func39, Tryd.ntmps39
      go_wp2
      go_ret
      exact ⟨by first | rfl | (simp; done) | (simp [*]; done), by repeat (first | exact Drawn0.refl _ | apply Drawn0.step)⟩
    · rw [if_neg c4] at H
      have c4b0 : (a1 == (wrap64 ((a0.size : Int) + 1))) = false := beq_eq_false_iff_ne.mpr c4
      have c4b1 : (a1 != (wrap64 ((a0.size : Int) + 1))) = true := bne_iff_ne.mpr c4
      obtain ⟨ji5, hji5⟩ : ∃ j_ : Int, (wrap64 (a1 - 1)) = j_ := ⟨_, rfl⟩
      replace H : (if 0 ≤ (ji5) then (if (ji5) < (a0.size : Int) then (some ((bt a0 (ji5)) == 111)) else (none)) else (none)) = some r := by first | (rw [hji5] at H; exact H) | (simp only [hji5] at H ⊢; exact H)
      have hji5w : (IntKind.i64.wrap (a1 - 1)) = ji5 := (i64_w _).trans hji5
      by_cases c6 : 0 ≤ (ji5)
      · rw [if_pos c6] at H
        have c6b0 : decide (0 ≤ (ji5)) = true := decide_eq_true c6
        clear c6
        by_cases c7 : (ji5) < (a0.size : Int)
        · rw [if_pos c7] at H
          have c7b0 : decide ((ji5) < (a0.size : Int)) = true := decide_eq_true c7
          clear c7
          obtain rfl := Option.some.inj H
          have p8 : 0 ≤ ((ji5) : Int) := of_decide_eq_true (by first | (with_reducible assumption) | assumption)
          have q8 : (ji5) < (a0.size : Int) := of_decide_eq_true (by first | (with_reducible assumption) | assumption)
          have hx8 := bt_at a0 (ji5)
          replace p8 := eq_true p8
          replace q8 := eq_true q8
          go_enter Tryd.func39, Tryd.ntmps39
          go_wp2
          go_ret
          exact ⟨by first | rfl | (simp; done) | (simp only [← hji5] <;> (first | rfl | simp)) | (simp [*]; done), by repeat (first | exact Drawn0.refl _ | apply Drawn0.step)⟩
        · rw [if_neg c7] at H
          exact absurd H (by simp)
      · rw [if_neg c6] at H
        exact absurd H (by simp)

/-! ### spec_l1Least: function 51 -/
def spec_l1Least.f (a0 : Int) (a1 : Int) : Option (Int) := if a0 < a1 then (some a0) else (some a1)
set_option maxHeartbeats 8000000 in
set_option maxRecDepth 100000 in
theorem spec_l1Least.calls (a0 : Int) (a1 : Int) (r : Int) (w : World) (h : spec_l1Least.f a0 a1 = some r) :
    Calls Tryd.prog 51 #[.int .i64 a0, .int .i64 a1] w fun e w' => e = .returned (.int .i64 r) ∧ Drawn0 w w' := by
  have H : (if a0 < a1 then (some a0) else (some a1)) = some r := h
  clear h
  by_cases c3 : a0 < a1
  · rw [if_pos c3] at H
    have c3b0 : decide (a0 < a1) = true := decide_eq_true c3
    clear c3
    obtain rfl := Option.some.inj H
    go_enter Tryd.func51, Tryd.ntmps51
    go_wp2
    go_ret
    exact ⟨by first | rfl | (simp; done) | (simp [*]; done), by repeat (first | exact Drawn0.refl _ | apply Drawn0.step)⟩
  · rw [if_neg c3] at H
    have c3b0 : decide (a0 < a1) = false := decide_eq_false c3
    clear c3
    obtain rfl := Option.some.inj H
    go_enter Tryd.func51, Tryd.ntmps51
    go_wp2
    go_ret
    exact ⟨by first | rfl | (simp; done) | (simp [*]; done), by repeat (first | exact Drawn0.refl _ | apply Drawn0.step)⟩

/-! ### spec_l1Most: function 57 -/
def spec_l1Most.f (a0 : Int) (a1 : Int) : Option (Int) := if a0 > a1 then (some a0) else (some a1)
set_option maxHeartbeats 8000000 in
set_option maxRecDepth 100000 in
theorem spec_l1Most.calls (a0 : Int) (a1 : Int) (r : Int) (w : World) (h : spec_l1Most.f a0 a1 = some r) :
    Calls Tryd.prog 57 #[.int .i64 a0, .int .i64 a1] w fun e w' => e = .returned (.int .i64 r) ∧ Drawn0 w w' := by
  have H : (if a0 > a1 then (some a0) else (some a1)) = some r := h
  clear h
  by_cases c3 : a0 > a1
  · rw [if_pos c3] at H
    have c3b0 : decide (a1 < a0) = true := decide_eq_true c3
    clear c3
    obtain rfl := Option.some.inj H
    go_enter Tryd.func57, Tryd.ntmps57
    go_wp2
    go_ret
    exact ⟨by first | rfl | (simp; done) | (simp [*]; done), by repeat (first | exact Drawn0.refl _ | apply Drawn0.step)⟩
  · rw [if_neg c3] at H
    have c3b0 : decide (a1 < a0) = false := decide_eq_false c3
    clear c3
    obtain rfl := Option.some.inj H
    go_enter Tryd.func57, Tryd.ntmps57
    go_wp2
    go_ret
    exact ⟨by first | rfl | (simp; done) | (simp [*]; done), by repeat (first | exact Drawn0.refl _ | apply Drawn0.step)⟩

/-! ### spec_rvCount: function 48 -/
--USES helper_tab
def spec_rvCount.addK (row src : List Int) (k : Nat) : List Int := row.set (k + 1) ((spec_l1Least.f (wrap64 (rd row ((k : Int) + 1) + rd src (k : Int))) 1000000000000001).getD 0)
def spec_rvCount.addL : Nat → Nat → List Int → List Int → List Int
  | 0, _, row, _ => row
  | d + 1, k, row, src => spec_rvCount.addL d (k + 1) (spec_rvCount.addK row src k) src
def spec_rvCount.befL (e : Nat) : Nat → Nat → List (List Int) → List Int → List Int
  | 0, _, _, row => row
  | d + 1, b, rows, row => spec_rvCount.befL e d (b + 1) rows (spec_rvCount.addL e 0 row (tabRd rows (b : Int)))
theorem spec_rvCount.addL_succ (d k : Nat) (row src : List Int) : spec_rvCount.addL (d + 1) k row src = spec_rvCount.addL d (k + 1) (spec_rvCount.addK row src k) src := rfl
theorem spec_rvCount.addL_zero (k : Nat) (row src : List Int) : spec_rvCount.addL 0 k row src = row := rfl
theorem spec_rvCount.befL_succ (e d b : Nat) (rows : List (List Int)) (row : List Int) : spec_rvCount.befL e (d + 1) b rows row = spec_rvCount.befL e d (b + 1) rows (spec_rvCount.addL e 0 row (tabRd rows (b : Int))) := rfl
theorem spec_rvCount.befL_zero (e b : Nat) (rows : List (List Int)) (row : List Int) : spec_rvCount.befL e 0 b rows row = row := rfl
def spec_rvCount.first (c p : Nat) : List Int := if p = 0 then (List.replicate c 0).set 0 1 else List.replicate c 0
def spec_rvCount.st (s : ByteArray) (p : Nat) : Bool := (spec_rvStand.f s (p : Int)).getD false
def spec_rvCount.lo (leap : Int) (p : Nat) : Nat := ((p : Int) - leap).toNat
def spec_rvCount.rowAt (s : ByteArray) (leap : Int) (rows : List (List Int)) (p : Nat) : List Int := if spec_rvCount.st s p = true then spec_rvCount.befL (s.size + 1) (p - spec_rvCount.lo leap p) (spec_rvCount.lo leap p) rows (spec_rvCount.first (s.size + 2) p) else spec_rvCount.first (s.size + 2) p
def spec_rvCount.tab (s : ByteArray) (leap : Int) : Nat → List (List Int)
  | 0 => []
  | d + 1 => spec_rvCount.tab s leap d ++ [spec_rvCount.rowAt s leap (spec_rvCount.tab s leap d) d]
theorem spec_rvCount.tab_len (s : ByteArray) (leap : Int) (d : Nat) : (spec_rvCount.tab s leap d).length = d := by
  induction d with
  | zero => rfl
  | succ d ih => simp [spec_rvCount.tab, ih]
def spec_rvCount.f (a0 : ByteArray) (a1 : Int) : Option (List Int) := if a0.size ≤ 60 ∧ 0 ≤ a1 ∧ a1 ≤ 1000 then some (tabRd (spec_rvCount.tab a0 a1 (a0.size + 2)) ((a0.size : Int) + 1)) else none
theorem spec_rvCount.st_some (s : ByteArray) (p : Nat) (hs : s.size ≤ 60) (hp : p < s.size + 2) : spec_rvStand.f s (p : Int) = some (spec_rvCount.st s p) := by
  have h : ∃ b, spec_rvStand.f s (p : Int) = some b := by
    unfold spec_rvStand.f
    have e1 : wrap64 ((s.size : Int) + 1) = (s.size : Int) + 1 := by unfold wrap64; omega
    have e2 : wrap64 ((p : Int) - 1) = (p : Int) - 1 := by unfold wrap64; omega
    rw [e1, e2]
    by_cases h0 : (p : Int) = 0
    · exact ⟨_, by rw [if_pos h0]⟩
    · by_cases h1 : (p : Int) = (s.size : Int) + 1
      · exact ⟨_, by rw [if_neg h0, if_pos h1]⟩
      · exact ⟨_, by rw [if_neg h0, if_neg h1, if_pos (by omega), if_pos (by omega)]⟩
  obtain ⟨b, hb⟩ := h
  unfold spec_rvCount.st
  rw [hb]; rfl
theorem spec_rvCount.least_some (x y : Int) : spec_l1Least.f x y = some ((spec_l1Least.f x y).getD 0) := by
  unfold spec_l1Least.f
  split <;> rfl
theorem spec_rvCount.most_some (p : Nat) (leap : Int) (hp : p ≤ 100) (hl : 0 ≤ leap ∧ leap ≤ 1000) : spec_l1Most.f 0 (wrap64 ((p : Int) - leap)) = some ((spec_rvCount.lo leap p : Nat) : Int) := by
  have e : wrap64 ((p : Int) - leap) = (p : Int) - leap := by unfold wrap64; omega
  unfold spec_l1Most.f spec_rvCount.lo
  rw [e]
  by_cases h : (0 : Int) > (p : Int) - leap
  · rw [if_pos h]; congr 1; omega
  · rw [if_neg h]; congr 1; omega
theorem spec_rvCount.addK_len (row src : List Int) (k : Nat) : (spec_rvCount.addK row src k).length = row.length := by unfold spec_rvCount.addK; simp
theorem spec_rvCount.addL_len (d : Nat) : ∀ (k : Nat) (row src : List Int), (spec_rvCount.addL d k row src).length = row.length := by
  induction d with
  | zero => intro k row src; rfl
  | succ d ih => intro k row src; simp only [spec_rvCount.addL]; rw [ih, spec_rvCount.addK_len]
theorem spec_rvCount.befL_len (e : Nat) (rows : List (List Int)) (d : Nat) : ∀ (b : Nat) (row : List Int), (spec_rvCount.befL e d b rows row).length = row.length := by
  induction d with
  | zero => intro b row; rfl
  | succ d ih => intro b row; simp only [spec_rvCount.befL]; rw [ih, spec_rvCount.addL_len]
theorem spec_rvCount.nx1 {k n q : Nat} (h : k ≤ n ∧ n ≤ q + 1 + k) (hk : k < n) : k + 1 ≤ n ∧ n ≤ q + (k + 1) := by omega
theorem spec_rvCount.nx2 {l b p q : Nat} (h : l ≤ b ∧ b ≤ p ∧ p ≤ q + 1 + b) (hk : b < p) : l ≤ b + 1 ∧ b + 1 ≤ p ∧ p ≤ q + (b + 1) := by omega
theorem spec_rvCount.nx3 {k n : Nat} (hk : k < n) : n - k = n - (k + 1) + 1 := by omega
theorem spec_rvCount.first_len (c p : Nat) : (spec_rvCount.first c p).length = c := by unfold spec_rvCount.first; split <;> simp
set_option maxHeartbeats 8000000 in
set_option maxRecDepth 100000 in
theorem spec_rvCount.calls (a0 : ByteArray) (a1 : Int) (r : List Int) (w : World) (h : spec_rvCount.f a0 a1 = some r) :
    Calls Tryd.prog 48 #[.string a0, .int .i64 a1] w fun e w' => ∃ v0_ : Value, e = .returned (v0_) ∧ Kd.R (Kd.int .i64) 3 w' w.heap.size (fun _ => True) v0_ r ∧ Below w.heap.size w w' := by
  unfold spec_rvCount.f at h
  by_cases c : a0.size ≤ 60 ∧ 0 ≤ a1 ∧ a1 ≤ 1000
  case neg => rw [if_neg c] at h; cases h
  rw [if_pos c] at h
  have HR := Aside0.mk (Option.some.inj h)
  have HC := Aside0.mk c
  clear h
  have hw1 : wrap64 ((a0.size : Int) + 1) = (a0.size : Int) + 1 := by unfold wrap64; omega
  have hw1' : IntKind.i64.wrap ((a0.size : Int) + 1) = (a0.size : Int) + 1 := (i64_w _).trans hw1
  have hw2 : wrap64 ((a0.size : Int) + 1 + 1) = (a0.size : Int) + 2 := by unfold wrap64; omega
  have hw2' : IntKind.i64.wrap ((a0.size : Int) + 1 + 1) = (a0.size : Int) + 2 := (i64_w _).trans hw2
  have hw3 : wrap64 ((a0.size : Int) + (1 + 1)) = (a0.size : Int) + 2 := by unfold wrap64; omega
  have hmkW : ∀ W : World, (Instr.makeSlice 53 (.int .i64 ((a0.size : Int) + 2)) (.int .i64 ((a0.size : Int) + 2))).run Tryd.prog W = .ok (.slice (some ⟨W.heap.size, 0, none⟩) (a0.size + 2) (a0.size + 2)) (W.alloc (.cells (madeCells #[.slice none 0 0] (a0.size + 2)) 27)) := fun W => by
    have := print_make_int (P := Tryd.prog) 53 27 (.slice none 0 0) 24 Tryd.underlying53 (by kernel_rfl) rfl (by decide) ((a0.size : Int) + 2) (by omega) (by omega) W
    rwa [show ((a0.size : Int) + 2).toNat = a0.size + 2 by omega] at this
  have hmkR : ∀ W : World, (Instr.makeSlice 27 (.int .i64 ((a0.size : Int) + 2)) (.int .i64 ((a0.size : Int) + 2))).run Tryd.prog W = .ok (.slice (some ⟨W.heap.size, 0, none⟩) (a0.size + 2) (a0.size + 2)) (W.alloc (.cells (madeCells #[.int .i64 0] (a0.size + 2)) 3)) := fun W => by
    have := print_make_int (P := Tryd.prog) 27 3 (.int .i64 0) 8 Tryd.underlying27 info3 rfl (by decide) ((a0.size : Int) + 2) (by omega) (by omega) W
    rwa [show ((a0.size : Int) + 2).toNat = a0.size + 2 by omega] at this
  clear c
  go_enter Tryd.func48, Tryd.ntmps48
  go_wp2
  -- THE LOOP OVER THE PLACES
  go_loopg [20] (a0.size + 2) (fun kq v20 w' => ∃ (pl : Nat) (g : Nat → Nat), v20 = .int .i64 (pl : Int) ∧ Aside0 (pl ≤ a0.size + 2 ∧ a0.size + 2 ≤ kq + pl) ∧ Aside0 (Tab w' w.heap.size w.heap.size (a0.size + 2) (a0.size + 2) g (spec_rvCount.tab a0 a1 pl)) ∧ Aside0 (Below w.heap.size w w'))
  case atStart => exact ⟨0, fun _ => 0, rfl, ⟨by omega⟩, ⟨Tab.start w w.heap.size _ _ (Nat.le_refl _)⟩, ⟨below_alloc (Below.refl _ _) _⟩⟩
  case round =>
    obtain ⟨pl, g, rfl, HPL, HT0, HB0⟩ := hrel
    by_cases hpl : pl < a0.size + 2
    · have d1 : decide ((pl : Int) < (a0.size : Int) + 2) = true := decide_eq_true (by omega)
      obtain ⟨k1, rfl⟩ : ∃ k1, gk = k1 + 1 := ⟨gk - 1, by have := HPL.out; omega⟩
      obtain ⟨⟨hfz, v_, hcl⟩, hT2⟩ := HT0.out.more (by rw [spec_rvCount.tab_len]; exact hpl)
      rw [spec_rvCount.tab_len] at hfz hcl hT2
      have HB2 := Aside0.mk (Below.setCell (p := ⟨w.heap.size, pl, none⟩) (below_alloc HB0.out (.cells (madeCells #[.int .i64 0] (a0.size + 2)) 3)) (Nat.le_refl _) (.slice (some ⟨wr.heap.size, 0, none⟩) (a0.size + 2) (a0.size + 2)))
      obtain ⟨g', gp, HT2⟩ : ∃ g' : Nat → Nat, g' pl = wr.heap.size ∧ Aside0 (Tab ((wr.alloc (.cells (madeCells #[.int .i64 0] (a0.size + 2)) 3)).setCell ⟨w.heap.size, pl, none⟩ (.slice (some ⟨wr.heap.size, 0, none⟩) (a0.size + 2) (a0.size + 2))) w.heap.size w.heap.size (a0.size + 2) (a0.size + 2) g' (spec_rvCount.tab a0 a1 pl ++ [List.replicate (a0.size + 2) 0])) := ⟨_, by simp, ⟨hT2⟩⟩
      have hrow0 : (spec_rvCount.tab a0 a1 pl ++ [List.replicate (a0.size + 2) 0])[pl]? = some (List.replicate (a0.size + 2) (0 : Int)) := by
        rw [List.getElem?_append_right (by rw [spec_rvCount.tab_len]; exact Nat.le_refl _), spec_rvCount.tab_len]; simp
      have hway2 := HT2.out.ways pl (by rw [List.length_append, spec_rvCount.tab_len]; simp)
      rw [gp] at hway2
      have a1_ : (0 : Int) ≤ (pl : Int) := by omega
      have a2_ : (pl : Int) < (a0.size : Int) + 2 := by omega
      have hwp : wrap64 ((pl : Int) + 1) = (pl : Int) + 1 := by have := HC.out; unfold wrap64; omega
      have hwp' : IntKind.i64.wrap ((pl : Int) + 1) = (pl : Int) + 1 := (i64_w _).trans hwp
      have HST := Aside0.mk (spec_rvCount.st_some a0 pl HC.out.1 hpl)
      have HMO := Aside0.mk (spec_rvCount.most_some pl a1 (by have := HC.out; omega) HC.out.2)
      have HLO := Aside0.mk (show spec_rvCount.lo a1 pl ≤ pl by have := HC.out; unfold spec_rvCount.lo; omega)
      clear hT2
      have HW0 := Aside0.mk HB0.out.size
      clear HB0
      by_cases hp0 : pl = 0
      · have d2 : ((pl : Int) == 0) = true := beq_iff_eq.2 (by omega)
        obtain ⟨hz0, hz1⟩ := HT2.out.at pl _ hrow0 0 (by omega)
        have hT3 := HT2.out.put pl _ hrow0 0 1
        rw [gp] at hz0 hz1 hT3
        have hset0 : (spec_rvCount.tab a0 a1 pl ++ [List.replicate (a0.size + 2) (0 : Int)]).set pl ((List.replicate (a0.size + 2) (0 : Int)).set 0 1) = spec_rvCount.tab a0 a1 pl ++ [spec_rvCount.first (a0.size + 2) pl] := by
          rw [List.set_append, if_neg (by rw [spec_rvCount.tab_len]; omega), spec_rvCount.tab_len]
          unfold spec_rvCount.first
          rw [if_pos hp0]; simp
        rw [hset0] at hT3
        have HT := Aside0.mk hT3
        have HB := Aside0.mk (Below.setCell (p := ⟨wr.heap.size, 0, none⟩) HB2.out HW0.out (.int .i64 1))
        have a3_ : (0 : Int) < (a0.size : Int) + 2 := by omega
        have HP0 := Aside0.mk hp0
        clear hT3 HT2 HB2 hrow0 hset0 hp0
        cases hst : spec_rvCount.st a0 pl with
        | false =>
          rw [hst] at HST
          go_wp2_with (go_at_call 39; (with_reducible refine (spec_rvStand.calls a0 (pl : Int) false _ HST.out).mono ?_); rintro e w' ⟨rfl, ⟨nd, rfl⟩⟩)
          go_roundg k1
          case measure => omega
          case rel => exact ⟨pl + 1, g', by first | rfl | (simp; done), ⟨by have := HPL.out; omega⟩, ⟨by
            have h1 := HT.out.drewN nd
            have h2 : spec_rvCount.rowAt a0 a1 (spec_rvCount.tab a0 a1 pl) pl = spec_rvCount.first (a0.size + 2) pl := by unfold spec_rvCount.rowAt; rw [hst]; rfl
            simp only [spec_rvCount.tab]
            rw [h2]
            exact h1⟩, ⟨pw_below_drewN HB.out nd⟩⟩
        | true =>
          rw [hst] at HST
          go_wp2_with (first | (go_at_call 39; (with_reducible refine (spec_rvStand.calls a0 (pl : Int) true _ HST.out).mono ?_); rintro e w' ⟨rfl, ⟨nd, rfl⟩⟩) | (go_at_call 57; (refine (spec_l1Most.calls 0 (wrap64 ((pl : Int) - a1)) _ _ HMO.out).mono ?_); rintro e w' ⟨rfl, ⟨nd2, rfl⟩⟩))
          clear d2
          replace HT := Aside0.mk (HT.out.drewN (nd + nd2))
          replace HB := Aside0.mk (pw_below_drewN HB.out (nd + nd2))
          rename World => wo
          go_loopg [9] (pl - spec_rvCount.lo a1 pl) (fun kq v9 w' => ∃ (b : Nat) (row : List Int), v9 = .int .i64 (b : Int) ∧ Aside0 (spec_rvCount.lo a1 pl ≤ b ∧ b ≤ pl ∧ pl ≤ kq + b) ∧ Aside0 (spec_rvCount.befL (a0.size + 1) (pl - b) b (spec_rvCount.tab a0 a1 pl) row = spec_rvCount.befL (a0.size + 1) (pl - spec_rvCount.lo a1 pl) (spec_rvCount.lo a1 pl) (spec_rvCount.tab a0 a1 pl) (spec_rvCount.first (a0.size + 2) pl)) ∧ Aside0 (Tab w' w.heap.size w.heap.size (a0.size + 2) (a0.size + 2) g' (spec_rvCount.tab a0 a1 pl ++ [row])) ∧ Aside0 (Below w.heap.size w w'))
          case atStart => exact ⟨spec_rvCount.lo a1 pl, spec_rvCount.first (a0.size + 2) pl, rfl, ⟨by have := HLO.out; omega⟩, ⟨rfl⟩, HT, HB⟩
          case round =>
            clear HT HB
            obtain ⟨b, row, rfl, HB1, HE, HT, HB⟩ := hrel
            by_cases hbp : b < pl
            · have d3 : decide ((b : Int) < (pl : Int)) = true := decide_eq_true (by omega)
              obtain ⟨k2, rfl⟩ : ∃ k2, gk = k2 + 1 := ⟨gk - 1, by have := HB1.out; omega⟩
              have hway := HT.out.ways b (by rw [List.length_append, spec_rvCount.tab_len]; simp; omega)
              have hsrc : (spec_rvCount.tab a0 a1 pl ++ [row])[b]? = some (tabRd (spec_rvCount.tab a0 a1 pl) (b : Int)) := by
                rw [List.getElem?_append_left (by rw [spec_rvCount.tab_len]; exact hbp)]
                have hb2 : b < (spec_rvCount.tab a0 a1 pl).length := by rw [spec_rvCount.tab_len]; exact hbp
                rw [List.getElem?_eq_getElem hb2]
                unfold tabRd
                rw [Int.toNat_natCast, List.getD_eq_getElem?_getD, List.getElem?_eq_getElem hb2]; rfl
              have HSRC := Aside0.mk hsrc
              have e1 : (0 : Int) ≤ (b : Int) := by omega
              have e2 : (b : Int) < (a0.size : Int) + 2 := by have := HPL.out; omega
              have e3 : b < a0.size + 2 := by have := HPL.out; omega
              have hwb : wrap64 ((b : Int) + 1) = (b : Int) + 1 := by have := HC.out; have := HPL.out; unfold wrap64; omega
              have hwb' : IntKind.i64.wrap ((b : Int) + 1) = (b : Int) + 1 := (i64_w _).trans hwb
              clear hsrc
              go_wp2
              rename World => wp
              go_loopg [57] (a0.size + 1) (fun kq v57 w' => ∃ (k : Nat) (row2 : List Int), v57 = .int .i64 (k : Int) ∧ Aside0 (k ≤ a0.size + 1 ∧ a0.size + 1 ≤ kq + k) ∧ Aside0 (spec_rvCount.addL (a0.size + 1 - k) k row2 (tabRd (spec_rvCount.tab a0 a1 pl) (b : Int)) = spec_rvCount.addL (a0.size + 1) 0 row (tabRd (spec_rvCount.tab a0 a1 pl) (b : Int))) ∧ Aside0 (Tab w' w.heap.size w.heap.size (a0.size + 2) (a0.size + 2) g' (spec_rvCount.tab a0 a1 pl ++ [row2])) ∧ Aside0 (Below w.heap.size w w'))
              case atStart => exact ⟨0, row, rfl, ⟨by omega⟩, ⟨rfl⟩, HT, HB⟩
              case round =>
                clear HT HB
                obtain ⟨k, row2, rfl, HK, HA, HT, HB⟩ := hrel
                by_cases hk : k < a0.size + 1
                · have d4 : decide ((k : Int) < (a0.size : Int) + 1) = true := decide_eq_true (by omega)
                  obtain ⟨k3, rfl⟩ : ∃ k3, gk = k3 + 1 := ⟨gk - 1, by have := HK.out; omega⟩
                  have hsrc2 : (spec_rvCount.tab a0 a1 pl ++ [row2])[b]? = some (tabRd (spec_rvCount.tab a0 a1 pl) (b : Int)) := by
                    have := HSRC.out
                    rw [List.getElem?_append_left (by rw [spec_rvCount.tab_len]; exact hbp)] at this ⊢
                    exact this
                  have hrow2 : (spec_rvCount.tab a0 a1 pl ++ [row2])[pl]? = some row2 := by
                    rw [List.getElem?_append_right (by rw [spec_rvCount.tab_len]; exact Nat.le_refl _), spec_rvCount.tab_len]; simp
                  obtain ⟨hx, _⟩ := HT.out.at b _ hsrc2 k (by omega)
                  obtain ⟨hy, hyf⟩ := HT.out.at pl _ hrow2 (k + 1) (by omega)
                  rw [gp] at hy hyf
                  rw [show ((k + 1 : Nat) : Int) = (k : Int) + 1 by omega] at hy
                  have hset : ∀ v : Int, (spec_rvCount.tab a0 a1 pl ++ [row2]).set pl (row2.set (k + 1) v) = spec_rvCount.tab a0 a1 pl ++ [row2.set (k + 1) v] := fun v => by
                    rw [List.set_append, if_neg (by rw [spec_rvCount.tab_len]; omega), spec_rvCount.tab_len]; simp
                  have HPUT := Aside0.mk (fun (nd : Nat) (v : Int) => by
                    have h1 := (HT.out.drewN nd).put pl _ hrow2 (k + 1) v
                    rw [gp, hset v] at h1
                    exact h1)
                  have f1 : (0 : Int) ≤ (k : Int) := by omega
                  have f2 : (k : Int) < (a0.size : Int) + 1 := by omega
                  have f3 : k < a0.size + 1 := hk
                  have f4 : (k : Int) + 1 < (a0.size : Int) + 2 := by omega
                  have f5 : (0 : Int) ≤ (k : Int) + 1 := by omega
                  have f6 : ((k : Int) + 1).toNat = k + 1 := by omega
                  have hwk : wrap64 ((k : Int) + 1) = (k : Int) + 1 := by have := HC.out; unfold wrap64; omega
                  have hwk' : IntKind.i64.wrap ((k : Int) + 1) = (k : Int) + 1 := (i64_w _).trans hwk
                  have hws : IntKind.i64.wrap (rd row2 ((k : Int) + 1) + rd (tabRd (spec_rvCount.tab a0 a1 pl) (b : Int)) (k : Int)) = wrap64 (rd row2 ((k : Int) + 1) + rd (tabRd (spec_rvCount.tab a0 a1 pl) (b : Int)) (k : Int)) := i64_w _
                  obtain ⟨sum, hsum⟩ : ∃ sum, sum = wrap64 (rd row2 ((k : Int) + 1) + rd (tabRd (spec_rvCount.tab a0 a1 pl) (b : Int)) (k : Int)) := ⟨_, rfl⟩
                  rw [← hsum] at hws
                  have hsum' := hsum.symm
                  have HLS := Aside0.mk (spec_rvCount.least_some sum 1000000000000001)
                  have HADD := Aside0.mk (show spec_rvCount.addK row2 (tabRd (spec_rvCount.tab a0 a1 pl) (b : Int)) k = row2.set (k + 1) ((spec_l1Least.f sum 1000000000000001).getD 0) by unfold spec_rvCount.addK; rw [← hsum])
                  clear hsrc2 hrow2 hsum hset
                  go_wp2_with (go_at_call 51; (with_reducible refine (spec_l1Least.calls sum 1000000000000001 _ _ HLS.out).mono ?_); rintro e w' ⟨rfl, ⟨nd, rfl⟩⟩)
                  go_roundg k3
                  case measure => omega
                  case rel => exact ⟨k + 1, _, by first | rfl | (simp; done), ⟨spec_rvCount.nx1 HK.out hk⟩, ⟨by
                    rw [← HADD.out, ← HA.out, spec_rvCount.nx3 hk, spec_rvCount.addL_succ]⟩, ⟨HPUT.out nd _⟩, ⟨Below.setCell (p := ⟨wo.heap.size, k + 1, none⟩) (pw_below_drewN HB.out nd) HW0.out _⟩⟩
                · have d4 : decide ((k : Int) < (a0.size : Int) + 1) = false := decide_eq_false (by omega)
                  go_wp2
                  go_roundg k2
                  case measure => omega
                  case rel => exact ⟨b + 1, row2, by first | rfl | (simp; done), ⟨spec_rvCount.nx2 HB1.out hbp⟩, ⟨by
                    rw [← HE.out, spec_rvCount.nx3 hbp]
                    have h1 := HA.out
                    rw [show a0.size + 1 - k = 0 by omega, spec_rvCount.addL_zero] at h1
                    rw [spec_rvCount.befL_succ, ← h1]⟩, HT, HB⟩
            · have d3 : decide ((b : Int) < (pl : Int)) = false := decide_eq_false (by omega)
              go_wp2
              go_roundg k1
              case measure => omega
              case rel => exact ⟨pl + 1, g', by first | rfl | (simp; done), ⟨by have := HPL.out; omega⟩, ⟨by
                have h1 := HE.out
                rw [show pl - b = 0 by have := HB1.out; omega] at h1
                rw [spec_rvCount.befL_zero] at h1
                have h2 : spec_rvCount.rowAt a0 a1 (spec_rvCount.tab a0 a1 pl) pl = row := by unfold spec_rvCount.rowAt; rw [hst, if_pos rfl, ← h1]
                simp only [spec_rvCount.tab]
                rw [h2]
                exact HT.out⟩, HB⟩

      · have d2 : ((pl : Int) == 0) = false := beq_eq_false_iff_ne.2 (by omega)
        have hfirst : spec_rvCount.first (a0.size + 2) pl = List.replicate (a0.size + 2) 0 := by unfold spec_rvCount.first; rw [if_neg hp0]
        have HT := HT2
        have HB := HB2
        rw [← hfirst] at HT
        have HFI := Aside0.mk hfirst
        clear hfirst HT2 HB2 hrow0
        cases hst : spec_rvCount.st a0 pl with
        | false =>
          rw [hst] at HST
          go_wp2_with (go_at_call 39; (with_reducible refine (spec_rvStand.calls a0 (pl : Int) false _ HST.out).mono ?_); rintro e w' ⟨rfl, ⟨nd, rfl⟩⟩)
          go_roundg k1
          case measure => omega
          case rel => exact ⟨pl + 1, g', by first | rfl | (simp; done), ⟨by have := HPL.out; omega⟩, ⟨by
            have h1 := HT.out.drewN nd
            have h2 : spec_rvCount.rowAt a0 a1 (spec_rvCount.tab a0 a1 pl) pl = spec_rvCount.first (a0.size + 2) pl := by unfold spec_rvCount.rowAt; rw [hst]; rfl
            simp only [spec_rvCount.tab]
            rw [h2]
            exact h1⟩, ⟨pw_below_drewN HB.out nd⟩⟩
        | true =>
          rw [hst] at HST
          go_wp2_with (first | (go_at_call 39; (with_reducible refine (spec_rvStand.calls a0 (pl : Int) true _ HST.out).mono ?_); rintro e w' ⟨rfl, ⟨nd, rfl⟩⟩) | (go_at_call 57; (refine (spec_l1Most.calls 0 (wrap64 ((pl : Int) - a1)) _ _ HMO.out).mono ?_); rintro e w' ⟨rfl, ⟨nd2, rfl⟩⟩))
          clear d2
          replace HT := Aside0.mk (HT.out.drewN (nd + nd2))
          replace HB := Aside0.mk (pw_below_drewN HB.out (nd + nd2))
          rename World => wo
          go_loopg [9] (pl - spec_rvCount.lo a1 pl) (fun kq v9 w' => ∃ (b : Nat) (row : List Int), v9 = .int .i64 (b : Int) ∧ Aside0 (spec_rvCount.lo a1 pl ≤ b ∧ b ≤ pl ∧ pl ≤ kq + b) ∧ Aside0 (spec_rvCount.befL (a0.size + 1) (pl - b) b (spec_rvCount.tab a0 a1 pl) row = spec_rvCount.befL (a0.size + 1) (pl - spec_rvCount.lo a1 pl) (spec_rvCount.lo a1 pl) (spec_rvCount.tab a0 a1 pl) (spec_rvCount.first (a0.size + 2) pl)) ∧ Aside0 (Tab w' w.heap.size w.heap.size (a0.size + 2) (a0.size + 2) g' (spec_rvCount.tab a0 a1 pl ++ [row])) ∧ Aside0 (Below w.heap.size w w'))
          case atStart => exact ⟨spec_rvCount.lo a1 pl, spec_rvCount.first (a0.size + 2) pl, rfl, ⟨by have := HLO.out; omega⟩, ⟨rfl⟩, HT, HB⟩
          case round =>
            clear HT HB
            obtain ⟨b, row, rfl, HB1, HE, HT, HB⟩ := hrel
            by_cases hbp : b < pl
            · have d3 : decide ((b : Int) < (pl : Int)) = true := decide_eq_true (by omega)
              obtain ⟨k2, rfl⟩ : ∃ k2, gk = k2 + 1 := ⟨gk - 1, by have := HB1.out; omega⟩
              have hway := HT.out.ways b (by rw [List.length_append, spec_rvCount.tab_len]; simp; omega)
              have hsrc : (spec_rvCount.tab a0 a1 pl ++ [row])[b]? = some (tabRd (spec_rvCount.tab a0 a1 pl) (b : Int)) := by
                rw [List.getElem?_append_left (by rw [spec_rvCount.tab_len]; exact hbp)]
                have hb2 : b < (spec_rvCount.tab a0 a1 pl).length := by rw [spec_rvCount.tab_len]; exact hbp
                rw [List.getElem?_eq_getElem hb2]
                unfold tabRd
                rw [Int.toNat_natCast, List.getD_eq_getElem?_getD, List.getElem?_eq_getElem hb2]; rfl
              have HSRC := Aside0.mk hsrc
              have e1 : (0 : Int) ≤ (b : Int) := by omega
              have e2 : (b : Int) < (a0.size : Int) + 2 := by have := HPL.out; omega
              have e3 : b < a0.size + 2 := by have := HPL.out; omega
              have hwb : wrap64 ((b : Int) + 1) = (b : Int) + 1 := by have := HC.out; have := HPL.out; unfold wrap64; omega
              have hwb' : IntKind.i64.wrap ((b : Int) + 1) = (b : Int) + 1 := (i64_w _).trans hwb
              clear hsrc
              go_wp2
              rename World => wp
              go_loopg [57] (a0.size + 1) (fun kq v57 w' => ∃ (k : Nat) (row2 : List Int), v57 = .int .i64 (k : Int) ∧ Aside0 (k ≤ a0.size + 1 ∧ a0.size + 1 ≤ kq + k) ∧ Aside0 (spec_rvCount.addL (a0.size + 1 - k) k row2 (tabRd (spec_rvCount.tab a0 a1 pl) (b : Int)) = spec_rvCount.addL (a0.size + 1) 0 row (tabRd (spec_rvCount.tab a0 a1 pl) (b : Int))) ∧ Aside0 (Tab w' w.heap.size w.heap.size (a0.size + 2) (a0.size + 2) g' (spec_rvCount.tab a0 a1 pl ++ [row2])) ∧ Aside0 (Below w.heap.size w w'))
              case atStart => exact ⟨0, row, rfl, ⟨by omega⟩, ⟨rfl⟩, HT, HB⟩
              case round =>
                clear HT HB
                obtain ⟨k, row2, rfl, HK, HA, HT, HB⟩ := hrel
                by_cases hk : k < a0.size + 1
                · have d4 : decide ((k : Int) < (a0.size : Int) + 1) = true := decide_eq_true (by omega)
                  obtain ⟨k3, rfl⟩ : ∃ k3, gk = k3 + 1 := ⟨gk - 1, by have := HK.out; omega⟩
                  have hsrc2 : (spec_rvCount.tab a0 a1 pl ++ [row2])[b]? = some (tabRd (spec_rvCount.tab a0 a1 pl) (b : Int)) := by
                    have := HSRC.out
                    rw [List.getElem?_append_left (by rw [spec_rvCount.tab_len]; exact hbp)] at this ⊢
                    exact this
                  have hrow2 : (spec_rvCount.tab a0 a1 pl ++ [row2])[pl]? = some row2 := by
                    rw [List.getElem?_append_right (by rw [spec_rvCount.tab_len]; exact Nat.le_refl _), spec_rvCount.tab_len]; simp
                  obtain ⟨hx, _⟩ := HT.out.at b _ hsrc2 k (by omega)
                  obtain ⟨hy, hyf⟩ := HT.out.at pl _ hrow2 (k + 1) (by omega)
                  rw [gp] at hy hyf
                  rw [show ((k + 1 : Nat) : Int) = (k : Int) + 1 by omega] at hy
                  have hset : ∀ v : Int, (spec_rvCount.tab a0 a1 pl ++ [row2]).set pl (row2.set (k + 1) v) = spec_rvCount.tab a0 a1 pl ++ [row2.set (k + 1) v] := fun v => by
                    rw [List.set_append, if_neg (by rw [spec_rvCount.tab_len]; omega), spec_rvCount.tab_len]; simp
                  have HPUT := Aside0.mk (fun (nd : Nat) (v : Int) => by
                    have h1 := (HT.out.drewN nd).put pl _ hrow2 (k + 1) v
                    rw [gp, hset v] at h1
                    exact h1)
                  have f1 : (0 : Int) ≤ (k : Int) := by omega
                  have f2 : (k : Int) < (a0.size : Int) + 1 := by omega
                  have f3 : k < a0.size + 1 := hk
                  have f4 : (k : Int) + 1 < (a0.size : Int) + 2 := by omega
                  have f5 : (0 : Int) ≤ (k : Int) + 1 := by omega
                  have f6 : ((k : Int) + 1).toNat = k + 1 := by omega
                  have hwk : wrap64 ((k : Int) + 1) = (k : Int) + 1 := by have := HC.out; unfold wrap64; omega
                  have hwk' : IntKind.i64.wrap ((k : Int) + 1) = (k : Int) + 1 := (i64_w _).trans hwk
                  have hws : IntKind.i64.wrap (rd row2 ((k : Int) + 1) + rd (tabRd (spec_rvCount.tab a0 a1 pl) (b : Int)) (k : Int)) = wrap64 (rd row2 ((k : Int) + 1) + rd (tabRd (spec_rvCount.tab a0 a1 pl) (b : Int)) (k : Int)) := i64_w _
                  obtain ⟨sum, hsum⟩ : ∃ sum, sum = wrap64 (rd row2 ((k : Int) + 1) + rd (tabRd (spec_rvCount.tab a0 a1 pl) (b : Int)) (k : Int)) := ⟨_, rfl⟩
                  rw [← hsum] at hws
                  have hsum' := hsum.symm
                  have HLS := Aside0.mk (spec_rvCount.least_some sum 1000000000000001)
                  have HADD := Aside0.mk (show spec_rvCount.addK row2 (tabRd (spec_rvCount.tab a0 a1 pl) (b : Int)) k = row2.set (k + 1) ((spec_l1Least.f sum 1000000000000001).getD 0) by unfold spec_rvCount.addK; rw [← hsum])
                  clear hsrc2 hrow2 hsum hset
                  go_wp2_with (go_at_call 51; (with_reducible refine (spec_l1Least.calls sum 1000000000000001 _ _ HLS.out).mono ?_); rintro e w' ⟨rfl, ⟨nd, rfl⟩⟩)
                  go_roundg k3
                  case measure => omega
                  case rel => exact ⟨k + 1, _, by first | rfl | (simp; done), ⟨spec_rvCount.nx1 HK.out hk⟩, ⟨by
                    rw [← HADD.out, ← HA.out, spec_rvCount.nx3 hk, spec_rvCount.addL_succ]⟩, ⟨HPUT.out nd _⟩, ⟨Below.setCell (p := ⟨wo.heap.size, k + 1, none⟩) (pw_below_drewN HB.out nd) HW0.out _⟩⟩
                · have d4 : decide ((k : Int) < (a0.size : Int) + 1) = false := decide_eq_false (by omega)
                  go_wp2
                  go_roundg k2
                  case measure => omega
                  case rel => exact ⟨b + 1, row2, by first | rfl | (simp; done), ⟨spec_rvCount.nx2 HB1.out hbp⟩, ⟨by
                    rw [← HE.out, spec_rvCount.nx3 hbp]
                    have h1 := HA.out
                    rw [show a0.size + 1 - k = 0 by omega, spec_rvCount.addL_zero] at h1
                    rw [spec_rvCount.befL_succ, ← h1]⟩, HT, HB⟩
            · have d3 : decide ((b : Int) < (pl : Int)) = false := decide_eq_false (by omega)
              go_wp2
              go_roundg k1
              case measure => omega
              case rel => exact ⟨pl + 1, g', by first | rfl | (simp; done), ⟨by have := HPL.out; omega⟩, ⟨by
                have h1 := HE.out
                rw [show pl - b = 0 by have := HB1.out; omega] at h1
                rw [spec_rvCount.befL_zero] at h1
                have h2 : spec_rvCount.rowAt a0 a1 (spec_rvCount.tab a0 a1 pl) pl = row := by unfold spec_rvCount.rowAt; rw [hst, if_pos rfl, ← h1]
                simp only [spec_rvCount.tab]
                rw [h2]
                exact HT.out⟩, HB⟩

    · have d1 : decide ((pl : Int) < (a0.size : Int) + 2) = false := decide_eq_false (by omega)
      have hpe : pl = a0.size + 2 := by have := HPL.out; omega
      have hl : a0.size + 1 < (spec_rvCount.tab a0 a1 pl).length := by rw [spec_rvCount.tab_len]; omega
      have hway := HT0.out.ways (a0.size + 1) hl
      have HRW := Aside0.mk (HT0.out.row (by have := HC.out; omega) (a0.size + 1) _ (HT0.out.get (a0.size + 1) hl))
      have b1 : (0 : Int) ≤ (a0.size : Int) + 1 := by omega
      have b2 : (a0.size : Int) + 1 < (a0.size : Int) + 2 := by omega
      have b3 : ((a0.size : Int) + 1).toNat = a0.size + 1 := by omega
      have hr := HR.out
      have HPE := Aside0.mk hpe
      clear hl hpe
      go_wp2
      go_ret
      refine ⟨_, rfl, ?_, HB0.out⟩
      have h1 := HRW.out
      rw [HPE.out, show ((a0.size + 1 : Nat) : Int) = (a0.size : Int) + 1 by omega, hr] at h1
      exact h1

end Go.Proofs.YtlcgimeebhoefaaDoor.PFnExactCountCrossings
