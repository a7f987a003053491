-- Printed by this session's eprint.py over the kit's print (with this session's own texts for some functions)
import Derived.Test.YtkikpfeipejnlaaDoorPFnExactStuckPondsx0
namespace Go.Proofs.YtkikpfeipejnlaaDoor.PFnExactStuckPonds
open Go.RowKit Go.Proofs.YtkikpfeipejnlaaDoorW.PrintWords Go.Proofs.YtkikpfeipejnlaaDoorW.PrintLast Go.Proofs.YtkikpfeipejnlaaDoorW.PrintMore
attribute [local go_sem] max2_int min2_int max_two min_two max_three min_three max_four min_four   -- for this text's walks alone
set_option linter.unusedVariables false
set_option linter.unusedSimpArgs false

/-- The stone to which the frog on a stone can move, or -1. -/
def frogTo (s : ByteArray) (i : Int) : Int :=
  if (0 ≤ i ∧ i < (s.size : Int)) ∧ ¬ bt s i = 46 then
    (if (0 ≤ i + (if bt s i = 108 then -1 else 1) ∧ i + (if bt s i = 108 then -1 else 1) < (s.size : Int)) ∧ bt s (i + (if bt s i = 108 then -1 else 1)) = 46 then i + (if bt s i = 108 then -1 else 1)
    else if ((0 ≤ i + 2 * (if bt s i = 108 then -1 else 1) ∧ i + 2 * (if bt s i = 108 then -1 else 1) < (s.size : Int)) ∧ bt s (i + 2 * (if bt s i = 108 then -1 else 1)) = 46) ∧ ¬ bt s (i + (if bt s i = 108 then -1 else 1)) = bt s i then i + 2 * (if bt s i = 108 then -1 else 1)
    else -1)
  else -1

/-- Is every byte of the text below 128? -/
def asciiB (s : ByteArray) : Bool := (List.range s.size).all fun i => decide (bt s i < 128)
theorem asciiB_at {s : ByteArray} (h : asciiB s = true) (i : Nat) (hi : i < s.size) : (s[i]'hi).toNat < 128 := by
  have h1 := List.all_eq_true.mp h i (List.mem_range.2 hi)
  have h2 := of_decide_eq_true h1
  unfold bt at h2
  rw [dif_pos (by simpa using hi)] at h2
  have h3 : ((s[i]'hi).toNat : Int) < 128 := h2
  omega
/-- The world with the text's iterator one step on. -/
def World.adv (W : World) (g : Nat) (s : ByteArray) (p : Nat) : World := { W with heap := W.heap.setIfInBounds g (.stringIter s p) }
theorem iter_next {P : Program} (W : World) (g : Nat) (s : ByteArray) (pos : Nat) (hI : W.heap[g]? = some (.stringIter s pos)) (h : pos < s.size) (ha : (s[pos]'h).toNat < 128) :
    ∃ W2 : World, (∀ ty, (Instr.next (.pointer (some ⟨g, 0, none⟩)) true ty).run P W = .ok (.tuple #[.bool true, .int .i64 (pos : Int), .int .i32 (s[pos]'h).toNat]) W2) ∧ W2.heap[g]? = some (.stringIter s (pos + 1)) ∧ (∀ k, k ≠ g → W2.heap[k]? = W.heap[k]?) ∧ W2.heap.size = W.heap.size ∧ W2.os = W.os ∧ W2.tape = W.tape ∧ W2.output = W.output := by
  have hg : g < W.heap.size := (Array.getElem?_eq_some_iff.1 hI).1
  refine ⟨World.adv W g s (pos + 1), fun ty => ?_, ?_, fun k hk => ?_, ?_, rfl, rfl, rfl⟩
  · simp only [Instr.next, getObj, setObj, Sem.run_bind, Sem.run, hI, Result.andThen, h, if_true, Go.decode_ascii s pos h ha]
    simp [goInt, Sem.run, World.adv, hI]
  · simp [World.adv, Array.getElem?_setIfInBounds, hg]
  · simp [World.adv, Array.getElem?_setIfInBounds, Ne.symm hk]
  · simp [World.adv]
theorem iter_end {P : Program} (W : World) (g : Nat) (s : ByteArray) (pos : Nat) (ty : TypeId) (hI : W.heap[g]? = some (.stringIter s pos)) (h : ¬ pos < s.size) :
    (Instr.next (.pointer (some ⟨g, 0, none⟩)) true ty).run P W = .ok (.tuple #[.bool false]) W := by
  simp [Instr.next, getObj, Sem.run, hI, h]

--USES helper_frog helper_iter
/-- The sign on stone i behind the move. -/
def movedAt (s : ByteArray) (from_ tgt : Int) (i : Nat) : UInt8 := if (i : Int) = from_ then 46 else if (i : Int) = tgt then s.data.toList.getD from_.toNat 0 else s.data.toList.getD i 0
/-- The pond behind the move of the frog on a stone. -/
def movedB (s : ByteArray) (from_ : Int) : ByteArray := ⟨((List.range s.size).map (movedAt s from_ (frogTo s from_))).toArray⟩

/-! ### spec_l1In: function 56 -/
def spec_l1In.f (a0 : Int) (a1 : Int) (a2 : Int) : Option (Bool) := if a0 ≥ a1 then (some (decide (a0 ≤ a2))) else (some false)
set_option maxHeartbeats 8000000 in
set_option maxRecDepth 100000 in
theorem spec_l1In.calls (a0 : Int) (a1 : Int) (a2 : Int) (r : Bool) (w : World) (h : spec_l1In.f a0 a1 a2 = some r) :
    Calls Tryd.prog 56 #[.int .i64 a0, .int .i64 a1, .int .i64 a2] w fun e w' => e = .returned (.bool r) ∧ Drawn0 w w' := by
  have H : (if a0 ≥ a1 then (some (decide (a0 ≤ a2))) else (some false)) = some r := h
  clear h
  by_cases c4 : a0 ≥ a1
  · rw [if_pos c4] at H
    have c4b0 : decide (a1 ≤ a0) = true := decide_eq_true c4
    clear c4
    obtain rfl := Option.some.inj H
    go_enter Tryd.func56, Tryd.ntmps56
    go_wp2
    go_ret
    exact ⟨by first | rfl | (simp; done) | (simp [*]; done), by repeat (first | exact Drawn0.refl _ | apply Drawn0.step)⟩
  · rw [if_neg c4] at H
    have c4b0 : decide (a1 ≤ a0) = false := decide_eq_false c4
    clear c4
    obtain rfl := Option.some.inj H
    go_enter Tryd.func56, Tryd.ntmps56
    go_wp2
    go_ret
    exact ⟨by first | rfl | (simp; done) | (simp [*]; done), by repeat (first | exact Drawn0.refl _ | apply Drawn0.step)⟩

/-! ### spec_fgGood: function 33 -/
def spec_fgGood.l0 : Nat → ByteArray → Int → Option (Bool)
  | 0, _, _ => none
  | k + 1, x0, x3 => if x3 < (x0.size : Int) then (if 0 ≤ x3 then (if (bt x0 x3) = 114 then (spec_fgGood.l0 k x0 (wrap64 (x3 + 1))) else (if (bt x0 x3) = 108 then (spec_fgGood.l0 k x0 (wrap64 (x3 + 1))) else (if (bt x0 x3) = 46 then (spec_fgGood.l0 k x0 (wrap64 (x3 + 1))) else (some false)))) else (none)) else (some true)
def spec_fgGood.f (k : Nat) (a0 : ByteArray) : Option (Bool) := (spec_l1In.f (a0.size : Int) 1 9).bind fun t101 => (if t101 = true then (spec_fgGood.l0 k a0 0) else (some false))
theorem spec_fgGood.mono_l : ∀ k, (∀ y0 y1, LeO (spec_fgGood.l0 k y0 y1) (spec_fgGood.l0 (k + 1) y0 y1))
  | 0 => fun _ _ r h => by simp [spec_fgGood.l0] at h
  | k + 1 => by
    have ih0 := spec_fgGood.mono_l k
    · intro y0 y1
      unfold spec_fgGood.l0
      repeat' first
      | (with_reducible exact ih0 _ _)
      | (with_reducible exact LeO.refl _)
      | (with_reducible exact LeO.none _)
      | (with_reducible refine LeO.ite ?_ ?_)
      | (with_reducible refine LeO.bind ?_ (fun _ => ?_))
      | exact ih0 _ _
      | exact LeO.none _
      | refine LeO.ite ?_ ?_
      | refine LeO.bind ?_ (fun _ => ?_)
theorem spec_fgGood.mono : ∀ a0 k, LeO (spec_fgGood.f k a0) (spec_fgGood.f (k + 1) a0) := by
  intro a0 k
  have ih0 := spec_fgGood.mono_l k
  unfold spec_fgGood.f
  repeat' first
      | (with_reducible exact ih0 _ _)
      | (with_reducible exact LeO.refl _)
      | (with_reducible exact LeO.none _)
      | (with_reducible refine LeO.ite ?_ ?_)
      | (with_reducible refine LeO.bind ?_ (fun _ => ?_))
      | exact ih0 _ _
      | exact LeO.none _
      | refine LeO.ite ?_ ?_
      | refine LeO.bind ?_ (fun _ => ?_)
set_option maxHeartbeats 8000000 in
set_option maxRecDepth 100000 in
theorem spec_fgGood.calls (k : Nat) (a0 : ByteArray) (r : Bool) (w : World) (h : spec_fgGood.f k a0 = some r) :
    Calls Tryd.prog 33 #[.string a0] w fun e w' => e = .returned (.bool r) ∧ Drawn0 w w' := by
  have H : ((spec_l1In.f (a0.size : Int) 1 9).bind fun t101 => (if t101 = true then (spec_fgGood.l0 k a0 0) else (some false))) = some r := h
  clear h
  replace H := Option.bind_eq_some_iff.mp H
  obtain ⟨t101, A20, H⟩ := H
  replace H : (if t101 = true then (spec_fgGood.l0 k a0 0) else (some false)) = some r := H
  have A2 := Aside0.mk A20
  clear A20
  by_cases c3 : t101 = true
  · subst c3
    have H1 : (spec_fgGood.l0 k a0 0) = some r := by rw [if_pos rfl] at H; exact H
    clear H
    have H := H1
    clear H1
    have H' := Aside0.mk H
    clear H
    go_enter Tryd.func33, Tryd.ntmps33
    go_wp2_with (first | ((with_reducible refine gate_callee (f := 56) rfl ?_); refine goesL_ (some 6) rfl rfl Tryd.func56 (by kernel_rfl) rfl #[.int .i64 (a0.size : Int), .int .i64 1, .int .i64 9] rfl (by (try simp only [List.map_toArray, List.map_cons, List.map_nil]); first | done | rfl | (simp only [List.length_drop, List.length_take]; rfl)) ?_; (with_reducible refine (spec_l1In.calls (a0.size : Int) 1 9 true _ A2.out).mono ?_); rintro e w' ⟨rfl, ⟨nd, rfl⟩⟩; refine ⟨_, rfl, ?_⟩))
    go_loopg [3] k (fun kq v3 w' => ∃ (x3_1 : Int), v3 = .int .i64 x3_1 ∧ Aside0 (spec_fgGood.l0 kq a0 x3_1 = some r) ∧ Aside0 (kq ≤ k) ∧ Drawn0 w w')
    case atStart => exact ⟨(0), (by first | rfl | (simp; done) | (simp [*]; done)), H', ⟨Nat.le_refl _⟩, by repeat (first | exact Drawn0.refl _ | apply Drawn0.step)⟩
    case round =>
      clear H'
      try clear p2
      try clear c3
      obtain ⟨x3_1, rfl, HA, HK1, ⟨m1, rfl⟩⟩ := hrel
      cases gk with
      | zero => exact absurd HA.out (by simp [spec_fgGood.l0])
      | succ k1 =>
        have H := HA.out
        clear HA
        simp only [spec_fgGood.l0] at H
        by_cases c4 : x3_1 < (a0.size : Int)
        · rw [if_pos c4] at H
          have c4b0 : decide (x3_1 < (a0.size : Int)) = true := decide_eq_true c4
          clear c4
          by_cases c5 : 0 ≤ x3_1
          · rw [if_pos c5] at H
            have c5b0 : decide (0 ≤ x3_1) = true := decide_eq_true c5
            clear c5
            by_cases c7 : (bt a0 x3_1) = 114
            · rw [if_pos c7] at H
              have c7b0 : ((bt a0 x3_1) == 114) = true := beq_iff_eq.mpr c7
              have c7b1 : ((bt a0 x3_1) != 114) = false := bne_eq_false_iff_eq.mpr c7
              clear c7
              have H' := Aside0.mk H
              clear H
              have p6 : 0 ≤ (x3_1 : Int) := of_decide_eq_true (by first | (with_reducible assumption) | assumption)
              have q6 : x3_1 < (a0.size : Int) := of_decide_eq_true (by first | (with_reducible assumption) | assumption)
              have hx6 := bt_at a0 x3_1
              replace p6 := eq_true p6
              replace q6 := eq_true q6
              go_wp2
              go_roundg k1
              case measure => have := HK1.out; omega
              case rel => exact ⟨(wrap64 (x3_1 + 1)), (by first | rfl | (simp; done) | (simp [*]; done)), H', ⟨by have := HK1.out; omega⟩, by repeat (first | exact Drawn0.refl _ | apply Drawn0.step)⟩
            · rw [if_neg c7] at H
              have c7b0 : ((bt a0 x3_1) == 114) = false := beq_eq_false_iff_ne.mpr c7
              have c7b1 : ((bt a0 x3_1) != 114) = true := bne_iff_ne.mpr c7
              by_cases c9 : (bt a0 x3_1) = 108
              · rw [if_pos c9] at H
                have c9b0 : ((bt a0 x3_1) == 108) = true := beq_iff_eq.mpr c9
                have c9b1 : ((bt a0 x3_1) != 108) = false := bne_eq_false_iff_eq.mpr c9
                clear c9
                have H' := Aside0.mk H
                clear H
                have p6 : 0 ≤ (x3_1 : Int) := of_decide_eq_true (by first | (with_reducible assumption) | assumption)
                have q6 : x3_1 < (a0.size : Int) := of_decide_eq_true (by first | (with_reducible assumption) | assumption)
                have hx6 := bt_at a0 x3_1
                replace p6 := eq_true p6
                replace q6 := eq_true q6
                have p8 : 0 ≤ (x3_1 : Int) := of_decide_eq_true (by first | (with_reducible assumption) | assumption)
                have q8 : x3_1 < (a0.size : Int) := of_decide_eq_true (by first | (with_reducible assumption) | assumption)
                have hx8 := bt_at a0 x3_1
                replace p8 := eq_true p8
                replace q8 := eq_true q8
                go_wp2
                go_roundg k1
                case measure => have := HK1.out; omega
                case rel => exact ⟨(wrap64 (x3_1 + 1)), (by first | rfl | (simp; done) | (simp [*]; done)), H', ⟨by have := HK1.out; omega⟩, by repeat (first | exact Drawn0.refl _ | apply Drawn0.step)⟩
              · rw [if_neg c9] at H
                have c9b0 : ((bt a0 x3_1) == 108) = false := beq_eq_false_iff_ne.mpr c9
                have c9b1 : ((bt a0 x3_1) != 108) = true := bne_iff_ne.mpr c9
                by_cases c11 : (bt a0 x3_1) = 46
                · rw [if_pos c11] at H
                  have c11b0 : ((bt a0 x3_1) == 46) = true := beq_iff_eq.mpr c11
                  have c11b1 : ((bt a0 x3_1) != 46) = false := bne_eq_false_iff_eq.mpr c11
                  clear c11
                  have H' := Aside0.mk H
                  clear H
                  have p6 : 0 ≤ (x3_1 : Int) := of_decide_eq_true (by first | (with_reducible assumption) | assumption)
                  have q6 : x3_1 < (a0.size : Int) := of_decide_eq_true (by first | (with_reducible assumption) | assumption)
                  have hx6 := bt_at a0 x3_1
                  replace p6 := eq_true p6
                  replace q6 := eq_true q6
                  have p8 : 0 ≤ (x3_1 : Int) := of_decide_eq_true (by first | (with_reducible assumption) | assumption)
                  have q8 : x3_1 < (a0.size : Int) := of_decide_eq_true (by first | (with_reducible assumption) | assumption)
                  have hx8 := bt_at a0 x3_1
                  replace p8 := eq_true p8
                  replace q8 := eq_true q8
                  have p10 : 0 ≤ (x3_1 : Int) := of_decide_eq_true (by first | (with_reducible assumption) | assumption)
                  have q10 : x3_1 < (a0.size : Int) := of_decide_eq_true (by first | (with_reducible assumption) | assumption)
                  have hx10 := bt_at a0 x3_1
                  replace p10 := eq_true p10
                  replace q10 := eq_true q10
                  go_wp2
                  go_roundg k1
                  case measure => have := HK1.out; omega
                  case rel => exact ⟨(wrap64 (x3_1 + 1)), (by first | rfl | (simp; done) | (simp [*]; done)), H', ⟨by have := HK1.out; omega⟩, by repeat (first | exact Drawn0.refl _ | apply Drawn0.step)⟩
                · rw [if_neg c11] at H
                  have c11b0 : ((bt a0 x3_1) == 46) = false := beq_eq_false_iff_ne.mpr c11
                  have c11b1 : ((bt a0 x3_1) != 46) = true := bne_iff_ne.mpr c11
                  obtain rfl := Option.some.inj H
                  have p6 : 0 ≤ (x3_1 : Int) := of_decide_eq_true (by first | (with_reducible assumption) | assumption)
                  have q6 : x3_1 < (a0.size : Int) := of_decide_eq_true (by first | (with_reducible assumption) | assumption)
                  have hx6 := bt_at a0 x3_1
                  replace p6 := eq_true p6
                  replace q6 := eq_true q6
                  have p8 : 0 ≤ (x3_1 : Int) := of_decide_eq_true (by first | (with_reducible assumption) | assumption)
                  have q8 : x3_1 < (a0.size : Int) := of_decide_eq_true (by first | (with_reducible assumption) | assumption)
                  have hx8 := bt_at a0 x3_1
                  replace p8 := eq_true p8
                  replace q8 := eq_true q8
                  have p10 : 0 ≤ (x3_1 : Int) := of_decide_eq_true (by first | (with_reducible assumption) | assumption)
                  have q10 : x3_1 < (a0.size : Int) := of_decide_eq_true (by first | (with_reducible assumption) | assumption)
                  have hx10 := bt_at a0 x3_1
                  replace p10 := eq_true p10
                  replace q10 := eq_true q10
                  go_wp2
                  go_ret
                  exact ⟨by first | rfl | (simp; done) | (simp [*]; done), by repeat (first | exact Drawn0.refl _ | apply Drawn0.step)⟩
          · rw [if_neg c5] at H
            exact absurd H (by simp)
        · rw [if_neg c4] at H
          have c4b0 : decide (x3_1 < (a0.size : Int)) = false := decide_eq_false c4
          clear c4
          obtain rfl := Option.some.inj H
          go_wp2
          go_ret
          exact ⟨by first | rfl | (simp; done) | (simp [*]; done), by repeat (first | exact Drawn0.refl _ | apply Drawn0.step)⟩
  · replace c3 := Bool.eq_false_iff.mpr c3
    subst c3
    have H1 : (some false) = some r := by rw [if_neg (show ¬ (false = true) by decide)] at H; exact H
    clear H
    have H := H1
    clear H1
    obtain rfl := Option.some.inj H
    go_enter Tryd.func33, Tryd.ntmps33
    go_wp2_with (first | ((with_reducible refine gate_callee (f := 56) rfl ?_); refine goesL_ (some 6) rfl rfl Tryd.func56 (by kernel_rfl) rfl #[.int .i64 (a0.size : Int), .int .i64 1, .int .i64 9] rfl (by (try simp only [List.map_toArray, List.map_cons, List.map_nil]); first | done | rfl | (simp only [List.length_drop, List.length_take]; rfl)) ?_; (with_reducible refine (spec_l1In.calls (a0.size : Int) 1 9 false _ A2.out).mono ?_); rintro e w' ⟨rfl, ⟨nd, rfl⟩⟩; refine ⟨_, rfl, ?_⟩))
    go_ret
    exact ⟨by first | rfl | (simp; done) | (simp [*]; done), by repeat (first | exact Drawn0.refl _ | apply Drawn0.step)⟩

/-! ### spec_fgTo: function 58 -/
--USES helper_frog
set_option maxHeartbeats 8000000 in
set_option maxRecDepth 100000 in
theorem spec_fgTo.wout (s : ByteArray) (i j1 j2 m : Int) (w : World) (hm : wrap64 ((s.size : Int) - 1) = m) (A0 : spec_l1In.f i 0 m = some false) :
    Calls Tryd.prog 58 #[.string s, .int .i64 i] w fun e w' => e = .returned (.int .i64 (-1)) ∧ Drawn0 w w' := by
  have hmw : IntKind.i64.wrap ((s.size : Int) - 1) = m := (i64_w _).trans hm
  have B0 := Aside0.mk A0
  clear A0
  go_enter Tryd.func58, Tryd.ntmps58
  go_wp2_with (first | (go_at_call 56; (with_reducible refine (spec_l1In.calls i 0 m false _ B0.out).mono ?_); rintro e w' ⟨rfl, ⟨nd, rfl⟩⟩; (try first | exact ⟨rfl, _, World.drewN_drewN _ _ _⟩ | exact ⟨rfl, _, Eq.trans (World.drewN_drewN _ _ _) (congrArg (World.drewN _) (Nat.add_assoc _ _ _))⟩)))
  repeat (go_quiet (first | (go_at_call 56; (with_reducible refine (spec_l1In.calls i 0 m false _ B0.out).mono ?_); rintro e w' ⟨rfl, ⟨nd, rfl⟩⟩; (try first | exact ⟨rfl, _, World.drewN_drewN _ _ _⟩ | exact ⟨rfl, _, Eq.trans (World.drewN_drewN _ _ _) (congrArg (World.drewN _) (Nat.add_assoc _ _ _))⟩))); try go_wp2_with (first | (go_at_call 56; (with_reducible refine (spec_l1In.calls i 0 m false _ B0.out).mono ?_); rintro e w' ⟨rfl, ⟨nd, rfl⟩⟩; (try first | exact ⟨rfl, _, World.drewN_drewN _ _ _⟩ | exact ⟨rfl, _, Eq.trans (World.drewN_drewN _ _ _) (congrArg (World.drewN _) (Nat.add_assoc _ _ _))⟩))))
  go_ret
  exact ⟨by first | rfl | (simp; done) | (simp [*]; done), by repeat (first | exact Drawn0.refl _ | apply Drawn0.step)⟩
set_option maxHeartbeats 8000000 in
set_option maxRecDepth 100000 in
theorem spec_fgTo.wdot (s : ByteArray) (i j1 j2 m : Int) (w : World) (hm : wrap64 ((s.size : Int) - 1) = m) (A0 : spec_l1In.f i 0 m = some true) (p0 : 0 ≤ i) (q0 : i < (s.size : Int)) (e46 : (bt s i == 46) = true) :
    Calls Tryd.prog 58 #[.string s, .int .i64 i] w fun e w' => e = .returned (.int .i64 (-1)) ∧ Drawn0 w w' := by
  have hmw : IntKind.i64.wrap ((s.size : Int) - 1) = m := (i64_w _).trans hm
  have B0 := Aside0.mk A0
  clear A0
  have x0 := bt_at s i
  replace p0 := eq_true p0
  replace q0 := eq_true q0
  have n46 : (bt s i != 46) = false := by unfold bne; rw [e46]; rfl
  go_enter Tryd.func58, Tryd.ntmps58
  go_wp2_with (first | (go_at_call 56; (with_reducible refine (spec_l1In.calls i 0 m true _ B0.out).mono ?_); rintro e w' ⟨rfl, ⟨nd, rfl⟩⟩; (try first | exact ⟨rfl, _, World.drewN_drewN _ _ _⟩ | exact ⟨rfl, _, Eq.trans (World.drewN_drewN _ _ _) (congrArg (World.drewN _) (Nat.add_assoc _ _ _))⟩)))
  repeat (go_quiet (first | (go_at_call 56; (with_reducible refine (spec_l1In.calls i 0 m true _ B0.out).mono ?_); rintro e w' ⟨rfl, ⟨nd, rfl⟩⟩; (try first | exact ⟨rfl, _, World.drewN_drewN _ _ _⟩ | exact ⟨rfl, _, Eq.trans (World.drewN_drewN _ _ _) (congrArg (World.drewN _) (Nat.add_assoc _ _ _))⟩))); try go_wp2_with (first | (go_at_call 56; (with_reducible refine (spec_l1In.calls i 0 m true _ B0.out).mono ?_); rintro e w' ⟨rfl, ⟨nd, rfl⟩⟩; (try first | exact ⟨rfl, _, World.drewN_drewN _ _ _⟩ | exact ⟨rfl, _, Eq.trans (World.drewN_drewN _ _ _) (congrArg (World.drewN _) (Nat.add_assoc _ _ _))⟩))))
  go_ret
  exact ⟨by first | rfl | (simp; done) | (simp [*]; done), by repeat (first | exact Drawn0.refl _ | apply Drawn0.step)⟩
set_option maxHeartbeats 8000000 in
set_option maxRecDepth 100000 in
theorem spec_fgTo.wr1 (s : ByteArray) (i j1 j2 m : Int) (w : World) (hm : wrap64 ((s.size : Int) - 1) = m) (A0 : spec_l1In.f i 0 m = some true) (p0 : 0 ≤ i) (q0 : i < (s.size : Int)) (e46 : (bt s i == 46) = false) (e108 : (bt s i == 108) = false) (h0 : wrap64 (i + 1) = j1) (h1 : wrap64 (i + 2) = j2) (A1 : spec_l1In.f j1 0 m = some true) (p1 : 0 ≤ j1) (q1 : j1 < (s.size : Int)) (ea : (bt s j1 == 46) = true) :
    Calls Tryd.prog 58 #[.string s, .int .i64 i] w fun e w' => e = .returned (.int .i64 j1) ∧ Drawn0 w w' := by
  have hmw : IntKind.i64.wrap ((s.size : Int) - 1) = m := (i64_w _).trans hm
  have B0 := Aside0.mk A0
  clear A0
  have x0 := bt_at s i
  replace p0 := eq_true p0
  replace q0 := eq_true q0
  have n46 : (bt s i != 46) = true := by unfold bne; rw [e46]; rfl
  have n108 : (bt s i != 108) = true := by unfold bne; rw [e108]; rfl
  have h0w : IntKind.i64.wrap (i + 1) = j1 := (i64_w _).trans h0
  have h1w : IntKind.i64.wrap (i + 2) = j2 := (i64_w _).trans h1
  have B1 := Aside0.mk A1
  clear A1
  have x1 := bt_at s j1
  replace p1 := eq_true p1
  replace q1 := eq_true q1
  have na : (bt s j1 != 46) = false := by unfold bne; rw [ea]; rfl
  go_enter Tryd.func58, Tryd.ntmps58
  go_wp2_with (first | (go_at_call 56; (with_reducible refine (spec_l1In.calls i 0 m true _ B0.out).mono ?_); rintro e w' ⟨rfl, ⟨nd, rfl⟩⟩; (try first | exact ⟨rfl, _, World.drewN_drewN _ _ _⟩ | exact ⟨rfl, _, Eq.trans (World.drewN_drewN _ _ _) (congrArg (World.drewN _) (Nat.add_assoc _ _ _))⟩)) | (go_at_call 56; (with_reducible refine (spec_l1In.calls j1 0 m true _ B1.out).mono ?_); rintro e w' ⟨rfl, ⟨nd, rfl⟩⟩; (try first | exact ⟨rfl, _, World.drewN_drewN _ _ _⟩ | exact ⟨rfl, _, Eq.trans (World.drewN_drewN _ _ _) (congrArg (World.drewN _) (Nat.add_assoc _ _ _))⟩)))
  repeat (go_quiet (first | (go_at_call 56; (with_reducible refine (spec_l1In.calls i 0 m true _ B0.out).mono ?_); rintro e w' ⟨rfl, ⟨nd, rfl⟩⟩; (try first | exact ⟨rfl, _, World.drewN_drewN _ _ _⟩ | exact ⟨rfl, _, Eq.trans (World.drewN_drewN _ _ _) (congrArg (World.drewN _) (Nat.add_assoc _ _ _))⟩)) | (go_at_call 56; (with_reducible refine (spec_l1In.calls j1 0 m true _ B1.out).mono ?_); rintro e w' ⟨rfl, ⟨nd, rfl⟩⟩; (try first | exact ⟨rfl, _, World.drewN_drewN _ _ _⟩ | exact ⟨rfl, _, Eq.trans (World.drewN_drewN _ _ _) (congrArg (World.drewN _) (Nat.add_assoc _ _ _))⟩))); try go_wp2_with (first | (go_at_call 56; (with_reducible refine (spec_l1In.calls i 0 m true _ B0.out).mono ?_); rintro e w' ⟨rfl, ⟨nd, rfl⟩⟩; (try first | exact ⟨rfl, _, World.drewN_drewN _ _ _⟩ | exact ⟨rfl, _, Eq.trans (World.drewN_drewN _ _ _) (congrArg (World.drewN _) (Nat.add_assoc _ _ _))⟩)) | (go_at_call 56; (with_reducible refine (spec_l1In.calls j1 0 m true _ B1.out).mono ?_); rintro e w' ⟨rfl, ⟨nd, rfl⟩⟩; (try first | exact ⟨rfl, _, World.drewN_drewN _ _ _⟩ | exact ⟨rfl, _, Eq.trans (World.drewN_drewN _ _ _) (congrArg (World.drewN _) (Nat.add_assoc _ _ _))⟩))))
  go_ret
  exact ⟨by first | rfl | (simp; done) | (simp [*]; done), by repeat (first | exact Drawn0.refl _ | apply Drawn0.step)⟩
set_option maxHeartbeats 8000000 in
set_option maxRecDepth 100000 in
theorem spec_fgTo.wr1000 (s : ByteArray) (i j1 j2 m : Int) (w : World) (hm : wrap64 ((s.size : Int) - 1) = m) (A0 : spec_l1In.f i 0 m = some true) (p0 : 0 ≤ i) (q0 : i < (s.size : Int)) (e46 : (bt s i == 46) = false) (e108 : (bt s i == 108) = false) (h0 : wrap64 (i + 1) = j1) (h1 : wrap64 (i + 2) = j2) (A1 : spec_l1In.f j1 0 m = some true) (p1 : 0 ≤ j1) (q1 : j1 < (s.size : Int)) (ea : (bt s j1 == 46) = false) (A2 : spec_l1In.f j2 0 m = some false) :
    Calls Tryd.prog 58 #[.string s, .int .i64 i] w fun e w' => e = .returned (.int .i64 (-1)) ∧ Drawn0 w w' := by
  have hmw : IntKind.i64.wrap ((s.size : Int) - 1) = m := (i64_w _).trans hm
  have B0 := Aside0.mk A0
  clear A0
  have x0 := bt_at s i
  replace p0 := eq_true p0
  replace q0 := eq_true q0
  have n46 : (bt s i != 46) = true := by unfold bne; rw [e46]; rfl
  have n108 : (bt s i != 108) = true := by unfold bne; rw [e108]; rfl
  have h0w : IntKind.i64.wrap (i + 1) = j1 := (i64_w _).trans h0
  have h1w : IntKind.i64.wrap (i + 2) = j2 := (i64_w _).trans h1
  have B1 := Aside0.mk A1
  clear A1
  have x1 := bt_at s j1
  replace p1 := eq_true p1
  replace q1 := eq_true q1
  have na : (bt s j1 != 46) = true := by unfold bne; rw [ea]; rfl
  have B2 := Aside0.mk A2
  clear A2
  go_enter Tryd.func58, Tryd.ntmps58
  go_wp2_with (first | (go_at_call 56; (with_reducible refine (spec_l1In.calls i 0 m true _ B0.out).mono ?_); rintro e w' ⟨rfl, ⟨nd, rfl⟩⟩; (try first | exact ⟨rfl, _, World.drewN_drewN _ _ _⟩ | exact ⟨rfl, _, Eq.trans (World.drewN_drewN _ _ _) (congrArg (World.drewN _) (Nat.add_assoc _ _ _))⟩)) | (go_at_call 56; (with_reducible refine (spec_l1In.calls j1 0 m true _ B1.out).mono ?_); rintro e w' ⟨rfl, ⟨nd, rfl⟩⟩; (try first | exact ⟨rfl, _, World.drewN_drewN _ _ _⟩ | exact ⟨rfl, _, Eq.trans (World.drewN_drewN _ _ _) (congrArg (World.drewN _) (Nat.add_assoc _ _ _))⟩)) | (go_at_call 56; (with_reducible refine (spec_l1In.calls j2 0 m false _ B2.out).mono ?_); rintro e w' ⟨rfl, ⟨nd, rfl⟩⟩; (try first | exact ⟨rfl, _, World.drewN_drewN _ _ _⟩ | exact ⟨rfl, _, Eq.trans (World.drewN_drewN _ _ _) (congrArg (World.drewN _) (Nat.add_assoc _ _ _))⟩)))
  repeat (go_quiet (first | (go_at_call 56; (with_reducible refine (spec_l1In.calls i 0 m true _ B0.out).mono ?_); rintro e w' ⟨rfl, ⟨nd, rfl⟩⟩; (try first | exact ⟨rfl, _, World.drewN_drewN _ _ _⟩ | exact ⟨rfl, _, Eq.trans (World.drewN_drewN _ _ _) (congrArg (World.drewN _) (Nat.add_assoc _ _ _))⟩)) | (go_at_call 56; (with_reducible refine (spec_l1In.calls j1 0 m true _ B1.out).mono ?_); rintro e w' ⟨rfl, ⟨nd, rfl⟩⟩; (try first | exact ⟨rfl, _, World.drewN_drewN _ _ _⟩ | exact ⟨rfl, _, Eq.trans (World.drewN_drewN _ _ _) (congrArg (World.drewN _) (Nat.add_assoc _ _ _))⟩)) | (go_at_call 56; (with_reducible refine (spec_l1In.calls j2 0 m false _ B2.out).mono ?_); rintro e w' ⟨rfl, ⟨nd, rfl⟩⟩; (try first | exact ⟨rfl, _, World.drewN_drewN _ _ _⟩ | exact ⟨rfl, _, Eq.trans (World.drewN_drewN _ _ _) (congrArg (World.drewN _) (Nat.add_assoc _ _ _))⟩))); try go_wp2_with (first | (go_at_call 56; (with_reducible refine (spec_l1In.calls i 0 m true _ B0.out).mono ?_); rintro e w' ⟨rfl, ⟨nd, rfl⟩⟩; (try first | exact ⟨rfl, _, World.drewN_drewN _ _ _⟩ | exact ⟨rfl, _, Eq.trans (World.drewN_drewN _ _ _) (congrArg (World.drewN _) (Nat.add_assoc _ _ _))⟩)) | (go_at_call 56; (with_reducible refine (spec_l1In.calls j1 0 m true _ B1.out).mono ?_); rintro e w' ⟨rfl, ⟨nd, rfl⟩⟩; (try first | exact ⟨rfl, _, World.drewN_drewN _ _ _⟩ | exact ⟨rfl, _, Eq.trans (World.drewN_drewN _ _ _) (congrArg (World.drewN _) (Nat.add_assoc _ _ _))⟩)) | (go_at_call 56; (with_reducible refine (spec_l1In.calls j2 0 m false _ B2.out).mono ?_); rintro e w' ⟨rfl, ⟨nd, rfl⟩⟩; (try first | exact ⟨rfl, _, World.drewN_drewN _ _ _⟩ | exact ⟨rfl, _, Eq.trans (World.drewN_drewN _ _ _) (congrArg (World.drewN _) (Nat.add_assoc _ _ _))⟩))))
  go_ret
  exact ⟨by first | rfl | (simp; done) | (simp [*]; done), by repeat (first | exact Drawn0.refl _ | apply Drawn0.step)⟩
set_option maxHeartbeats 8000000 in
set_option maxRecDepth 100000 in
theorem spec_fgTo.wr1100 (s : ByteArray) (i j1 j2 m : Int) (w : World) (hm : wrap64 ((s.size : Int) - 1) = m) (A0 : spec_l1In.f i 0 m = some true) (p0 : 0 ≤ i) (q0 : i < (s.size : Int)) (e46 : (bt s i == 46) = false) (e108 : (bt s i == 108) = false) (h0 : wrap64 (i + 1) = j1) (h1 : wrap64 (i + 2) = j2) (A1 : spec_l1In.f j1 0 m = some true) (p1 : 0 ≤ j1) (q1 : j1 < (s.size : Int)) (ea : (bt s j1 == 46) = false) (A2 : spec_l1In.f j2 0 m = some true) (p2 : 0 ≤ j2) (q2 : j2 < (s.size : Int)) (eb : (bt s j2 == 46) = false) :
    Calls Tryd.prog 58 #[.string s, .int .i64 i] w fun e w' => e = .returned (.int .i64 (-1)) ∧ Drawn0 w w' := by
  have hmw : IntKind.i64.wrap ((s.size : Int) - 1) = m := (i64_w _).trans hm
  have B0 := Aside0.mk A0
  clear A0
  have x0 := bt_at s i
  replace p0 := eq_true p0
  replace q0 := eq_true q0
  have n46 : (bt s i != 46) = true := by unfold bne; rw [e46]; rfl
  have n108 : (bt s i != 108) = true := by unfold bne; rw [e108]; rfl
  have h0w : IntKind.i64.wrap (i + 1) = j1 := (i64_w _).trans h0
  have h1w : IntKind.i64.wrap (i + 2) = j2 := (i64_w _).trans h1
  have B1 := Aside0.mk A1
  clear A1
  have x1 := bt_at s j1
  replace p1 := eq_true p1
  replace q1 := eq_true q1
  have na : (bt s j1 != 46) = true := by unfold bne; rw [ea]; rfl
  have B2 := Aside0.mk A2
  clear A2
  have x2 := bt_at s j2
  replace p2 := eq_true p2
  replace q2 := eq_true q2
  have nb : (bt s j2 != 46) = true := by unfold bne; rw [eb]; rfl
  go_enter Tryd.func58, Tryd.ntmps58
  go_wp2_with (first | (go_at_call 56; (with_reducible refine (spec_l1In.calls i 0 m true _ B0.out).mono ?_); rintro e w' ⟨rfl, ⟨nd, rfl⟩⟩; (try first | exact ⟨rfl, _, World.drewN_drewN _ _ _⟩ | exact ⟨rfl, _, Eq.trans (World.drewN_drewN _ _ _) (congrArg (World.drewN _) (Nat.add_assoc _ _ _))⟩)) | (go_at_call 56; (with_reducible refine (spec_l1In.calls j1 0 m true _ B1.out).mono ?_); rintro e w' ⟨rfl, ⟨nd, rfl⟩⟩; (try first | exact ⟨rfl, _, World.drewN_drewN _ _ _⟩ | exact ⟨rfl, _, Eq.trans (World.drewN_drewN _ _ _) (congrArg (World.drewN _) (Nat.add_assoc _ _ _))⟩)) | (go_at_call 56; (with_reducible refine (spec_l1In.calls j2 0 m true _ B2.out).mono ?_); rintro e w' ⟨rfl, ⟨nd, rfl⟩⟩; (try first | exact ⟨rfl, _, World.drewN_drewN _ _ _⟩ | exact ⟨rfl, _, Eq.trans (World.drewN_drewN _ _ _) (congrArg (World.drewN _) (Nat.add_assoc _ _ _))⟩)))
  repeat (go_quiet (first | (go_at_call 56; (with_reducible refine (spec_l1In.calls i 0 m true _ B0.out).mono ?_); rintro e w' ⟨rfl, ⟨nd, rfl⟩⟩; (try first | exact ⟨rfl, _, World.drewN_drewN _ _ _⟩ | exact ⟨rfl, _, Eq.trans (World.drewN_drewN _ _ _) (congrArg (World.drewN _) (Nat.add_assoc _ _ _))⟩)) | (go_at_call 56; (with_reducible refine (spec_l1In.calls j1 0 m true _ B1.out).mono ?_); rintro e w' ⟨rfl, ⟨nd, rfl⟩⟩; (try first | exact ⟨rfl, _, World.drewN_drewN _ _ _⟩ | exact ⟨rfl, _, Eq.trans (World.drewN_drewN _ _ _) (congrArg (World.drewN _) (Nat.add_assoc _ _ _))⟩)) | (go_at_call 56; (with_reducible refine (spec_l1In.calls j2 0 m true _ B2.out).mono ?_); rintro e w' ⟨rfl, ⟨nd, rfl⟩⟩; (try first | exact ⟨rfl, _, World.drewN_drewN _ _ _⟩ | exact ⟨rfl, _, Eq.trans (World.drewN_drewN _ _ _) (congrArg (World.drewN _) (Nat.add_assoc _ _ _))⟩))); try go_wp2_with (first | (go_at_call 56; (with_reducible refine (spec_l1In.calls i 0 m true _ B0.out).mono ?_); rintro e w' ⟨rfl, ⟨nd, rfl⟩⟩; (try first | exact ⟨rfl, _, World.drewN_drewN _ _ _⟩ | exact ⟨rfl, _, Eq.trans (World.drewN_drewN _ _ _) (congrArg (World.drewN _) (Nat.add_assoc _ _ _))⟩)) | (go_at_call 56; (with_reducible refine (spec_l1In.calls j1 0 m true _ B1.out).mono ?_); rintro e w' ⟨rfl, ⟨nd, rfl⟩⟩; (try first | exact ⟨rfl, _, World.drewN_drewN _ _ _⟩ | exact ⟨rfl, _, Eq.trans (World.drewN_drewN _ _ _) (congrArg (World.drewN _) (Nat.add_assoc _ _ _))⟩)) | (go_at_call 56; (with_reducible refine (spec_l1In.calls j2 0 m true _ B2.out).mono ?_); rintro e w' ⟨rfl, ⟨nd, rfl⟩⟩; (try first | exact ⟨rfl, _, World.drewN_drewN _ _ _⟩ | exact ⟨rfl, _, Eq.trans (World.drewN_drewN _ _ _) (congrArg (World.drewN _) (Nat.add_assoc _ _ _))⟩))))
  go_ret
  exact ⟨by first | rfl | (simp; done) | (simp [*]; done), by repeat (first | exact Drawn0.refl _ | apply Drawn0.step)⟩
set_option maxHeartbeats 8000000 in
set_option maxRecDepth 100000 in
theorem spec_fgTo.wr1110 (s : ByteArray) (i j1 j2 m : Int) (w : World) (hm : wrap64 ((s.size : Int) - 1) = m) (A0 : spec_l1In.f i 0 m = some true) (p0 : 0 ≤ i) (q0 : i < (s.size : Int)) (e46 : (bt s i == 46) = false) (e108 : (bt s i == 108) = false) (h0 : wrap64 (i + 1) = j1) (h1 : wrap64 (i + 2) = j2) (A1 : spec_l1In.f j1 0 m = some true) (p1 : 0 ≤ j1) (q1 : j1 < (s.size : Int)) (ea : (bt s j1 == 46) = false) (A2 : spec_l1In.f j2 0 m = some true) (p2 : 0 ≤ j2) (q2 : j2 < (s.size : Int)) (eb : (bt s j2 == 46) = true) (ec : (bt s j1 == bt s i) = true) :
    Calls Tryd.prog 58 #[.string s, .int .i64 i] w fun e w' => e = .returned (.int .i64 (-1)) ∧ Drawn0 w w' := by
  have hmw : IntKind.i64.wrap ((s.size : Int) - 1) = m := (i64_w _).trans hm
  have B0 := Aside0.mk A0
  clear A0
  have x0 := bt_at s i
  replace p0 := eq_true p0
  replace q0 := eq_true q0
  have n46 : (bt s i != 46) = true := by unfold bne; rw [e46]; rfl
  have n108 : (bt s i != 108) = true := by unfold bne; rw [e108]; rfl
  have h0w : IntKind.i64.wrap (i + 1) = j1 := (i64_w _).trans h0
  have h1w : IntKind.i64.wrap (i + 2) = j2 := (i64_w _).trans h1
  have B1 := Aside0.mk A1
  clear A1
  have x1 := bt_at s j1
  replace p1 := eq_true p1
  replace q1 := eq_true q1
  have na : (bt s j1 != 46) = true := by unfold bne; rw [ea]; rfl
  have B2 := Aside0.mk A2
  clear A2
  have x2 := bt_at s j2
  replace p2 := eq_true p2
  replace q2 := eq_true q2
  have nb : (bt s j2 != 46) = false := by unfold bne; rw [eb]; rfl
  have nc : (bt s j1 != bt s i) = false := by unfold bne; rw [ec]; rfl
  go_enter Tryd.func58, Tryd.ntmps58
  go_wp2_with (first | (go_at_call 56; (with_reducible refine (spec_l1In.calls i 0 m true _ B0.out).mono ?_); rintro e w' ⟨rfl, ⟨nd, rfl⟩⟩; (try first | exact ⟨rfl, _, World.drewN_drewN _ _ _⟩ | exact ⟨rfl, _, Eq.trans (World.drewN_drewN _ _ _) (congrArg (World.drewN _) (Nat.add_assoc _ _ _))⟩)) | (go_at_call 56; (with_reducible refine (spec_l1In.calls j1 0 m true _ B1.out).mono ?_); rintro e w' ⟨rfl, ⟨nd, rfl⟩⟩; (try first | exact ⟨rfl, _, World.drewN_drewN _ _ _⟩ | exact ⟨rfl, _, Eq.trans (World.drewN_drewN _ _ _) (congrArg (World.drewN _) (Nat.add_assoc _ _ _))⟩)) | (go_at_call 56; (with_reducible refine (spec_l1In.calls j2 0 m true _ B2.out).mono ?_); rintro e w' ⟨rfl, ⟨nd, rfl⟩⟩; (try first | exact ⟨rfl, _, World.drewN_drewN _ _ _⟩ | exact ⟨rfl, _, Eq.trans (World.drewN_drewN _ _ _) (congrArg (World.drewN _) (Nat.add_assoc _ _ _))⟩)))
  repeat (go_quiet (first | (go_at_call 56; (with_reducible refine (spec_l1In.calls i 0 m true _ B0.out).mono ?_); rintro e w' ⟨rfl, ⟨nd, rfl⟩⟩; (try first | exact ⟨rfl, _, World.drewN_drewN _ _ _⟩ | exact ⟨rfl, _, Eq.trans (World.drewN_drewN _ _ _) (congrArg (World.drewN _) (Nat.add_assoc _ _ _))⟩)) | (go_at_call 56; (with_reducible refine (spec_l1In.calls j1 0 m true _ B1.out).mono ?_); rintro e w' ⟨rfl, ⟨nd, rfl⟩⟩; (try first | exact ⟨rfl, _, World.drewN_drewN _ _ _⟩ | exact ⟨rfl, _, Eq.trans (World.drewN_drewN _ _ _) (congrArg (World.drewN _) (Nat.add_assoc _ _ _))⟩)) | (go_at_call 56; (with_reducible refine (spec_l1In.calls j2 0 m true _ B2.out).mono ?_); rintro e w' ⟨rfl, ⟨nd, rfl⟩⟩; (try first | exact ⟨rfl, _, World.drewN_drewN _ _ _⟩ | exact ⟨rfl, _, Eq.trans (World.drewN_drewN _ _ _) (congrArg (World.drewN _) (Nat.add_assoc _ _ _))⟩))); try go_wp2_with (first | (go_at_call 56; (with_reducible refine (spec_l1In.calls i 0 m true _ B0.out).mono ?_); rintro e w' ⟨rfl, ⟨nd, rfl⟩⟩; (try first | exact ⟨rfl, _, World.drewN_drewN _ _ _⟩ | exact ⟨rfl, _, Eq.trans (World.drewN_drewN _ _ _) (congrArg (World.drewN _) (Nat.add_assoc _ _ _))⟩)) | (go_at_call 56; (with_reducible refine (spec_l1In.calls j1 0 m true _ B1.out).mono ?_); rintro e w' ⟨rfl, ⟨nd, rfl⟩⟩; (try first | exact ⟨rfl, _, World.drewN_drewN _ _ _⟩ | exact ⟨rfl, _, Eq.trans (World.drewN_drewN _ _ _) (congrArg (World.drewN _) (Nat.add_assoc _ _ _))⟩)) | (go_at_call 56; (with_reducible refine (spec_l1In.calls j2 0 m true _ B2.out).mono ?_); rintro e w' ⟨rfl, ⟨nd, rfl⟩⟩; (try first | exact ⟨rfl, _, World.drewN_drewN _ _ _⟩ | exact ⟨rfl, _, Eq.trans (World.drewN_drewN _ _ _) (congrArg (World.drewN _) (Nat.add_assoc _ _ _))⟩))))
  go_ret
  exact ⟨by first | rfl | (simp; done) | (simp [*]; done), by repeat (first | exact Drawn0.refl _ | apply Drawn0.step)⟩
set_option maxHeartbeats 8000000 in
set_option maxRecDepth 100000 in
theorem spec_fgTo.wr1111 (s : ByteArray) (i j1 j2 m : Int) (w : World) (hm : wrap64 ((s.size : Int) - 1) = m) (A0 : spec_l1In.f i 0 m = some true) (p0 : 0 ≤ i) (q0 : i < (s.size : Int)) (e46 : (bt s i == 46) = false) (e108 : (bt s i == 108) = false) (h0 : wrap64 (i + 1) = j1) (h1 : wrap64 (i + 2) = j2) (A1 : spec_l1In.f j1 0 m = some true) (p1 : 0 ≤ j1) (q1 : j1 < (s.size : Int)) (ea : (bt s j1 == 46) = false) (A2 : spec_l1In.f j2 0 m = some true) (p2 : 0 ≤ j2) (q2 : j2 < (s.size : Int)) (eb : (bt s j2 == 46) = true) (ec : (bt s j1 == bt s i) = false) :
    Calls Tryd.prog 58 #[.string s, .int .i64 i] w fun e w' => e = .returned (.int .i64 j2) ∧ Drawn0 w w' := by
  have hmw : IntKind.i64.wrap ((s.size : Int) - 1) = m := (i64_w _).trans hm
  have B0 := Aside0.mk A0
  clear A0
  have x0 := bt_at s i
  replace p0 := eq_true p0
  replace q0 := eq_true q0
  have n46 : (bt s i != 46) = true := by unfold bne; rw [e46]; rfl
  have n108 : (bt s i != 108) = true := by unfold bne; rw [e108]; rfl
  have h0w : IntKind.i64.wrap (i + 1) = j1 := (i64_w _).trans h0
  have h1w : IntKind.i64.wrap (i + 2) = j2 := (i64_w _).trans h1
  have B1 := Aside0.mk A1
  clear A1
  have x1 := bt_at s j1
  replace p1 := eq_true p1
  replace q1 := eq_true q1
  have na : (bt s j1 != 46) = true := by unfold bne; rw [ea]; rfl
  have B2 := Aside0.mk A2
  clear A2
  have x2 := bt_at s j2
  replace p2 := eq_true p2
  replace q2 := eq_true q2
  have nb : (bt s j2 != 46) = false := by unfold bne; rw [eb]; rfl
  have nc : (bt s j1 != bt s i) = true := by unfold bne; rw [ec]; rfl
  go_enter Tryd.func58, Tryd.ntmps58
  go_wp2_with (first | (go_at_call 56; (with_reducible refine (spec_l1In.calls i 0 m true _ B0.out).mono ?_); rintro e w' ⟨rfl, ⟨nd, rfl⟩⟩; (try first | exact ⟨rfl, _, World.drewN_drewN _ _ _⟩ | exact ⟨rfl, _, Eq.trans (World.drewN_drewN _ _ _) (congrArg (World.drewN _) (Nat.add_assoc _ _ _))⟩)) | (go_at_call 56; (with_reducible refine (spec_l1In.calls j1 0 m true _ B1.out).mono ?_); rintro e w' ⟨rfl, ⟨nd, rfl⟩⟩; (try first | exact ⟨rfl, _, World.drewN_drewN _ _ _⟩ | exact ⟨rfl, _, Eq.trans (World.drewN_drewN _ _ _) (congrArg (World.drewN _) (Nat.add_assoc _ _ _))⟩)) | (go_at_call 56; (with_reducible refine (spec_l1In.calls j2 0 m true _ B2.out).mono ?_); rintro e w' ⟨rfl, ⟨nd, rfl⟩⟩; (try first | exact ⟨rfl, _, World.drewN_drewN _ _ _⟩ | exact ⟨rfl, _, Eq.trans (World.drewN_drewN _ _ _) (congrArg (World.drewN _) (Nat.add_assoc _ _ _))⟩)))
  repeat (go_quiet (first | (go_at_call 56; (with_reducible refine (spec_l1In.calls i 0 m true _ B0.out).mono ?_); rintro e w' ⟨rfl, ⟨nd, rfl⟩⟩; (try first | exact ⟨rfl, _, World.drewN_drewN _ _ _⟩ | exact ⟨rfl, _, Eq.trans (World.drewN_drewN _ _ _) (congrArg (World.drewN _) (Nat.add_assoc _ _ _))⟩)) | (go_at_call 56; (with_reducible refine (spec_l1In.calls j1 0 m true _ B1.out).mono ?_); rintro e w' ⟨rfl, ⟨nd, rfl⟩⟩; (try first | exact ⟨rfl, _, World.drewN_drewN _ _ _⟩ | exact ⟨rfl, _, Eq.trans (World.drewN_drewN _ _ _) (congrArg (World.drewN _) (Nat.add_assoc _ _ _))⟩)) | (go_at_call 56; (with_reducible refine (spec_l1In.calls j2 0 m true _ B2.out).mono ?_); rintro e w' ⟨rfl, ⟨nd, rfl⟩⟩; (try first | exact ⟨rfl, _, World.drewN_drewN _ _ _⟩ | exact ⟨rfl, _, Eq.trans (World.drewN_drewN _ _ _) (congrArg (World.drewN _) (Nat.add_assoc _ _ _))⟩))); try go_wp2_with (first | (go_at_call 56; (with_reducible refine (spec_l1In.calls i 0 m true _ B0.out).mono ?_); rintro e w' ⟨rfl, ⟨nd, rfl⟩⟩; (try first | exact ⟨rfl, _, World.drewN_drewN _ _ _⟩ | exact ⟨rfl, _, Eq.trans (World.drewN_drewN _ _ _) (congrArg (World.drewN _) (Nat.add_assoc _ _ _))⟩)) | (go_at_call 56; (with_reducible refine (spec_l1In.calls j1 0 m true _ B1.out).mono ?_); rintro e w' ⟨rfl, ⟨nd, rfl⟩⟩; (try first | exact ⟨rfl, _, World.drewN_drewN _ _ _⟩ | exact ⟨rfl, _, Eq.trans (World.drewN_drewN _ _ _) (congrArg (World.drewN _) (Nat.add_assoc _ _ _))⟩)) | (go_at_call 56; (with_reducible refine (spec_l1In.calls j2 0 m true _ B2.out).mono ?_); rintro e w' ⟨rfl, ⟨nd, rfl⟩⟩; (try first | exact ⟨rfl, _, World.drewN_drewN _ _ _⟩ | exact ⟨rfl, _, Eq.trans (World.drewN_drewN _ _ _) (congrArg (World.drewN _) (Nat.add_assoc _ _ _))⟩))))
  go_ret
  exact ⟨by first | rfl | (simp; done) | (simp [*]; done), by repeat (first | exact Drawn0.refl _ | apply Drawn0.step)⟩
set_option maxHeartbeats 8000000 in
set_option maxRecDepth 100000 in
theorem spec_fgTo.wr0000 (s : ByteArray) (i j1 j2 m : Int) (w : World) (hm : wrap64 ((s.size : Int) - 1) = m) (A0 : spec_l1In.f i 0 m = some true) (p0 : 0 ≤ i) (q0 : i < (s.size : Int)) (e46 : (bt s i == 46) = false) (e108 : (bt s i == 108) = false) (h0 : wrap64 (i + 1) = j1) (h1 : wrap64 (i + 2) = j2) (A1 : spec_l1In.f j1 0 m = some false) (A2 : spec_l1In.f j2 0 m = some false) :
    Calls Tryd.prog 58 #[.string s, .int .i64 i] w fun e w' => e = .returned (.int .i64 (-1)) ∧ Drawn0 w w' := by
  have hmw : IntKind.i64.wrap ((s.size : Int) - 1) = m := (i64_w _).trans hm
  have B0 := Aside0.mk A0
  clear A0
  have x0 := bt_at s i
  replace p0 := eq_true p0
  replace q0 := eq_true q0
  have n46 : (bt s i != 46) = true := by unfold bne; rw [e46]; rfl
  have n108 : (bt s i != 108) = true := by unfold bne; rw [e108]; rfl
  have h0w : IntKind.i64.wrap (i + 1) = j1 := (i64_w _).trans h0
  have h1w : IntKind.i64.wrap (i + 2) = j2 := (i64_w _).trans h1
  have B1 := Aside0.mk A1
  clear A1
  have B2 := Aside0.mk A2
  clear A2
  go_enter Tryd.func58, Tryd.ntmps58
  go_wp2_with (first | (go_at_call 56; (with_reducible refine (spec_l1In.calls i 0 m true _ B0.out).mono ?_); rintro e w' ⟨rfl, ⟨nd, rfl⟩⟩; (try first | exact ⟨rfl, _, World.drewN_drewN _ _ _⟩ | exact ⟨rfl, _, Eq.trans (World.drewN_drewN _ _ _) (congrArg (World.drewN _) (Nat.add_assoc _ _ _))⟩)) | (go_at_call 56; (with_reducible refine (spec_l1In.calls j1 0 m false _ B1.out).mono ?_); rintro e w' ⟨rfl, ⟨nd, rfl⟩⟩; (try first | exact ⟨rfl, _, World.drewN_drewN _ _ _⟩ | exact ⟨rfl, _, Eq.trans (World.drewN_drewN _ _ _) (congrArg (World.drewN _) (Nat.add_assoc _ _ _))⟩)) | (go_at_call 56; (with_reducible refine (spec_l1In.calls j2 0 m false _ B2.out).mono ?_); rintro e w' ⟨rfl, ⟨nd, rfl⟩⟩; (try first | exact ⟨rfl, _, World.drewN_drewN _ _ _⟩ | exact ⟨rfl, _, Eq.trans (World.drewN_drewN _ _ _) (congrArg (World.drewN _) (Nat.add_assoc _ _ _))⟩)))
  repeat (go_quiet (first | (go_at_call 56; (with_reducible refine (spec_l1In.calls i 0 m true _ B0.out).mono ?_); rintro e w' ⟨rfl, ⟨nd, rfl⟩⟩; (try first | exact ⟨rfl, _, World.drewN_drewN _ _ _⟩ | exact ⟨rfl, _, Eq.trans (World.drewN_drewN _ _ _) (congrArg (World.drewN _) (Nat.add_assoc _ _ _))⟩)) | (go_at_call 56; (with_reducible refine (spec_l1In.calls j1 0 m false _ B1.out).mono ?_); rintro e w' ⟨rfl, ⟨nd, rfl⟩⟩; (try first | exact ⟨rfl, _, World.drewN_drewN _ _ _⟩ | exact ⟨rfl, _, Eq.trans (World.drewN_drewN _ _ _) (congrArg (World.drewN _) (Nat.add_assoc _ _ _))⟩)) | (go_at_call 56; (with_reducible refine (spec_l1In.calls j2 0 m false _ B2.out).mono ?_); rintro e w' ⟨rfl, ⟨nd, rfl⟩⟩; (try first | exact ⟨rfl, _, World.drewN_drewN _ _ _⟩ | exact ⟨rfl, _, Eq.trans (World.drewN_drewN _ _ _) (congrArg (World.drewN _) (Nat.add_assoc _ _ _))⟩))); try go_wp2_with (first | (go_at_call 56; (with_reducible refine (spec_l1In.calls i 0 m true _ B0.out).mono ?_); rintro e w' ⟨rfl, ⟨nd, rfl⟩⟩; (try first | exact ⟨rfl, _, World.drewN_drewN _ _ _⟩ | exact ⟨rfl, _, Eq.trans (World.drewN_drewN _ _ _) (congrArg (World.drewN _) (Nat.add_assoc _ _ _))⟩)) | (go_at_call 56; (with_reducible refine (spec_l1In.calls j1 0 m false _ B1.out).mono ?_); rintro e w' ⟨rfl, ⟨nd, rfl⟩⟩; (try first | exact ⟨rfl, _, World.drewN_drewN _ _ _⟩ | exact ⟨rfl, _, Eq.trans (World.drewN_drewN _ _ _) (congrArg (World.drewN _) (Nat.add_assoc _ _ _))⟩)) | (go_at_call 56; (with_reducible refine (spec_l1In.calls j2 0 m false _ B2.out).mono ?_); rintro e w' ⟨rfl, ⟨nd, rfl⟩⟩; (try first | exact ⟨rfl, _, World.drewN_drewN _ _ _⟩ | exact ⟨rfl, _, Eq.trans (World.drewN_drewN _ _ _) (congrArg (World.drewN _) (Nat.add_assoc _ _ _))⟩))))
  go_ret
  exact ⟨by first | rfl | (simp; done) | (simp [*]; done), by repeat (first | exact Drawn0.refl _ | apply Drawn0.step)⟩
set_option maxHeartbeats 8000000 in
set_option maxRecDepth 100000 in
theorem spec_fgTo.wl1 (s : ByteArray) (i j1 j2 m : Int) (w : World) (hm : wrap64 ((s.size : Int) - 1) = m) (A0 : spec_l1In.f i 0 m = some true) (p0 : 0 ≤ i) (q0 : i < (s.size : Int)) (e46 : (bt s i == 46) = false) (e108 : (bt s i == 108) = true) (h0 : wrap64 (i + -1) = j1) (h1 : wrap64 (i + -2) = j2) (h2 : wrap64 (i - 1) = j1) (h3 : wrap64 (i - 2) = j2) (A1 : spec_l1In.f j1 0 m = some true) (p1 : 0 ≤ j1) (q1 : j1 < (s.size : Int)) (ea : (bt s j1 == 46) = true) :
    Calls Tryd.prog 58 #[.string s, .int .i64 i] w fun e w' => e = .returned (.int .i64 j1) ∧ Drawn0 w w' := by
  have hmw : IntKind.i64.wrap ((s.size : Int) - 1) = m := (i64_w _).trans hm
  have B0 := Aside0.mk A0
  clear A0
  have x0 := bt_at s i
  replace p0 := eq_true p0
  replace q0 := eq_true q0
  have n46 : (bt s i != 46) = true := by unfold bne; rw [e46]; rfl
  have n108 : (bt s i != 108) = false := by unfold bne; rw [e108]; rfl
  have h0w : IntKind.i64.wrap (i + -1) = j1 := (i64_w _).trans h0
  have h1w : IntKind.i64.wrap (i + -2) = j2 := (i64_w _).trans h1
  have h2w : IntKind.i64.wrap (i - 1) = j1 := (i64_w _).trans h2
  have h3w : IntKind.i64.wrap (i - 2) = j2 := (i64_w _).trans h3
  have B1 := Aside0.mk A1
  clear A1
  have x1 := bt_at s j1
  replace p1 := eq_true p1
  replace q1 := eq_true q1
  have na : (bt s j1 != 46) = false := by unfold bne; rw [ea]; rfl
  go_enter Tryd.func58, Tryd.ntmps58
  go_wp2_with (first | (go_at_call 56; (with_reducible refine (spec_l1In.calls i 0 m true _ B0.out).mono ?_); rintro e w' ⟨rfl, ⟨nd, rfl⟩⟩; (try first | exact ⟨rfl, _, World.drewN_drewN _ _ _⟩ | exact ⟨rfl, _, Eq.trans (World.drewN_drewN _ _ _) (congrArg (World.drewN _) (Nat.add_assoc _ _ _))⟩)) | (go_at_call 56; (with_reducible refine (spec_l1In.calls j1 0 m true _ B1.out).mono ?_); rintro e w' ⟨rfl, ⟨nd, rfl⟩⟩; (try first | exact ⟨rfl, _, World.drewN_drewN _ _ _⟩ | exact ⟨rfl, _, Eq.trans (World.drewN_drewN _ _ _) (congrArg (World.drewN _) (Nat.add_assoc _ _ _))⟩)))
  repeat (go_quiet (first | (go_at_call 56; (with_reducible refine (spec_l1In.calls i 0 m true _ B0.out).mono ?_); rintro e w' ⟨rfl, ⟨nd, rfl⟩⟩; (try first | exact ⟨rfl, _, World.drewN_drewN _ _ _⟩ | exact ⟨rfl, _, Eq.trans (World.drewN_drewN _ _ _) (congrArg (World.drewN _) (Nat.add_assoc _ _ _))⟩)) | (go_at_call 56; (with_reducible refine (spec_l1In.calls j1 0 m true _ B1.out).mono ?_); rintro e w' ⟨rfl, ⟨nd, rfl⟩⟩; (try first | exact ⟨rfl, _, World.drewN_drewN _ _ _⟩ | exact ⟨rfl, _, Eq.trans (World.drewN_drewN _ _ _) (congrArg (World.drewN _) (Nat.add_assoc _ _ _))⟩))); try go_wp2_with (first | (go_at_call 56; (with_reducible refine (spec_l1In.calls i 0 m true _ B0.out).mono ?_); rintro e w' ⟨rfl, ⟨nd, rfl⟩⟩; (try first | exact ⟨rfl, _, World.drewN_drewN _ _ _⟩ | exact ⟨rfl, _, Eq.trans (World.drewN_drewN _ _ _) (congrArg (World.drewN _) (Nat.add_assoc _ _ _))⟩)) | (go_at_call 56; (with_reducible refine (spec_l1In.calls j1 0 m true _ B1.out).mono ?_); rintro e w' ⟨rfl, ⟨nd, rfl⟩⟩; (try first | exact ⟨rfl, _, World.drewN_drewN _ _ _⟩ | exact ⟨rfl, _, Eq.trans (World.drewN_drewN _ _ _) (congrArg (World.drewN _) (Nat.add_assoc _ _ _))⟩))))
  go_ret
  exact ⟨by first | rfl | (simp; done) | (simp [*]; done), by repeat (first | exact Drawn0.refl _ | apply Drawn0.step)⟩
set_option maxHeartbeats 8000000 in
set_option maxRecDepth 100000 in
theorem spec_fgTo.wl1000 (s : ByteArray) (i j1 j2 m : Int) (w : World) (hm : wrap64 ((s.size : Int) - 1) = m) (A0 : spec_l1In.f i 0 m = some true) (p0 : 0 ≤ i) (q0 : i < (s.size : Int)) (e46 : (bt s i == 46) = false) (e108 : (bt s i == 108) = true) (h0 : wrap64 (i + -1) = j1) (h1 : wrap64 (i + -2) = j2) (h2 : wrap64 (i - 1) = j1) (h3 : wrap64 (i - 2) = j2) (A1 : spec_l1In.f j1 0 m = some true) (p1 : 0 ≤ j1) (q1 : j1 < (s.size : Int)) (ea : (bt s j1 == 46) = false) (A2 : spec_l1In.f j2 0 m = some false) :
    Calls Tryd.prog 58 #[.string s, .int .i64 i] w fun e w' => e = .returned (.int .i64 (-1)) ∧ Drawn0 w w' := by
  have hmw : IntKind.i64.wrap ((s.size : Int) - 1) = m := (i64_w _).trans hm
  have B0 := Aside0.mk A0
  clear A0
  have x0 := bt_at s i
  replace p0 := eq_true p0
  replace q0 := eq_true q0
  have n46 : (bt s i != 46) = true := by unfold bne; rw [e46]; rfl
  have n108 : (bt s i != 108) = false := by unfold bne; rw [e108]; rfl
  have h0w : IntKind.i64.wrap (i + -1) = j1 := (i64_w _).trans h0
  have h1w : IntKind.i64.wrap (i + -2) = j2 := (i64_w _).trans h1
  have h2w : IntKind.i64.wrap (i - 1) = j1 := (i64_w _).trans h2
  have h3w : IntKind.i64.wrap (i - 2) = j2 := (i64_w _).trans h3
  have B1 := Aside0.mk A1
  clear A1
  have x1 := bt_at s j1
  replace p1 := eq_true p1
  replace q1 := eq_true q1
  have na : (bt s j1 != 46) = true := by unfold bne; rw [ea]; rfl
  have B2 := Aside0.mk A2
  clear A2
  go_enter Tryd.func58, Tryd.ntmps58
  go_wp2_with (first | (go_at_call 56; (with_reducible refine (spec_l1In.calls i 0 m true _ B0.out).mono ?_); rintro e w' ⟨rfl, ⟨nd, rfl⟩⟩; (try first | exact ⟨rfl, _, World.drewN_drewN _ _ _⟩ | exact ⟨rfl, _, Eq.trans (World.drewN_drewN _ _ _) (congrArg (World.drewN _) (Nat.add_assoc _ _ _))⟩)) | (go_at_call 56; (with_reducible refine (spec_l1In.calls j1 0 m true _ B1.out).mono ?_); rintro e w' ⟨rfl, ⟨nd, rfl⟩⟩; (try first | exact ⟨rfl, _, World.drewN_drewN _ _ _⟩ | exact ⟨rfl, _, Eq.trans (World.drewN_drewN _ _ _) (congrArg (World.drewN _) (Nat.add_assoc _ _ _))⟩)) | (go_at_call 56; (with_reducible refine (spec_l1In.calls j2 0 m false _ B2.out).mono ?_); rintro e w' ⟨rfl, ⟨nd, rfl⟩⟩; (try first | exact ⟨rfl, _, World.drewN_drewN _ _ _⟩ | exact ⟨rfl, _, Eq.trans (World.drewN_drewN _ _ _) (congrArg (World.drewN _) (Nat.add_assoc _ _ _))⟩)))
  repeat (go_quiet (first | (go_at_call 56; (with_reducible refine (spec_l1In.calls i 0 m true _ B0.out).mono ?_); rintro e w' ⟨rfl, ⟨nd, rfl⟩⟩; (try first | exact ⟨rfl, _, World.drewN_drewN _ _ _⟩ | exact ⟨rfl, _, Eq.trans (World.drewN_drewN _ _ _) (congrArg (World.drewN _) (Nat.add_assoc _ _ _))⟩)) | (go_at_call 56; (with_reducible refine (spec_l1In.calls j1 0 m true _ B1.out).mono ?_); rintro e w' ⟨rfl, ⟨nd, rfl⟩⟩; (try first | exact ⟨rfl, _, World.drewN_drewN _ _ _⟩ | exact ⟨rfl, _, Eq.trans (World.drewN_drewN _ _ _) (congrArg (World.drewN _) (Nat.add_assoc _ _ _))⟩)) | (go_at_call 56; (with_reducible refine (spec_l1In.calls j2 0 m false _ B2.out).mono ?_); rintro e w' ⟨rfl, ⟨nd, rfl⟩⟩; (try first | exact ⟨rfl, _, World.drewN_drewN _ _ _⟩ | exact ⟨rfl, _, Eq.trans (World.drewN_drewN _ _ _) (congrArg (World.drewN _) (Nat.add_assoc _ _ _))⟩))); try go_wp2_with (first | (go_at_call 56; (with_reducible refine (spec_l1In.calls i 0 m true _ B0.out).mono ?_); rintro e w' ⟨rfl, ⟨nd, rfl⟩⟩; (try first | exact ⟨rfl, _, World.drewN_drewN _ _ _⟩ | exact ⟨rfl, _, Eq.trans (World.drewN_drewN _ _ _) (congrArg (World.drewN _) (Nat.add_assoc _ _ _))⟩)) | (go_at_call 56; (with_reducible refine (spec_l1In.calls j1 0 m true _ B1.out).mono ?_); rintro e w' ⟨rfl, ⟨nd, rfl⟩⟩; (try first | exact ⟨rfl, _, World.drewN_drewN _ _ _⟩ | exact ⟨rfl, _, Eq.trans (World.drewN_drewN _ _ _) (congrArg (World.drewN _) (Nat.add_assoc _ _ _))⟩)) | (go_at_call 56; (with_reducible refine (spec_l1In.calls j2 0 m false _ B2.out).mono ?_); rintro e w' ⟨rfl, ⟨nd, rfl⟩⟩; (try first | exact ⟨rfl, _, World.drewN_drewN _ _ _⟩ | exact ⟨rfl, _, Eq.trans (World.drewN_drewN _ _ _) (congrArg (World.drewN _) (Nat.add_assoc _ _ _))⟩))))
  go_ret
  exact ⟨by first | rfl | (simp; done) | (simp [*]; done), by repeat (first | exact Drawn0.refl _ | apply Drawn0.step)⟩
set_option maxHeartbeats 8000000 in
set_option maxRecDepth 100000 in
theorem spec_fgTo.wl1100 (s : ByteArray) (i j1 j2 m : Int) (w : World) (hm : wrap64 ((s.size : Int) - 1) = m) (A0 : spec_l1In.f i 0 m = some true) (p0 : 0 ≤ i) (q0 : i < (s.size : Int)) (e46 : (bt s i == 46) = false) (e108 : (bt s i == 108) = true) (h0 : wrap64 (i + -1) = j1) (h1 : wrap64 (i + -2) = j2) (h2 : wrap64 (i - 1) = j1) (h3 : wrap64 (i - 2) = j2) (A1 : spec_l1In.f j1 0 m = some true) (p1 : 0 ≤ j1) (q1 : j1 < (s.size : Int)) (ea : (bt s j1 == 46) = false) (A2 : spec_l1In.f j2 0 m = some true) (p2 : 0 ≤ j2) (q2 : j2 < (s.size : Int)) (eb : (bt s j2 == 46) = false) :
    Calls Tryd.prog 58 #[.string s, .int .i64 i] w fun e w' => e = .returned (.int .i64 (-1)) ∧ Drawn0 w w' := by
  have hmw : IntKind.i64.wrap ((s.size : Int) - 1) = m := (i64_w _).trans hm
  have B0 := Aside0.mk A0
  clear A0
  have x0 := bt_at s i
  replace p0 := eq_true p0
  replace q0 := eq_true q0
  have n46 : (bt s i != 46) = true := by unfold bne; rw [e46]; rfl
  have n108 : (bt s i != 108) = false := by unfold bne; rw [e108]; rfl
  have h0w : IntKind.i64.wrap (i + -1) = j1 := (i64_w _).trans h0
  have h1w : IntKind.i64.wrap (i + -2) = j2 := (i64_w _).trans h1
  have h2w : IntKind.i64.wrap (i - 1) = j1 := (i64_w _).trans h2
  have h3w : IntKind.i64.wrap (i - 2) = j2 := (i64_w _).trans h3
  have B1 := Aside0.mk A1
  clear A1
  have x1 := bt_at s j1
  replace p1 := eq_true p1
  replace q1 := eq_true q1
  have na : (bt s j1 != 46) = true := by unfold bne; rw [ea]; rfl
  have B2 := Aside0.mk A2
  clear A2
  have x2 := bt_at s j2
  replace p2 := eq_true p2
  replace q2 := eq_true q2
  have nb : (bt s j2 != 46) = true := by unfold bne; rw [eb]; rfl
  go_enter Tryd.func58, Tryd.ntmps58
  go_wp2_with (first | (go_at_call 56; (with_reducible refine (spec_l1In.calls i 0 m true _ B0.out).mono ?_); rintro e w' ⟨rfl, ⟨nd, rfl⟩⟩; (try first | exact ⟨rfl, _, World.drewN_drewN _ _ _⟩ | exact ⟨rfl, _, Eq.trans (World.drewN_drewN _ _ _) (congrArg (World.drewN _) (Nat.add_assoc _ _ _))⟩)) | (go_at_call 56; (with_reducible refine (spec_l1In.calls j1 0 m true _ B1.out).mono ?_); rintro e w' ⟨rfl, ⟨nd, rfl⟩⟩; (try first | exact ⟨rfl, _, World.drewN_drewN _ _ _⟩ | exact ⟨rfl, _, Eq.trans (World.drewN_drewN _ _ _) (congrArg (World.drewN _) (Nat.add_assoc _ _ _))⟩)) | (go_at_call 56; (with_reducible refine (spec_l1In.calls j2 0 m true _ B2.out).mono ?_); rintro e w' ⟨rfl, ⟨nd, rfl⟩⟩; (try first | exact ⟨rfl, _, World.drewN_drewN _ _ _⟩ | exact ⟨rfl, _, Eq.trans (World.drewN_drewN _ _ _) (congrArg (World.drewN _) (Nat.add_assoc _ _ _))⟩)))
  repeat (go_quiet (first | (go_at_call 56; (with_reducible refine (spec_l1In.calls i 0 m true _ B0.out).mono ?_); rintro e w' ⟨rfl, ⟨nd, rfl⟩⟩; (try first | exact ⟨rfl, _, World.drewN_drewN _ _ _⟩ | exact ⟨rfl, _, Eq.trans (World.drewN_drewN _ _ _) (congrArg (World.drewN _) (Nat.add_assoc _ _ _))⟩)) | (go_at_call 56; (with_reducible refine (spec_l1In.calls j1 0 m true _ B1.out).mono ?_); rintro e w' ⟨rfl, ⟨nd, rfl⟩⟩; (try first | exact ⟨rfl, _, World.drewN_drewN _ _ _⟩ | exact ⟨rfl, _, Eq.trans (World.drewN_drewN _ _ _) (congrArg (World.drewN _) (Nat.add_assoc _ _ _))⟩)) | (go_at_call 56; (with_reducible refine (spec_l1In.calls j2 0 m true _ B2.out).mono ?_); rintro e w' ⟨rfl, ⟨nd, rfl⟩⟩; (try first | exact ⟨rfl, _, World.drewN_drewN _ _ _⟩ | exact ⟨rfl, _, Eq.trans (World.drewN_drewN _ _ _) (congrArg (World.drewN _) (Nat.add_assoc _ _ _))⟩))); try go_wp2_with (first | (go_at_call 56; (with_reducible refine (spec_l1In.calls i 0 m true _ B0.out).mono ?_); rintro e w' ⟨rfl, ⟨nd, rfl⟩⟩; (try first | exact ⟨rfl, _, World.drewN_drewN _ _ _⟩ | exact ⟨rfl, _, Eq.trans (World.drewN_drewN _ _ _) (congrArg (World.drewN _) (Nat.add_assoc _ _ _))⟩)) | (go_at_call 56; (with_reducible refine (spec_l1In.calls j1 0 m true _ B1.out).mono ?_); rintro e w' ⟨rfl, ⟨nd, rfl⟩⟩; (try first | exact ⟨rfl, _, World.drewN_drewN _ _ _⟩ | exact ⟨rfl, _, Eq.trans (World.drewN_drewN _ _ _) (congrArg (World.drewN _) (Nat.add_assoc _ _ _))⟩)) | (go_at_call 56; (with_reducible refine (spec_l1In.calls j2 0 m true _ B2.out).mono ?_); rintro e w' ⟨rfl, ⟨nd, rfl⟩⟩; (try first | exact ⟨rfl, _, World.drewN_drewN _ _ _⟩ | exact ⟨rfl, _, Eq.trans (World.drewN_drewN _ _ _) (congrArg (World.drewN _) (Nat.add_assoc _ _ _))⟩))))
  go_ret
  exact ⟨by first | rfl | (simp; done) | (simp [*]; done), by repeat (first | exact Drawn0.refl _ | apply Drawn0.step)⟩
set_option maxHeartbeats 8000000 in
set_option maxRecDepth 100000 in
theorem spec_fgTo.wl1110 (s : ByteArray) (i j1 j2 m : Int) (w : World) (hm : wrap64 ((s.size : Int) - 1) = m) (A0 : spec_l1In.f i 0 m = some true) (p0 : 0 ≤ i) (q0 : i < (s.size : Int)) (e46 : (bt s i == 46) = false) (e108 : (bt s i == 108) = true) (h0 : wrap64 (i + -1) = j1) (h1 : wrap64 (i + -2) = j2) (h2 : wrap64 (i - 1) = j1) (h3 : wrap64 (i - 2) = j2) (A1 : spec_l1In.f j1 0 m = some true) (p1 : 0 ≤ j1) (q1 : j1 < (s.size : Int)) (ea : (bt s j1 == 46) = false) (A2 : spec_l1In.f j2 0 m = some true) (p2 : 0 ≤ j2) (q2 : j2 < (s.size : Int)) (eb : (bt s j2 == 46) = true) (ec : (bt s j1 == bt s i) = true) :
    Calls Tryd.prog 58 #[.string s, .int .i64 i] w fun e w' => e = .returned (.int .i64 (-1)) ∧ Drawn0 w w' := by
  have hmw : IntKind.i64.wrap ((s.size : Int) - 1) = m := (i64_w _).trans hm
  have B0 := Aside0.mk A0
  clear A0
  have x0 := bt_at s i
  replace p0 := eq_true p0
  replace q0 := eq_true q0
  have n46 : (bt s i != 46) = true := by unfold bne; rw [e46]; rfl
  have n108 : (bt s i != 108) = false := by unfold bne; rw [e108]; rfl
  have h0w : IntKind.i64.wrap (i + -1) = j1 := (i64_w _).trans h0
  have h1w : IntKind.i64.wrap (i + -2) = j2 := (i64_w _).trans h1
  have h2w : IntKind.i64.wrap (i - 1) = j1 := (i64_w _).trans h2
  have h3w : IntKind.i64.wrap (i - 2) = j2 := (i64_w _).trans h3
  have B1 := Aside0.mk A1
  clear A1
  have x1 := bt_at s j1
  replace p1 := eq_true p1
  replace q1 := eq_true q1
  have na : (bt s j1 != 46) = true := by unfold bne; rw [ea]; rfl
  have B2 := Aside0.mk A2
  clear A2
  have x2 := bt_at s j2
  replace p2 := eq_true p2
  replace q2 := eq_true q2
  have nb : (bt s j2 != 46) = false := by unfold bne; rw [eb]; rfl
  have nc : (bt s j1 != bt s i) = false := by unfold bne; rw [ec]; rfl
  go_enter Tryd.func58, Tryd.ntmps58
  go_wp2_with (first | (go_at_call 56; (with_reducible refine (spec_l1In.calls i 0 m true _ B0.out).mono ?_); rintro e w' ⟨rfl, ⟨nd, rfl⟩⟩; (try first | exact ⟨rfl, _, World.drewN_drewN _ _ _⟩ | exact ⟨rfl, _, Eq.trans (World.drewN_drewN _ _ _) (congrArg (World.drewN _) (Nat.add_assoc _ _ _))⟩)) | (go_at_call 56; (with_reducible refine (spec_l1In.calls j1 0 m true _ B1.out).mono ?_); rintro e w' ⟨rfl, ⟨nd, rfl⟩⟩; (try first | exact ⟨rfl, _, World.drewN_drewN _ _ _⟩ | exact ⟨rfl, _, Eq.trans (World.drewN_drewN _ _ _) (congrArg (World.drewN _) (Nat.add_assoc _ _ _))⟩)) | (go_at_call 56; (with_reducible refine (spec_l1In.calls j2 0 m true _ B2.out).mono ?_); rintro e w' ⟨rfl, ⟨nd, rfl⟩⟩; (try first | exact ⟨rfl, _, World.drewN_drewN _ _ _⟩ | exact ⟨rfl, _, Eq.trans (World.drewN_drewN _ _ _) (congrArg (World.drewN _) (Nat.add_assoc _ _ _))⟩)))
  repeat (go_quiet (first | (go_at_call 56; (with_reducible refine (spec_l1In.calls i 0 m true _ B0.out).mono ?_); rintro e w' ⟨rfl, ⟨nd, rfl⟩⟩; (try first | exact ⟨rfl, _, World.drewN_drewN _ _ _⟩ | exact ⟨rfl, _, Eq.trans (World.drewN_drewN _ _ _) (congrArg (World.drewN _) (Nat.add_assoc _ _ _))⟩)) | (go_at_call 56; (with_reducible refine (spec_l1In.calls j1 0 m true _ B1.out).mono ?_); rintro e w' ⟨rfl, ⟨nd, rfl⟩⟩; (try first | exact ⟨rfl, _, World.drewN_drewN _ _ _⟩ | exact ⟨rfl, _, Eq.trans (World.drewN_drewN _ _ _) (congrArg (World.drewN _) (Nat.add_assoc _ _ _))⟩)) | (go_at_call 56; (with_reducible refine (spec_l1In.calls j2 0 m true _ B2.out).mono ?_); rintro e w' ⟨rfl, ⟨nd, rfl⟩⟩; (try first | exact ⟨rfl, _, World.drewN_drewN _ _ _⟩ | exact ⟨rfl, _, Eq.trans (World.drewN_drewN _ _ _) (congrArg (World.drewN _) (Nat.add_assoc _ _ _))⟩))); try go_wp2_with (first | (go_at_call 56; (with_reducible refine (spec_l1In.calls i 0 m true _ B0.out).mono ?_); rintro e w' ⟨rfl, ⟨nd, rfl⟩⟩; (try first | exact ⟨rfl, _, World.drewN_drewN _ _ _⟩ | exact ⟨rfl, _, Eq.trans (World.drewN_drewN _ _ _) (congrArg (World.drewN _) (Nat.add_assoc _ _ _))⟩)) | (go_at_call 56; (with_reducible refine (spec_l1In.calls j1 0 m true _ B1.out).mono ?_); rintro e w' ⟨rfl, ⟨nd, rfl⟩⟩; (try first | exact ⟨rfl, _, World.drewN_drewN _ _ _⟩ | exact ⟨rfl, _, Eq.trans (World.drewN_drewN _ _ _) (congrArg (World.drewN _) (Nat.add_assoc _ _ _))⟩)) | (go_at_call 56; (with_reducible refine (spec_l1In.calls j2 0 m true _ B2.out).mono ?_); rintro e w' ⟨rfl, ⟨nd, rfl⟩⟩; (try first | exact ⟨rfl, _, World.drewN_drewN _ _ _⟩ | exact ⟨rfl, _, Eq.trans (World.drewN_drewN _ _ _) (congrArg (World.drewN _) (Nat.add_assoc _ _ _))⟩))))
  go_ret
  exact ⟨by first | rfl | (simp; done) | (simp [*]; done), by repeat (first | exact Drawn0.refl _ | apply Drawn0.step)⟩
set_option maxHeartbeats 8000000 in
set_option maxRecDepth 100000 in
theorem spec_fgTo.wl1111 (s : ByteArray) (i j1 j2 m : Int) (w : World) (hm : wrap64 ((s.size : Int) - 1) = m) (A0 : spec_l1In.f i 0 m = some true) (p0 : 0 ≤ i) (q0 : i < (s.size : Int)) (e46 : (bt s i == 46) = false) (e108 : (bt s i == 108) = true) (h0 : wrap64 (i + -1) = j1) (h1 : wrap64 (i + -2) = j2) (h2 : wrap64 (i - 1) = j1) (h3 : wrap64 (i - 2) = j2) (A1 : spec_l1In.f j1 0 m = some true) (p1 : 0 ≤ j1) (q1 : j1 < (s.size : Int)) (ea : (bt s j1 == 46) = false) (A2 : spec_l1In.f j2 0 m = some true) (p2 : 0 ≤ j2) (q2 : j2 < (s.size : Int)) (eb : (bt s j2 == 46) = true) (ec : (bt s j1 == bt s i) = false) :
    Calls Tryd.prog 58 #[.string s, .int .i64 i] w fun e w' => e = .returned (.int .i64 j2) ∧ Drawn0 w w' := by
  have hmw : IntKind.i64.wrap ((s.size : Int) - 1) = m := (i64_w _).trans hm
  have B0 := Aside0.mk A0
  clear A0
  have x0 := bt_at s i
  replace p0 := eq_true p0
  replace q0 := eq_true q0
  have n46 : (bt s i != 46) = true := by unfold bne; rw [e46]; rfl
  have n108 : (bt s i != 108) = false := by unfold bne; rw [e108]; rfl
  have h0w : IntKind.i64.wrap (i + -1) = j1 := (i64_w _).trans h0
  have h1w : IntKind.i64.wrap (i + -2) = j2 := (i64_w _).trans h1
  have h2w : IntKind.i64.wrap (i - 1) = j1 := (i64_w _).trans h2
  have h3w : IntKind.i64.wrap (i - 2) = j2 := (i64_w _).trans h3
  have B1 := Aside0.mk A1
  clear A1
  have x1 := bt_at s j1
  replace p1 := eq_true p1
  replace q1 := eq_true q1
  have na : (bt s j1 != 46) = true := by unfold bne; rw [ea]; rfl
  have B2 := Aside0.mk A2
  clear A2
  have x2 := bt_at s j2
  replace p2 := eq_true p2
  replace q2 := eq_true q2
  have nb : (bt s j2 != 46) = false := by unfold bne; rw [eb]; rfl
  have nc : (bt s j1 != bt s i) = true := by unfold bne; rw [ec]; rfl
  go_enter Tryd.func58, Tryd.ntmps58
  go_wp2_with (first | (go_at_call 56; (with_reducible refine (spec_l1In.calls i 0 m true _ B0.out).mono ?_); rintro e w' ⟨rfl, ⟨nd, rfl⟩⟩; (try first | exact ⟨rfl, _, World.drewN_drewN _ _ _⟩ | exact ⟨rfl, _, Eq.trans (World.drewN_drewN _ _ _) (congrArg (World.drewN _) (Nat.add_assoc _ _ _))⟩)) | (go_at_call 56; (with_reducible refine (spec_l1In.calls j1 0 m true _ B1.out).mono ?_); rintro e w' ⟨rfl, ⟨nd, rfl⟩⟩; (try first | exact ⟨rfl, _, World.drewN_drewN _ _ _⟩ | exact ⟨rfl, _, Eq.trans (World.drewN_drewN _ _ _) (congrArg (World.drewN _) (Nat.add_assoc _ _ _))⟩)) | (go_at_call 56; (with_reducible refine (spec_l1In.calls j2 0 m true _ B2.out).mono ?_); rintro e w' ⟨rfl, ⟨nd, rfl⟩⟩; (try first | exact ⟨rfl, _, World.drewN_drewN _ _ _⟩ | exact ⟨rfl, _, Eq.trans (World.drewN_drewN _ _ _) (congrArg (World.drewN _) (Nat.add_assoc _ _ _))⟩)))
  repeat (go_quiet (first | (go_at_call 56; (with_reducible refine (spec_l1In.calls i 0 m true _ B0.out).mono ?_); rintro e w' ⟨rfl, ⟨nd, rfl⟩⟩; (try first | exact ⟨rfl, _, World.drewN_drewN _ _ _⟩ | exact ⟨rfl, _, Eq.trans (World.drewN_drewN _ _ _) (congrArg (World.drewN _) (Nat.add_assoc _ _ _))⟩)) | (go_at_call 56; (with_reducible refine (spec_l1In.calls j1 0 m true _ B1.out).mono ?_); rintro e w' ⟨rfl, ⟨nd, rfl⟩⟩; (try first | exact ⟨rfl, _, World.drewN_drewN _ _ _⟩ | exact ⟨rfl, _, Eq.trans (World.drewN_drewN _ _ _) (congrArg (World.drewN _) (Nat.add_assoc _ _ _))⟩)) | (go_at_call 56; (with_reducible refine (spec_l1In.calls j2 0 m true _ B2.out).mono ?_); rintro e w' ⟨rfl, ⟨nd, rfl⟩⟩; (try first | exact ⟨rfl, _, World.drewN_drewN _ _ _⟩ | exact ⟨rfl, _, Eq.trans (World.drewN_drewN _ _ _) (congrArg (World.drewN _) (Nat.add_assoc _ _ _))⟩))); try go_wp2_with (first | (go_at_call 56; (with_reducible refine (spec_l1In.calls i 0 m true _ B0.out).mono ?_); rintro e w' ⟨rfl, ⟨nd, rfl⟩⟩; (try first | exact ⟨rfl, _, World.drewN_drewN _ _ _⟩ | exact ⟨rfl, _, Eq.trans (World.drewN_drewN _ _ _) (congrArg (World.drewN _) (Nat.add_assoc _ _ _))⟩)) | (go_at_call 56; (with_reducible refine (spec_l1In.calls j1 0 m true _ B1.out).mono ?_); rintro e w' ⟨rfl, ⟨nd, rfl⟩⟩; (try first | exact ⟨rfl, _, World.drewN_drewN _ _ _⟩ | exact ⟨rfl, _, Eq.trans (World.drewN_drewN _ _ _) (congrArg (World.drewN _) (Nat.add_assoc _ _ _))⟩)) | (go_at_call 56; (with_reducible refine (spec_l1In.calls j2 0 m true _ B2.out).mono ?_); rintro e w' ⟨rfl, ⟨nd, rfl⟩⟩; (try first | exact ⟨rfl, _, World.drewN_drewN _ _ _⟩ | exact ⟨rfl, _, Eq.trans (World.drewN_drewN _ _ _) (congrArg (World.drewN _) (Nat.add_assoc _ _ _))⟩))))
  go_ret
  exact ⟨by first | rfl | (simp; done) | (simp [*]; done), by repeat (first | exact Drawn0.refl _ | apply Drawn0.step)⟩
set_option maxHeartbeats 8000000 in
set_option maxRecDepth 100000 in
theorem spec_fgTo.wl0000 (s : ByteArray) (i j1 j2 m : Int) (w : World) (hm : wrap64 ((s.size : Int) - 1) = m) (A0 : spec_l1In.f i 0 m = some true) (p0 : 0 ≤ i) (q0 : i < (s.size : Int)) (e46 : (bt s i == 46) = false) (e108 : (bt s i == 108) = true) (h0 : wrap64 (i + -1) = j1) (h1 : wrap64 (i + -2) = j2) (h2 : wrap64 (i - 1) = j1) (h3 : wrap64 (i - 2) = j2) (A1 : spec_l1In.f j1 0 m = some false) (A2 : spec_l1In.f j2 0 m = some false) :
    Calls Tryd.prog 58 #[.string s, .int .i64 i] w fun e w' => e = .returned (.int .i64 (-1)) ∧ Drawn0 w w' := by
  have hmw : IntKind.i64.wrap ((s.size : Int) - 1) = m := (i64_w _).trans hm
  have B0 := Aside0.mk A0
  clear A0
  have x0 := bt_at s i
  replace p0 := eq_true p0
  replace q0 := eq_true q0
  have n46 : (bt s i != 46) = true := by unfold bne; rw [e46]; rfl
  have n108 : (bt s i != 108) = false := by unfold bne; rw [e108]; rfl
  have h0w : IntKind.i64.wrap (i + -1) = j1 := (i64_w _).trans h0
  have h1w : IntKind.i64.wrap (i + -2) = j2 := (i64_w _).trans h1
  have h2w : IntKind.i64.wrap (i - 1) = j1 := (i64_w _).trans h2
  have h3w : IntKind.i64.wrap (i - 2) = j2 := (i64_w _).trans h3
  have B1 := Aside0.mk A1
  clear A1
  have B2 := Aside0.mk A2
  clear A2
  go_enter Tryd.func58, Tryd.ntmps58
  go_wp2_with (first | (go_at_call 56; (with_reducible refine (spec_l1In.calls i 0 m true _ B0.out).mono ?_); rintro e w' ⟨rfl, ⟨nd, rfl⟩⟩; (try first | exact ⟨rfl, _, World.drewN_drewN _ _ _⟩ | exact ⟨rfl, _, Eq.trans (World.drewN_drewN _ _ _) (congrArg (World.drewN _) (Nat.add_assoc _ _ _))⟩)) | (go_at_call 56; (with_reducible refine (spec_l1In.calls j1 0 m false _ B1.out).mono ?_); rintro e w' ⟨rfl, ⟨nd, rfl⟩⟩; (try first | exact ⟨rfl, _, World.drewN_drewN _ _ _⟩ | exact ⟨rfl, _, Eq.trans (World.drewN_drewN _ _ _) (congrArg (World.drewN _) (Nat.add_assoc _ _ _))⟩)) | (go_at_call 56; (with_reducible refine (spec_l1In.calls j2 0 m false _ B2.out).mono ?_); rintro e w' ⟨rfl, ⟨nd, rfl⟩⟩; (try first | exact ⟨rfl, _, World.drewN_drewN _ _ _⟩ | exact ⟨rfl, _, Eq.trans (World.drewN_drewN _ _ _) (congrArg (World.drewN _) (Nat.add_assoc _ _ _))⟩)))
  repeat (go_quiet (first | (go_at_call 56; (with_reducible refine (spec_l1In.calls i 0 m true _ B0.out).mono ?_); rintro e w' ⟨rfl, ⟨nd, rfl⟩⟩; (try first | exact ⟨rfl, _, World.drewN_drewN _ _ _⟩ | exact ⟨rfl, _, Eq.trans (World.drewN_drewN _ _ _) (congrArg (World.drewN _) (Nat.add_assoc _ _ _))⟩)) | (go_at_call 56; (with_reducible refine (spec_l1In.calls j1 0 m false _ B1.out).mono ?_); rintro e w' ⟨rfl, ⟨nd, rfl⟩⟩; (try first | exact ⟨rfl, _, World.drewN_drewN _ _ _⟩ | exact ⟨rfl, _, Eq.trans (World.drewN_drewN _ _ _) (congrArg (World.drewN _) (Nat.add_assoc _ _ _))⟩)) | (go_at_call 56; (with_reducible refine (spec_l1In.calls j2 0 m false _ B2.out).mono ?_); rintro e w' ⟨rfl, ⟨nd, rfl⟩⟩; (try first | exact ⟨rfl, _, World.drewN_drewN _ _ _⟩ | exact ⟨rfl, _, Eq.trans (World.drewN_drewN _ _ _) (congrArg (World.drewN _) (Nat.add_assoc _ _ _))⟩))); try go_wp2_with (first | (go_at_call 56; (with_reducible refine (spec_l1In.calls i 0 m true _ B0.out).mono ?_); rintro e w' ⟨rfl, ⟨nd, rfl⟩⟩; (try first | exact ⟨rfl, _, World.drewN_drewN _ _ _⟩ | exact ⟨rfl, _, Eq.trans (World.drewN_drewN _ _ _) (congrArg (World.drewN _) (Nat.add_assoc _ _ _))⟩)) | (go_at_call 56; (with_reducible refine (spec_l1In.calls j1 0 m false _ B1.out).mono ?_); rintro e w' ⟨rfl, ⟨nd, rfl⟩⟩; (try first | exact ⟨rfl, _, World.drewN_drewN _ _ _⟩ | exact ⟨rfl, _, Eq.trans (World.drewN_drewN _ _ _) (congrArg (World.drewN _) (Nat.add_assoc _ _ _))⟩)) | (go_at_call 56; (with_reducible refine (spec_l1In.calls j2 0 m false _ B2.out).mono ?_); rintro e w' ⟨rfl, ⟨nd, rfl⟩⟩; (try first | exact ⟨rfl, _, World.drewN_drewN _ _ _⟩ | exact ⟨rfl, _, Eq.trans (World.drewN_drewN _ _ _) (congrArg (World.drewN _) (Nat.add_assoc _ _ _))⟩))))
  go_ret
  exact ⟨by first | rfl | (simp; done) | (simp [*]; done), by repeat (first | exact Drawn0.refl _ | apply Drawn0.step)⟩
def spec_fgTo.f (a0 : ByteArray) (a1 : Int) : Option (Int) := if a0.size ≤ 1000 then (some (frogTo a0 a1)) else none
theorem spec_fgTo.in1 {x m : Int} (h : 0 ≤ x ∧ x ≤ m) : spec_l1In.f x 0 m = some true := by
  unfold spec_l1In.f; rw [if_pos (by omega)]; congr 1; exact decide_eq_true h.2
theorem spec_fgTo.in0 {x m : Int} (h : ¬ (0 ≤ x ∧ x ≤ m)) : spec_l1In.f x 0 m = some false := by
  unfold spec_l1In.f
  by_cases c : x ≥ 0
  · rw [if_pos c]; congr 1; exact decide_eq_false (by omega)
  · rw [if_neg c]
theorem spec_fgTo.bq {x y : Int} (h : x = y) : (x == y) = true := beq_iff_eq.mpr h
theorem spec_fgTo.bn {x y : Int} (h : ¬ x = y) : (x == y) = false := beq_eq_false_iff_ne.mpr h
theorem spec_fgTo.wr {x y : Int} (h : x = y) (h0 : -9223372036854775808 ≤ x) (h1 : x < 9223372036854775808) : wrap64 x = y := by unfold wrap64; omega
theorem spec_fgTo.calls (a0 : ByteArray) (a1 : Int) (r : Int) (w : World) (h : spec_fgTo.f a0 a1 = some r) :
    Calls Tryd.prog 58 #[.string a0, .int .i64 a1] w fun e w' => e = .returned (.int .i64 r) ∧ Drawn0 w w' := by
  unfold spec_fgTo.f at h
  by_cases hd : a0.size ≤ 1000
  case neg => rw [if_neg hd] at h; cases h
  rw [if_pos hd] at h
  have hr := Option.some.inj h
  clear h
  subst hr
  have hm : wrap64 ((a0.size : Int) - 1) = (a0.size : Int) - 1 := by unfold wrap64; omega
  by_cases h0 : 0 ≤ a1 ∧ a1 < (a0.size : Int)
  case neg =>
    have e : frogTo a0 a1 = -1 := by unfold frogTo; rw [if_neg (fun c => h0 c.1)]
    rw [e]
    exact spec_fgTo.wout a0 a1 0 0 _ w hm (spec_fgTo.in0 (by omega))
  have A0 : spec_l1In.f a1 0 ((a0.size : Int) - 1) = some true := spec_fgTo.in1 (by omega)
  by_cases h46 : bt a0 a1 = 46
  case pos =>
    have e : frogTo a0 a1 = -1 := by unfold frogTo; rw [if_neg (fun c => c.2 h46)]
    rw [e]
    exact spec_fgTo.wdot a0 a1 0 0 _ w hm A0 h0.1 h0.2 (spec_fgTo.bq h46)
  by_cases h108 : bt a0 a1 = 108
  case pos =>
    have e : frogTo a0 a1 = if (0 ≤ a1 + -1 ∧ a1 + -1 < (a0.size : Int)) ∧ bt a0 (a1 + -1) = 46 then a1 + -1 else if ((0 ≤ a1 + -2 ∧ a1 + -2 < (a0.size : Int)) ∧ bt a0 (a1 + -2) = 46) ∧ ¬ bt a0 (a1 + -1) = bt a0 a1 then a1 + -2 else -1 := by
      unfold frogTo; rw [if_pos ⟨h0, h46⟩]; simp only [if_pos h108]; rfl
    rw [e]
    by_cases c1 : 0 ≤ a1 + -1 ∧ a1 + -1 < (a0.size : Int)
    · by_cases c2 : bt a0 (a1 + -1) = 46
      · rw [if_pos ⟨c1, c2⟩]
        exact spec_fgTo.wl1 a0 a1 (a1 + -1) (a1 + -2) _ w hm A0 h0.1 h0.2 (spec_fgTo.bn h46) (spec_fgTo.bq h108) (spec_fgTo.wr (by omega) (by omega) (by omega)) (spec_fgTo.wr (by omega) (by omega) (by omega)) (spec_fgTo.wr (by omega) (by omega) (by omega)) (spec_fgTo.wr (by omega) (by omega) (by omega)) (spec_fgTo.in1 (by omega)) c1.1 c1.2 (spec_fgTo.bq c2)
      · rw [if_neg (fun c => c2 c.2)]
        by_cases c3 : 0 ≤ a1 + -2 ∧ a1 + -2 < (a0.size : Int)
        · by_cases c4 : bt a0 (a1 + -2) = 46
          · by_cases c5 : bt a0 (a1 + -1) = bt a0 a1
            · rw [if_neg (fun c => c.2 c5)]
              exact spec_fgTo.wl1110 a0 a1 (a1 + -1) (a1 + -2) _ w hm A0 h0.1 h0.2 (spec_fgTo.bn h46) (spec_fgTo.bq h108) (spec_fgTo.wr (by omega) (by omega) (by omega)) (spec_fgTo.wr (by omega) (by omega) (by omega)) (spec_fgTo.wr (by omega) (by omega) (by omega)) (spec_fgTo.wr (by omega) (by omega) (by omega)) (spec_fgTo.in1 (by omega)) c1.1 c1.2 (spec_fgTo.bn c2) (spec_fgTo.in1 (by omega)) c3.1 c3.2 (spec_fgTo.bq c4) (spec_fgTo.bq c5)
            · rw [if_pos ⟨⟨c3, c4⟩, c5⟩]
              exact spec_fgTo.wl1111 a0 a1 (a1 + -1) (a1 + -2) _ w hm A0 h0.1 h0.2 (spec_fgTo.bn h46) (spec_fgTo.bq h108) (spec_fgTo.wr (by omega) (by omega) (by omega)) (spec_fgTo.wr (by omega) (by omega) (by omega)) (spec_fgTo.wr (by omega) (by omega) (by omega)) (spec_fgTo.wr (by omega) (by omega) (by omega)) (spec_fgTo.in1 (by omega)) c1.1 c1.2 (spec_fgTo.bn c2) (spec_fgTo.in1 (by omega)) c3.1 c3.2 (spec_fgTo.bq c4) (spec_fgTo.bn c5)
          · rw [if_neg (fun c => c4 c.1.2)]
            exact spec_fgTo.wl1100 a0 a1 (a1 + -1) (a1 + -2) _ w hm A0 h0.1 h0.2 (spec_fgTo.bn h46) (spec_fgTo.bq h108) (spec_fgTo.wr (by omega) (by omega) (by omega)) (spec_fgTo.wr (by omega) (by omega) (by omega)) (spec_fgTo.wr (by omega) (by omega) (by omega)) (spec_fgTo.wr (by omega) (by omega) (by omega)) (spec_fgTo.in1 (by omega)) c1.1 c1.2 (spec_fgTo.bn c2) (spec_fgTo.in1 (by omega)) c3.1 c3.2 (spec_fgTo.bn c4)
        · rw [if_neg (fun c => c3 c.1.1)]
          exact spec_fgTo.wl1000 a0 a1 (a1 + -1) (a1 + -2) _ w hm A0 h0.1 h0.2 (spec_fgTo.bn h46) (spec_fgTo.bq h108) (spec_fgTo.wr (by omega) (by omega) (by omega)) (spec_fgTo.wr (by omega) (by omega) (by omega)) (spec_fgTo.wr (by omega) (by omega) (by omega)) (spec_fgTo.wr (by omega) (by omega) (by omega)) (spec_fgTo.in1 (by omega)) c1.1 c1.2 (spec_fgTo.bn c2) (spec_fgTo.in0 (by omega))
    · rw [if_neg (fun c => c1 c.1), if_neg (fun c => c1 (by omega))]
      exact spec_fgTo.wl0000 a0 a1 (a1 + -1) (a1 + -2) _ w hm A0 h0.1 h0.2 (spec_fgTo.bn h46) (spec_fgTo.bq h108) (spec_fgTo.wr (by omega) (by omega) (by omega)) (spec_fgTo.wr (by omega) (by omega) (by omega)) (spec_fgTo.wr (by omega) (by omega) (by omega)) (spec_fgTo.wr (by omega) (by omega) (by omega)) (spec_fgTo.in0 (by omega)) (spec_fgTo.in0 (by omega))
  case neg =>
    have e : frogTo a0 a1 = if (0 ≤ a1 + 1 ∧ a1 + 1 < (a0.size : Int)) ∧ bt a0 (a1 + 1) = 46 then a1 + 1 else if ((0 ≤ a1 + 2 ∧ a1 + 2 < (a0.size : Int)) ∧ bt a0 (a1 + 2) = 46) ∧ ¬ bt a0 (a1 + 1) = bt a0 a1 then a1 + 2 else -1 := by
      unfold frogTo; rw [if_pos ⟨h0, h46⟩]; simp only [if_neg h108]; rfl
    rw [e]
    by_cases c1 : 0 ≤ a1 + 1 ∧ a1 + 1 < (a0.size : Int)
    · by_cases c2 : bt a0 (a1 + 1) = 46
      · rw [if_pos ⟨c1, c2⟩]
        exact spec_fgTo.wr1 a0 a1 (a1 + 1) (a1 + 2) _ w hm A0 h0.1 h0.2 (spec_fgTo.bn h46) (spec_fgTo.bn h108) (spec_fgTo.wr (by omega) (by omega) (by omega)) (spec_fgTo.wr (by omega) (by omega) (by omega)) (spec_fgTo.in1 (by omega)) c1.1 c1.2 (spec_fgTo.bq c2)
      · rw [if_neg (fun c => c2 c.2)]
        by_cases c3 : 0 ≤ a1 + 2 ∧ a1 + 2 < (a0.size : Int)
        · by_cases c4 : bt a0 (a1 + 2) = 46
          · by_cases c5 : bt a0 (a1 + 1) = bt a0 a1
            · rw [if_neg (fun c => c.2 c5)]
              exact spec_fgTo.wr1110 a0 a1 (a1 + 1) (a1 + 2) _ w hm A0 h0.1 h0.2 (spec_fgTo.bn h46) (spec_fgTo.bn h108) (spec_fgTo.wr (by omega) (by omega) (by omega)) (spec_fgTo.wr (by omega) (by omega) (by omega)) (spec_fgTo.in1 (by omega)) c1.1 c1.2 (spec_fgTo.bn c2) (spec_fgTo.in1 (by omega)) c3.1 c3.2 (spec_fgTo.bq c4) (spec_fgTo.bq c5)
            · rw [if_pos ⟨⟨c3, c4⟩, c5⟩]
              exact spec_fgTo.wr1111 a0 a1 (a1 + 1) (a1 + 2) _ w hm A0 h0.1 h0.2 (spec_fgTo.bn h46) (spec_fgTo.bn h108) (spec_fgTo.wr (by omega) (by omega) (by omega)) (spec_fgTo.wr (by omega) (by omega) (by omega)) (spec_fgTo.in1 (by omega)) c1.1 c1.2 (spec_fgTo.bn c2) (spec_fgTo.in1 (by omega)) c3.1 c3.2 (spec_fgTo.bq c4) (spec_fgTo.bn c5)
          · rw [if_neg (fun c => c4 c.1.2)]
            exact spec_fgTo.wr1100 a0 a1 (a1 + 1) (a1 + 2) _ w hm A0 h0.1 h0.2 (spec_fgTo.bn h46) (spec_fgTo.bn h108) (spec_fgTo.wr (by omega) (by omega) (by omega)) (spec_fgTo.wr (by omega) (by omega) (by omega)) (spec_fgTo.in1 (by omega)) c1.1 c1.2 (spec_fgTo.bn c2) (spec_fgTo.in1 (by omega)) c3.1 c3.2 (spec_fgTo.bn c4)
        · rw [if_neg (fun c => c3 c.1.1)]
          exact spec_fgTo.wr1000 a0 a1 (a1 + 1) (a1 + 2) _ w hm A0 h0.1 h0.2 (spec_fgTo.bn h46) (spec_fgTo.bn h108) (spec_fgTo.wr (by omega) (by omega) (by omega)) (spec_fgTo.wr (by omega) (by omega) (by omega)) (spec_fgTo.in1 (by omega)) c1.1 c1.2 (spec_fgTo.bn c2) (spec_fgTo.in0 (by omega))
    · rw [if_neg (fun c => c1 c.1), if_neg (fun c => c1 (by omega))]
      exact spec_fgTo.wr0000 a0 a1 (a1 + 1) (a1 + 2) _ w hm A0 h0.1 h0.2 (spec_fgTo.bn h46) (spec_fgTo.bn h108) (spec_fgTo.wr (by omega) (by omega) (by omega)) (spec_fgTo.wr (by omega) (by omega) (by omega)) (spec_fgTo.in0 (by omega)) (spec_fgTo.in0 (by omega))

/-! ### spec_fgMoves: function 35 -/
--USES helper_iter
def spec_fgMoves.l0 : Nat → ByteArray → List Int → Nat → Option (List Int)
  | 0, _, _, _ => none
  | k + 1, s, acc, i => if i < s.size then ((spec_fgTo.f s (i : Int)).bind fun t => (if t ≥ 0 then (if acc.length < 1000 then (spec_fgMoves.l0 k s (acc ++ [(i : Int)]) (i + 1)) else (none)) else (spec_fgMoves.l0 k s acc (i + 1)))) else (some acc)
def spec_fgMoves.f (a0 : ByteArray) : Option (List Int) := if a0.size ≤ 1000 ∧ asciiB a0 = true then (spec_fgMoves.l0 (a0.size + 1) a0 [] 0) else none
theorem spec_fgMoves.kept {W w1 : World} {nd : Nat} {row : Option Nat} {g : Nat} {o : Obj} (hg : (W.drewN nd).grownBy w1 row) (h1 : g < W.heap.size) (h2 : ¬ row = some g) (h : W.heap[g]? = some o) : w1.heap[g]? = some o := by
  have h3 := hg.block g (by simpa using h1) (fun e => h2 e.symm)
  rw [h3]; simpa using h
theorem info_int : (Tryd.prog.info? 3).map (fun i => (i.zero, i.size, i.bytes)) = some (some (.int .i64 0), 1, 8) := by kernel_rfl
set_option maxHeartbeats 8000000 in
set_option maxRecDepth 100000 in
theorem spec_fgMoves.calls (a0 : ByteArray) (r : List Int) (w : World) (h : spec_fgMoves.f a0 = some r) :
    Calls Tryd.prog 35 #[.string a0] w fun e w' => ∃ v0_ : Value, e = .returned (v0_) ∧ Kd.R (Kd.int .i64) 3 w' w.heap.size (fun _ => True) v0_ r ∧ Below w.heap.size w w' := by
  unfold spec_fgMoves.f at h
  by_cases c : a0.size ≤ 1000 ∧ asciiB a0 = true
  case neg => rw [if_neg c] at h; cases h
  rw [if_pos c] at h
  have H' := Aside0.mk h
  have HC := Aside0.mk c
  clear h c
  obtain ⟨K, hK⟩ : ∃ K, K = a0.size + 1 := ⟨_, rfl⟩
  rw [← hK] at H'
  have HK := Aside0.mk hK
  clear hK
  go_enter Tryd.func35, Tryd.ntmps35
  go_wp2
  go_loopg [3] K (fun kq v3 w' => ∃ (acc : List Int) (pos : Nat), Aside0 (spec_fgMoves.l0 kq a0 acc pos = some r) ∧ Aside0 (kq ≤ K) ∧ Aside0 (Kd.R (Kd.int .i64) 3 w' w.heap.size (fun k => k ≠ w.heap.size) v3 acc) ∧ Aside0 (Below w.heap.size w w') ∧ Aside0 (w'.heap[w.heap.size]? = some (.stringIter a0 pos)))
  case atStart => exact ⟨[], 0, H', ⟨Nat.le_refl _⟩, ⟨Kd.R_nil _ _ _ _ _⟩, ⟨below_alloc (Below.refl _ _) _⟩, ⟨World.iter_heap w a0 0⟩⟩
  case round =>
    clear H'
    obtain ⟨acc, pos, HA, HK1, HO, HB, HI⟩ := hrel
    cases gk with
    | zero => exact absurd HA.out (by simp [spec_fgMoves.l0])
    | succ k1 =>
      have H := HA.out
      clear HA
      simp only [spec_fgMoves.l0] at H
      by_cases c2 : pos < a0.size
      · rw [if_pos c2] at H
        obtain ⟨t, ht, H⟩ := Option.bind_eq_some_iff.mp H
        replace H : (if t ≥ 0 then (if acc.length < 1000 then (spec_fgMoves.l0 k1 a0 (acc ++ [(pos : Int)]) (pos + 1)) else (none)) else (spec_fgMoves.l0 k1 a0 acc (pos + 1))) = some r := H
        have A5 := Aside0.mk ht
        clear ht
        obtain ⟨W2, hnx0, hI2, hoth, hsz, hos, htp, hout⟩ := iter_next (P := Tryd.prog) wr w.heap.size a0 pos HI.out c2 (asciiB_at HC.out.2 pos c2)
        have hB2 : Below w.heap.size w W2 := by
          have hb := HB.out
          exact ⟨hos.trans hb.os, htp.trans hb.tape, hout.trans hb.output, by rw [hsz]; exact hb.size, fun k hk => (hoth k (by omega)).trans (hb.block k hk)⟩
        have hO2 := Kd.R_move HO.out (fun k hk => hoth k hk)
        have hg2 : w.heap.size < W2.heap.size := (Array.getElem?_eq_some_iff.1 hI2).1
        clear HI HO HB hoth hsz hos htp hout
        have hnx := fun ty => hnx0 ty
        clear hnx0
        have HO := Aside0.mk hO2
        have HB := Aside0.mk hB2
        have HI := Aside0.mk hI2
        have HG := Aside0.mk hg2
        clear hO2 hB2 hI2 hg2
        by_cases ct : t ≥ 0
        · rw [if_pos ct] at H
          by_cases cl : acc.length < 1000
          · rw [if_pos cl] at H
            have LM := Aside0.mk cl
            have H' := Aside0.mk H
            have ctb : decide (0 ≤ t) = true := decide_eq_true ct
            clear cl H ct
            go_wp2_with (first | (go_at_call 58; (with_reducible refine (spec_fgTo.calls a0 (pos : Int) t _ A5.out).mono ?_); rintro e w' ⟨rfl, ⟨nd, rfl⟩⟩) | (at_builtin; (refine Kd.R_append (Kd.int .i64) (w0 := w) w.heap.size rfl (.tmp 14) (.tmp 16) 34 3 (.int .i64 0) 8 rfl Tryd.underlying34 info_int rfl (by decide) (by omega) u3 acc (pos : Int) [.int .i64 (pos : Int)] (fun k => k ≠ w.heap.size) (fun _ => False) rfl rfl ?aP (fun _ hk => hk.elim) ?aF ?aO ?aB ?aS ?aL ?_; (case aP => exact rfl); (case aB => exact pw_below_drewN HB.out _); (case aF => exact (fun k hk e => by have h1 := HG.out; have h2 : W2.heap.size ≤ k := (by simpa using hk); omega)); (case aO => exact Kd.R_drewN HO.out _); (case aS => exact (by have h1 := HG.out; simp; omega)); (case aL => have := LM.out; omega); intro v105 w8 ho hb hg hat; have HOn := Aside0.mk ho; have HBn := Aside0.mk hb; have HIn := Aside0.mk (show w8.heap[w.heap.size]? = some (.stringIter a0 (pos + 1)) from spec_fgMoves.kept hg HG.out (fun e => HO.out.1 w.heap.size e rfl) HI.out); clear HB HO HI ho hb hg hat)))
            go_roundg k1
            case measure => have := HK1.out; omega
            case rel => exact ⟨acc ++ [(pos : Int)], pos + 1, H', ⟨by have := HK1.out; omega⟩, HOn, HBn, HIn⟩
          · rw [if_neg cl] at H
            cases H
        · rw [if_neg ct] at H
          have H' := Aside0.mk H
          have ctb : decide (0 ≤ t) = false := decide_eq_false ct
          clear H ct
          go_wp2_with (go_at_call 58; (with_reducible refine (spec_fgTo.calls a0 (pos : Int) t _ A5.out).mono ?_); rintro e w' ⟨rfl, ⟨nd, rfl⟩⟩)
          go_roundg k1
          case measure => have := HK1.out; omega
          case rel => exact ⟨acc, pos + 1, H', ⟨by have := HK1.out; omega⟩, ⟨Kd.R_drewN HO.out _⟩, ⟨pw_below_drewN HB.out _⟩, HI⟩
      · rw [if_neg c2] at H
        obtain rfl := Option.some.inj H
        have hnx : ∀ ty, (Instr.next (.pointer (some ⟨w.heap.size, 0, none⟩)) true ty).run Tryd.prog wr = .ok (.tuple #[.bool false]) wr := fun ty => iter_end wr w.heap.size a0 pos ty HI.out c2
        clear H
        go_wp2
        go_ret
        exact ⟨_, rfl, Kd.R_mono HO.out (fun _ _ => trivial), HB.out⟩


end Go.Proofs.YtkikpfeipejnlaaDoor.PFnExactStuckPonds
