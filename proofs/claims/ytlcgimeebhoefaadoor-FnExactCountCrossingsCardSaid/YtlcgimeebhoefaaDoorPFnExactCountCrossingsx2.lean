-- Printed by this session's eprint.py over the kit's print (with this session's own texts for some functions)
import Derived.Test.YtlcgimeebhoefaaDoorPFnExactCountCrossingsx0
import Derived.Test.YtlcgimeebhoefaaDoorPFnExactCountCrossingsx1
namespace Go.Proofs.YtlcgimeebhoefaaDoor.PFnExactCountCrossings
open Go.RowKit Go.Proofs.YtlcgimeebhoefaaDoorW.PrintWords Go.Proofs.YtlcgimeebhoefaaDoorW.PrintLast Go.Proofs.YtlcgimeebhoefaaDoorW.PrintMore
attribute [local go_sem] max2_int min2_int max_two min_two max_three min_three max_four min_four   -- for this text's walks alone
set_option linter.unusedVariables false
set_option linter.unusedSimpArgs false

/-! ### spec_CountCrossings: function 29 -/
def spec_CountCrossings.l0 : Nat → Int → List Int → Int → Int → Option (Int × Bool)
  | 0, _, _, _, _ => none
  | k + 1, x6, x15, x16, x17 => if x17 < x16 then (if 0 ≤ x17 then (if x17 < (x15.length : Int) then ((spec_l1Least.f (wrap64 (x6 + (rd x15 x17))) 1000000000000001).bind fun t109 => (spec_CountCrossings.l0 k t109 x15 x16 (wrap64 (x17 + 1)))) else (none)) else (none)) else (if x6 > 1000000000000000 then (some (0, false)) else (some (x6, true)))
def spec_CountCrossings.f (k : Nat) (a0 : ByteArray) (a1 : Int) : Option (Int × Bool) := (spec_rvAsked.f k a0 a1).bind fun t104 => (if t104 = true then ((spec_rvCount.f a0 a1).bind fun t105 => (spec_CountCrossings.l0 k 0 t105 (t105.length : Int) 0)) else (some (0, false)))
theorem spec_CountCrossings.mono_l : ∀ k, (∀ y0 y1 y2 y3, LeO (spec_CountCrossings.l0 k y0 y1 y2 y3) (spec_CountCrossings.l0 (k + 1) y0 y1 y2 y3))
  | 0 => fun _ _ _ _ r h => by simp [spec_CountCrossings.l0] at h
  | k + 1 => by
    have ih0 := spec_CountCrossings.mono_l k
    · intro y0 y1 y2 y3
      unfold spec_CountCrossings.l0
      repeat' first
      | (with_reducible exact ih0 _ _ _ _)
      | (with_reducible exact spec_rvAsked.mono _ _ _)
      | (with_reducible exact LeO.refl _)
      | (with_reducible exact LeO.none _)
      | (with_reducible refine LeO.ite ?_ ?_)
      | (with_reducible refine LeO.bind ?_ (fun _ => ?_))
      | exact ih0 _ _ _ _
      | exact spec_rvAsked.mono _ _ _
      | exact LeO.none _
      | refine LeO.ite ?_ ?_
      | refine LeO.bind ?_ (fun _ => ?_)
theorem spec_CountCrossings.mono : ∀ a0 a1 k, LeO (spec_CountCrossings.f k a0 a1) (spec_CountCrossings.f (k + 1) a0 a1) := by
  intro a0 a1 k
  have ih0 := spec_CountCrossings.mono_l k
  unfold spec_CountCrossings.f
  repeat' first
      | (with_reducible exact ih0 _ _ _ _)
      | (with_reducible exact spec_rvAsked.mono _ _ _)
      | (with_reducible exact LeO.refl _)
      | (with_reducible exact LeO.none _)
      | (with_reducible refine LeO.ite ?_ ?_)
      | (with_reducible refine LeO.bind ?_ (fun _ => ?_))
      | exact ih0 _ _ _ _
      | exact spec_rvAsked.mono _ _ _
      | exact LeO.none _
      | refine LeO.ite ?_ ?_
      | refine LeO.bind ?_ (fun _ => ?_)
set_option maxHeartbeats 8000000 in
set_option maxRecDepth 100000 in
theorem spec_CountCrossings.calls (k : Nat) (a0 : ByteArray) (a1 : Int) (r1 : Int) (r2 : Bool) (w : World) (h : spec_CountCrossings.f k a0 a1 = some (r1, r2)) :
    Calls Tryd.prog 29 #[.string a0, .int .i64 a1] w fun e w' => e = .returned (.tuple #[.int .i64 r1, .bool r2]) ∧ Below w.heap.size w w' := by
  have HB := Aside0.mk (Below.refl w.heap.size w)
  have H : ((spec_rvAsked.f k a0 a1).bind fun t104 => (if t104 = true then ((spec_rvCount.f a0 a1).bind fun t105 => (spec_CountCrossings.l0 k 0 t105 (t105.length : Int) 0)) else (some (0, false)))) = some (r1, r2) := h
  clear h
  replace H := Option.bind_eq_some_iff.mp H
  obtain ⟨t104, A30, H⟩ := H
  replace H : (if t104 = true then ((spec_rvCount.f a0 a1).bind fun t105 => (spec_CountCrossings.l0 k 0 t105 (t105.length : Int) 0)) else (some (0, false))) = some (r1, r2) := H
  have A3 := Aside0.mk A30
  clear A30
  by_cases c4 : t104 = true
  · subst c4
    have H1 : ((spec_rvCount.f a0 a1).bind fun t105 => (spec_CountCrossings.l0 k 0 t105 (t105.length : Int) 0)) = some (r1, r2) := by rw [if_pos rfl] at H; exact H
    clear H
    have H := H1
    clear H1
    replace H := Option.bind_eq_some_iff.mp H
    obtain ⟨t105, A50, H⟩ := H
    replace H : (spec_CountCrossings.l0 k 0 t105 (t105.length : Int) 0) = some (r1, r2) := H
    have A5 := Aside0.mk A50
    clear A50
    have H' := Aside0.mk H
    clear H
    go_enter Tryd.func29, Tryd.ntmps29
    go_wp2_with (first | ((with_reducible refine gate_callee (f := 33) rfl ?_); refine goesL_ (some 11) rfl rfl Tryd.func33 (by kernel_rfl) rfl #[.string a0, .int .i64 a1] rfl (by (try simp only [List.map_toArray, List.map_cons, List.map_nil]); first | done | rfl | (simp only [List.length_drop, List.length_take]; rfl)) ?_; (with_reducible refine (spec_rvAsked.calls k a0 a1 true _ A3.out).mono ?_); rintro e w' ⟨rfl, ⟨nd, rfl⟩⟩; refine ⟨_, rfl, ?_⟩) | ((with_reducible refine gate_callee (f := 48) rfl ?_); refine goesL_ (some 15) rfl rfl Tryd.func48 (by kernel_rfl) rfl #[.string a0, .int .i64 a1] rfl (by (try simp only [List.map_toArray, List.map_cons, List.map_nil]); first | done | rfl | (simp only [List.length_drop, List.length_take]; rfl)) ?_; (with_reducible refine (spec_rvCount.calls a0 a1 t105 _ A5.out).mono ?_); rintro e w6 ⟨v106, rfl, ho0, hb⟩; refine ⟨_, rfl, ?_⟩; have n0_ := Aside0.mk (Kd.R_lower ho0 (below_size (by repeat (first | (with_reducible first | exact HB.out | apply below_alloc | apply pw_below_drewN | apply below_drew1) | exact HB.out)))); have n1_ := Aside0.mk (below_step (by repeat (first | (with_reducible first | exact HB.out | apply below_alloc | apply pw_below_drewN | apply below_drew1) | exact HB.out)) hb); clear HB; have HO107 := n0_; have HB := n1_; clear n0_ n1_; (try clear hb); (try clear hb2); (try clear hk); (try clear hi); (try clear ho0); obtain ⟨Ao7, co7, eo7⟩ := Kd.R_slice HO107.out; subst eo7))
    go_loopg [6, 17] k (fun kq v6 v17 w' => ∃ (x6_1 : Int) (x17_1 : Int), v6 = .int .i64 x6_1 ∧ v17 = .int .i64 x17_1 ∧ Aside0 (spec_CountCrossings.l0 kq x6_1 t105 (t105.length : Int) x17_1 = some (r1, r2)) ∧ Aside0 (kq ≤ k) ∧ Aside0 (Kd.R (Kd.int .i64) 3 w' w.heap.size (fun _ => True) (.slice Ao7 t105.length co7) t105) ∧ Aside0 (Below w.heap.size w w'))
    case atStart => exact ⟨(0), (0), (by first | rfl | (simp; done) | (simp [*]; done)), (by first | rfl | (simp; done) | (simp [*]; done)), H', ⟨Nat.le_refl _⟩, ⟨by (with_reducible repeat (first | apply Kd.R_alloc | apply Kd.R_drewN | apply Kd.R_drew)); exact HO107.out⟩, ⟨by repeat (first | (with_reducible first | exact HB.out | apply below_alloc | apply pw_below_drewN | apply below_drew1) | exact HB.out)⟩⟩
    case round =>
      clear H'
      try clear c2
      try clear p2
      try clear c3
      try clear c4
      obtain ⟨x6_1, x17_1, rfl, rfl, HA, HK1, HO_15, HB⟩ := hrel
      cases gk with
      | zero => exact absurd HA.out (by simp [spec_CountCrossings.l0])
      | succ k1 =>
        have H := HA.out
        clear HA
        simp only [spec_CountCrossings.l0] at H
        by_cases c8 : x17_1 < (t105.length : Int)
        · rw [if_pos c8] at H
          have c8b0 : decide (x17_1 < (t105.length : Int)) = true := decide_eq_true c8
          clear c8
          by_cases c9 : 0 ≤ x17_1
          · rw [if_pos c9] at H
            have c9b0 : decide (0 ≤ x17_1) = true := decide_eq_true c9
            clear c9
            by_cases c10 : x17_1 < (t105.length : Int)
            · rw [if_pos c10] at H
              have c10b0 : decide (x17_1 < (t105.length : Int)) = true := decide_eq_true c10
              clear c10
              replace H := Option.bind_eq_some_iff.mp H
              obtain ⟨t109, A110, H⟩ := H
              replace H : (spec_CountCrossings.l0 k1 t109 t105 (t105.length : Int) (wrap64 (x17_1 + 1))) = some (r1, r2) := H
              have A11 := Aside0.mk A110
              clear A110
              have H' := Aside0.mk H
              clear H
              have p108 : 0 ≤ (x17_1 : Int) := of_decide_eq_true (by first | (with_reducible assumption) | assumption)
              have q108 : x17_1 < (t105.length : Int) := of_decide_eq_true (by first | (with_reducible assumption) | assumption)
              obtain ⟨ad108, e108, hx108_0⟩ := Kd.at_int (Kd.R_reads' HO_15.out).2.2 x17_1 p108 q108
              cases e108
              replace p108 := eq_true p108
              replace q108 := eq_true q108
              go_wp2_with (first | ((with_reducible refine gate_callee (f := 51) rfl ?_); refine goesL_ (some 24) rfl rfl Tryd.func51 (by kernel_rfl) rfl #[.int .i64 (wrap64 (x6_1 + (rd t105 x17_1))), .int .i64 1000000000000001] rfl (by (try simp only [List.map_toArray, List.map_cons, List.map_nil]); first | done | rfl | (simp only [List.length_drop, List.length_take]; rfl)) ?_; (with_reducible refine (spec_l1Least.calls (wrap64 (x6_1 + (rd t105 x17_1))) 1000000000000001 t109 _ A11.out).mono ?_); rintro e w' ⟨rfl, ⟨nd, rfl⟩⟩; refine ⟨_, rfl, ?_⟩))
              go_roundg k1
              case measure => have := HK1.out; omega
              case rel => exact ⟨(t109), (wrap64 (x17_1 + 1)), (by first | rfl | (simp; done) | (simp [*]; done)), (by first | rfl | (simp; done) | (simp [*]; done)), H', ⟨by have := HK1.out; omega⟩, ⟨by (with_reducible repeat (first | apply Kd.R_alloc | apply Kd.R_drewN | apply Kd.R_drew)); exact HO_15.out⟩, ⟨by repeat (first | (with_reducible first | exact HB.out | apply below_alloc | apply pw_below_drewN | apply below_drew1) | exact HB.out)⟩⟩
            · rw [if_neg c10] at H
              exact absurd H (by simp)
          · rw [if_neg c9] at H
            exact absurd H (by simp)
        · rw [if_neg c8] at H
          have c8b0 : decide (x17_1 < (t105.length : Int)) = false := decide_eq_false c8
          clear c8
          by_cases c12 : x6_1 > 1000000000000000
          · rw [if_pos c12] at H
            have c12b0 : decide (1000000000000000 < x6_1) = true := decide_eq_true c12
            clear c12
            simp only [Option.some.injEq, Prod.mk.injEq] at H
            obtain ⟨rfl, rfl⟩ := H
            go_wp2
            go_ret2
            exact ⟨by first | rfl | (simp [errW_none, errW_some] <;> rfl) | (simp [*, errW_none, errW_some] <;> rfl), by repeat (first | (with_reducible first | exact HB.out | apply below_alloc | apply pw_below_drewN | apply below_drew1) | exact HB.out)⟩
          · rw [if_neg c12] at H
            have c12b0 : decide (1000000000000000 < x6_1) = false := decide_eq_false c12
            clear c12
            simp only [Option.some.injEq, Prod.mk.injEq] at H
            obtain ⟨rfl, rfl⟩ := H
            go_wp2
            go_ret2
            exact ⟨by first | rfl | (simp [errW_none, errW_some] <;> rfl) | (simp [*, errW_none, errW_some] <;> rfl), by repeat (first | (with_reducible first | exact HB.out | apply below_alloc | apply pw_below_drewN | apply below_drew1) | exact HB.out)⟩
  · replace c4 := Bool.eq_false_iff.mpr c4
    subst c4
    have H1 : (some (0, false)) = some (r1, r2) := by rw [if_neg (show ¬ (false = true) by decide)] at H; exact H
    clear H
    have H := H1
    clear H1
    simp only [Option.some.injEq, Prod.mk.injEq] at H
    obtain ⟨rfl, rfl⟩ := H
    go_enter Tryd.func29, Tryd.ntmps29
    go_wp2_with (first | ((with_reducible refine gate_callee (f := 33) rfl ?_); refine goesL_ (some 11) rfl rfl Tryd.func33 (by kernel_rfl) rfl #[.string a0, .int .i64 a1] rfl (by (try simp only [List.map_toArray, List.map_cons, List.map_nil]); first | done | rfl | (simp only [List.length_drop, List.length_take]; rfl)) ?_; (with_reducible refine (spec_rvAsked.calls k a0 a1 false _ A3.out).mono ?_); rintro e w' ⟨rfl, ⟨nd, rfl⟩⟩; refine ⟨_, rfl, ?_⟩))
    go_ret2
    exact ⟨by first | rfl | (simp [errW_none, errW_some] <;> rfl) | (simp [*, errW_none, errW_some] <;> rfl), by repeat (first | (with_reducible first | exact HB.out | apply below_alloc | apply pw_below_drewN | apply below_drew1) | exact HB.out)⟩

/-! ### impl_within: function 49 -/
def impl_within.f (a0 : Int) (a1 : Int) (a2 : Int) : Option (Bool) := if a1 ≤ a0 then (some (decide (a0 ≤ a2))) else (some false)
set_option maxHeartbeats 8000000 in
set_option maxRecDepth 100000 in
theorem impl_within.calls (a0 : Int) (a1 : Int) (a2 : Int) (r : Bool) (w : World) (h : impl_within.f a0 a1 a2 = some r) :
    Calls Tryd.prog 49 #[.int .i64 a0, .int .i64 a1, .int .i64 a2] w fun e w' => e = .returned (.bool r) ∧ Drawn0 w w' := by
  have H : (if a1 ≤ a0 then (some (decide (a0 ≤ a2))) else (some false)) = some r := h
  clear h
  by_cases c4 : a1 ≤ a0
  · rw [if_pos c4] at H
    have c4b0 : decide (a1 ≤ a0) = true := decide_eq_true c4
    clear c4
    obtain rfl := Option.some.inj H
    go_enter Tryd.func49, Tryd.ntmps49
    go_wp2
    go_ret
    exact ⟨by first | rfl | (simp; done) | (simp [*]; done), by repeat (first | exact Drawn0.refl _ | apply Drawn0.step)⟩
  · rw [if_neg c4] at H
    have c4b0 : decide (a1 ≤ a0) = false := decide_eq_false c4
    clear c4
    obtain rfl := Option.some.inj H
    go_enter Tryd.func49, Tryd.ntmps49
    go_wp2
    go_ret
    exact ⟨by first | rfl | (simp; done) | (simp [*]; done), by repeat (first | exact Drawn0.refl _ | apply Drawn0.step)⟩

/-! ### strings_Trim: function 59 -/
def strings_Trim.ok (cs : ByteArray) : Bool := cs.data.toList.all fun b => decide (b.toNat < 128)
def strings_Trim.f (a0 : ByteArray) (a1 : ByteArray) : Option (ByteArray) := if a0.size ≤ 9223372036854775807 ∧ a1.size < 4294967281 ∧ strings_Trim.ok a1 = true then (some ⟨(Lib.trimS a0.data.toList a1.data.toList).toArray⟩) else none
theorem strings_Trim.calls (a0 : ByteArray) (a1 : ByteArray) (r : ByteArray) (w : World) (h : strings_Trim.f a0 a1 = some r) :
    Calls Tryd.prog 59 #[.string a0, .string a1] w fun e w' => e = .returned (.string r) ∧ Below w.heap.size w w' := by
  unfold strings_Trim.f at h
  by_cases c : a0.size ≤ 9223372036854775807 ∧ a1.size < 4294967281 ∧ strings_Trim.ok a1 = true
  · rw [if_pos c] at h
    obtain rfl := Option.some.inj h
    obtain ⟨h0, h1, h2⟩ := c
    have hcon := Any.strings_Trim_laid Tryd.lays160 (by kernel_rfl) a0 a1 w h0 h1 (fun j b hb => by
      have h3 := List.all_eq_true.mp h2 b (List.mem_of_getElem? hb)
      exact of_decide_eq_true h3)
    exact hcon
  · rw [if_neg c] at h
    cases h


/-! ### impl_IsRiver: function 53 -/
def impl_IsRiver.f (a0 : ByteArray) : Option (Bool) := (impl_within.f (a0.size : Int) 1 40).bind fun t110 => (if t110 = true then ((strings_Trim.f a0 (⟨#[111, 46]⟩ : ByteArray)).bind fun t111 => (some (t111.toList == ([] : List UInt8)))) else (some false))
set_option maxHeartbeats 8000000 in
set_option maxRecDepth 100000 in
theorem impl_IsRiver.calls (a0 : ByteArray) (r : Bool) (w : World) (h : impl_IsRiver.f a0 = some r) :
    Calls Tryd.prog 53 #[.string a0] w fun e w' => e = .returned (.bool r) ∧ Below w.heap.size w w' := by
  have HB := Aside0.mk (Below.refl w.heap.size w)
  have H : ((impl_within.f (a0.size : Int) 1 40).bind fun t110 => (if t110 = true then ((strings_Trim.f a0 (⟨#[111, 46]⟩ : ByteArray)).bind fun t111 => (some (t111.toList == ([] : List UInt8)))) else (some false))) = some r := h
  clear h
  replace H := Option.bind_eq_some_iff.mp H
  obtain ⟨t110, A20, H⟩ := H
  replace H : (if t110 = true then ((strings_Trim.f a0 (⟨#[111, 46]⟩ : ByteArray)).bind fun t111 => (some (t111.toList == ([] : List UInt8)))) else (some false)) = some r := H
  have A2 := Aside0.mk A20
  clear A20
  by_cases c3 : t110 = true
  · subst c3
    have H1 : ((strings_Trim.f a0 (⟨#[111, 46]⟩ : ByteArray)).bind fun t111 => (some (t111.toList == ([] : List UInt8)))) = some r := by rw [if_pos rfl] at H; exact H
    clear H
    have H := H1
    clear H1
    replace H := Option.bind_eq_some_iff.mp H
    obtain ⟨t111, A40, H⟩ := H
    replace H : (some (t111.toList == ([] : List UInt8))) = some r := H
    have A4 := Aside0.mk A40
    clear A40
    obtain rfl := Option.some.inj H
    go_enter Tryd.func53, Tryd.ntmps53
    go_wp2_with (first | ((with_reducible refine gate_callee (f := 49) rfl ?_); refine goesL_ (some 5) rfl rfl Tryd.func49 (by kernel_rfl) rfl #[.int .i64 (a0.size : Int), .int .i64 1, .int .i64 40] rfl (by (try simp only [List.map_toArray, List.map_cons, List.map_nil]); first | done | rfl | (simp only [List.length_drop, List.length_take]; rfl)) ?_; (with_reducible refine (impl_within.calls (a0.size : Int) 1 40 true _ A2.out).mono ?_); rintro e w' ⟨rfl, ⟨nd, rfl⟩⟩; refine ⟨_, rfl, ?_⟩) | (go_at_call 59; (with_reducible refine (strings_Trim.calls a0 (⟨#[111, 46]⟩ : ByteArray) t111 _ A4.out).mono ?_); rintro e w5 ⟨rfl, hb⟩; have n0_ := Aside0.mk (below_step (by repeat (first | (with_reducible first | exact HB.out | apply below_alloc | apply pw_below_drewN | apply below_drew1) | exact HB.out)) hb); clear HB; have HB := n0_; clear n0_; (try clear hb); (try clear hb2); (try clear hk); (try clear hi)))
    go_ret
    exact ⟨by first | rfl | (simp [errW_none, errW_some] <;> rfl) | (simp [*, errW_none, errW_some] <;> rfl), by repeat (first | (with_reducible first | exact HB.out | apply below_alloc | apply pw_below_drewN | apply below_drew1) | exact HB.out)⟩
  · replace c3 := Bool.eq_false_iff.mpr c3
    subst c3
    have H1 : (some false) = some r := by rw [if_neg (show ¬ (false = true) by decide)] at H; exact H
    clear H
    have H := H1
    clear H1
    obtain rfl := Option.some.inj H
    go_enter Tryd.func53, Tryd.ntmps53
    go_wp2_with (first | ((with_reducible refine gate_callee (f := 49) rfl ?_); refine goesL_ (some 5) rfl rfl Tryd.func49 (by kernel_rfl) rfl #[.int .i64 (a0.size : Int), .int .i64 1, .int .i64 40] rfl (by (try simp only [List.map_toArray, List.map_cons, List.map_nil]); first | done | rfl | (simp only [List.length_drop, List.length_take]; rfl)) ?_; (with_reducible refine (impl_within.calls (a0.size : Int) 1 40 false _ A2.out).mono ?_); rintro e w' ⟨rfl, ⟨nd, rfl⟩⟩; refine ⟨_, rfl, ?_⟩))
    go_ret
    exact ⟨by first | rfl | (simp [errW_none, errW_some] <;> rfl) | (simp [*, errW_none, errW_some] <;> rfl), by repeat (first | (with_reducible first | exact HB.out | apply below_alloc | apply pw_below_drewN | apply below_drew1) | exact HB.out)⟩

/-! ### impl_isCrossed: function 35 -/
def impl_isCrossed.f (a0 : ByteArray) (a1 : Int) : Option (Bool) := (impl_IsRiver.f a0).bind fun t112 => (if t112 = true then ((impl_within.f a1 1 50).bind fun t113 => (some t113)) else (some false))
set_option maxHeartbeats 8000000 in
set_option maxRecDepth 100000 in
theorem impl_isCrossed.calls (a0 : ByteArray) (a1 : Int) (r : Bool) (w : World) (h : impl_isCrossed.f a0 a1 = some r) :
    Calls Tryd.prog 35 #[.string a0, .int .i64 a1] w fun e w' => e = .returned (.bool r) ∧ Below w.heap.size w w' := by
  have HB := Aside0.mk (Below.refl w.heap.size w)
  have H : ((impl_IsRiver.f a0).bind fun t112 => (if t112 = true then ((impl_within.f a1 1 50).bind fun t113 => (some t113)) else (some false))) = some r := h
  clear h
  replace H := Option.bind_eq_some_iff.mp H
  obtain ⟨t112, A30, H⟩ := H
  replace H : (if t112 = true then ((impl_within.f a1 1 50).bind fun t113 => (some t113)) else (some false)) = some r := H
  have A3 := Aside0.mk A30
  clear A30
  by_cases c4 : t112 = true
  · subst c4
    have H1 : ((impl_within.f a1 1 50).bind fun t113 => (some t113)) = some r := by rw [if_pos rfl] at H; exact H
    clear H
    have H := H1
    clear H1
    replace H := Option.bind_eq_some_iff.mp H
    obtain ⟨t113, A50, H⟩ := H
    replace H : (some t113) = some r := H
    have A5 := Aside0.mk A50
    clear A50
    obtain rfl := Option.some.inj H
    go_enter Tryd.func35, Tryd.ntmps35
    go_wp2_with (first | ((with_reducible refine gate_callee (f := 53) rfl ?_); refine goesL_ (some 6) rfl rfl Tryd.func53 (by kernel_rfl) rfl #[.string a0] rfl (by (try simp only [List.map_toArray, List.map_cons, List.map_nil]); first | done | rfl | (simp only [List.length_drop, List.length_take]; rfl)) ?_; (with_reducible refine (impl_IsRiver.calls a0 true _ A3.out).mono ?_); rintro e w6 ⟨rfl, hb⟩; refine ⟨_, rfl, ?_⟩; have n0_ := Aside0.mk (below_step (by repeat (first | (with_reducible first | exact HB.out | apply below_alloc | apply pw_below_drewN | apply below_drew1) | exact HB.out)) hb); clear HB; have HB := n0_; clear n0_; (try clear hb); (try clear hb2); (try clear hk); (try clear hi)) | (go_at_call 49; (with_reducible refine (impl_within.calls a1 1 50 t113 _ A5.out).mono ?_); rintro e w' ⟨rfl, ⟨nd, rfl⟩⟩))
    go_ret
    exact ⟨by first | rfl | (simp [errW_none, errW_some] <;> rfl) | (simp [*, errW_none, errW_some] <;> rfl), by repeat (first | (with_reducible first | exact HB.out | apply below_alloc | apply pw_below_drewN | apply below_drew1) | exact HB.out)⟩
  · replace c4 := Bool.eq_false_iff.mpr c4
    subst c4
    have H1 : (some false) = some r := by rw [if_neg (show ¬ (false = true) by decide)] at H; exact H
    clear H
    have H := H1
    clear H1
    obtain rfl := Option.some.inj H
    go_enter Tryd.func35, Tryd.ntmps35
    go_wp2_with (first | ((with_reducible refine gate_callee (f := 53) rfl ?_); refine goesL_ (some 6) rfl rfl Tryd.func53 (by kernel_rfl) rfl #[.string a0] rfl (by (try simp only [List.map_toArray, List.map_cons, List.map_nil]); first | done | rfl | (simp only [List.length_drop, List.length_take]; rfl)) ?_; (with_reducible refine (impl_IsRiver.calls a0 false _ A3.out).mono ?_); rintro e w7 ⟨rfl, hb⟩; refine ⟨_, rfl, ?_⟩; have n0_ := Aside0.mk (below_step (by repeat (first | (with_reducible first | exact HB.out | apply below_alloc | apply pw_below_drewN | apply below_drew1) | exact HB.out)) hb); clear HB; have HB := n0_; clear n0_; (try clear hb); (try clear hb2); (try clear hk); (try clear hi)))
    go_ret
    exact ⟨by first | rfl | (simp [errW_none, errW_some] <;> rfl) | (simp [*, errW_none, errW_some] <;> rfl), by repeat (first | (with_reducible first | exact HB.out | apply below_alloc | apply pw_below_drewN | apply below_drew1) | exact HB.out)⟩

/-! ### impl_stand: function 54 -/
def impl_stand.l0 : Nat → ByteArray → List Int → Int → Int → Option (List Int)
  | 0, _, _, _, _ => none
  | k + 1, x0, x3, x7, x8 => if x8 < x7 then (if 0 ≤ x8 then (if x8 < (x0.size : Int) then (if (bt x0 x8) = 111 then (if x3.length < 17592186044416 then (impl_stand.l0 k x0 (x3 ++ [wrap64 (x8 + 1)]) x7 (wrap64 (x8 + 1))) else (none)) else (impl_stand.l0 k x0 x3 x7 (wrap64 (x8 + 1)))) else (none)) else (none)) else (if x3.length < 17592186044416 then (some (x3 ++ [wrap64 ((x0.size : Int) + 1)])) else (none))
def impl_stand.f (k : Nat) (a0 : ByteArray) : Option (List Int) := impl_stand.l0 k a0 (([0] : List Int)) (a0.size : Int) 0
theorem impl_stand.mono_l : ∀ k, (∀ y0 y1 y2 y3, LeO (impl_stand.l0 k y0 y1 y2 y3) (impl_stand.l0 (k + 1) y0 y1 y2 y3))
  | 0 => fun _ _ _ _ r h => by simp [impl_stand.l0] at h
  | k + 1 => by
    have ih0 := impl_stand.mono_l k
    · intro y0 y1 y2 y3
      unfold impl_stand.l0
      repeat' first
      | (with_reducible exact ih0 _ _ _ _)
      | (with_reducible exact LeO.refl _)
      | (with_reducible exact LeO.none _)
      | (with_reducible refine LeO.ite ?_ ?_)
      | (with_reducible refine LeO.bind ?_ (fun _ => ?_))
      | exact ih0 _ _ _ _
      | exact LeO.none _
      | refine LeO.ite ?_ ?_
      | refine LeO.bind ?_ (fun _ => ?_)
theorem impl_stand.mono : ∀ a0 k, LeO (impl_stand.f k a0) (impl_stand.f (k + 1) a0) := by
  intro a0 k
  have ih0 := impl_stand.mono_l k
  unfold impl_stand.f
  repeat' first
      | (with_reducible exact ih0 _ _ _ _)
      | (with_reducible exact LeO.refl _)
      | (with_reducible exact LeO.none _)
      | (with_reducible refine LeO.ite ?_ ?_)
      | (with_reducible refine LeO.bind ?_ (fun _ => ?_))
      | exact ih0 _ _ _ _
      | exact LeO.none _
      | refine LeO.ite ?_ ?_
      | refine LeO.bind ?_ (fun _ => ?_)
set_option maxHeartbeats 8000000 in
set_option maxRecDepth 100000 in
theorem impl_stand.calls (k : Nat) (a0 : ByteArray) (r : List Int) (w : World) (h : impl_stand.f k a0 = some r) :
    Calls Tryd.prog 54 #[.string a0] w fun e w' => ∃ v0_ : Value, e = .returned (v0_) ∧ Kd.R (Kd.int .i64) 3 w' w.heap.size (fun _ => True) v0_ r ∧ Below w.heap.size w w' := by
  have HB := Aside0.mk (Below.refl w.heap.size w)
  have H : (impl_stand.l0 k a0 (([0] : List Int)) (a0.size : Int) 0) = some r := h
  clear h
  obtain ⟨y114, hy114⟩ : ∃ y_ : List Int, y_ = (([0] : List Int)) := ⟨_, rfl⟩
  replace H : (impl_stand.l0 k a0 y114 (a0.size : Int) 0) = some r := by first | (rw [hy114]; with_reducible exact H) | (have H2_ := (Option.bind_some _ _).symm.trans H; rw [hy114]; with_reducible exact H2_) | (have H2_ := (Option.bind_some _ _).symm.trans H; with_reducible exact H2_) | with_reducible exact H | (rw [hy114]; exact H) | exact H
  have Ny114 := Aside0.mk hy114
  clear hy114
  have H' := Aside0.mk H
  clear H
  go_enter Tryd.func54, Tryd.ntmps54
  go_wp2_with (first | ((with_reducible refine gate_dst (N := 5) rfl ?_); refine Kd.R_lit (Kd.int .i64) _ 3 ?hg (N := 5) ?hd (xs := ([0] : List Int)) (inner := [.int .i64 0]) (ok := fun _ => True) (okp := fun _ => True) ?hr ?hp (fun _ hk => hk) trivial (Below.refl _ _) (Nat.le_refl _) (by simp) ?_; (case hd => rfl); (case hg => rfl); (case hr => first | (go_simp; done) | (go_simp; rfl)); (case hp => exact (Reps.one (show Kd.M (Kd.int .i64) _ _ _ 0 [.int .i64 0] from rfl) (Reps.none _ _))); intro v115 w2 ho3 hb hg_ hnew_; clear hg_ hnew_; (first | rw [← Ny114.out] at ho3 | (simp only [Int.reduceToNat] at ho3; rw [← Ny114.out] at ho3)); have n0_ := Aside0.mk (Kd.R_lower ho3 (below_size (by repeat (first | (with_reducible first | exact HB.out | apply below_alloc | apply pw_below_drewN | apply below_drew1) | exact HB.out)))); have n1_ := Aside0.mk (below_step (by repeat (first | (with_reducible first | exact HB.out | apply below_alloc | apply pw_below_drewN | apply below_drew1) | exact HB.out)) hb); clear HB; have HO116 := n0_; have HB := n1_; clear n0_ n1_; clear hb ho3))
  go_loopg [3, 8] k (fun kq v3 v8 w' => ∃ (x3_1 : List Int) (x8_1 : Int), v8 = .int .i64 x8_1 ∧ Aside0 (impl_stand.l0 kq a0 x3_1 (a0.size : Int) x8_1 = some r) ∧ Aside0 (kq ≤ k) ∧ Aside0 (Kd.R (Kd.int .i64) 3 w' w.heap.size (fun _ => True) v3 x3_1) ∧ Aside0 (Below w.heap.size w w'))
  case atStart => exact ⟨(y114), (0), (by first | rfl | (simp; done) | (simp [*]; done)), H', ⟨Nat.le_refl _⟩, ⟨by (with_reducible repeat (first | apply Kd.R_alloc | apply Kd.R_drewN | apply Kd.R_drew)); exact HO116.out⟩, ⟨by repeat (first | (with_reducible first | exact HB.out | apply below_alloc | apply pw_below_drewN | apply below_drew1) | exact HB.out)⟩⟩
  case round =>
    clear H'
    try clear p2
    obtain ⟨x3_1, x8_1, rfl, HA, HK1, HO_3, HB⟩ := hrel
    cases gk with
    | zero => exact absurd HA.out (by simp [impl_stand.l0])
    | succ k1 =>
      have H := HA.out
      clear HA
      simp only [impl_stand.l0] at H
      by_cases c4 : x8_1 < (a0.size : Int)
      · rw [if_pos c4] at H
        have c4b0 : decide (x8_1 < (a0.size : Int)) = true := decide_eq_true c4
        clear c4
        by_cases c5 : 0 ≤ x8_1
        · rw [if_pos c5] at H
          have c5b0 : decide (0 ≤ x8_1) = true := decide_eq_true c5
          clear c5
          by_cases c6 : x8_1 < (a0.size : Int)
          · rw [if_pos c6] at H
            have c6b0 : decide (x8_1 < (a0.size : Int)) = true := decide_eq_true c6
            clear c6
            by_cases c8 : (bt a0 x8_1) = 111
            · rw [if_pos c8] at H
              have c8b0 : ((bt a0 x8_1) == 111) = true := beq_iff_eq.mpr c8
              have c8b1 : ((bt a0 x8_1) != 111) = false := bne_eq_false_iff_eq.mpr c8
              clear c8
              by_cases c9 : x3_1.length < 17592186044416
              · rw [if_pos c9] at H
                have LMc9 := Aside0.mk c9
                clear c9
                obtain ⟨y117, hy117⟩ : ∃ y_ : List Int, y_ = (x3_1 ++ [wrap64 (x8_1 + 1)]) := ⟨_, rfl⟩
                replace H : (impl_stand.l0 k1 a0 y117 (a0.size : Int) (wrap64 (x8_1 + 1))) = some r := by first | (rw [hy117]; with_reducible exact H) | (have H2_ := (Option.bind_some _ _).symm.trans H; rw [hy117]; with_reducible exact H2_) | (have H2_ := (Option.bind_some _ _).symm.trans H; with_reducible exact H2_) | with_reducible exact H | (rw [hy117]; exact H) | exact H
                have Ny117 := Aside0.mk hy117
                clear hy117
                have H' := Aside0.mk H
                clear H
                have p7 : 0 ≤ (x8_1 : Int) := of_decide_eq_true (by first | (with_reducible assumption) | assumption)
                have q7 : x8_1 < (a0.size : Int) := of_decide_eq_true (by first | (with_reducible assumption) | assumption)
                have hx7 := bt_at a0 x8_1
                replace p7 := eq_true p7
                replace q7 := eq_true q7
                go_wp2_with (first | ((with_reducible refine gate_builtin (b := .append) (xs := #[.tmp 15, .tmp 18]) rfl ?_); at_builtin; refine Kd.R_append (Kd.int .i64) (w0 := w) w.heap.size rfl (.tmp 15) (.tmp 18) 27 3 (.int .i64 0) 8 rfl Tryd.underlying27 info3 rfl (by decide) (by omega) u3 x3_1 (wrap64 (x8_1 + 1)) [.int .i64 (wrap64 (x8_1 + 1))] (fun _ => True) (fun _ => False) rfl rfl ?aP (fun _ hk => hk.elim) ?aF ?aO ?aB ?aS ?aL ?_; (case aP => exact rfl); (case aB => exact (by repeat (first | (with_reducible first | exact HB.out | apply below_alloc | apply pw_below_drewN | apply below_drew1) | exact HB.out))); (case aF => exact (fun _ _ => trivial)); (case aO => exact (by (with_reducible repeat (first | apply Kd.R_alloc | apply Kd.R_drewN | apply Kd.R_drew)); exact HO_3.out)); (case aS => exact (below_size (by repeat (first | (with_reducible first | exact HB.out | apply below_alloc | apply pw_below_drewN | apply below_drew1) | exact HB.out)))); (case aL => have := LMc9.out; omega); intro v118 w10 ho hb hg hat; rw [← Ny117.out] at ho; have n0_ := Aside0.mk (hb); have n1_ := Aside0.mk (ho); clear HB; clear HO_3; have HB := n0_; have HO119 := n1_; clear n0_ n1_; clear ho hb hg hat))
                go_roundg k1
                case measure => have := HK1.out; omega
                case rel => exact ⟨(y117), (wrap64 (x8_1 + 1)), (by first | rfl | (simp; done) | (simp [*]; done)), H', ⟨by have := HK1.out; omega⟩, ⟨by (with_reducible repeat (first | apply Kd.R_alloc | apply Kd.R_drewN | apply Kd.R_drew)); exact HO119.out⟩, ⟨by repeat (first | (with_reducible first | exact HB.out | apply below_alloc | apply pw_below_drewN | apply below_drew1) | exact HB.out)⟩⟩
              · rw [if_neg c9] at H
                exact absurd H (by simp)
            · rw [if_neg c8] at H
              have c8b0 : ((bt a0 x8_1) == 111) = false := beq_eq_false_iff_ne.mpr c8
              have c8b1 : ((bt a0 x8_1) != 111) = true := bne_iff_ne.mpr c8
              have H' := Aside0.mk H
              clear H
              have p7 : 0 ≤ (x8_1 : Int) := of_decide_eq_true (by first | (with_reducible assumption) | assumption)
              have q7 : x8_1 < (a0.size : Int) := of_decide_eq_true (by first | (with_reducible assumption) | assumption)
              have hx7 := bt_at a0 x8_1
              replace p7 := eq_true p7
              replace q7 := eq_true q7
              go_wp2
              go_roundg k1
              case measure => have := HK1.out; omega
              case rel => exact ⟨(x3_1), (wrap64 (x8_1 + 1)), (by first | rfl | (simp; done) | (simp [*]; done)), H', ⟨by have := HK1.out; omega⟩, ⟨by (with_reducible repeat (first | apply Kd.R_alloc | apply Kd.R_drewN | apply Kd.R_drew)); exact HO_3.out⟩, ⟨by repeat (first | (with_reducible first | exact HB.out | apply below_alloc | apply pw_below_drewN | apply below_drew1) | exact HB.out)⟩⟩
          · rw [if_neg c6] at H
            exact absurd H (by simp)
        · rw [if_neg c5] at H
          exact absurd H (by simp)
      · rw [if_neg c4] at H
        have c4b0 : decide (x8_1 < (a0.size : Int)) = false := decide_eq_false c4
        clear c4
        by_cases c11 : x3_1.length < 17592186044416
        · rw [if_pos c11] at H
          have LMc11 := Aside0.mk c11
          clear c11
          obtain ⟨y120, hy120⟩ : ∃ y_ : List Int, y_ = (x3_1 ++ [wrap64 ((a0.size : Int) + 1)]) := ⟨_, rfl⟩
          replace H : (some y120) = some r := by first | (rw [hy120]; with_reducible exact H) | (have H2_ := (Option.bind_some _ _).symm.trans H; rw [hy120]; with_reducible exact H2_) | (have H2_ := (Option.bind_some _ _).symm.trans H; with_reducible exact H2_) | with_reducible exact H | (rw [hy120]; exact H) | exact H
          have Ny120 := Aside0.mk hy120
          clear hy120
          obtain rfl := Option.some.inj H
          go_wp2_with (first | ((with_reducible refine gate_builtin (b := .append) (xs := #[.tmp 21, .tmp 25]) rfl ?_); at_builtin; refine Kd.R_append (Kd.int .i64) (w0 := w) w.heap.size rfl (.tmp 21) (.tmp 25) 27 3 (.int .i64 0) 8 rfl Tryd.underlying27 info3 rfl (by decide) (by omega) u3 x3_1 (wrap64 ((a0.size : Int) + 1)) [.int .i64 (wrap64 ((a0.size : Int) + 1))] (fun _ => True) (fun _ => False) rfl rfl ?aP (fun _ hk => hk.elim) ?aF ?aO ?aB ?aS ?aL ?_; (case aP => exact rfl); (case aB => exact (by repeat (first | (with_reducible first | exact HB.out | apply below_alloc | apply pw_below_drewN | apply below_drew1) | exact HB.out))); (case aF => exact (fun _ _ => trivial)); (case aO => exact (by (with_reducible repeat (first | apply Kd.R_alloc | apply Kd.R_drewN | apply Kd.R_drew)); exact HO_3.out)); (case aS => exact (below_size (by repeat (first | (with_reducible first | exact HB.out | apply below_alloc | apply pw_below_drewN | apply below_drew1) | exact HB.out)))); (case aL => have := LMc11.out; omega); intro v121 w12 ho hb hg hat; rw [← Ny120.out] at ho; have n0_ := Aside0.mk (hb); have n1_ := Aside0.mk (ho); clear HB; clear HO_3; have HB := n0_; have HO122 := n1_; clear n0_ n1_; clear ho hb hg hat))
          go_ret
          exact ⟨_, by first | rfl | (simp [errW_none, errW_some] <;> rfl) | (simp [*, errW_none, errW_some] <;> rfl), by (with_reducible repeat (first | apply Kd.R_alloc | apply Kd.R_drewN | apply Kd.R_drew)); exact HO122.out, by repeat (first | (with_reducible first | exact HB.out | apply below_alloc | apply pw_below_drewN | apply below_drew1) | exact HB.out)⟩
        · rw [if_neg c11] at H
          exact absurd H (by simp)

/-! ### impl_countBy: function 50 -/
--USES helper_tab
def impl_countBy.step (leap : Int) (rows : List (List Int)) (x : Int) : List (List Int) := rows.set x.toNat (spec_rvCount.befL 41 (x.toNat - spec_rvCount.lo leap x.toNat) (spec_rvCount.lo leap x.toNat) rows (tabRd rows (x.toNat : Int)))
def impl_countBy.rows0 (n : Nat) : List (List Int) := (List.replicate (n + 2) (List.replicate 42 (0 : Int))).set 0 ((List.replicate 42 (0 : Int)).set 0 1)
def impl_countBy.okB (n : Nat) (l : List Int) : Bool := l.all fun x => decide (0 ≤ x ∧ x ≤ (n : Int) + 1)
def impl_countBy.f (k : Nat) (a0 : ByteArray) (a1 : Int) : Option (List Int) := (impl_stand.f k a0).bind fun l => if (a0.size ≤ 60 ∧ 0 ≤ a1 ∧ a1 ≤ 1000) ∧ (2 ≤ l.length ∧ l.length ≤ 1000) ∧ impl_countBy.okB a0.size l = true then some (tabRd ((l.drop 1).foldl (impl_countBy.step a1) (impl_countBy.rows0 a0.size)) ((a0.size : Int) + 1)) else none
theorem impl_countBy.mono : ∀ a0 a1 k, LeO (impl_countBy.f k a0 a1) (impl_countBy.f (k + 1) a0 a1) := fun a0 a1 k => LeO.bind (impl_stand.mono a0 k) (fun _ => LeO.refl _)
theorem impl_countBy.step_len (leap : Int) (rows : List (List Int)) (x : Int) : (impl_countBy.step leap rows x).length = rows.length := by unfold impl_countBy.step; simp
theorem impl_countBy.nx1 {k n q : Nat} (h : k ≤ n ∧ n ≤ q + 1 + k) (hk : k < n) : k + 1 ≤ n ∧ n ≤ q + (k + 1) := by omega
theorem impl_countBy.nx2 {l b p q : Nat} (h : l ≤ b ∧ b ≤ p ∧ p ≤ q + 1 + b) (hk : b < p) : l ≤ b + 1 ∧ b + 1 ≤ p ∧ p ≤ q + (b + 1) := by omega
theorem impl_countBy.nx3 {k n : Nat} (hk : k < n) : n - k = n - (k + 1) + 1 := by omega
theorem impl_countBy.min_least (s : Int) : (if (1000000000000001 : Int) < s then 1000000000000001 else s) = (spec_l1Least.f s 1000000000000001).getD 0 := by
  unfold spec_l1Least.f
  by_cases h : s < 1000000000000001
  · rw [if_pos h, if_neg (by omega)]; rfl
  · rw [if_neg h]
    by_cases h2 : (1000000000000001 : Int) < s
    · rw [if_pos h2]; rfl
    · rw [if_neg h2]; show s = 1000000000000001; omega
theorem impl_countBy.max_lo (x : Int) (leap : Int) (h0 : 0 ≤ x ∧ x ≤ 100) (hl : 0 ≤ leap ∧ leap ≤ 1000) : (if (0 : Int) < wrap64 (x - leap) then wrap64 (x - leap) else 0) = ((spec_rvCount.lo leap x.toNat : Nat) : Int) := by
  have e : wrap64 (x - leap) = x - leap := by unfold wrap64; omega
  unfold spec_rvCount.lo
  rw [e]
  split <;> omega
theorem impl_countBy.standF (k : Nat) (a0 : ByteArray) (l : List Int) (W : World) (h : impl_stand.f k a0 = some l) (h1 : 1 ≤ l.length) :
    Calls Tryd.prog 54 #[.string a0] W fun e w' => ∃ g cap, e = .returned (.slice (some ⟨g, 0, none⟩) l.length cap) ∧ W.heap.size ≤ g ∧ l.length ≤ cap ∧ Kd.R (Kd.int .i64) 3 w' W.heap.size (fun k => k = g) (.slice (some ⟨g, 0, none⟩) l.length cap) l ∧ Below W.heap.size W w' := by
  refine (impl_stand.calls k a0 l W h).mono ?_
  rintro e w' ⟨v, rfl, ho, hb⟩
  obtain ⟨g, cap', hv, hg1, hg2, _⟩ := Kd.R_form ho (by omega)
  subst hv
  exact ⟨g, cap', rfl, hg1, (Kd.R_reads' ho).2.1, Kd.R_mono (Kd.R_tight rfl ho) (fun k hk => by simpa [Value.ownBlock] using hk), hb⟩
set_option maxHeartbeats 8000000 in
set_option maxRecDepth 100000 in
theorem impl_countBy.calls (k : Nat) (a0 : ByteArray) (a1 : Int) (r : List Int) (w : World) (h : impl_countBy.f k a0 a1 = some r) :
    Calls Tryd.prog 50 #[.string a0, .int .i64 a1] w fun e w' => ∃ v0_ : Value, e = .returned (v0_) ∧ Kd.R (Kd.int .i64) 3 w' w.heap.size (fun _ => True) v0_ r ∧ Below w.heap.size w w' := by
  obtain ⟨l, hl, h⟩ := Option.bind_eq_some_iff.mp h
  by_cases c : (a0.size ≤ 60 ∧ 0 ≤ a1 ∧ a1 ≤ 1000) ∧ (2 ≤ l.length ∧ l.length ≤ 1000) ∧ impl_countBy.okB a0.size l = true
  case neg => rw [if_neg c] at h; cases h
  rw [if_pos c] at h
  have HR := Aside0.mk (Option.some.inj h)
  have HL := Aside0.mk hl
  have HC := Aside0.mk c
  clear h hl
  have hw1 : wrap64 ((a0.size : Int) + 1) = (a0.size : Int) + 1 := by unfold wrap64; omega
  have hw1' : IntKind.i64.wrap ((a0.size : Int) + 1) = (a0.size : Int) + 1 := (i64_w _).trans hw1
  have hw2 : wrap64 ((a0.size : Int) + 1 + 1) = (a0.size : Int) + 2 := by unfold wrap64; omega
  have hw2' : IntKind.i64.wrap ((a0.size : Int) + 1 + 1) = (a0.size : Int) + 2 := (i64_w _).trans hw2
  have hw3 : wrap64 ((a0.size : Int) + (1 + 1)) = (a0.size : Int) + 2 := by unfold wrap64; omega
  have hmkW : ∀ W : World, (Instr.makeSlice 53 (.int .i64 ((a0.size : Int) + 2)) (.int .i64 ((a0.size : Int) + 2))).run Tryd.prog W = .ok (.slice (some ⟨W.heap.size, 0, none⟩) (a0.size + 2) (a0.size + 2)) (W.alloc (.cells (madeCells #[.slice none 0 0] (a0.size + 2)) 27)) := fun W => by
    have := print_make_int (P := Tryd.prog) 53 27 (.slice none 0 0) 24 Tryd.underlying53 (by kernel_rfl) rfl (by decide) ((a0.size : Int) + 2) (by omega) (by omega) W
    rwa [show ((a0.size : Int) + 2).toNat = a0.size + 2 by omega] at this
  have hmkR : ∀ W : World, (Instr.makeSlice 27 (.int .i64 42) (.int .i64 42)).run Tryd.prog W = .ok (.slice (some ⟨W.heap.size, 0, none⟩) 42 42) (W.alloc (.cells (madeCells #[.int .i64 0] 42) 3)) := fun W =>
    print_make_int (P := Tryd.prog) 27 3 (.int .i64 0) 8 Tryd.underlying27 info3 rfl (by decide) 42 (by omega) (by omega) W
  clear c
  go_enter Tryd.func50, Tryd.ntmps50
  go_wp2
  -- THE ROWS ARE MADE
  go_loopg [21] (a0.size + 2) (fun kq v21 w' => ∃ (pl : Nat) (g : Nat → Nat), v21 = .int .i64 (pl : Int) ∧ Aside0 (pl ≤ a0.size + 2 ∧ a0.size + 2 ≤ kq + pl) ∧ Aside0 (Tab w' w.heap.size w.heap.size (a0.size + 2) 42 g (List.replicate pl (List.replicate 42 0))) ∧ Aside0 (Below w.heap.size w w'))
  case atStart => exact ⟨0, fun _ => 0, rfl, ⟨by omega⟩, ⟨Tab.start w w.heap.size _ _ (Nat.le_refl _)⟩, ⟨below_alloc (Below.refl _ _) _⟩⟩
  case round =>
    obtain ⟨pl, g, rfl, HPL, HT, HB⟩ := hrel
    by_cases hpl : pl < a0.size + 2
    · have d1 : decide ((pl : Int) < (a0.size : Int) + 2) = true := decide_eq_true (by omega)
      obtain ⟨k1, rfl⟩ : ∃ k1, gk = k1 + 1 := ⟨gk - 1, by have := HPL.out; omega⟩
      obtain ⟨⟨hfz, v_, hcl⟩, hT2⟩ := HT.out.more (by rw [List.length_replicate]; exact hpl)
      rw [List.length_replicate] at hfz hcl hT2
      rw [← List.replicate_succ'] at hT2
      have HT2 := Aside0.mk hT2
      have HB2 := Aside0.mk (Below.setCell (p := ⟨w.heap.size, pl, none⟩) (below_alloc HB.out (.cells (madeCells #[.int .i64 0] 42) 3)) (Nat.le_refl _) (.slice (some ⟨wr.heap.size, 0, none⟩) 42 42))
      have a1_ : (0 : Int) ≤ (pl : Int) := by omega
      have a2_ : (pl : Int) < (a0.size : Int) + 2 := by omega
      have hwp : wrap64 ((pl : Int) + 1) = (pl : Int) + 1 := by have := HC.out; unfold wrap64; omega
      have hwp' : IntKind.i64.wrap ((pl : Int) + 1) = (pl : Int) + 1 := (i64_w _).trans hwp
      clear hT2
      go_wp2
      go_roundg k1
      case measure => omega
      case rel => exact ⟨pl + 1, _, by first | rfl | (simp; done), ⟨impl_countBy.nx1 HPL.out hpl⟩, HT2, HB2⟩
    · have d1 : decide ((pl : Int) < (a0.size : Int) + 2) = false := decide_eq_false (by omega)
      have hpe : pl = a0.size + 2 := by have := HPL.out; omega
      have hl0 : 0 < (List.replicate pl (List.replicate 42 (0 : Int))).length := by rw [List.length_replicate]; omega
      have hway0 := HT.out.ways 0 hl0
      have hrow0 : (List.replicate pl (List.replicate 42 (0 : Int)))[0]? = some (List.replicate 42 (0 : Int)) := by rw [List.getElem?_replicate, if_pos (by omega)]
      obtain ⟨hz0, hz1⟩ := HT.out.at 0 _ hrow0 0 (by omega)
      have HT2 := Aside0.mk (HT.out.put 0 _ hrow0 0 1)
      have hg0 : w.heap.size ≤ g 0 := Nat.le_of_lt (HT.out.2.2.2.1 0 _ hrow0).2.1
      have HB2 := Aside0.mk (Below.setCell (p := ⟨g 0, 0, none⟩) HB.out hg0 (.int .i64 1))
      have HPE := Aside0.mk hpe
      have HG := Aside0.mk (show ∀ j, j < a0.size + 2 → w.heap.size < g j ∧ g j < wr.heap.size from fun j hj => by
        have hj2 : (List.replicate pl (List.replicate 42 (0 : Int)))[j]? = some (List.replicate 42 (0 : Int)) := by rw [List.getElem?_replicate, if_pos (by omega)]
        have h3 := HT.out.2.2.2.1 j _ hj2
        exact ⟨h3.2.1, blk_lt h3.2.2⟩)
      have a3_ : (0 : Int) < (a0.size : Int) + 2 := by omega
      have a4_ : (0 : Nat) < a0.size + 2 := by omega
      clear hrow0 hl0 hpe
      rename World => wo
      go_wp2_with (go_at_call 54; (refine (impl_countBy.standF k a0 l _ HL.out (by have := HC.out; omega)).mono ?_); rintro e w6 ⟨gl, cap, rfl, hgl, hcap, ho, hb⟩; have n0_ := Aside0.mk (HT2.out.kept (fun q hq => hb.block q hq)); have n1_ := Aside0.mk (below_step HB2.out hb); have HLR := Aside0.mk (Kd.R_lower ho (below_size HB2.out)); have HGL := Aside0.mk hgl; have hl2 : 2 ≤ l.length := HC.out.2.1.1; clear HT2 HB2 ho hb hgl; have HT := n0_; have HB := n1_; clear n0_ n1_)
      -- THE LOOP OVER THE PLACES
      have hT0 := HT.out
      rw [HPE.out] at hT0
      have HT1 := Aside0.mk (show Tab w6 w.heap.size w.heap.size (a0.size + 2) 42 g (impl_countBy.rows0 a0.size) from hT0)
      have HGN := Aside0.mk (show ∀ j, j < a0.size + 2 → w.heap.size < g j ∧ g j ≠ gl from fun j hj => ⟨(HG.out j hj).1, by have h1 := (HG.out j hj).2; have h2 := HGL.out; simp only [World.size_setCell] at h2; omega⟩)
      clear hT0 HT
      go_loopg [37] l.length (fun kq v37 w' => ∃ (pre rest : List Int) (rows : List (List Int)), v37 = .int .i64 (pre.length : Int) ∧ Aside0 (l.drop 1 = pre ++ rest ∧ rest.length ≤ kq ∧ rows.length = a0.size + 2) ∧ Aside0 (rest.foldl (impl_countBy.step a1) rows = (l.drop 1).foldl (impl_countBy.step a1) (impl_countBy.rows0 a0.size)) ∧ Aside0 (Tab w' w.heap.size w.heap.size (a0.size + 2) 42 g rows) ∧ Aside0 (Kd.R (Kd.int .i64) 3 w' w.heap.size (fun k => k = gl) (.slice (some ⟨gl, 0, none⟩) l.length cap) l) ∧ Aside0 (Below w.heap.size w w'))
      case atStart => exact ⟨[], l.drop 1, impl_countBy.rows0 a0.size, rfl, ⟨rfl, by simp, by unfold impl_countBy.rows0; simp⟩, ⟨rfl⟩, HT1, HLR, HB⟩
      case round =>
        clear HT1 HLR HB
        obtain ⟨pre, rest, rows, rfl, HX, HF, HT, HLR, HB⟩ := hrel
        cases rest with
        | nil =>
          have hlen : l.length - 1 = pre.length := by have := congrArg List.length HX.out.1; simp at this; exact this
          have d5 : decide ((pre.length : Int) < ((l.length - 1 : Nat) : Int)) = false := decide_eq_false (by omega)
          have d6 : decide (pre.length < l.length - 1) = false := decide_eq_false (by omega)
          have hl : a0.size + 1 < rows.length := by have := HX.out.2.2; omega
          have hway := HT.out.ways (a0.size + 1) hl
          have HRW := Aside0.mk (HT.out.row (by omega) (a0.size + 1) _ (HT.out.get (a0.size + 1) hl))
          have b1 : (0 : Int) ≤ (a0.size : Int) + 1 := by omega
          have b2 : (a0.size : Int) + 1 < (a0.size : Int) + 2 := by omega
          have b3 : ((a0.size : Int) + 1).toNat = a0.size + 1 := by omega
          have HLEN := Aside0.mk hlen
          clear hl hlen
          go_wp2
          go_ret
          refine ⟨_, rfl, ?_, HB.out⟩
          have h1 := HRW.out
          have h2 := HF.out
          have h3 := HR.out
          simp only [List.foldl_nil] at h2
          rw [← h2] at h3
          rw [show ((a0.size + 1 : Nat) : Int) = (a0.size : Int) + 1 by omega, h3] at h1
          exact h1
        | cons x rest =>
          have hlen : l.length - 1 = pre.length + (rest.length + 1) := by have := congrArg List.length HX.out.1; simp at this; exact this
          obtain ⟨k1, rfl⟩ : ∃ k1, gk = k1 + 1 := ⟨gk - 1, by have := HX.out.2.1; simp at this; omega⟩
          have d5 : decide ((pre.length : Int) < ((l.length - 1 : Nat) : Int)) = true := decide_eq_true (by omega)
          have d6 : decide (pre.length < l.length - 1) = true := decide_eq_true (by omega)
          have b4_ : pre.length < l.length - 1 := by omega
          have hmem : x ∈ l := List.mem_of_mem_drop (by rw [HX.out.1]; simp)
          have hxb : 0 ≤ x ∧ x ≤ (a0.size : Int) + 1 := of_decide_eq_true (List.all_eq_true.1 HC.out.2.2 x hmem)
          obtain ⟨X, rfl⟩ : ∃ X : Nat, x = (X : Int) := ⟨x.toNat, by omega⟩
          have hx0 := (Kd.R_celln 0 HLR.out ((1 + pre.length : Nat) : Int) (by omega) (by omega)).1
          have hrd : rdOf 0 l ((1 + pre.length : Nat) : Int) = (X : Int) := by
            have h1 : (l.drop 1)[pre.length]? = some (X : Int) := by rw [HX.out.1]; simp
            rw [List.getElem?_drop] at h1
            unfold rdOf
            rw [Int.toNat_natCast, List.getD_eq_getElem?_getD, h1]; rfl
          rw [hrd, show ((1 + pre.length : Nat) : Int).toNat = 1 + pre.length by omega] at hx0
          have b1_ : (0 : Int) ≤ (pre.length : Int) := by omega
          have b2_ : (pre.length : Int) < ((l.length - 1 : Nat) : Int) := by omega
          have hwq : wrap64 ((pre.length : Int) + 1) = ((pre.length + 1 : Nat) : Int) := by have := HC.out; unfold wrap64; omega
          have hwq' : IntKind.i64.wrap ((pre.length : Int) + 1) = ((pre.length + 1 : Nat) : Int) := (i64_w _).trans hwq
          have hX2 : X < a0.size + 2 := by omega
          have HXL := Aside0.mk hX2
          have hmax := impl_countBy.max_lo (X : Int) a1 (by have := HC.out; omega) HC.out.1.2
          rw [Int.toNat_natCast] at hmax
          obtain ⟨df, hdf⟩ : ∃ df, wrap64 ((X : Int) - a1) = df := ⟨_, rfl⟩
          rw [hdf] at hmax
          have hdf' : IntKind.i64.wrap ((X : Int) - a1) = df := (i64_w _).trans hdf
          have HLO := Aside0.mk (show spec_rvCount.lo a1 X ≤ X by have := HC.out; unfold spec_rvCount.lo; omega)
          have HLEN := Aside0.mk hlen
          have hrX : rows.length = a0.size + 2 := HX.out.2.2
          have hself : rows.set X (tabRd rows (X : Int)) = rows := by
            have h1 := HT.out.get X (by omega)
            refine List.ext_getElem? (fun i => ?_)
            by_cases e : X = i
            · subst e; rw [List.getElem?_set_self (by omega), h1]
            · rw [List.getElem?_set_ne e]
          have HT2 := Aside0.mk (show Tab wr w.heap.size w.heap.size (a0.size + 2) 42 g (rows.set X (tabRd rows (X : Int))) by rw [hself]; exact HT.out)
          have HRX := Aside0.mk hrX
          clear hlen hmem hrd hself hrX HT hxb hX2
          go_wp2
          rename World => wc
          go_loopg [10] (X - spec_rvCount.lo a1 X) (fun kq v10 w' => ∃ (b : Nat) (row : List Int), v10 = .int .i64 (b : Int) ∧ Aside0 (spec_rvCount.lo a1 X ≤ b ∧ b ≤ X ∧ X ≤ kq + b) ∧ Aside0 (spec_rvCount.befL 41 (X - b) b rows row = spec_rvCount.befL 41 (X - spec_rvCount.lo a1 X) (spec_rvCount.lo a1 X) rows (tabRd rows (X : Int))) ∧ Aside0 (Tab w' w.heap.size w.heap.size (a0.size + 2) 42 g (rows.set X row)) ∧ Aside0 (Kd.R (Kd.int .i64) 3 w' w.heap.size (fun k => k = gl) (.slice (some ⟨gl, 0, none⟩) l.length cap) l) ∧ Aside0 (Below w.heap.size w w'))
          case atStart => exact ⟨spec_rvCount.lo a1 X, tabRd rows (X : Int), rfl, ⟨by have := HLO.out; omega⟩, ⟨rfl⟩, HT2, HLR, HB⟩
          case round =>
            clear HT2 HLR HB
            obtain ⟨b, row, rfl, HB1, HE, HT, HLR, HB⟩ := hrel
            by_cases hbp : b < X
            · have d3 : decide ((b : Int) < (X : Int)) = true := decide_eq_true (by omega)
              obtain ⟨k2, rfl⟩ : ∃ k2, gk = k2 + 1 := ⟨gk - 1, by have := HB1.out; omega⟩
              have hbl : b < (rows.set X row).length := by rw [List.length_set]; have := HRX.out; have := HXL.out; omega
              have hway := HT.out.ways b hbl
              have hsrc : ∀ row' : List Int, (rows.set X row')[b]? = some (tabRd rows (b : Int)) := fun row' => by
                have hb2 : b < rows.length := by rw [List.length_set] at hbl; exact hbl
                rw [List.getElem?_set_ne (by omega), List.getElem?_eq_getElem hb2]
                unfold tabRd
                rw [Int.toNat_natCast, List.getD_eq_getElem?_getD, List.getElem?_eq_getElem hb2]; rfl
              have HSRC := Aside0.mk hsrc
              have e1 : (0 : Int) ≤ (b : Int) := by omega
              have e2 : (b : Int) < (a0.size : Int) + 2 := by have := HXL.out; omega
              have e3 : b < a0.size + 2 := by have := HXL.out; omega
              have hwb : wrap64 ((b : Int) + 1) = (b : Int) + 1 := by have := HC.out; have := HXL.out; unfold wrap64; omega
              have hwb' : IntKind.i64.wrap ((b : Int) + 1) = (b : Int) + 1 := (i64_w _).trans hwb
              clear hsrc hbl
              go_wp2
              rename World => wp
              go_loopg [56] 41 (fun kq v56 w' => ∃ (k : Nat) (row2 : List Int), v56 = .int .i64 (k : Int) ∧ Aside0 (k ≤ 41 ∧ 41 ≤ kq + k) ∧ Aside0 (spec_rvCount.addL (41 - k) k row2 (tabRd rows (b : Int)) = spec_rvCount.addL 41 0 row (tabRd rows (b : Int))) ∧ Aside0 (Tab w' w.heap.size w.heap.size (a0.size + 2) 42 g (rows.set X row2)) ∧ Aside0 (Kd.R (Kd.int .i64) 3 w' w.heap.size (fun k => k = gl) (.slice (some ⟨gl, 0, none⟩) l.length cap) l) ∧ Aside0 (Below w.heap.size w w'))
              case atStart => exact ⟨0, row, rfl, ⟨by omega⟩, ⟨rfl⟩, HT, HLR, HB⟩
              case round =>
                clear HT HLR HB
                obtain ⟨k, row2, rfl, HK, HA, HT, HLR, HB⟩ := hrel
                by_cases hk : k < 41
                · have d4 : decide ((k : Int) < 41) = true := decide_eq_true (by omega)
                  obtain ⟨k3, rfl⟩ : ∃ k3, gk = k3 + 1 := ⟨gk - 1, by have := HK.out; omega⟩
                  have hrow2 : (rows.set X row2)[X]? = some row2 := by rw [List.getElem?_set_self (by have := HRX.out; have := HXL.out; omega)]
                  obtain ⟨hx, _⟩ := HT.out.at b _ (HSRC.out row2) k (by omega)
                  obtain ⟨hy, hyf⟩ := HT.out.at X _ hrow2 (k + 1) (by omega)
                  rw [show ((k + 1 : Nat) : Int) = (k : Int) + 1 by omega] at hy
                  have hwayX := HT.out.ways X (by rw [List.length_set]; have := HRX.out; have := HXL.out; omega)
                  have hset : ∀ v : Int, (rows.set X row2).set X (row2.set (k + 1) v) = rows.set X (row2.set (k + 1) v) := fun v => by rw [List.set_set]
                  have HPUT := Aside0.mk (fun (v : Int) => by
                    have h1 := HT.out.put X _ hrow2 (k + 1) v
                    rw [hset v] at h1
                    exact h1.kept (W' := (wr.setCell ⟨g X, k + 1, none⟩ (.int .i64 v)).drew) (fun _ _ => rfl))
                  have HFAR := Aside0.mk (fun (v : Value) => Kd.R_drew (Kd.R_far HLR.out (p := ⟨g X, k + 1, none⟩) (fun q hq => by have := (HGN.out X HXL.out).2; show q ≠ g X; omega) v))
                  have HBS := Aside0.mk (fun (v : Value) => below_drew1 (Below.setCell (p := ⟨g X, k + 1, none⟩) HB.out (Nat.le_of_lt (HGN.out X HXL.out).1) v))
                  have f1 : (0 : Int) ≤ (k : Int) := by omega
                  have f2 : (k : Int) < 41 := by omega
                  have f3 : k < 41 := hk
                  have f4 : (k : Int) + 1 < 42 := by omega
                  have f5 : (0 : Int) ≤ (k : Int) + 1 := by omega
                  have f6 : ((k : Int) + 1).toNat = k + 1 := by omega
                  have f7 : (0 : Int) ≤ (X : Int) := by omega
                  have f8 : (X : Int) < (a0.size : Int) + 2 := by have := HXL.out; omega
                  have hwk : wrap64 ((k : Int) + 1) = (k : Int) + 1 := by unfold wrap64; omega
                  have hwk' : IntKind.i64.wrap ((k : Int) + 1) = (k : Int) + 1 := (i64_w _).trans hwk
                  have hws : IntKind.i64.wrap (rd row2 ((k : Int) + 1) + rd (tabRd rows (b : Int)) (k : Int)) = wrap64 (rd row2 ((k : Int) + 1) + rd (tabRd rows (b : Int)) (k : Int)) := i64_w _
                  obtain ⟨sum, hsum⟩ : ∃ sum, sum = wrap64 (rd row2 ((k : Int) + 1) + rd (tabRd rows (b : Int)) (k : Int)) := ⟨_, rfl⟩
                  rw [← hsum] at hws
                  have hsum' := hsum.symm
                  have hmin := impl_countBy.min_least sum
                  have HADD := Aside0.mk (show spec_rvCount.addK row2 (tabRd rows (b : Int)) k = row2.set (k + 1) ((spec_l1Least.f sum 1000000000000001).getD 0) by unfold spec_rvCount.addK; rw [← hsum])
                  obtain ⟨lv, hlv⟩ : ∃ lv, (spec_l1Least.f sum 1000000000000001).getD 0 = lv := ⟨_, rfl⟩
                  rw [hlv] at hmin HADD
                  clear hrow2 hsum hset hlv
                  go_wp2
                  go_region_with fail
                  all_goals go_wp2
                  all_goals (
                    go_roundg k3
                    case measure => omega
                    case rel => exact ⟨k + 1, _, by first | rfl | (simp; done), ⟨impl_countBy.nx1 HK.out hk⟩, ⟨by
                      rw [← HADD.out, ← HA.out, impl_countBy.nx3 hk, spec_rvCount.addL_succ]⟩, ⟨HPUT.out _⟩, ⟨HFAR.out _⟩, ⟨HBS.out _⟩⟩)
                · have d4 : decide ((k : Int) < 41) = false := decide_eq_false (by omega)
                  go_wp2
                  go_roundg k2
                  case measure => omega
                  case rel => exact ⟨b + 1, row2, by first | rfl | (simp; done), ⟨impl_countBy.nx2 HB1.out hbp⟩, ⟨by
                    have h1 := HA.out
                    rw [show 41 - k = 0 by omega, spec_rvCount.addL_zero] at h1
                    rw [← HE.out, impl_countBy.nx3 hbp, spec_rvCount.befL_succ, ← h1]⟩, HT, HLR, HB⟩
            · have d3 : decide ((b : Int) < (X : Int)) = false := decide_eq_false (by omega)
              go_wp2
              go_roundg k1
              case measure => omega
              case rel => exact ⟨pre ++ [(X : Int)], rest, rows.set X row, by first | rfl | (simp; done), ⟨by rw [HX.out.1]; simp, by have := HX.out.2.1; simp at this; omega, by rw [List.length_set]; exact HRX.out⟩, ⟨by
                have h1 := HE.out
                rw [show X - b = 0 by have := HB1.out; omega, spec_rvCount.befL_zero] at h1
                rw [← HF.out, List.foldl_cons]
                congr 1
                unfold impl_countBy.step
                rw [Int.toNat_natCast, ← h1]⟩, HT, HLR, HB⟩

/-! ### impl_CountCrossings: function 30 -/
def impl_CountCrossings.l0 : Nat → Int → List Int → Int → Int → Option (Int × Bool)
  | 0, _, _, _, _ => none
  | k + 1, x6, x15, x16, x17 => if x17 < x16 then (if 0 ≤ x17 then (if x17 < (x15.length : Int) then (impl_CountCrossings.l0 k (mn (wrap64 (x6 + (rd x15 x17))) 1000000000000001) x15 x16 (wrap64 (x17 + 1))) else (none)) else (none)) else (if x6 > 1000000000000000 then (some (0, false)) else (some (x6, true)))
def impl_CountCrossings.f (k : Nat) (a0 : ByteArray) (a1 : Int) : Option (Int × Bool) := (impl_isCrossed.f a0 a1).bind fun t123 => (if t123 = true then ((impl_countBy.f k a0 a1).bind fun t124 => (impl_CountCrossings.l0 k 0 t124 (t124.length : Int) 0)) else (some (0, false)))
theorem impl_CountCrossings.mono_l : ∀ k, (∀ y0 y1 y2 y3, LeO (impl_CountCrossings.l0 k y0 y1 y2 y3) (impl_CountCrossings.l0 (k + 1) y0 y1 y2 y3))
  | 0 => fun _ _ _ _ r h => by simp [impl_CountCrossings.l0] at h
  | k + 1 => by
    have ih0 := impl_CountCrossings.mono_l k
    · intro y0 y1 y2 y3
      unfold impl_CountCrossings.l0
      repeat' first
      | (with_reducible exact ih0 _ _ _ _)
      | (with_reducible exact impl_countBy.mono _ _ _)
      | (with_reducible exact LeO.refl _)
      | (with_reducible exact LeO.none _)
      | (with_reducible refine LeO.ite ?_ ?_)
      | (with_reducible refine LeO.bind ?_ (fun _ => ?_))
      | exact ih0 _ _ _ _
      | exact impl_countBy.mono _ _ _
      | exact LeO.none _
      | refine LeO.ite ?_ ?_
      | refine LeO.bind ?_ (fun _ => ?_)
theorem impl_CountCrossings.mono : ∀ a0 a1 k, LeO (impl_CountCrossings.f k a0 a1) (impl_CountCrossings.f (k + 1) a0 a1) := by
  intro a0 a1 k
  have ih0 := impl_CountCrossings.mono_l k
  unfold impl_CountCrossings.f
  repeat' first
      | (with_reducible exact ih0 _ _ _ _)
      | (with_reducible exact impl_countBy.mono _ _ _)
      | (with_reducible exact LeO.refl _)
      | (with_reducible exact LeO.none _)
      | (with_reducible refine LeO.ite ?_ ?_)
      | (with_reducible refine LeO.bind ?_ (fun _ => ?_))
      | exact ih0 _ _ _ _
      | exact impl_countBy.mono _ _ _
      | exact LeO.none _
      | refine LeO.ite ?_ ?_
      | refine LeO.bind ?_ (fun _ => ?_)
set_option maxHeartbeats 8000000 in
set_option maxRecDepth 100000 in
theorem impl_CountCrossings.calls (k : Nat) (a0 : ByteArray) (a1 : Int) (r1 : Int) (r2 : Bool) (w : World) (h : impl_CountCrossings.f k a0 a1 = some (r1, r2)) :
    Calls Tryd.prog 30 #[.string a0, .int .i64 a1] w fun e w' => e = .returned (.tuple #[.int .i64 r1, .bool r2]) ∧ Below w.heap.size w w' := by
  have HB := Aside0.mk (Below.refl w.heap.size w)
  have H : ((impl_isCrossed.f a0 a1).bind fun t123 => (if t123 = true then ((impl_countBy.f k a0 a1).bind fun t124 => (impl_CountCrossings.l0 k 0 t124 (t124.length : Int) 0)) else (some (0, false)))) = some (r1, r2) := h
  clear h
  replace H := Option.bind_eq_some_iff.mp H
  obtain ⟨t123, A30, H⟩ := H
  replace H : (if t123 = true then ((impl_countBy.f k a0 a1).bind fun t124 => (impl_CountCrossings.l0 k 0 t124 (t124.length : Int) 0)) else (some (0, false))) = some (r1, r2) := H
  have A3 := Aside0.mk A30
  clear A30
  by_cases c4 : t123 = true
  · subst c4
    have H1 : ((impl_countBy.f k a0 a1).bind fun t124 => (impl_CountCrossings.l0 k 0 t124 (t124.length : Int) 0)) = some (r1, r2) := by rw [if_pos rfl] at H; exact H
    clear H
    have H := H1
    clear H1
    replace H := Option.bind_eq_some_iff.mp H
    obtain ⟨t124, A50, H⟩ := H
    replace H : (impl_CountCrossings.l0 k 0 t124 (t124.length : Int) 0) = some (r1, r2) := H
    have A5 := Aside0.mk A50
    clear A50
    have H' := Aside0.mk H
    clear H
    go_enter Tryd.func30, Tryd.ntmps30
    go_wp2_with (first | ((with_reducible refine gate_callee (f := 35) rfl ?_); refine goesL_ (some 11) rfl rfl Tryd.func35 (by kernel_rfl) rfl #[.string a0, .int .i64 a1] rfl (by (try simp only [List.map_toArray, List.map_cons, List.map_nil]); first | done | rfl | (simp only [List.length_drop, List.length_take]; rfl)) ?_; (with_reducible refine (impl_isCrossed.calls a0 a1 true _ A3.out).mono ?_); rintro e w6 ⟨rfl, hb⟩; refine ⟨_, rfl, ?_⟩; have n0_ := Aside0.mk (below_step (by repeat (first | (with_reducible first | exact HB.out | apply below_alloc | apply pw_below_drewN | apply below_drew1) | exact HB.out)) hb); clear HB; have HB := n0_; clear n0_; (try clear hb); (try clear hb2); (try clear hk); (try clear hi)) | ((with_reducible refine gate_callee (f := 50) rfl ?_); refine goesL_ (some 15) rfl rfl Tryd.func50 (by kernel_rfl) rfl #[.string a0, .int .i64 a1] rfl (by (try simp only [List.map_toArray, List.map_cons, List.map_nil]); first | done | rfl | (simp only [List.length_drop, List.length_take]; rfl)) ?_; (with_reducible refine (impl_countBy.calls k a0 a1 t124 _ A5.out).mono ?_); rintro e w7 ⟨v125, rfl, ho0, hb⟩; refine ⟨_, rfl, ?_⟩; have n0_ := Aside0.mk (Kd.R_lower ho0 (below_size (by repeat (first | (with_reducible first | exact HB.out | apply below_alloc | apply pw_below_drewN | apply below_drew1) | exact HB.out)))); have n1_ := Aside0.mk (below_step (by repeat (first | (with_reducible first | exact HB.out | apply below_alloc | apply pw_below_drewN | apply below_drew1) | exact HB.out)) hb); clear HB; have HO126 := n0_; have HB := n1_; clear n0_ n1_; (try clear hb); (try clear hb2); (try clear hk); (try clear hi); (try clear ho0); obtain ⟨Ao8, co8, eo8⟩ := Kd.R_slice HO126.out; subst eo8))
    go_loopg [6, 17] k (fun kq v6 v17 w' => ∃ (x6_1 : Int) (x17_1 : Int), v6 = .int .i64 x6_1 ∧ v17 = .int .i64 x17_1 ∧ Aside0 (impl_CountCrossings.l0 kq x6_1 t124 (t124.length : Int) x17_1 = some (r1, r2)) ∧ Aside0 (kq ≤ k) ∧ Aside0 (Kd.R (Kd.int .i64) 3 w' w.heap.size (fun _ => True) (.slice Ao8 t124.length co8) t124) ∧ Aside0 (Below w.heap.size w w'))
    case atStart => exact ⟨(0), (0), (by first | rfl | (simp; done) | (simp [*]; done)), (by first | rfl | (simp; done) | (simp [*]; done)), H', ⟨Nat.le_refl _⟩, ⟨by (with_reducible repeat (first | apply Kd.R_alloc | apply Kd.R_drewN | apply Kd.R_drew)); exact HO126.out⟩, ⟨by repeat (first | (with_reducible first | exact HB.out | apply below_alloc | apply pw_below_drewN | apply below_drew1) | exact HB.out)⟩⟩
    case round =>
      clear H'
      try clear p2
      try clear c3
      try clear c4
      try clear c5
      obtain ⟨x6_1, x17_1, rfl, rfl, HA, HK1, HO_15, HB⟩ := hrel
      cases gk with
      | zero => exact absurd HA.out (by simp [impl_CountCrossings.l0])
      | succ k1 =>
        have H := HA.out
        clear HA
        simp only [impl_CountCrossings.l0] at H
        by_cases c9 : x17_1 < (t124.length : Int)
        · rw [if_pos c9] at H
          have c9b0 : decide (x17_1 < (t124.length : Int)) = true := decide_eq_true c9
          clear c9
          by_cases c10 : 0 ≤ x17_1
          · rw [if_pos c10] at H
            have c10b0 : decide (0 ≤ x17_1) = true := decide_eq_true c10
            clear c10
            by_cases c11 : x17_1 < (t124.length : Int)
            · rw [if_pos c11] at H
              have c11b0 : decide (x17_1 < (t124.length : Int)) = true := decide_eq_true c11
              clear c11
              obtain ⟨ji12, hji12⟩ : ∃ j_ : Int, (mn (wrap64 (x6_1 + (rd t124 x17_1))) 1000000000000001) = j_ := ⟨_, rfl⟩
              replace H : (impl_CountCrossings.l0 k1 ji12 t124 (t124.length : Int) (wrap64 (x17_1 + 1))) = some (r1, r2) := by first | (rw [hji12] at H; exact H) | (simp only [hji12] at H ⊢; exact H)
              have hji12_ : (if 1000000000000001 < (wrap64 (x6_1 + (rd t124 x17_1))) then 1000000000000001 else (wrap64 (x6_1 + (rd t124 x17_1)))) = ji12 := hji12
              have H' := Aside0.mk H
              clear H
              have p127 : 0 ≤ (x17_1 : Int) := of_decide_eq_true (by first | (with_reducible assumption) | assumption)
              have q127 : x17_1 < (t124.length : Int) := of_decide_eq_true (by first | (with_reducible assumption) | assumption)
              obtain ⟨ad127, e127, hx127_0⟩ := Kd.at_int (Kd.R_reads' HO_15.out).2.2 x17_1 p127 q127
              cases e127
              replace p127 := eq_true p127
              replace q127 := eq_true q127
              go_wp2
              go_roundg k1
              case measure => have := HK1.out; omega
              case rel => exact ⟨(ji12), (wrap64 (x17_1 + 1)), (by first | rfl | (simp; done) | (simp only [← hji12] <;> (first | rfl | simp)) | (simp [*]; done)), (by first | rfl | (simp; done) | (simp [*]; done)), H', ⟨by have := HK1.out; omega⟩, ⟨by (with_reducible repeat (first | apply Kd.R_alloc | apply Kd.R_drewN | apply Kd.R_drew)); exact HO_15.out⟩, ⟨by repeat (first | (with_reducible first | exact HB.out | apply below_alloc | apply pw_below_drewN | apply below_drew1) | exact HB.out)⟩⟩
            · rw [if_neg c11] at H
              exact absurd H (by simp)
          · rw [if_neg c10] at H
            exact absurd H (by simp)
        · rw [if_neg c9] at H
          have c9b0 : decide (x17_1 < (t124.length : Int)) = false := decide_eq_false c9
          clear c9
          by_cases c13 : x6_1 > 1000000000000000
          · rw [if_pos c13] at H
            have c13b0 : decide (1000000000000000 < x6_1) = true := decide_eq_true c13
            clear c13
            simp only [Option.some.injEq, Prod.mk.injEq] at H
            obtain ⟨rfl, rfl⟩ := H
            go_wp2
            go_ret2
            exact ⟨by first | rfl | (simp [errW_none, errW_some] <;> rfl) | (simp [*, errW_none, errW_some] <;> rfl), by repeat (first | (with_reducible first | exact HB.out | apply below_alloc | apply pw_below_drewN | apply below_drew1) | exact HB.out)⟩
          · rw [if_neg c13] at H
            have c13b0 : decide (1000000000000000 < x6_1) = false := decide_eq_false c13
            clear c13
            simp only [Option.some.injEq, Prod.mk.injEq] at H
            obtain ⟨rfl, rfl⟩ := H
            go_wp2
            go_ret2
            exact ⟨by first | rfl | (simp [errW_none, errW_some] <;> rfl) | (simp [*, errW_none, errW_some] <;> rfl), by repeat (first | (with_reducible first | exact HB.out | apply below_alloc | apply pw_below_drewN | apply below_drew1) | exact HB.out)⟩
  · replace c4 := Bool.eq_false_iff.mpr c4
    subst c4
    have H1 : (some (0, false)) = some (r1, r2) := by rw [if_neg (show ¬ (false = true) by decide)] at H; exact H
    clear H
    have H := H1
    clear H1
    simp only [Option.some.injEq, Prod.mk.injEq] at H
    obtain ⟨rfl, rfl⟩ := H
    go_enter Tryd.func30, Tryd.ntmps30
    go_wp2_with (first | ((with_reducible refine gate_callee (f := 35) rfl ?_); refine goesL_ (some 11) rfl rfl Tryd.func35 (by kernel_rfl) rfl #[.string a0, .int .i64 a1] rfl (by (try simp only [List.map_toArray, List.map_cons, List.map_nil]); first | done | rfl | (simp only [List.length_drop, List.length_take]; rfl)) ?_; (with_reducible refine (impl_isCrossed.calls a0 a1 false _ A3.out).mono ?_); rintro e w14 ⟨rfl, hb⟩; refine ⟨_, rfl, ?_⟩; have n0_ := Aside0.mk (below_step (by repeat (first | (with_reducible first | exact HB.out | apply below_alloc | apply pw_below_drewN | apply below_drew1) | exact HB.out)) hb); clear HB; have HB := n0_; clear n0_; (try clear hb); (try clear hb2); (try clear hk); (try clear hi)))
    go_ret2
    exact ⟨by first | rfl | (simp [errW_none, errW_some] <;> rfl) | (simp [*, errW_none, errW_some] <;> rfl), by repeat (first | (with_reducible first | exact HB.out | apply below_alloc | apply pw_below_drewN | apply below_drew1) | exact HB.out)⟩

end Go.Proofs.YtlcgimeebhoefaaDoor.PFnExactCountCrossings
