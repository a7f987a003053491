-- Printed by this session's eprint.py over the kit's print (with this session's own texts for some functions)
import Derived.Test.YtkikpfeipejnlaaDoorPFnExactFirstFrogMovesx0
import Derived.Test.YtkikpfeipejnlaaDoorPFnExactFirstFrogMovesx1
import Derived.Test.YtkikpfeipejnlaaDoorPFnExactFirstFrogMovesx2
import Derived.Test.YtkikpfeipejnlaaDoorPFnExactFirstFrogMovesx3
namespace Go.Proofs.YtkikpfeipejnlaaDoor.PFnExactFirstFrogMoves
open Go.RowKit Go.Proofs.YtkikpfeipejnlaaDoorW.PrintWords Go.Proofs.YtkikpfeipejnlaaDoorW.PrintLast Go.Proofs.YtkikpfeipejnlaaDoorW.PrintMore
attribute [local go_sem] max2_int min2_int max_two min_two max_three min_three max_four min_four   -- for this text's walks alone
set_option linter.unusedVariables false
set_option linter.unusedSimpArgs false

/-! ### spec_fgBoth: function 47 -/
def spec_fgBoth.f (k : Nat) (a0 : ByteArray) (a1 : ByteArray) : Option (Bool) := (spec_fgGood.f k a0).bind fun t145 => (if t145 = true then ((spec_fgGood.f k a1).bind fun t146 => (if t146 = true then (some ((a0.size : Int) == (a1.size : Int))) else (some false))) else (some false))
theorem spec_fgBoth.mono : ∀ a0 a1 k, LeO (spec_fgBoth.f k a0 a1) (spec_fgBoth.f (k + 1) a0 a1) := by
  intro a0 a1 k
  unfold spec_fgBoth.f
  repeat' first
      | (with_reducible exact spec_fgGood.mono _ _)
      | (with_reducible exact LeO.refl _)
      | (with_reducible exact LeO.none _)
      | (with_reducible refine LeO.ite ?_ ?_)
      | (with_reducible refine LeO.bind ?_ (fun _ => ?_))
      | exact spec_fgGood.mono _ _
      | exact LeO.none _
      | refine LeO.ite ?_ ?_
      | refine LeO.bind ?_ (fun _ => ?_)
set_option maxHeartbeats 8000000 in
set_option maxRecDepth 100000 in
theorem spec_fgBoth.calls (k : Nat) (a0 : ByteArray) (a1 : ByteArray) (r : Bool) (w : World) (h : spec_fgBoth.f k a0 a1 = some r) :
    Calls Tryd.prog 47 #[.string a0, .string a1] w fun e w' => e = .returned (.bool r) ∧ Drawn0 w w' := by
  have H : ((spec_fgGood.f k a0).bind fun t145 => (if t145 = true then ((spec_fgGood.f k a1).bind fun t146 => (if t146 = true then (some ((a0.size : Int) == (a1.size : Int))) else (some false))) else (some false))) = some r := h
  clear h
  replace H := Option.bind_eq_some_iff.mp H
  obtain ⟨t145, A30, H⟩ := H
  replace H : (if t145 = true then ((spec_fgGood.f k a1).bind fun t146 => (if t146 = true then (some ((a0.size : Int) == (a1.size : Int))) else (some false))) else (some false)) = some r := H
  have A3 := Aside0.mk A30
  clear A30
  by_cases c4 : t145 = true
  · subst c4
    have H1 : ((spec_fgGood.f k a1).bind fun t146 => (if t146 = true then (some ((a0.size : Int) == (a1.size : Int))) else (some false))) = some r := by rw [if_pos rfl] at H; exact H
    clear H
    have H := H1
    clear H1
    replace H := Option.bind_eq_some_iff.mp H
    obtain ⟨t146, A50, H⟩ := H
    replace H : (if t146 = true then (some ((a0.size : Int) == (a1.size : Int))) else (some false)) = some r := H
    have A5 := Aside0.mk A50
    clear A50
    by_cases c6 : t146 = true
    · subst c6
      have H1 : (some ((a0.size : Int) == (a1.size : Int))) = some r := by rw [if_pos rfl] at H; exact H
      clear H
      have H := H1
      clear H1
      obtain rfl := Option.some.inj H
      go_enter Tryd.func47, Tryd.ntmps47
      go_wp2_with (first | ((with_reducible refine gate_callee (f := 33) rfl ?_); refine goesL_ (some 6) rfl rfl Tryd.func33 (by kernel_rfl) rfl #[.string a0] rfl (by (try simp only [List.map_toArray, List.map_cons, List.map_nil]); first | done | rfl | (simp only [List.length_drop, List.length_take]; rfl)) ?_; (with_reducible refine (spec_fgGood.calls k a0 true _ A3.out).mono ?_); rintro e w' ⟨rfl, ⟨nd, rfl⟩⟩; refine ⟨_, rfl, ?_⟩) | (go_at_call 33; (with_reducible refine (spec_fgGood.calls k a1 true _ A5.out).mono ?_); rintro e w' ⟨rfl, ⟨nd, rfl⟩⟩))
      go_ret
      exact ⟨by first | rfl | (simp; done) | (simp [*]; done), by repeat (first | exact Drawn0.refl _ | apply Drawn0.step)⟩
    · replace c6 := Bool.eq_false_iff.mpr c6
      subst c6
      have H1 : (some false) = some r := by rw [if_neg (show ¬ (false = true) by decide)] at H; exact H
      clear H
      have H := H1
      clear H1
      obtain rfl := Option.some.inj H
      go_enter Tryd.func47, Tryd.ntmps47
      go_wp2_with (first | ((with_reducible refine gate_callee (f := 33) rfl ?_); refine goesL_ (some 6) rfl rfl Tryd.func33 (by kernel_rfl) rfl #[.string a0] rfl (by (try simp only [List.map_toArray, List.map_cons, List.map_nil]); first | done | rfl | (simp only [List.length_drop, List.length_take]; rfl)) ?_; (with_reducible refine (spec_fgGood.calls k a0 true _ A3.out).mono ?_); rintro e w' ⟨rfl, ⟨nd, rfl⟩⟩; refine ⟨_, rfl, ?_⟩) | (go_at_call 33; (with_reducible refine (spec_fgGood.calls k a1 false _ A5.out).mono ?_); rintro e w' ⟨rfl, ⟨nd, rfl⟩⟩))
      go_ret
      exact ⟨by first | rfl | (simp; done) | (simp [*]; done), by repeat (first | exact Drawn0.refl _ | apply Drawn0.step)⟩
  · replace c4 := Bool.eq_false_iff.mpr c4
    subst c4
    have H1 : (some false) = some r := by rw [if_neg (show ¬ (false = true) by decide)] at H; exact H
    clear H
    have H := H1
    clear H1
    obtain rfl := Option.some.inj H
    go_enter Tryd.func47, Tryd.ntmps47
    go_wp2_with (first | ((with_reducible refine gate_callee (f := 33) rfl ?_); refine goesL_ (some 6) rfl rfl Tryd.func33 (by kernel_rfl) rfl #[.string a0] rfl (by (try simp only [List.map_toArray, List.map_cons, List.map_nil]); first | done | rfl | (simp only [List.length_drop, List.length_take]; rfl)) ?_; (with_reducible refine (spec_fgGood.calls k a0 false _ A3.out).mono ?_); rintro e w' ⟨rfl, ⟨nd, rfl⟩⟩; refine ⟨_, rfl, ?_⟩))
    go_ret
    exact ⟨by first | rfl | (simp; done) | (simp [*]; done), by repeat (first | exact Drawn0.refl _ | apply Drawn0.step)⟩

/-! ### spec_fgWay: function 49 -/
def spec_fgWay.l0 : Nat → List Int → List Int → Int → List Int → Option (List Int)
  | 0, _, _, _, _ => none
  | k + 1, x0, x1, x2, x7 => if 0 ≤ x2 then (if x2 < (x0.length : Int) then (if (rd x0 x2) ≥ 0 then (if x2 < (x1.length : Int) then ((some (([rd x1 x2] : List Int) : List Int)).bind fun y149 => (if y149.length + x7.length < 17592186044416 then (spec_fgWay.l0 k x0 x1 (rd x0 x2) (y149 ++ x7)) else (none))) else (none)) else (some x7)) else (none)) else (none)
def spec_fgWay.f (k : Nat) (l0 : List Int) (l1 : List Int) (a2 : Int) : Option (List Int) := spec_fgWay.l0 k l0 l1 a2 ([] : List Int)
theorem spec_fgWay.mono_l : ∀ k, (∀ y0 y1 y2 y3, LeO (spec_fgWay.l0 k y0 y1 y2 y3) (spec_fgWay.l0 (k + 1) y0 y1 y2 y3))
  | 0 => fun _ _ _ _ r h => by simp [spec_fgWay.l0] at h
  | k + 1 => by
    have ih0 := spec_fgWay.mono_l k
    · intro y0 y1 y2 y3
      unfold spec_fgWay.l0
      repeat' first
      | (with_reducible exact ih0 _ _ _ _)
      | (with_reducible exact LeO.refl _)
      | (with_reducible exact LeO.none _)
      | (with_reducible refine LeO.ite ?_ ?_)
      | (with_reducible refine LeO.bind ?_ (fun _ => ?_))
      | exact ih0 _ _ _ _
      | exact LeO.none _
      | refine LeO.ite ?_ ?_
      | refine LeO.bind ?_ (fun _ => ?_)
theorem spec_fgWay.mono : ∀ a0 a1 a2 k, LeO (spec_fgWay.f k a0 a1 a2) (spec_fgWay.f (k + 1) a0 a1 a2) := by
  intro a0 a1 a2 k
  have ih0 := spec_fgWay.mono_l k
  unfold spec_fgWay.f
  repeat' first
      | (with_reducible exact ih0 _ _ _ _)
      | (with_reducible exact LeO.refl _)
      | (with_reducible exact LeO.none _)
      | (with_reducible refine LeO.ite ?_ ?_)
      | (with_reducible refine LeO.bind ?_ (fun _ => ?_))
      | exact ih0 _ _ _ _
      | exact LeO.none _
      | refine LeO.ite ?_ ?_
      | refine LeO.bind ?_ (fun _ => ?_)
set_option maxHeartbeats 8000000 in
set_option maxRecDepth 100000 in
theorem spec_fgWay.calls (k : Nat) (A0 : Option Addr) (c0 : Nat) (l0 : List Int) (A1 : Option Addr) (c1 : Nat) (l1 : List Int) (a2 : Int) (r : List Int) (w : World) (hr0 : Kd.C (Kd.int .i64) w A0 l0.length l0) (hc0 : l0.length ≤ c0) (hr1 : Kd.C (Kd.int .i64) w A1 l1.length l1) (hc1 : l1.length ≤ c1) (h : spec_fgWay.f k l0 l1 a2 = some r) :
    Calls Tryd.prog 49 #[.slice A0 l0.length c0, .slice A1 l1.length c1, .int .i64 a2] w fun e w' => ∃ v0_ : Value, e = .returned (v0_) ∧ Kd.R (Kd.int .i64) 3 w' w.heap.size (fun _ => True) v0_ r ∧ Below w.heap.size w w' := by
  have HR0 := Aside0.mk hr0
  have HC0 := Aside0.mk hc0
  clear hr0 hc0
  have HR1 := Aside0.mk hr1
  have HC1 := Aside0.mk hc1
  clear hr1 hc1
  have HB := Aside0.mk (Below.refl w.heap.size w)
  have H : (spec_fgWay.l0 k l0 l1 a2 ([] : List Int)) = some r := h
  clear h
  have H' := Aside0.mk H
  clear H
  go_enter Tryd.func49, Tryd.ntmps49
  go_wp2
  go_loopg [2, 7] k (fun kq v2 v7 w' => ∃ (x2_1 : Int) (x7_1 : List Int), v2 = .int .i64 x2_1 ∧ Aside0 (spec_fgWay.l0 kq l0 l1 x2_1 x7_1 = some r) ∧ Aside0 (kq ≤ k) ∧ Aside0 (Kd.R (Kd.int .i64) 3 w' w.heap.size (fun _ => True) v7 x7_1) ∧ Aside0 (Below w.heap.size w w'))
  case atStart => exact ⟨(a2), (([] : List Int)), (by first | rfl | (simp; done) | (simp [*]; done)), H', ⟨Nat.le_refl _⟩, ⟨by first | exact Kd.R_nil _ _ _ _ _ | exact Kd.N_nil _ _ _ _ _ | exact Kd.V_nil _ _ _ _ _ | exact Kd.Q_nil _ _ _ _ _ | exact Kd.S_nil _ _ _ _ _⟩, ⟨by repeat (first | (with_reducible first | exact HB.out | apply below_alloc | apply pw_below_drewN | apply below_drew1) | exact HB.out)⟩⟩
  case round =>
    clear H'
    try clear c1
    try clear p2
    obtain ⟨x2_1, x7_1, rfl, HA, HK1, HO_7, HB⟩ := hrel
    cases gk with
    | zero => exact absurd HA.out (by simp [spec_fgWay.l0])
    | succ k1 =>
      have H := HA.out
      clear HA
      simp only [spec_fgWay.l0] at H
      by_cases c4 : 0 ≤ x2_1
      · rw [if_pos c4] at H
        have c4b0 : decide (0 ≤ x2_1) = true := decide_eq_true c4
        clear c4
        by_cases c5 : x2_1 < (l0.length : Int)
        · rw [if_pos c5] at H
          have c5b0 : decide (x2_1 < (l0.length : Int)) = true := decide_eq_true c5
          clear c5
          by_cases c6 : (rd l0 x2_1) ≥ 0
          · rw [if_pos c6] at H
            have c6b0 : decide (0 ≤ (rd l0 x2_1)) = true := decide_eq_true c6
            clear c6
            by_cases c7 : x2_1 < (l1.length : Int)
            · rw [if_pos c7] at H
              have c7b0 : decide (x2_1 < (l1.length : Int)) = true := decide_eq_true c7
              clear c7
              obtain ⟨y149, hy149⟩ : ∃ y_ : List Int, y_ = (([rd l1 x2_1] : List Int)) := ⟨_, rfl⟩
              replace H : (if y149.length + x7_1.length < 17592186044416 then (spec_fgWay.l0 k1 l0 l1 (rd l0 x2_1) (y149 ++ x7_1)) else (none)) = some r := by first | (rw [hy149]; with_reducible exact H) | (have H2_ := (Option.bind_some _ _).symm.trans H; rw [hy149]; with_reducible exact H2_) | (have H2_ := (Option.bind_some _ _).symm.trans H; with_reducible exact H2_) | with_reducible exact H | (rw [hy149]; exact H) | exact H
              have Ny149 := Aside0.mk hy149
              clear hy149
              by_cases c8 : y149.length + x7_1.length < 17592186044416
              · rw [if_pos c8] at H
                have LMc8 := Aside0.mk c8
                clear c8
                obtain ⟨y152, hy152⟩ : ∃ y_ : List Int, y_ = (y149 ++ x7_1) := ⟨_, rfl⟩
                replace H : (spec_fgWay.l0 k1 l0 l1 (rd l0 x2_1) y152) = some r := by first | (rw [hy152]; with_reducible exact H) | (have H2_ := (Option.bind_some _ _).symm.trans H; rw [hy152]; with_reducible exact H2_) | (have H2_ := (Option.bind_some _ _).symm.trans H; with_reducible exact H2_) | with_reducible exact H | (rw [hy152]; exact H) | exact H
                have Ny152 := Aside0.mk hy152
                clear hy152
                have H' := Aside0.mk H
                clear H
                have p147 : 0 ≤ (x2_1 : Int) := of_decide_eq_true (by first | (with_reducible assumption) | assumption)
                have q147 : x2_1 < (l0.length : Int) := of_decide_eq_true (by first | (with_reducible assumption) | assumption)
                obtain ⟨ad147, e147, hx147_0⟩ := Kd.at_int HR0.out x2_1 p147 q147
                cases e147
                replace hx147_0 := (HB.out.cell (World.block_lt_of_cell? w _ hx147_0)).trans hx147_0
                replace p147 := eq_true p147
                replace q147 := eq_true q147
                have p148 : 0 ≤ (x2_1 : Int) := of_decide_eq_true (by first | (with_reducible assumption) | assumption)
                have q148 : x2_1 < (l1.length : Int) := of_decide_eq_true (by first | (with_reducible assumption) | assumption)
                obtain ⟨ad148, e148, hx148_0⟩ := Kd.at_int HR1.out x2_1 p148 q148
                cases e148
                replace hx148_0 := (HB.out.cell (World.block_lt_of_cell? w _ hx148_0)).trans hx148_0
                replace p148 := eq_true p148
                replace q148 := eq_true q148
                go_wp2_with (first | ((with_reducible refine gate_dst (N := 21) rfl ?_); refine Kd.R_lit (Kd.int .i64) _ 3 ?hg (N := 21) ?hd (xs := ([rd l1 x2_1] : List Int)) (inner := [.int .i64 (rd l1 x2_1)]) (ok := fun _ => True) (okp := fun _ => True) ?hr ?hp (fun _ hk => hk) trivial (Below.refl _ _) (Nat.le_refl _) (by simp) ?_; (case hd => rfl); (case hg => rfl); (case hr => first | (go_simp; done) | (go_simp; rfl)); (case hp => exact (Reps.one (show Kd.M (Kd.int .i64) _ _ _ (rd l1 x2_1) [.int .i64 (rd l1 x2_1)] from rfl) (Reps.none _ _))); intro v150 w9 ho10 hb hg_ hnew_; clear hg_ hnew_; (first | rw [← Ny149.out] at ho10 | (simp only [Int.reduceToNat] at ho10; rw [← Ny149.out] at ho10)); have n0_ := Aside0.mk (Kd.R_elder' (by (with_reducible repeat (first | apply Kd.R_alloc | apply Kd.R_drewN | apply Kd.R_drew)); exact HO_7.out) (Kd.R_base ho10) hb); have n1_ := Aside0.mk (Kd.R_lower (Kd.R_new' ho10 (Kd.R_lt (by (with_reducible repeat (first | apply Kd.R_alloc | apply Kd.R_drewN | apply Kd.R_drew)); exact HO_7.out))) (below_size (by repeat (first | (with_reducible first | exact HB.out | apply below_alloc | apply pw_below_drewN | apply below_drew1) | exact HB.out)))); have n2_ := Aside0.mk (below_step (by repeat (first | (with_reducible first | exact HB.out | apply below_alloc | apply pw_below_drewN | apply below_drew1) | exact HB.out)) hb); clear HO_7; clear HB; have HO_7 := n0_; have HO151 := n1_; have HB := n2_; clear n0_ n1_ n2_; clear hb ho10; obtain ⟨Ao12, co12, eo12⟩ := Kd.R_slice HO_7.out; subst eo12) | ((with_reducible refine gate_builtin (b := .append) (xs := #[.tmp 21, .tmp 22]) rfl ?_); at_builtin; refine Kd.R_append_rows (Kd.int .i64) (w0 := w) w.heap.size rfl (.tmp 21) (.tmp 22) 34 3 (.int .i64 0) 8 rfl Tryd.underlying34 info3 rfl (by decide) (by omega) v150 y149 x7_1 _ _ _ (fun k_ => some k_ ≠ (.slice Ao12 x7_1.length co12 : Value).ownBlock) (fun _ => False) rfl rfl ?aO ?aR (fun _ _ h => h) (fun _ h => h.elim) ?aF ?aB ?aS ?aL ?_; (case aR => repeat (first | exact (Kd.R_reads' HO_7.out).2.2 | (with_reducible refine Kd.C_alloc ?_ _) | (with_reducible refine Kd.C_drewN ?_ _) | (with_reducible refine Kd.C_drew ?_))); (case aB => exact (by repeat (first | (with_reducible first | exact HB.out | apply below_alloc | apply pw_below_drewN | apply below_drew1) | exact HB.out))); (case aF => exact (fun k_ hk => Kd.fresh' (Kd.R_lt (by (with_reducible repeat (first | apply Kd.R_alloc | apply Kd.R_drewN | apply Kd.R_drew)); exact HO_7.out)) k_ hk)); (case aO => exact (by (with_reducible repeat (first | apply Kd.R_alloc | apply Kd.R_drewN | apply Kd.R_drew)); exact Kd.R_mono HO151.out (fun _ hk => hk.2))); (case aS => exact (below_size (by repeat (first | (with_reducible first | exact HB.out | apply below_alloc | apply pw_below_drewN | apply below_drew1) | exact HB.out)))); (case aL => have := LMc8.out; omega); intro v153 w11 ho hb hg hat; rw [← Ny152.out] at ho; have n0_ := Aside0.mk (Kd.R_after (ok := (fun _ => True)) (by (with_reducible repeat (first | apply Kd.R_alloc | apply Kd.R_drewN | apply Kd.R_drew)); exact HO_7.out) hg hat); have n1_ := Aside0.mk (hb); have n2_ := Aside0.mk (ho); clear HO_7; clear HB; clear HO151; have HO_7 := n0_; have HB := n1_; have HO154 := n2_; clear n0_ n1_ n2_; clear ho hb hg hat; have p155 : 0 ≤ (x2_1 : Int) := of_decide_eq_true (by first | (with_reducible assumption) | assumption); have q155 : x2_1 < (l0.length : Int) := of_decide_eq_true (by first | (with_reducible assumption) | assumption); obtain ⟨ad155, e155, hx155_0⟩ := Kd.at_int HR0.out x2_1 p155 q155; obtain rfl : ad147 = ad155 := (by injection e155); replace hx155_0 := (HB.out.cell (World.block_lt_of_cell? w _ hx155_0)).trans hx155_0; replace p155 := eq_true p155; replace q155 := eq_true q155))
                go_roundg k1
                case measure => have := HK1.out; omega
                case rel => exact ⟨(rd l0 x2_1), (y152), (by first | rfl | (simp; done) | (simp [*]; done)), H', ⟨by have := HK1.out; omega⟩, ⟨by (with_reducible repeat (first | apply Kd.R_alloc | apply Kd.R_drewN | apply Kd.R_drew)); exact Kd.R_mono HO154.out (fun _ hk => trivial)⟩, ⟨by repeat (first | (with_reducible first | exact HB.out | apply below_alloc | apply pw_below_drewN | apply below_drew1) | exact HB.out)⟩⟩
              · rw [if_neg c8] at H
                exact absurd H (by simp)
            · rw [if_neg c7] at H
              exact absurd H (by simp)
          · rw [if_neg c6] at H
            have c6b0 : decide (0 ≤ (rd l0 x2_1)) = false := decide_eq_false c6
            clear c6
            obtain rfl := Option.some.inj H
            have p147 : 0 ≤ (x2_1 : Int) := of_decide_eq_true (by first | (with_reducible assumption) | assumption)
            have q147 : x2_1 < (l0.length : Int) := of_decide_eq_true (by first | (with_reducible assumption) | assumption)
            obtain ⟨ad147, e147, hx147_0⟩ := Kd.at_int HR0.out x2_1 p147 q147
            cases e147
            replace hx147_0 := (HB.out.cell (World.block_lt_of_cell? w _ hx147_0)).trans hx147_0
            replace p147 := eq_true p147
            replace q147 := eq_true q147
            go_wp2
            go_ret
            exact ⟨_, by first | rfl | (simp [errW_none, errW_some] <;> rfl) | (simp [*, errW_none, errW_some] <;> rfl), by (with_reducible repeat (first | apply Kd.R_alloc | apply Kd.R_drewN | apply Kd.R_drew)); exact HO_7.out, by repeat (first | (with_reducible first | exact HB.out | apply below_alloc | apply pw_below_drewN | apply below_drew1) | exact HB.out)⟩
        · rw [if_neg c5] at H
          exact absurd H (by simp)
      · rw [if_neg c4] at H
        exact absurd H (by simp)

/-! ### spec_FirstFrogMoves: function 31 -/
def spec_FirstFrogMoves.f (k : Nat) (a0 : ByteArray) (a1 : ByteArray) : Option (List Int × Bool) := (spec_fgBoth.f k a0 a1).bind fun t156 => (if t156 = true then ((spec_fgReach.f k a0).bind fun bt157 => ((spec_fgAt.f k bt157.1 a1).bind fun t169 => (if t169 < 0 then (some (([] : List Int), false)) else ((spec_fgWay.f k bt157.2.1 bt157.2.2.1 t169).bind fun t170 => (some (t170, true)))))) else (some (([] : List Int), false)))
theorem spec_FirstFrogMoves.mono : ∀ a0 a1 k, LeO (spec_FirstFrogMoves.f k a0 a1) (spec_FirstFrogMoves.f (k + 1) a0 a1) := by
  intro a0 a1 k
  unfold spec_FirstFrogMoves.f
  repeat' first
      | (with_reducible exact spec_fgAt.mono _ _ _)
      | (with_reducible exact spec_fgBoth.mono _ _ _)
      | (with_reducible exact spec_fgReach.mono _ _)
      | (with_reducible exact spec_fgWay.mono _ _ _ _)
      | (with_reducible exact LeO.refl _)
      | (with_reducible exact LeO.none _)
      | (with_reducible refine LeO.ite ?_ ?_)
      | (with_reducible refine LeO.bind ?_ (fun _ => ?_))
      | exact spec_fgAt.mono _ _ _
      | exact spec_fgBoth.mono _ _ _
      | exact spec_fgReach.mono _ _
      | exact spec_fgWay.mono _ _ _ _
      | exact LeO.none _
      | refine LeO.ite ?_ ?_
      | refine LeO.bind ?_ (fun _ => ?_)
set_option maxHeartbeats 8000000 in
set_option maxRecDepth 100000 in
theorem spec_FirstFrogMoves.calls (k : Nat) (a0 : ByteArray) (a1 : ByteArray) (r1 : List Int) (r2 : Bool) (w : World) (h : spec_FirstFrogMoves.f k a0 a1 = some (r1, r2)) :
    Calls Tryd.prog 31 #[.string a0, .string a1] w fun e w' => ∃ v0_ : Value, e = .returned (.tuple #[v0_, .bool r2]) ∧ Kd.R (Kd.int .i64) 3 w' w.heap.size (fun _ => True) v0_ r1 ∧ Below w.heap.size w w' := by
  have HB := Aside0.mk (Below.refl w.heap.size w)
  have H : ((spec_fgBoth.f k a0 a1).bind fun t156 => (if t156 = true then ((spec_fgReach.f k a0).bind fun bt157 => ((spec_fgAt.f k bt157.1 a1).bind fun t169 => (if t169 < 0 then (some (([] : List Int), false)) else ((spec_fgWay.f k bt157.2.1 bt157.2.2.1 t169).bind fun t170 => (some (t170, true)))))) else (some (([] : List Int), false)))) = some (r1, r2) := h
  clear h
  replace H := Option.bind_eq_some_iff.mp H
  obtain ⟨t156, A30, H⟩ := H
  replace H : (if t156 = true then ((spec_fgReach.f k a0).bind fun bt157 => ((spec_fgAt.f k bt157.1 a1).bind fun t169 => (if t169 < 0 then (some (([] : List Int), false)) else ((spec_fgWay.f k bt157.2.1 bt157.2.2.1 t169).bind fun t170 => (some (t170, true)))))) else (some (([] : List Int), false))) = some (r1, r2) := H
  have A3 := Aside0.mk A30
  clear A30
  by_cases c4 : t156 = true
  · subst c4
    have H1 : ((spec_fgReach.f k a0).bind fun bt157 => ((spec_fgAt.f k bt157.1 a1).bind fun t169 => (if t169 < 0 then (some (([] : List Int), false)) else ((spec_fgWay.f k bt157.2.1 bt157.2.2.1 t169).bind fun t170 => (some (t170, true)))))) = some (r1, r2) := by rw [if_pos rfl] at H; exact H
    clear H
    have H := H1
    clear H1
    replace H := Option.bind_eq_some_iff.mp H
    obtain ⟨⟨t157, t158, t159, t160⟩, A50, H⟩ := H
    replace H : ((spec_fgAt.f k t157 a1).bind fun t169 => (if t169 < 0 then (some (([] : List Int), false)) else ((spec_fgWay.f k t158 t159 t169).bind fun t170 => (some (t170, true))))) = some (r1, r2) := H
    have A5 := Aside0.mk A50
    clear A50
    replace H := Option.bind_eq_some_iff.mp H
    obtain ⟨t169, A60, H⟩ := H
    replace H : (if t169 < 0 then (some (([] : List Int), false)) else ((spec_fgWay.f k t158 t159 t169).bind fun t170 => (some (t170, true)))) = some (r1, r2) := H
    have A6 := Aside0.mk A60
    clear A60
    by_cases c7 : t169 < 0
    · rw [if_pos c7] at H
      have c7b0 : decide (t169 < 0) = true := decide_eq_true c7
      clear c7
      simp only [Option.some.injEq, Prod.mk.injEq] at H
      obtain ⟨rfl, rfl⟩ := H
      go_enter Tryd.func31, Tryd.ntmps31
      go_wp2_with (first | ((with_reducible refine gate_callee (f := 47) rfl ?_); refine goesL_ (some 13) rfl rfl Tryd.func47 (by kernel_rfl) rfl #[.string a0, .string a1] rfl (by (try simp only [List.map_toArray, List.map_cons, List.map_nil]); first | done | rfl | (simp only [List.length_drop, List.length_take]; rfl)) ?_; (with_reducible refine (spec_fgBoth.calls k a0 a1 true _ A3.out).mono ?_); rintro e w' ⟨rfl, ⟨nd, rfl⟩⟩; refine ⟨_, rfl, ?_⟩) | ((with_reducible refine gate_callee (f := 34) rfl ?_); refine goesL_ (some 17) rfl rfl Tryd.func34 (by kernel_rfl) rfl #[.string a0] rfl (by (try simp only [List.map_toArray, List.map_cons, List.map_nil]); first | done | rfl | (simp only [List.length_drop, List.length_take]; rfl)) ?_; (with_reducible refine (spec_fgReach.calls k a0 t157 t158 t159 t160 _ A5.out).mono ?_); rintro e w8 ⟨v161, v163, v165, v167, rfl, ho0, ho1, ho2, ho3, hb⟩; refine ⟨_, rfl, ?_⟩; have n0_ := Aside0.mk (Kd.R_lower ho0 (below_size (by repeat (first | (with_reducible first | exact HB.out | apply below_alloc | apply pw_below_drewN | apply below_drew1) | exact HB.out)))); have n1_ := Aside0.mk (Kd.R_lower ho1 (below_size (by repeat (first | (with_reducible first | exact HB.out | apply below_alloc | apply pw_below_drewN | apply below_drew1) | exact HB.out)))); have n2_ := Aside0.mk (Kd.R_lower ho2 (below_size (by repeat (first | (with_reducible first | exact HB.out | apply below_alloc | apply pw_below_drewN | apply below_drew1) | exact HB.out)))); have n3_ := Aside0.mk (Kd.R_lower ho3 (below_size (by repeat (first | (with_reducible first | exact HB.out | apply below_alloc | apply pw_below_drewN | apply below_drew1) | exact HB.out)))); have n4_ := Aside0.mk (below_step (by repeat (first | (with_reducible first | exact HB.out | apply below_alloc | apply pw_below_drewN | apply below_drew1) | exact HB.out)) hb); clear HB; have HO162 := n0_; have HO164 := n1_; have HO166 := n2_; have HO168 := n3_; have HB := n4_; clear n0_ n1_ n2_ n3_ n4_; (try clear hb); (try clear hb2); (try clear hk); (try clear hi); (try clear ho0); (try clear ho1); (try clear ho2); (try clear ho3); obtain ⟨Ao9, co9, eo9⟩ := Kd.R_slice HO162.out; subst eo9) | ((with_reducible refine gate_callee (f := 43) rfl ?_); refine goesL_ (some 24) rfl rfl Tryd.func43 (by kernel_rfl) rfl #[.slice Ao9 t157.length co9, .string a1] rfl (by (try simp only [List.map_toArray, List.map_cons, List.map_nil]); first | done | rfl | (simp only [List.length_drop, List.length_take]; rfl)) ?_; (with_reducible refine (spec_fgAt.calls k _ _ t157 a1 t169 _ ?side1 ?side2 A6.out).mono ?_); (case side1 => repeat (first | exact (Kd.R_reads' HO162.out).2.2 | (with_reducible refine Kd.C_alloc ?_ _) | (with_reducible refine Kd.C_drewN ?_ _) | (with_reducible refine Kd.C_drew ?_))); (case side2 => exact (Kd.R_reads' HO162.out).2.1); rintro e w' ⟨rfl, ⟨nd, rfl⟩⟩; refine ⟨_, rfl, ?_⟩))
      go_ret2
      exact ⟨_, by first | rfl | (simp [errW_none, errW_some] <;> rfl) | (simp [*, errW_none, errW_some] <;> rfl), by first | exact Kd.R_nil _ _ _ _ _ | exact Kd.N_nil _ _ _ _ _ | exact Kd.V_nil _ _ _ _ _ | exact Kd.Q_nil _ _ _ _ _ | exact Kd.S_nil _ _ _ _ _, by repeat (first | (with_reducible first | exact HB.out | apply below_alloc | apply pw_below_drewN | apply below_drew1) | exact HB.out)⟩
    · rw [if_neg c7] at H
      have c7b0 : decide (t169 < 0) = false := decide_eq_false c7
      clear c7
      replace H := Option.bind_eq_some_iff.mp H
      obtain ⟨t170, A100, H⟩ := H
      replace H : (some (t170, true)) = some (r1, r2) := H
      have A10 := Aside0.mk A100
      clear A100
      simp only [Option.some.injEq, Prod.mk.injEq] at H
      obtain ⟨rfl, rfl⟩ := H
      go_enter Tryd.func31, Tryd.ntmps31
      go_wp2_with (first | ((with_reducible refine gate_callee (f := 47) rfl ?_); refine goesL_ (some 13) rfl rfl Tryd.func47 (by kernel_rfl) rfl #[.string a0, .string a1] rfl (by (try simp only [List.map_toArray, List.map_cons, List.map_nil]); first | done | rfl | (simp only [List.length_drop, List.length_take]; rfl)) ?_; (with_reducible refine (spec_fgBoth.calls k a0 a1 true _ A3.out).mono ?_); rintro e w' ⟨rfl, ⟨nd, rfl⟩⟩; refine ⟨_, rfl, ?_⟩) | ((with_reducible refine gate_callee (f := 34) rfl ?_); refine goesL_ (some 17) rfl rfl Tryd.func34 (by kernel_rfl) rfl #[.string a0] rfl (by (try simp only [List.map_toArray, List.map_cons, List.map_nil]); first | done | rfl | (simp only [List.length_drop, List.length_take]; rfl)) ?_; (with_reducible refine (spec_fgReach.calls k a0 t157 t158 t159 t160 _ A5.out).mono ?_); rintro e w11 ⟨v161, v163, v165, v167, rfl, ho0, ho1, ho2, ho3, hb⟩; refine ⟨_, rfl, ?_⟩; have n0_ := Aside0.mk (Kd.R_lower ho0 (below_size (by repeat (first | (with_reducible first | exact HB.out | apply below_alloc | apply pw_below_drewN | apply below_drew1) | exact HB.out)))); have n1_ := Aside0.mk (Kd.R_lower ho1 (below_size (by repeat (first | (with_reducible first | exact HB.out | apply below_alloc | apply pw_below_drewN | apply below_drew1) | exact HB.out)))); have n2_ := Aside0.mk (Kd.R_lower ho2 (below_size (by repeat (first | (with_reducible first | exact HB.out | apply below_alloc | apply pw_below_drewN | apply below_drew1) | exact HB.out)))); have n3_ := Aside0.mk (Kd.R_lower ho3 (below_size (by repeat (first | (with_reducible first | exact HB.out | apply below_alloc | apply pw_below_drewN | apply below_drew1) | exact HB.out)))); have n4_ := Aside0.mk (below_step (by repeat (first | (with_reducible first | exact HB.out | apply below_alloc | apply pw_below_drewN | apply below_drew1) | exact HB.out)) hb); clear HB; have HO162 := n0_; have HO164 := n1_; have HO166 := n2_; have HO168 := n3_; have HB := n4_; clear n0_ n1_ n2_ n3_ n4_; (try clear hb); (try clear hb2); (try clear hk); (try clear hi); (try clear ho0); (try clear ho1); (try clear ho2); (try clear ho3); obtain ⟨Ao12, co12, eo12⟩ := Kd.R_slice HO162.out; subst eo12) | ((with_reducible refine gate_callee (f := 43) rfl ?_); refine goesL_ (some 24) rfl rfl Tryd.func43 (by kernel_rfl) rfl #[.slice Ao12 t157.length co12, .string a1] rfl (by (try simp only [List.map_toArray, List.map_cons, List.map_nil]); first | done | rfl | (simp only [List.length_drop, List.length_take]; rfl)) ?_; (with_reducible refine (spec_fgAt.calls k _ _ t157 a1 t169 _ ?side1 ?side2 A6.out).mono ?_); (case side1 => repeat (first | exact (Kd.R_reads' HO162.out).2.2 | (with_reducible refine Kd.C_alloc ?_ _) | (with_reducible refine Kd.C_drewN ?_ _) | (with_reducible refine Kd.C_drew ?_))); (case side2 => exact (Kd.R_reads' HO162.out).2.1); rintro e w' ⟨rfl, ⟨nd, rfl⟩⟩; refine ⟨_, rfl, ?_⟩; obtain ⟨Ao13, co13, eo13⟩ := Kd.R_slice HO164.out; subst eo13; obtain ⟨Ao14, co14, eo14⟩ := Kd.R_slice HO166.out; subst eo14) | ((with_reducible refine gate_callee (f := 49) rfl ?_); refine goesL_ (some 30) rfl rfl Tryd.func49 (by kernel_rfl) rfl #[.slice Ao13 t158.length co13, .slice Ao14 t159.length co14, .int .i64 t169] rfl (by (try simp only [List.map_toArray, List.map_cons, List.map_nil]); first | done | rfl | (simp only [List.length_drop, List.length_take]; rfl)) ?_; (with_reducible refine (spec_fgWay.calls k _ _ t158 _ _ t159 t169 t170 _ ?side1 ?side2 ?side3 ?side4 A10.out).mono ?_); (case side1 => repeat (first | exact (Kd.R_reads' HO164.out).2.2 | (with_reducible refine Kd.C_alloc ?_ _) | (with_reducible refine Kd.C_drewN ?_ _) | (with_reducible refine Kd.C_drew ?_))); (case side2 => exact (Kd.R_reads' HO164.out).2.1); (case side3 => repeat (first | exact (Kd.R_reads' HO166.out).2.2 | (with_reducible refine Kd.C_alloc ?_ _) | (with_reducible refine Kd.C_drewN ?_ _) | (with_reducible refine Kd.C_drew ?_))); (case side4 => exact (Kd.R_reads' HO166.out).2.1); rintro e w15 ⟨v171, rfl, ho0, hb⟩; refine ⟨_, rfl, ?_⟩; have n0_ := Aside0.mk (Kd.R_below (by (with_reducible repeat (first | apply Kd.R_alloc | apply Kd.R_drewN | apply Kd.R_drew)); exact HO162.out) hb); have n1_ := Aside0.mk (Kd.R_elder' (by (with_reducible repeat (first | apply Kd.R_alloc | apply Kd.R_drewN | apply Kd.R_drew)); exact HO164.out) (Kd.R_base ho0) hb); have n2_ := Aside0.mk (Kd.R_elder' (by (with_reducible repeat (first | apply Kd.R_alloc | apply Kd.R_drewN | apply Kd.R_drew)); exact HO166.out) (Kd.R_base ho0) hb); have n3_ := Aside0.mk (Kd.R_elder' (by (with_reducible repeat (first | apply Kd.R_alloc | apply Kd.R_drewN | apply Kd.R_drew)); exact HO168.out) (Kd.R_base ho0) hb); have n4_ := Aside0.mk (Kd.R_lower (Kd.R_new' (Kd.R_new' (Kd.R_new' ho0 (Kd.R_lt (by (with_reducible repeat (first | apply Kd.R_alloc | apply Kd.R_drewN | apply Kd.R_drew)); exact HO164.out))) (Kd.R_lt (by (with_reducible repeat (first | apply Kd.R_alloc | apply Kd.R_drewN | apply Kd.R_drew)); exact HO166.out))) (Kd.R_lt (by (with_reducible repeat (first | apply Kd.R_alloc | apply Kd.R_drewN | apply Kd.R_drew)); exact HO168.out))) (below_size (by repeat (first | (with_reducible first | exact HB.out | apply below_alloc | apply pw_below_drewN | apply below_drew1) | exact HB.out)))); have n5_ := Aside0.mk (below_step (by repeat (first | (with_reducible first | exact HB.out | apply below_alloc | apply pw_below_drewN | apply below_drew1) | exact HB.out)) hb); clear HO162; clear HO164; clear HO166; clear HO168; clear HB; have HO162 := n0_; have HO164 := n1_; have HO166 := n2_; have HO168 := n3_; have HO172 := n4_; have HB := n5_; clear n0_ n1_ n2_ n3_ n4_ n5_; (try clear hb); (try clear hb2); (try clear hk); (try clear hi); (try clear ho0)))
      go_ret2
      exact ⟨_, by first | rfl | (simp [errW_none, errW_some] <;> rfl) | (simp [*, errW_none, errW_some] <;> rfl), by (with_reducible repeat (first | apply Kd.R_alloc | apply Kd.R_drewN | apply Kd.R_drew)); exact Kd.R_mono HO172.out (fun _ hk => trivial), by repeat (first | (with_reducible first | exact HB.out | apply below_alloc | apply pw_below_drewN | apply below_drew1) | exact HB.out)⟩
  · replace c4 := Bool.eq_false_iff.mpr c4
    subst c4
    have H1 : (some (([] : List Int), false)) = some (r1, r2) := by rw [if_neg (show ¬ (false = true) by decide)] at H; exact H
    clear H
    have H := H1
    clear H1
    simp only [Option.some.injEq, Prod.mk.injEq] at H
    obtain ⟨rfl, rfl⟩ := H
    go_enter Tryd.func31, Tryd.ntmps31
    go_wp2_with (first | ((with_reducible refine gate_callee (f := 47) rfl ?_); refine goesL_ (some 13) rfl rfl Tryd.func47 (by kernel_rfl) rfl #[.string a0, .string a1] rfl (by (try simp only [List.map_toArray, List.map_cons, List.map_nil]); first | done | rfl | (simp only [List.length_drop, List.length_take]; rfl)) ?_; (with_reducible refine (spec_fgBoth.calls k a0 a1 false _ A3.out).mono ?_); rintro e w' ⟨rfl, ⟨nd, rfl⟩⟩; refine ⟨_, rfl, ?_⟩))
    go_ret2
    exact ⟨_, by first | rfl | (simp [errW_none, errW_some] <;> rfl) | (simp [*, errW_none, errW_some] <;> rfl), by first | exact Kd.R_nil _ _ _ _ _ | exact Kd.N_nil _ _ _ _ _ | exact Kd.V_nil _ _ _ _ _ | exact Kd.Q_nil _ _ _ _ _ | exact Kd.S_nil _ _ _ _ _, by repeat (first | (with_reducible first | exact HB.out | apply below_alloc | apply pw_below_drewN | apply below_drew1) | exact HB.out)⟩

/-! ### impl_within: function 59 -/
def impl_within.f (a0 : Int) (a1 : Int) (a2 : Int) : Option (Bool) := if a1 ≤ a0 then (some (decide (a0 ≤ a2))) else (some false)
set_option maxHeartbeats 8000000 in
set_option maxRecDepth 100000 in
theorem impl_within.calls (a0 : Int) (a1 : Int) (a2 : Int) (r : Bool) (w : World) (h : impl_within.f a0 a1 a2 = some r) :
    Calls Tryd.prog 59 #[.int .i64 a0, .int .i64 a1, .int .i64 a2] w fun e w' => e = .returned (.bool r) ∧ Drawn0 w w' := by
  have H : (if a1 ≤ a0 then (some (decide (a0 ≤ a2))) else (some false)) = some r := h
  clear h
  by_cases c4 : a1 ≤ a0
  · rw [if_pos c4] at H
    have c4b0 : decide (a1 ≤ a0) = true := decide_eq_true c4
    clear c4
    obtain rfl := Option.some.inj H
    go_enter Tryd.func59, Tryd.ntmps59
    go_wp2
    go_ret
    exact ⟨by first | rfl | (simp; done) | (simp [*]; done), by repeat (first | exact Drawn0.refl _ | apply Drawn0.step)⟩
  · rw [if_neg c4] at H
    have c4b0 : decide (a1 ≤ a0) = false := decide_eq_false c4
    clear c4
    obtain rfl := Option.some.inj H
    go_enter Tryd.func59, Tryd.ntmps59
    go_wp2
    go_ret
    exact ⟨by first | rfl | (simp; done) | (simp [*]; done), by repeat (first | exact Drawn0.refl _ | apply Drawn0.step)⟩

/-! ### strings_Trim: function 60 -/
def strings_Trim.ok (cs : ByteArray) : Bool := cs.data.toList.all fun b => decide (b.toNat < 128)
def strings_Trim.f (a0 : ByteArray) (a1 : ByteArray) : Option (ByteArray) := if a0.size ≤ 9223372036854775807 ∧ a1.size < 4294967281 ∧ strings_Trim.ok a1 = true then (some ⟨(Lib.trimS a0.data.toList a1.data.toList).toArray⟩) else none
theorem strings_Trim.calls (a0 : ByteArray) (a1 : ByteArray) (r : ByteArray) (w : World) (h : strings_Trim.f a0 a1 = some r) :
    Calls Tryd.prog 60 #[.string a0, .string a1] w fun e w' => e = .returned (.string r) ∧ Below w.heap.size w w' := by
  unfold strings_Trim.f at h
  by_cases c : a0.size ≤ 9223372036854775807 ∧ a1.size < 4294967281 ∧ strings_Trim.ok a1 = true
  · rw [if_pos c] at h
    obtain rfl := Option.some.inj h
    obtain ⟨h0, h1, h2⟩ := c
    have hcon := Any.strings_Trim_laid Tryd.lays160 (by kernel_rfl) a0 a1 w h0 h1 (fun j b hb => by
      have h3 := List.all_eq_true.mp h2 b (List.mem_of_getElem? hb)
      exact of_decide_eq_true h3)
    exact hcon
  · rw [if_neg c] at h
    cases h


/-! ### impl_IsPond: function 36 -/
def impl_IsPond.f (a0 : ByteArray) : Option (Bool) := (impl_within.f (a0.size : Int) 1 9).bind fun t173 => (if t173 = true then ((strings_Trim.f a0 (⟨#[114, 108, 46]⟩ : ByteArray)).bind fun t174 => (some (t174.toList == ([] : List UInt8)))) else (some false))
set_option maxHeartbeats 8000000 in
set_option maxRecDepth 100000 in
theorem impl_IsPond.calls (a0 : ByteArray) (r : Bool) (w : World) (h : impl_IsPond.f a0 = some r) :
    Calls Tryd.prog 36 #[.string a0] w fun e w' => e = .returned (.bool r) ∧ Below w.heap.size w w' := by
  have HB := Aside0.mk (Below.refl w.heap.size w)
  have H : ((impl_within.f (a0.size : Int) 1 9).bind fun t173 => (if t173 = true then ((strings_Trim.f a0 (⟨#[114, 108, 46]⟩ : ByteArray)).bind fun t174 => (some (t174.toList == ([] : List UInt8)))) else (some false))) = some r := h
  clear h
  replace H := Option.bind_eq_some_iff.mp H
  obtain ⟨t173, A20, H⟩ := H
  replace H : (if t173 = true then ((strings_Trim.f a0 (⟨#[114, 108, 46]⟩ : ByteArray)).bind fun t174 => (some (t174.toList == ([] : List UInt8)))) else (some false)) = some r := H
  have A2 := Aside0.mk A20
  clear A20
  by_cases c3 : t173 = true
  · subst c3
    have H1 : ((strings_Trim.f a0 (⟨#[114, 108, 46]⟩ : ByteArray)).bind fun t174 => (some (t174.toList == ([] : List UInt8)))) = some r := by rw [if_pos rfl] at H; exact H
    clear H
    have H := H1
    clear H1
    replace H := Option.bind_eq_some_iff.mp H
    obtain ⟨t174, A40, H⟩ := H
    replace H : (some (t174.toList == ([] : List UInt8))) = some r := H
    have A4 := Aside0.mk A40
    clear A40
    obtain rfl := Option.some.inj H
    go_enter Tryd.func36, Tryd.ntmps36
    go_wp2_with (first | ((with_reducible refine gate_callee (f := 59) rfl ?_); refine goesL_ (some 5) rfl rfl Tryd.func59 (by kernel_rfl) rfl #[.int .i64 (a0.size : Int), .int .i64 1, .int .i64 9] rfl (by (try simp only [List.map_toArray, List.map_cons, List.map_nil]); first | done | rfl | (simp only [List.length_drop, List.length_take]; rfl)) ?_; (with_reducible refine (impl_within.calls (a0.size : Int) 1 9 true _ A2.out).mono ?_); rintro e w' ⟨rfl, ⟨nd, rfl⟩⟩; refine ⟨_, rfl, ?_⟩) | (go_at_call 60; (with_reducible refine (strings_Trim.calls a0 (⟨#[114, 108, 46]⟩ : ByteArray) t174 _ A4.out).mono ?_); rintro e w5 ⟨rfl, hb⟩; have n0_ := Aside0.mk (below_step (by repeat (first | (with_reducible first | exact HB.out | apply below_alloc | apply pw_below_drewN | apply below_drew1) | exact HB.out)) hb); clear HB; have HB := n0_; clear n0_; (try clear hb); (try clear hb2); (try clear hk); (try clear hi)))
    go_ret
    exact ⟨by first | rfl | (simp [errW_none, errW_some] <;> rfl) | (simp [*, errW_none, errW_some] <;> rfl), by repeat (first | (with_reducible first | exact HB.out | apply below_alloc | apply pw_below_drewN | apply below_drew1) | exact HB.out)⟩
  · replace c3 := Bool.eq_false_iff.mpr c3
    subst c3
    have H1 : (some false) = some r := by rw [if_neg (show ¬ (false = true) by decide)] at H; exact H
    clear H
    have H := H1
    clear H1
    obtain rfl := Option.some.inj H
    go_enter Tryd.func36, Tryd.ntmps36
    go_wp2_with (first | ((with_reducible refine gate_callee (f := 59) rfl ?_); refine goesL_ (some 5) rfl rfl Tryd.func59 (by kernel_rfl) rfl #[.int .i64 (a0.size : Int), .int .i64 1, .int .i64 9] rfl (by (try simp only [List.map_toArray, List.map_cons, List.map_nil]); first | done | rfl | (simp only [List.length_drop, List.length_take]; rfl)) ?_; (with_reducible refine (impl_within.calls (a0.size : Int) 1 9 false _ A2.out).mono ?_); rintro e w' ⟨rfl, ⟨nd, rfl⟩⟩; refine ⟨_, rfl, ?_⟩))
    go_ret
    exact ⟨by first | rfl | (simp [errW_none, errW_some] <;> rfl) | (simp [*, errW_none, errW_some] <;> rfl), by repeat (first | (with_reducible first | exact HB.out | apply below_alloc | apply pw_below_drewN | apply below_drew1) | exact HB.out)⟩

/-! ### impl_target: function 77 -/
--USES helper_frog
theorem impl_target.cell0 (w : World) (s : ByteArray) : (w.alloc (.cells #[.string s] 9)).cell? ⟨w.heap.size, 0, none⟩ = some (.string s) := by
  rw [World.cell?_alloc_at _ _ _ _ rfl]; rfl
theorem impl_target.cellN (w : World) (s : ByteArray) (m : Nat) : ((w.alloc (.cells #[.string s] 9)).drewN m).cell? ⟨w.heap.size, 0, none⟩ = some (.string s) := impl_target.cell0 w s
set_option maxHeartbeats 8000000 in
set_option maxRecDepth 100000 in
theorem impl_target.cl (s : ByteArray) (x m : Int) (r : Bool) (B : Nat) (w : World) (hm : wrap64 ((s.size : Int) - 1) = m) (hc : w.cell? ⟨B, 0, none⟩ = some (.string s)) (h : impl_within.f x 0 m = some r) :
    Calls Tryd.prog 103 #[.int .i64 x, .pointer (some ⟨B, 0, none⟩)] w fun e w' => e = .returned (.bool r) ∧ Drawn0 w w' := by
  have H := Aside0.mk h
  have hmw : IntKind.i64.wrap ((s.size : Int) - 1) = m := (i64_w _).trans hm
  clear h
  go_enter Tryd.func103, Tryd.ntmps103
  go_wp2_with (go_at_call 59; (with_reducible refine (impl_within.calls x 0 m r _ H.out).mono ?_); rintro e w' ⟨rfl, ⟨nd, rfl⟩⟩)
  go_ret
  exact ⟨rfl, ⟨_, rfl⟩⟩
set_option maxHeartbeats 8000000 in
set_option maxRecDepth 100000 in
theorem impl_target.wdot (s : ByteArray) (i j1 j2 m : Int) (w : World) (hm : wrap64 ((s.size : Int) - 1) = m) (p0 : 0 ≤ i) (q0 : i < (s.size : Int)) (e46 : (bt s i == 46) = true) :
    Calls Tryd.prog 77 #[.string s, .int .i64 i] w fun e w' => e = .returned (.int .i64 (-1)) ∧ Below w.heap.size w w' := by
  have HM := Aside0.mk hm
  clear hm
  have HW := Aside0.mk (fun nd => impl_target.cellN w s nd)
  have HW0 := Aside0.mk (impl_target.cell0 w s)
  have hmf : ∀ (fn : Fn) (first cap : Array Value) (w : World), (Instr.makeFunc fn first cap).run Tryd.prog w = .ok (.func fn first cap) w := fun _ _ _ _ => rfl
  have x0 := bt_at s i
  replace p0 := eq_true p0
  replace q0 := eq_true q0
  have n46 : (bt s i != 46) = false := by unfold bne; rw [e46]; rfl
  go_enter Tryd.func77, Tryd.ntmps77
  go_wp2
  go_ret
  exact ⟨by first | rfl | (simp; done) | (simp [*]; done), by repeat (first | exact Below.refl _ _ | apply below_alloc | apply pw_below_drewN | apply below_drew1)⟩
set_option maxHeartbeats 8000000 in
set_option maxRecDepth 100000 in
theorem impl_target.wr1 (s : ByteArray) (i j1 j2 m : Int) (w : World) (hm : wrap64 ((s.size : Int) - 1) = m) (p0 : 0 ≤ i) (q0 : i < (s.size : Int)) (e46 : (bt s i == 46) = false) (e108 : (bt s i == 108) = false) (h0 : wrap64 (i + 1) = j1) (h1 : wrap64 (i + 2) = j2) (A1 : impl_within.f j1 0 m = some true) (p1 : 0 ≤ j1) (q1 : j1 < (s.size : Int)) (ea : (bt s j1 == 46) = true) :
    Calls Tryd.prog 77 #[.string s, .int .i64 i] w fun e w' => e = .returned (.int .i64 j1) ∧ Below w.heap.size w w' := by
  have HM := Aside0.mk hm
  clear hm
  have HW := Aside0.mk (fun nd => impl_target.cellN w s nd)
  have HW0 := Aside0.mk (impl_target.cell0 w s)
  have hmf : ∀ (fn : Fn) (first cap : Array Value) (w : World), (Instr.makeFunc fn first cap).run Tryd.prog w = .ok (.func fn first cap) w := fun _ _ _ _ => rfl
  have x0 := bt_at s i
  replace p0 := eq_true p0
  replace q0 := eq_true q0
  have n46 : (bt s i != 46) = true := by unfold bne; rw [e46]; rfl
  have n108 : (bt s i != 108) = true := by unfold bne; rw [e108]; rfl
  have h0w : IntKind.i64.wrap (i + 1) = j1 := (i64_w _).trans h0
  have h1w : IntKind.i64.wrap (i + 2) = j2 := (i64_w _).trans h1
  have B1 := Aside0.mk A1
  clear A1
  have x1 := bt_at s j1
  replace p1 := eq_true p1
  replace q1 := eq_true q1
  have na : (bt s j1 != 46) = false := by unfold bne; rw [ea]; rfl
  go_enter Tryd.func77, Tryd.ntmps77
  go_wp2_with (first | (go_at_call 103; (with_reducible refine (impl_target.cl s j1 m true w.heap.size _ HM.out HW0.out B1.out).mono ?_); rintro e w' ⟨rfl, ⟨nd, rfl⟩⟩; (try first | exact ⟨rfl, _, World.drewN_drewN _ _ _⟩ | exact ⟨rfl, _, Eq.trans (World.drewN_drewN _ _ _) (congrArg (World.drewN _) (Nat.add_assoc _ _ _))⟩)) | (go_at_call 103; (with_reducible refine (impl_target.cl s j1 m true w.heap.size _ HM.out (HW.out _) B1.out).mono ?_); rintro e w' ⟨rfl, ⟨nd, rfl⟩⟩; (try first | exact ⟨rfl, _, World.drewN_drewN _ _ _⟩ | exact ⟨rfl, _, Eq.trans (World.drewN_drewN _ _ _) (congrArg (World.drewN _) (Nat.add_assoc _ _ _))⟩)))
  repeat (go_quiet (first | (go_at_call 103; (with_reducible refine (impl_target.cl s j1 m true w.heap.size _ HM.out HW0.out B1.out).mono ?_); rintro e w' ⟨rfl, ⟨nd, rfl⟩⟩; (try first | exact ⟨rfl, _, World.drewN_drewN _ _ _⟩ | exact ⟨rfl, _, Eq.trans (World.drewN_drewN _ _ _) (congrArg (World.drewN _) (Nat.add_assoc _ _ _))⟩)) | (go_at_call 103; (with_reducible refine (impl_target.cl s j1 m true w.heap.size _ HM.out (HW.out _) B1.out).mono ?_); rintro e w' ⟨rfl, ⟨nd, rfl⟩⟩; (try first | exact ⟨rfl, _, World.drewN_drewN _ _ _⟩ | exact ⟨rfl, _, Eq.trans (World.drewN_drewN _ _ _) (congrArg (World.drewN _) (Nat.add_assoc _ _ _))⟩))); try go_wp2_with (first | (go_at_call 103; (with_reducible refine (impl_target.cl s j1 m true w.heap.size _ HM.out HW0.out B1.out).mono ?_); rintro e w' ⟨rfl, ⟨nd, rfl⟩⟩; (try first | exact ⟨rfl, _, World.drewN_drewN _ _ _⟩ | exact ⟨rfl, _, Eq.trans (World.drewN_drewN _ _ _) (congrArg (World.drewN _) (Nat.add_assoc _ _ _))⟩)) | (go_at_call 103; (with_reducible refine (impl_target.cl s j1 m true w.heap.size _ HM.out (HW.out _) B1.out).mono ?_); rintro e w' ⟨rfl, ⟨nd, rfl⟩⟩; (try first | exact ⟨rfl, _, World.drewN_drewN _ _ _⟩ | exact ⟨rfl, _, Eq.trans (World.drewN_drewN _ _ _) (congrArg (World.drewN _) (Nat.add_assoc _ _ _))⟩))))
  go_ret
  exact ⟨by first | rfl | (simp; done) | (simp [*]; done), by repeat (first | exact Below.refl _ _ | apply below_alloc | apply pw_below_drewN | apply below_drew1)⟩
set_option maxHeartbeats 8000000 in
set_option maxRecDepth 100000 in
theorem impl_target.wr1000 (s : ByteArray) (i j1 j2 m : Int) (w : World) (hm : wrap64 ((s.size : Int) - 1) = m) (p0 : 0 ≤ i) (q0 : i < (s.size : Int)) (e46 : (bt s i == 46) = false) (e108 : (bt s i == 108) = false) (h0 : wrap64 (i + 1) = j1) (h1 : wrap64 (i + 2) = j2) (A1 : impl_within.f j1 0 m = some true) (p1 : 0 ≤ j1) (q1 : j1 < (s.size : Int)) (ea : (bt s j1 == 46) = false) (A2 : impl_within.f j2 0 m = some false) :
    Calls Tryd.prog 77 #[.string s, .int .i64 i] w fun e w' => e = .returned (.int .i64 (-1)) ∧ Below w.heap.size w w' := by
  have HM := Aside0.mk hm
  clear hm
  have HW := Aside0.mk (fun nd => impl_target.cellN w s nd)
  have HW0 := Aside0.mk (impl_target.cell0 w s)
  have hmf : ∀ (fn : Fn) (first cap : Array Value) (w : World), (Instr.makeFunc fn first cap).run Tryd.prog w = .ok (.func fn first cap) w := fun _ _ _ _ => rfl
  have x0 := bt_at s i
  replace p0 := eq_true p0
  replace q0 := eq_true q0
  have n46 : (bt s i != 46) = true := by unfold bne; rw [e46]; rfl
  have n108 : (bt s i != 108) = true := by unfold bne; rw [e108]; rfl
  have h0w : IntKind.i64.wrap (i + 1) = j1 := (i64_w _).trans h0
  have h1w : IntKind.i64.wrap (i + 2) = j2 := (i64_w _).trans h1
  have B1 := Aside0.mk A1
  clear A1
  have x1 := bt_at s j1
  replace p1 := eq_true p1
  replace q1 := eq_true q1
  have na : (bt s j1 != 46) = true := by unfold bne; rw [ea]; rfl
  have B2 := Aside0.mk A2
  clear A2
  go_enter Tryd.func77, Tryd.ntmps77
  go_wp2_with (first | (go_at_call 103; (with_reducible refine (impl_target.cl s j1 m true w.heap.size _ HM.out HW0.out B1.out).mono ?_); rintro e w' ⟨rfl, ⟨nd, rfl⟩⟩; (try first | exact ⟨rfl, _, World.drewN_drewN _ _ _⟩ | exact ⟨rfl, _, Eq.trans (World.drewN_drewN _ _ _) (congrArg (World.drewN _) (Nat.add_assoc _ _ _))⟩)) | (go_at_call 103; (with_reducible refine (impl_target.cl s j1 m true w.heap.size _ HM.out (HW.out _) B1.out).mono ?_); rintro e w' ⟨rfl, ⟨nd, rfl⟩⟩; (try first | exact ⟨rfl, _, World.drewN_drewN _ _ _⟩ | exact ⟨rfl, _, Eq.trans (World.drewN_drewN _ _ _) (congrArg (World.drewN _) (Nat.add_assoc _ _ _))⟩)) | (go_at_call 103; (with_reducible refine (impl_target.cl s j2 m false w.heap.size _ HM.out HW0.out B2.out).mono ?_); rintro e w' ⟨rfl, ⟨nd, rfl⟩⟩; (try first | exact ⟨rfl, _, World.drewN_drewN _ _ _⟩ | exact ⟨rfl, _, Eq.trans (World.drewN_drewN _ _ _) (congrArg (World.drewN _) (Nat.add_assoc _ _ _))⟩)) | (go_at_call 103; (with_reducible refine (impl_target.cl s j2 m false w.heap.size _ HM.out (HW.out _) B2.out).mono ?_); rintro e w' ⟨rfl, ⟨nd, rfl⟩⟩; (try first | exact ⟨rfl, _, World.drewN_drewN _ _ _⟩ | exact ⟨rfl, _, Eq.trans (World.drewN_drewN _ _ _) (congrArg (World.drewN _) (Nat.add_assoc _ _ _))⟩)))
  repeat (go_quiet (first | (go_at_call 103; (with_reducible refine (impl_target.cl s j1 m true w.heap.size _ HM.out HW0.out B1.out).mono ?_); rintro e w' ⟨rfl, ⟨nd, rfl⟩⟩; (try first | exact ⟨rfl, _, World.drewN_drewN _ _ _⟩ | exact ⟨rfl, _, Eq.trans (World.drewN_drewN _ _ _) (congrArg (World.drewN _) (Nat.add_assoc _ _ _))⟩)) | (go_at_call 103; (with_reducible refine (impl_target.cl s j1 m true w.heap.size _ HM.out (HW.out _) B1.out).mono ?_); rintro e w' ⟨rfl, ⟨nd, rfl⟩⟩; (try first | exact ⟨rfl, _, World.drewN_drewN _ _ _⟩ | exact ⟨rfl, _, Eq.trans (World.drewN_drewN _ _ _) (congrArg (World.drewN _) (Nat.add_assoc _ _ _))⟩)) | (go_at_call 103; (with_reducible refine (impl_target.cl s j2 m false w.heap.size _ HM.out HW0.out B2.out).mono ?_); rintro e w' ⟨rfl, ⟨nd, rfl⟩⟩; (try first | exact ⟨rfl, _, World.drewN_drewN _ _ _⟩ | exact ⟨rfl, _, Eq.trans (World.drewN_drewN _ _ _) (congrArg (World.drewN _) (Nat.add_assoc _ _ _))⟩)) | (go_at_call 103; (with_reducible refine (impl_target.cl s j2 m false w.heap.size _ HM.out (HW.out _) B2.out).mono ?_); rintro e w' ⟨rfl, ⟨nd, rfl⟩⟩; (try first | exact ⟨rfl, _, World.drewN_drewN _ _ _⟩ | exact ⟨rfl, _, Eq.trans (World.drewN_drewN _ _ _) (congrArg (World.drewN _) (Nat.add_assoc _ _ _))⟩))); try go_wp2_with (first | (go_at_call 103; (with_reducible refine (impl_target.cl s j1 m true w.heap.size _ HM.out HW0.out B1.out).mono ?_); rintro e w' ⟨rfl, ⟨nd, rfl⟩⟩; (try first | exact ⟨rfl, _, World.drewN_drewN _ _ _⟩ | exact ⟨rfl, _, Eq.trans (World.drewN_drewN _ _ _) (congrArg (World.drewN _) (Nat.add_assoc _ _ _))⟩)) | (go_at_call 103; (with_reducible refine (impl_target.cl s j1 m true w.heap.size _ HM.out (HW.out _) B1.out).mono ?_); rintro e w' ⟨rfl, ⟨nd, rfl⟩⟩; (try first | exact ⟨rfl, _, World.drewN_drewN _ _ _⟩ | exact ⟨rfl, _, Eq.trans (World.drewN_drewN _ _ _) (congrArg (World.drewN _) (Nat.add_assoc _ _ _))⟩)) | (go_at_call 103; (with_reducible refine (impl_target.cl s j2 m false w.heap.size _ HM.out HW0.out B2.out).mono ?_); rintro e w' ⟨rfl, ⟨nd, rfl⟩⟩; (try first | exact ⟨rfl, _, World.drewN_drewN _ _ _⟩ | exact ⟨rfl, _, Eq.trans (World.drewN_drewN _ _ _) (congrArg (World.drewN _) (Nat.add_assoc _ _ _))⟩)) | (go_at_call 103; (with_reducible refine (impl_target.cl s j2 m false w.heap.size _ HM.out (HW.out _) B2.out).mono ?_); rintro e w' ⟨rfl, ⟨nd, rfl⟩⟩; (try first | exact ⟨rfl, _, World.drewN_drewN _ _ _⟩ | exact ⟨rfl, _, Eq.trans (World.drewN_drewN _ _ _) (congrArg (World.drewN _) (Nat.add_assoc _ _ _))⟩))))
  go_ret
  exact ⟨by first | rfl | (simp; done) | (simp [*]; done), by repeat (first | exact Below.refl _ _ | apply below_alloc | apply pw_below_drewN | apply below_drew1)⟩
set_option maxHeartbeats 8000000 in
set_option maxRecDepth 100000 in
theorem impl_target.wr1100 (s : ByteArray) (i j1 j2 m : Int) (w : World) (hm : wrap64 ((s.size : Int) - 1) = m) (p0 : 0 ≤ i) (q0 : i < (s.size : Int)) (e46 : (bt s i == 46) = false) (e108 : (bt s i == 108) = false) (h0 : wrap64 (i + 1) = j1) (h1 : wrap64 (i + 2) = j2) (A1 : impl_within.f j1 0 m = some true) (p1 : 0 ≤ j1) (q1 : j1 < (s.size : Int)) (ea : (bt s j1 == 46) = false) (A2 : impl_within.f j2 0 m = some true) (p2 : 0 ≤ j2) (q2 : j2 < (s.size : Int)) (eb : (bt s j2 == 46) = false) :
    Calls Tryd.prog 77 #[.string s, .int .i64 i] w fun e w' => e = .returned (.int .i64 (-1)) ∧ Below w.heap.size w w' := by
  have HM := Aside0.mk hm
  clear hm
  have HW := Aside0.mk (fun nd => impl_target.cellN w s nd)
  have HW0 := Aside0.mk (impl_target.cell0 w s)
  have hmf : ∀ (fn : Fn) (first cap : Array Value) (w : World), (Instr.makeFunc fn first cap).run Tryd.prog w = .ok (.func fn first cap) w := fun _ _ _ _ => rfl
  have x0 := bt_at s i
  replace p0 := eq_true p0
  replace q0 := eq_true q0
  have n46 : (bt s i != 46) = true := by unfold bne; rw [e46]; rfl
  have n108 : (bt s i != 108) = true := by unfold bne; rw [e108]; rfl
  have h0w : IntKind.i64.wrap (i + 1) = j1 := (i64_w _).trans h0
  have h1w : IntKind.i64.wrap (i + 2) = j2 := (i64_w _).trans h1
  have B1 := Aside0.mk A1
  clear A1
  have x1 := bt_at s j1
  replace p1 := eq_true p1
  replace q1 := eq_true q1
  have na : (bt s j1 != 46) = true := by unfold bne; rw [ea]; rfl
  have B2 := Aside0.mk A2
  clear A2
  have x2 := bt_at s j2
  replace p2 := eq_true p2
  replace q2 := eq_true q2
  have nb : (bt s j2 != 46) = true := by unfold bne; rw [eb]; rfl
  go_enter Tryd.func77, Tryd.ntmps77
  go_wp2_with (first | (go_at_call 103; (with_reducible refine (impl_target.cl s j1 m true w.heap.size _ HM.out HW0.out B1.out).mono ?_); rintro e w' ⟨rfl, ⟨nd, rfl⟩⟩; (try first | exact ⟨rfl, _, World.drewN_drewN _ _ _⟩ | exact ⟨rfl, _, Eq.trans (World.drewN_drewN _ _ _) (congrArg (World.drewN _) (Nat.add_assoc _ _ _))⟩)) | (go_at_call 103; (with_reducible refine (impl_target.cl s j1 m true w.heap.size _ HM.out (HW.out _) B1.out).mono ?_); rintro e w' ⟨rfl, ⟨nd, rfl⟩⟩; (try first | exact ⟨rfl, _, World.drewN_drewN _ _ _⟩ | exact ⟨rfl, _, Eq.trans (World.drewN_drewN _ _ _) (congrArg (World.drewN _) (Nat.add_assoc _ _ _))⟩)) | (go_at_call 103; (with_reducible refine (impl_target.cl s j2 m true w.heap.size _ HM.out HW0.out B2.out).mono ?_); rintro e w' ⟨rfl, ⟨nd, rfl⟩⟩; (try first | exact ⟨rfl, _, World.drewN_drewN _ _ _⟩ | exact ⟨rfl, _, Eq.trans (World.drewN_drewN _ _ _) (congrArg (World.drewN _) (Nat.add_assoc _ _ _))⟩)) | (go_at_call 103; (with_reducible refine (impl_target.cl s j2 m true w.heap.size _ HM.out (HW.out _) B2.out).mono ?_); rintro e w' ⟨rfl, ⟨nd, rfl⟩⟩; (try first | exact ⟨rfl, _, World.drewN_drewN _ _ _⟩ | exact ⟨rfl, _, Eq.trans (World.drewN_drewN _ _ _) (congrArg (World.drewN _) (Nat.add_assoc _ _ _))⟩)))
  repeat (go_quiet (first | (go_at_call 103; (with_reducible refine (impl_target.cl s j1 m true w.heap.size _ HM.out HW0.out B1.out).mono ?_); rintro e w' ⟨rfl, ⟨nd, rfl⟩⟩; (try first | exact ⟨rfl, _, World.drewN_drewN _ _ _⟩ | exact ⟨rfl, _, Eq.trans (World.drewN_drewN _ _ _) (congrArg (World.drewN _) (Nat.add_assoc _ _ _))⟩)) | (go_at_call 103; (with_reducible refine (impl_target.cl s j1 m true w.heap.size _ HM.out (HW.out _) B1.out).mono ?_); rintro e w' ⟨rfl, ⟨nd, rfl⟩⟩; (try first | exact ⟨rfl, _, World.drewN_drewN _ _ _⟩ | exact ⟨rfl, _, Eq.trans (World.drewN_drewN _ _ _) (congrArg (World.drewN _) (Nat.add_assoc _ _ _))⟩)) | (go_at_call 103; (with_reducible refine (impl_target.cl s j2 m true w.heap.size _ HM.out HW0.out B2.out).mono ?_); rintro e w' ⟨rfl, ⟨nd, rfl⟩⟩; (try first | exact ⟨rfl, _, World.drewN_drewN _ _ _⟩ | exact ⟨rfl, _, Eq.trans (World.drewN_drewN _ _ _) (congrArg (World.drewN _) (Nat.add_assoc _ _ _))⟩)) | (go_at_call 103; (with_reducible refine (impl_target.cl s j2 m true w.heap.size _ HM.out (HW.out _) B2.out).mono ?_); rintro e w' ⟨rfl, ⟨nd, rfl⟩⟩; (try first | exact ⟨rfl, _, World.drewN_drewN _ _ _⟩ | exact ⟨rfl, _, Eq.trans (World.drewN_drewN _ _ _) (congrArg (World.drewN _) (Nat.add_assoc _ _ _))⟩))); try go_wp2_with (first | (go_at_call 103; (with_reducible refine (impl_target.cl s j1 m true w.heap.size _ HM.out HW0.out B1.out).mono ?_); rintro e w' ⟨rfl, ⟨nd, rfl⟩⟩; (try first | exact ⟨rfl, _, World.drewN_drewN _ _ _⟩ | exact ⟨rfl, _, Eq.trans (World.drewN_drewN _ _ _) (congrArg (World.drewN _) (Nat.add_assoc _ _ _))⟩)) | (go_at_call 103; (with_reducible refine (impl_target.cl s j1 m true w.heap.size _ HM.out (HW.out _) B1.out).mono ?_); rintro e w' ⟨rfl, ⟨nd, rfl⟩⟩; (try first | exact ⟨rfl, _, World.drewN_drewN _ _ _⟩ | exact ⟨rfl, _, Eq.trans (World.drewN_drewN _ _ _) (congrArg (World.drewN _) (Nat.add_assoc _ _ _))⟩)) | (go_at_call 103; (with_reducible refine (impl_target.cl s j2 m true w.heap.size _ HM.out HW0.out B2.out).mono ?_); rintro e w' ⟨rfl, ⟨nd, rfl⟩⟩; (try first | exact ⟨rfl, _, World.drewN_drewN _ _ _⟩ | exact ⟨rfl, _, Eq.trans (World.drewN_drewN _ _ _) (congrArg (World.drewN _) (Nat.add_assoc _ _ _))⟩)) | (go_at_call 103; (with_reducible refine (impl_target.cl s j2 m true w.heap.size _ HM.out (HW.out _) B2.out).mono ?_); rintro e w' ⟨rfl, ⟨nd, rfl⟩⟩; (try first | exact ⟨rfl, _, World.drewN_drewN _ _ _⟩ | exact ⟨rfl, _, Eq.trans (World.drewN_drewN _ _ _) (congrArg (World.drewN _) (Nat.add_assoc _ _ _))⟩))))
  go_ret
  exact ⟨by first | rfl | (simp; done) | (simp [*]; done), by repeat (first | exact Below.refl _ _ | apply below_alloc | apply pw_below_drewN | apply below_drew1)⟩
set_option maxHeartbeats 8000000 in
set_option maxRecDepth 100000 in
theorem impl_target.wr1110 (s : ByteArray) (i j1 j2 m : Int) (w : World) (hm : wrap64 ((s.size : Int) - 1) = m) (p0 : 0 ≤ i) (q0 : i < (s.size : Int)) (e46 : (bt s i == 46) = false) (e108 : (bt s i == 108) = false) (h0 : wrap64 (i + 1) = j1) (h1 : wrap64 (i + 2) = j2) (A1 : impl_within.f j1 0 m = some true) (p1 : 0 ≤ j1) (q1 : j1 < (s.size : Int)) (ea : (bt s j1 == 46) = false) (A2 : impl_within.f j2 0 m = some true) (p2 : 0 ≤ j2) (q2 : j2 < (s.size : Int)) (eb : (bt s j2 == 46) = true) (ec : (bt s j1 == bt s i) = true) :
    Calls Tryd.prog 77 #[.string s, .int .i64 i] w fun e w' => e = .returned (.int .i64 (-1)) ∧ Below w.heap.size w w' := by
  have HM := Aside0.mk hm
  clear hm
  have HW := Aside0.mk (fun nd => impl_target.cellN w s nd)
  have HW0 := Aside0.mk (impl_target.cell0 w s)
  have hmf : ∀ (fn : Fn) (first cap : Array Value) (w : World), (Instr.makeFunc fn first cap).run Tryd.prog w = .ok (.func fn first cap) w := fun _ _ _ _ => rfl
  have x0 := bt_at s i
  replace p0 := eq_true p0
  replace q0 := eq_true q0
  have n46 : (bt s i != 46) = true := by unfold bne; rw [e46]; rfl
  have n108 : (bt s i != 108) = true := by unfold bne; rw [e108]; rfl
  have h0w : IntKind.i64.wrap (i + 1) = j1 := (i64_w _).trans h0
  have h1w : IntKind.i64.wrap (i + 2) = j2 := (i64_w _).trans h1
  have B1 := Aside0.mk A1
  clear A1
  have x1 := bt_at s j1
  replace p1 := eq_true p1
  replace q1 := eq_true q1
  have na : (bt s j1 != 46) = true := by unfold bne; rw [ea]; rfl
  have B2 := Aside0.mk A2
  clear A2
  have x2 := bt_at s j2
  replace p2 := eq_true p2
  replace q2 := eq_true q2
  have nb : (bt s j2 != 46) = false := by unfold bne; rw [eb]; rfl
  have nc : (bt s j1 != bt s i) = false := by unfold bne; rw [ec]; rfl
  go_enter Tryd.func77, Tryd.ntmps77
  go_wp2_with (first | (go_at_call 103; (with_reducible refine (impl_target.cl s j1 m true w.heap.size _ HM.out HW0.out B1.out).mono ?_); rintro e w' ⟨rfl, ⟨nd, rfl⟩⟩; (try first | exact ⟨rfl, _, World.drewN_drewN _ _ _⟩ | exact ⟨rfl, _, Eq.trans (World.drewN_drewN _ _ _) (congrArg (World.drewN _) (Nat.add_assoc _ _ _))⟩)) | (go_at_call 103; (with_reducible refine (impl_target.cl s j1 m true w.heap.size _ HM.out (HW.out _) B1.out).mono ?_); rintro e w' ⟨rfl, ⟨nd, rfl⟩⟩; (try first | exact ⟨rfl, _, World.drewN_drewN _ _ _⟩ | exact ⟨rfl, _, Eq.trans (World.drewN_drewN _ _ _) (congrArg (World.drewN _) (Nat.add_assoc _ _ _))⟩)) | (go_at_call 103; (with_reducible refine (impl_target.cl s j2 m true w.heap.size _ HM.out HW0.out B2.out).mono ?_); rintro e w' ⟨rfl, ⟨nd, rfl⟩⟩; (try first | exact ⟨rfl, _, World.drewN_drewN _ _ _⟩ | exact ⟨rfl, _, Eq.trans (World.drewN_drewN _ _ _) (congrArg (World.drewN _) (Nat.add_assoc _ _ _))⟩)) | (go_at_call 103; (with_reducible refine (impl_target.cl s j2 m true w.heap.size _ HM.out (HW.out _) B2.out).mono ?_); rintro e w' ⟨rfl, ⟨nd, rfl⟩⟩; (try first | exact ⟨rfl, _, World.drewN_drewN _ _ _⟩ | exact ⟨rfl, _, Eq.trans (World.drewN_drewN _ _ _) (congrArg (World.drewN _) (Nat.add_assoc _ _ _))⟩)))
  repeat (go_quiet (first | (go_at_call 103; (with_reducible refine (impl_target.cl s j1 m true w.heap.size _ HM.out HW0.out B1.out).mono ?_); rintro e w' ⟨rfl, ⟨nd, rfl⟩⟩; (try first | exact ⟨rfl, _, World.drewN_drewN _ _ _⟩ | exact ⟨rfl, _, Eq.trans (World.drewN_drewN _ _ _) (congrArg (World.drewN _) (Nat.add_assoc _ _ _))⟩)) | (go_at_call 103; (with_reducible refine (impl_target.cl s j1 m true w.heap.size _ HM.out (HW.out _) B1.out).mono ?_); rintro e w' ⟨rfl, ⟨nd, rfl⟩⟩; (try first | exact ⟨rfl, _, World.drewN_drewN _ _ _⟩ | exact ⟨rfl, _, Eq.trans (World.drewN_drewN _ _ _) (congrArg (World.drewN _) (Nat.add_assoc _ _ _))⟩)) | (go_at_call 103; (with_reducible refine (impl_target.cl s j2 m true w.heap.size _ HM.out HW0.out B2.out).mono ?_); rintro e w' ⟨rfl, ⟨nd, rfl⟩⟩; (try first | exact ⟨rfl, _, World.drewN_drewN _ _ _⟩ | exact ⟨rfl, _, Eq.trans (World.drewN_drewN _ _ _) (congrArg (World.drewN _) (Nat.add_assoc _ _ _))⟩)) | (go_at_call 103; (with_reducible refine (impl_target.cl s j2 m true w.heap.size _ HM.out (HW.out _) B2.out).mono ?_); rintro e w' ⟨rfl, ⟨nd, rfl⟩⟩; (try first | exact ⟨rfl, _, World.drewN_drewN _ _ _⟩ | exact ⟨rfl, _, Eq.trans (World.drewN_drewN _ _ _) (congrArg (World.drewN _) (Nat.add_assoc _ _ _))⟩))); try go_wp2_with (first | (go_at_call 103; (with_reducible refine (impl_target.cl s j1 m true w.heap.size _ HM.out HW0.out B1.out).mono ?_); rintro e w' ⟨rfl, ⟨nd, rfl⟩⟩; (try first | exact ⟨rfl, _, World.drewN_drewN _ _ _⟩ | exact ⟨rfl, _, Eq.trans (World.drewN_drewN _ _ _) (congrArg (World.drewN _) (Nat.add_assoc _ _ _))⟩)) | (go_at_call 103; (with_reducible refine (impl_target.cl s j1 m true w.heap.size _ HM.out (HW.out _) B1.out).mono ?_); rintro e w' ⟨rfl, ⟨nd, rfl⟩⟩; (try first | exact ⟨rfl, _, World.drewN_drewN _ _ _⟩ | exact ⟨rfl, _, Eq.trans (World.drewN_drewN _ _ _) (congrArg (World.drewN _) (Nat.add_assoc _ _ _))⟩)) | (go_at_call 103; (with_reducible refine (impl_target.cl s j2 m true w.heap.size _ HM.out HW0.out B2.out).mono ?_); rintro e w' ⟨rfl, ⟨nd, rfl⟩⟩; (try first | exact ⟨rfl, _, World.drewN_drewN _ _ _⟩ | exact ⟨rfl, _, Eq.trans (World.drewN_drewN _ _ _) (congrArg (World.drewN _) (Nat.add_assoc _ _ _))⟩)) | (go_at_call 103; (with_reducible refine (impl_target.cl s j2 m true w.heap.size _ HM.out (HW.out _) B2.out).mono ?_); rintro e w' ⟨rfl, ⟨nd, rfl⟩⟩; (try first | exact ⟨rfl, _, World.drewN_drewN _ _ _⟩ | exact ⟨rfl, _, Eq.trans (World.drewN_drewN _ _ _) (congrArg (World.drewN _) (Nat.add_assoc _ _ _))⟩))))
  go_ret
  exact ⟨by first | rfl | (simp; done) | (simp [*]; done), by repeat (first | exact Below.refl _ _ | apply below_alloc | apply pw_below_drewN | apply below_drew1)⟩
set_option maxHeartbeats 8000000 in
set_option maxRecDepth 100000 in
theorem impl_target.wr1111 (s : ByteArray) (i j1 j2 m : Int) (w : World) (hm : wrap64 ((s.size : Int) - 1) = m) (p0 : 0 ≤ i) (q0 : i < (s.size : Int)) (e46 : (bt s i == 46) = false) (e108 : (bt s i == 108) = false) (h0 : wrap64 (i + 1) = j1) (h1 : wrap64 (i + 2) = j2) (A1 : impl_within.f j1 0 m = some true) (p1 : 0 ≤ j1) (q1 : j1 < (s.size : Int)) (ea : (bt s j1 == 46) = false) (A2 : impl_within.f j2 0 m = some true) (p2 : 0 ≤ j2) (q2 : j2 < (s.size : Int)) (eb : (bt s j2 == 46) = true) (ec : (bt s j1 == bt s i) = false) :
    Calls Tryd.prog 77 #[.string s, .int .i64 i] w fun e w' => e = .returned (.int .i64 j2) ∧ Below w.heap.size w w' := by
  have HM := Aside0.mk hm
  clear hm
  have HW := Aside0.mk (fun nd => impl_target.cellN w s nd)
  have HW0 := Aside0.mk (impl_target.cell0 w s)
  have hmf : ∀ (fn : Fn) (first cap : Array Value) (w : World), (Instr.makeFunc fn first cap).run Tryd.prog w = .ok (.func fn first cap) w := fun _ _ _ _ => rfl
  have x0 := bt_at s i
  replace p0 := eq_true p0
  replace q0 := eq_true q0
  have n46 : (bt s i != 46) = true := by unfold bne; rw [e46]; rfl
  have n108 : (bt s i != 108) = true := by unfold bne; rw [e108]; rfl
  have h0w : IntKind.i64.wrap (i + 1) = j1 := (i64_w _).trans h0
  have h1w : IntKind.i64.wrap (i + 2) = j2 := (i64_w _).trans h1
  have B1 := Aside0.mk A1
  clear A1
  have x1 := bt_at s j1
  replace p1 := eq_true p1
  replace q1 := eq_true q1
  have na : (bt s j1 != 46) = true := by unfold bne; rw [ea]; rfl
  have B2 := Aside0.mk A2
  clear A2
  have x2 := bt_at s j2
  replace p2 := eq_true p2
  replace q2 := eq_true q2
  have nb : (bt s j2 != 46) = false := by unfold bne; rw [eb]; rfl
  have nc : (bt s j1 != bt s i) = true := by unfold bne; rw [ec]; rfl
  go_enter Tryd.func77, Tryd.ntmps77
  go_wp2_with (first | (go_at_call 103; (with_reducible refine (impl_target.cl s j1 m true w.heap.size _ HM.out HW0.out B1.out).mono ?_); rintro e w' ⟨rfl, ⟨nd, rfl⟩⟩; (try first | exact ⟨rfl, _, World.drewN_drewN _ _ _⟩ | exact ⟨rfl, _, Eq.trans (World.drewN_drewN _ _ _) (congrArg (World.drewN _) (Nat.add_assoc _ _ _))⟩)) | (go_at_call 103; (with_reducible refine (impl_target.cl s j1 m true w.heap.size _ HM.out (HW.out _) B1.out).mono ?_); rintro e w' ⟨rfl, ⟨nd, rfl⟩⟩; (try first | exact ⟨rfl, _, World.drewN_drewN _ _ _⟩ | exact ⟨rfl, _, Eq.trans (World.drewN_drewN _ _ _) (congrArg (World.drewN _) (Nat.add_assoc _ _ _))⟩)) | (go_at_call 103; (with_reducible refine (impl_target.cl s j2 m true w.heap.size _ HM.out HW0.out B2.out).mono ?_); rintro e w' ⟨rfl, ⟨nd, rfl⟩⟩; (try first | exact ⟨rfl, _, World.drewN_drewN _ _ _⟩ | exact ⟨rfl, _, Eq.trans (World.drewN_drewN _ _ _) (congrArg (World.drewN _) (Nat.add_assoc _ _ _))⟩)) | (go_at_call 103; (with_reducible refine (impl_target.cl s j2 m true w.heap.size _ HM.out (HW.out _) B2.out).mono ?_); rintro e w' ⟨rfl, ⟨nd, rfl⟩⟩; (try first | exact ⟨rfl, _, World.drewN_drewN _ _ _⟩ | exact ⟨rfl, _, Eq.trans (World.drewN_drewN _ _ _) (congrArg (World.drewN _) (Nat.add_assoc _ _ _))⟩)))
  repeat (go_quiet (first | (go_at_call 103; (with_reducible refine (impl_target.cl s j1 m true w.heap.size _ HM.out HW0.out B1.out).mono ?_); rintro e w' ⟨rfl, ⟨nd, rfl⟩⟩; (try first | exact ⟨rfl, _, World.drewN_drewN _ _ _⟩ | exact ⟨rfl, _, Eq.trans (World.drewN_drewN _ _ _) (congrArg (World.drewN _) (Nat.add_assoc _ _ _))⟩)) | (go_at_call 103; (with_reducible refine (impl_target.cl s j1 m true w.heap.size _ HM.out (HW.out _) B1.out).mono ?_); rintro e w' ⟨rfl, ⟨nd, rfl⟩⟩; (try first | exact ⟨rfl, _, World.drewN_drewN _ _ _⟩ | exact ⟨rfl, _, Eq.trans (World.drewN_drewN _ _ _) (congrArg (World.drewN _) (Nat.add_assoc _ _ _))⟩)) | (go_at_call 103; (with_reducible refine (impl_target.cl s j2 m true w.heap.size _ HM.out HW0.out B2.out).mono ?_); rintro e w' ⟨rfl, ⟨nd, rfl⟩⟩; (try first | exact ⟨rfl, _, World.drewN_drewN _ _ _⟩ | exact ⟨rfl, _, Eq.trans (World.drewN_drewN _ _ _) (congrArg (World.drewN _) (Nat.add_assoc _ _ _))⟩)) | (go_at_call 103; (with_reducible refine (impl_target.cl s j2 m true w.heap.size _ HM.out (HW.out _) B2.out).mono ?_); rintro e w' ⟨rfl, ⟨nd, rfl⟩⟩; (try first | exact ⟨rfl, _, World.drewN_drewN _ _ _⟩ | exact ⟨rfl, _, Eq.trans (World.drewN_drewN _ _ _) (congrArg (World.drewN _) (Nat.add_assoc _ _ _))⟩))); try go_wp2_with (first | (go_at_call 103; (with_reducible refine (impl_target.cl s j1 m true w.heap.size _ HM.out HW0.out B1.out).mono ?_); rintro e w' ⟨rfl, ⟨nd, rfl⟩⟩; (try first | exact ⟨rfl, _, World.drewN_drewN _ _ _⟩ | exact ⟨rfl, _, Eq.trans (World.drewN_drewN _ _ _) (congrArg (World.drewN _) (Nat.add_assoc _ _ _))⟩)) | (go_at_call 103; (with_reducible refine (impl_target.cl s j1 m true w.heap.size _ HM.out (HW.out _) B1.out).mono ?_); rintro e w' ⟨rfl, ⟨nd, rfl⟩⟩; (try first | exact ⟨rfl, _, World.drewN_drewN _ _ _⟩ | exact ⟨rfl, _, Eq.trans (World.drewN_drewN _ _ _) (congrArg (World.drewN _) (Nat.add_assoc _ _ _))⟩)) | (go_at_call 103; (with_reducible refine (impl_target.cl s j2 m true w.heap.size _ HM.out HW0.out B2.out).mono ?_); rintro e w' ⟨rfl, ⟨nd, rfl⟩⟩; (try first | exact ⟨rfl, _, World.drewN_drewN _ _ _⟩ | exact ⟨rfl, _, Eq.trans (World.drewN_drewN _ _ _) (congrArg (World.drewN _) (Nat.add_assoc _ _ _))⟩)) | (go_at_call 103; (with_reducible refine (impl_target.cl s j2 m true w.heap.size _ HM.out (HW.out _) B2.out).mono ?_); rintro e w' ⟨rfl, ⟨nd, rfl⟩⟩; (try first | exact ⟨rfl, _, World.drewN_drewN _ _ _⟩ | exact ⟨rfl, _, Eq.trans (World.drewN_drewN _ _ _) (congrArg (World.drewN _) (Nat.add_assoc _ _ _))⟩))))
  go_ret
  exact ⟨by first | rfl | (simp; done) | (simp [*]; done), by repeat (first | exact Below.refl _ _ | apply below_alloc | apply pw_below_drewN | apply below_drew1)⟩
set_option maxHeartbeats 8000000 in
set_option maxRecDepth 100000 in
theorem impl_target.wr0000 (s : ByteArray) (i j1 j2 m : Int) (w : World) (hm : wrap64 ((s.size : Int) - 1) = m) (p0 : 0 ≤ i) (q0 : i < (s.size : Int)) (e46 : (bt s i == 46) = false) (e108 : (bt s i == 108) = false) (h0 : wrap64 (i + 1) = j1) (h1 : wrap64 (i + 2) = j2) (A1 : impl_within.f j1 0 m = some false) (A2 : impl_within.f j2 0 m = some false) :
    Calls Tryd.prog 77 #[.string s, .int .i64 i] w fun e w' => e = .returned (.int .i64 (-1)) ∧ Below w.heap.size w w' := by
  have HM := Aside0.mk hm
  clear hm
  have HW := Aside0.mk (fun nd => impl_target.cellN w s nd)
  have HW0 := Aside0.mk (impl_target.cell0 w s)
  have hmf : ∀ (fn : Fn) (first cap : Array Value) (w : World), (Instr.makeFunc fn first cap).run Tryd.prog w = .ok (.func fn first cap) w := fun _ _ _ _ => rfl
  have x0 := bt_at s i
  replace p0 := eq_true p0
  replace q0 := eq_true q0
  have n46 : (bt s i != 46) = true := by unfold bne; rw [e46]; rfl
  have n108 : (bt s i != 108) = true := by unfold bne; rw [e108]; rfl
  have h0w : IntKind.i64.wrap (i + 1) = j1 := (i64_w _).trans h0
  have h1w : IntKind.i64.wrap (i + 2) = j2 := (i64_w _).trans h1
  have B1 := Aside0.mk A1
  clear A1
  have B2 := Aside0.mk A2
  clear A2
  go_enter Tryd.func77, Tryd.ntmps77
  go_wp2_with (first | (go_at_call 103; (with_reducible refine (impl_target.cl s j1 m false w.heap.size _ HM.out HW0.out B1.out).mono ?_); rintro e w' ⟨rfl, ⟨nd, rfl⟩⟩; (try first | exact ⟨rfl, _, World.drewN_drewN _ _ _⟩ | exact ⟨rfl, _, Eq.trans (World.drewN_drewN _ _ _) (congrArg (World.drewN _) (Nat.add_assoc _ _ _))⟩)) | (go_at_call 103; (with_reducible refine (impl_target.cl s j1 m false w.heap.size _ HM.out (HW.out _) B1.out).mono ?_); rintro e w' ⟨rfl, ⟨nd, rfl⟩⟩; (try first | exact ⟨rfl, _, World.drewN_drewN _ _ _⟩ | exact ⟨rfl, _, Eq.trans (World.drewN_drewN _ _ _) (congrArg (World.drewN _) (Nat.add_assoc _ _ _))⟩)) | (go_at_call 103; (with_reducible refine (impl_target.cl s j2 m false w.heap.size _ HM.out HW0.out B2.out).mono ?_); rintro e w' ⟨rfl, ⟨nd, rfl⟩⟩; (try first | exact ⟨rfl, _, World.drewN_drewN _ _ _⟩ | exact ⟨rfl, _, Eq.trans (World.drewN_drewN _ _ _) (congrArg (World.drewN _) (Nat.add_assoc _ _ _))⟩)) | (go_at_call 103; (with_reducible refine (impl_target.cl s j2 m false w.heap.size _ HM.out (HW.out _) B2.out).mono ?_); rintro e w' ⟨rfl, ⟨nd, rfl⟩⟩; (try first | exact ⟨rfl, _, World.drewN_drewN _ _ _⟩ | exact ⟨rfl, _, Eq.trans (World.drewN_drewN _ _ _) (congrArg (World.drewN _) (Nat.add_assoc _ _ _))⟩)))
  repeat (go_quiet (first | (go_at_call 103; (with_reducible refine (impl_target.cl s j1 m false w.heap.size _ HM.out HW0.out B1.out).mono ?_); rintro e w' ⟨rfl, ⟨nd, rfl⟩⟩; (try first | exact ⟨rfl, _, World.drewN_drewN _ _ _⟩ | exact ⟨rfl, _, Eq.trans (World.drewN_drewN _ _ _) (congrArg (World.drewN _) (Nat.add_assoc _ _ _))⟩)) | (go_at_call 103; (with_reducible refine (impl_target.cl s j1 m false w.heap.size _ HM.out (HW.out _) B1.out).mono ?_); rintro e w' ⟨rfl, ⟨nd, rfl⟩⟩; (try first | exact ⟨rfl, _, World.drewN_drewN _ _ _⟩ | exact ⟨rfl, _, Eq.trans (World.drewN_drewN _ _ _) (congrArg (World.drewN _) (Nat.add_assoc _ _ _))⟩)) | (go_at_call 103; (with_reducible refine (impl_target.cl s j2 m false w.heap.size _ HM.out HW0.out B2.out).mono ?_); rintro e w' ⟨rfl, ⟨nd, rfl⟩⟩; (try first | exact ⟨rfl, _, World.drewN_drewN _ _ _⟩ | exact ⟨rfl, _, Eq.trans (World.drewN_drewN _ _ _) (congrArg (World.drewN _) (Nat.add_assoc _ _ _))⟩)) | (go_at_call 103; (with_reducible refine (impl_target.cl s j2 m false w.heap.size _ HM.out (HW.out _) B2.out).mono ?_); rintro e w' ⟨rfl, ⟨nd, rfl⟩⟩; (try first | exact ⟨rfl, _, World.drewN_drewN _ _ _⟩ | exact ⟨rfl, _, Eq.trans (World.drewN_drewN _ _ _) (congrArg (World.drewN _) (Nat.add_assoc _ _ _))⟩))); try go_wp2_with (first | (go_at_call 103; (with_reducible refine (impl_target.cl s j1 m false w.heap.size _ HM.out HW0.out B1.out).mono ?_); rintro e w' ⟨rfl, ⟨nd, rfl⟩⟩; (try first | exact ⟨rfl, _, World.drewN_drewN _ _ _⟩ | exact ⟨rfl, _, Eq.trans (World.drewN_drewN _ _ _) (congrArg (World.drewN _) (Nat.add_assoc _ _ _))⟩)) | (go_at_call 103; (with_reducible refine (impl_target.cl s j1 m false w.heap.size _ HM.out (HW.out _) B1.out).mono ?_); rintro e w' ⟨rfl, ⟨nd, rfl⟩⟩; (try first | exact ⟨rfl, _, World.drewN_drewN _ _ _⟩ | exact ⟨rfl, _, Eq.trans (World.drewN_drewN _ _ _) (congrArg (World.drewN _) (Nat.add_assoc _ _ _))⟩)) | (go_at_call 103; (with_reducible refine (impl_target.cl s j2 m false w.heap.size _ HM.out HW0.out B2.out).mono ?_); rintro e w' ⟨rfl, ⟨nd, rfl⟩⟩; (try first | exact ⟨rfl, _, World.drewN_drewN _ _ _⟩ | exact ⟨rfl, _, Eq.trans (World.drewN_drewN _ _ _) (congrArg (World.drewN _) (Nat.add_assoc _ _ _))⟩)) | (go_at_call 103; (with_reducible refine (impl_target.cl s j2 m false w.heap.size _ HM.out (HW.out _) B2.out).mono ?_); rintro e w' ⟨rfl, ⟨nd, rfl⟩⟩; (try first | exact ⟨rfl, _, World.drewN_drewN _ _ _⟩ | exact ⟨rfl, _, Eq.trans (World.drewN_drewN _ _ _) (congrArg (World.drewN _) (Nat.add_assoc _ _ _))⟩))))
  go_ret
  exact ⟨by first | rfl | (simp; done) | (simp [*]; done), by repeat (first | exact Below.refl _ _ | apply below_alloc | apply pw_below_drewN | apply below_drew1)⟩
set_option maxHeartbeats 8000000 in
set_option maxRecDepth 100000 in
theorem impl_target.wl1 (s : ByteArray) (i j1 j2 m : Int) (w : World) (hm : wrap64 ((s.size : Int) - 1) = m) (p0 : 0 ≤ i) (q0 : i < (s.size : Int)) (e46 : (bt s i == 46) = false) (e108 : (bt s i == 108) = true) (h0 : wrap64 (i + -1) = j1) (h1 : wrap64 (i + -2) = j2) (h2 : wrap64 (i - 1) = j1) (h3 : wrap64 (i - 2) = j2) (A1 : impl_within.f j1 0 m = some true) (p1 : 0 ≤ j1) (q1 : j1 < (s.size : Int)) (ea : (bt s j1 == 46) = true) :
    Calls Tryd.prog 77 #[.string s, .int .i64 i] w fun e w' => e = .returned (.int .i64 j1) ∧ Below w.heap.size w w' := by
  have HM := Aside0.mk hm
  clear hm
  have HW := Aside0.mk (fun nd => impl_target.cellN w s nd)
  have HW0 := Aside0.mk (impl_target.cell0 w s)
  have hmf : ∀ (fn : Fn) (first cap : Array Value) (w : World), (Instr.makeFunc fn first cap).run Tryd.prog w = .ok (.func fn first cap) w := fun _ _ _ _ => rfl
  have x0 := bt_at s i
  replace p0 := eq_true p0
  replace q0 := eq_true q0
  have n46 : (bt s i != 46) = true := by unfold bne; rw [e46]; rfl
  have n108 : (bt s i != 108) = false := by unfold bne; rw [e108]; rfl
  have h0w : IntKind.i64.wrap (i + -1) = j1 := (i64_w _).trans h0
  have h1w : IntKind.i64.wrap (i + -2) = j2 := (i64_w _).trans h1
  have h2w : IntKind.i64.wrap (i - 1) = j1 := (i64_w _).trans h2
  have h3w : IntKind.i64.wrap (i - 2) = j2 := (i64_w _).trans h3
  have B1 := Aside0.mk A1
  clear A1
  have x1 := bt_at s j1
  replace p1 := eq_true p1
  replace q1 := eq_true q1
  have na : (bt s j1 != 46) = false := by unfold bne; rw [ea]; rfl
  go_enter Tryd.func77, Tryd.ntmps77
  go_wp2_with (first | (go_at_call 103; (with_reducible refine (impl_target.cl s j1 m true w.heap.size _ HM.out HW0.out B1.out).mono ?_); rintro e w' ⟨rfl, ⟨nd, rfl⟩⟩; (try first | exact ⟨rfl, _, World.drewN_drewN _ _ _⟩ | exact ⟨rfl, _, Eq.trans (World.drewN_drewN _ _ _) (congrArg (World.drewN _) (Nat.add_assoc _ _ _))⟩)) | (go_at_call 103; (with_reducible refine (impl_target.cl s j1 m true w.heap.size _ HM.out (HW.out _) B1.out).mono ?_); rintro e w' ⟨rfl, ⟨nd, rfl⟩⟩; (try first | exact ⟨rfl, _, World.drewN_drewN _ _ _⟩ | exact ⟨rfl, _, Eq.trans (World.drewN_drewN _ _ _) (congrArg (World.drewN _) (Nat.add_assoc _ _ _))⟩)))
  repeat (go_quiet (first | (go_at_call 103; (with_reducible refine (impl_target.cl s j1 m true w.heap.size _ HM.out HW0.out B1.out).mono ?_); rintro e w' ⟨rfl, ⟨nd, rfl⟩⟩; (try first | exact ⟨rfl, _, World.drewN_drewN _ _ _⟩ | exact ⟨rfl, _, Eq.trans (World.drewN_drewN _ _ _) (congrArg (World.drewN _) (Nat.add_assoc _ _ _))⟩)) | (go_at_call 103; (with_reducible refine (impl_target.cl s j1 m true w.heap.size _ HM.out (HW.out _) B1.out).mono ?_); rintro e w' ⟨rfl, ⟨nd, rfl⟩⟩; (try first | exact ⟨rfl, _, World.drewN_drewN _ _ _⟩ | exact ⟨rfl, _, Eq.trans (World.drewN_drewN _ _ _) (congrArg (World.drewN _) (Nat.add_assoc _ _ _))⟩))); try go_wp2_with (first | (go_at_call 103; (with_reducible refine (impl_target.cl s j1 m true w.heap.size _ HM.out HW0.out B1.out).mono ?_); rintro e w' ⟨rfl, ⟨nd, rfl⟩⟩; (try first | exact ⟨rfl, _, World.drewN_drewN _ _ _⟩ | exact ⟨rfl, _, Eq.trans (World.drewN_drewN _ _ _) (congrArg (World.drewN _) (Nat.add_assoc _ _ _))⟩)) | (go_at_call 103; (with_reducible refine (impl_target.cl s j1 m true w.heap.size _ HM.out (HW.out _) B1.out).mono ?_); rintro e w' ⟨rfl, ⟨nd, rfl⟩⟩; (try first | exact ⟨rfl, _, World.drewN_drewN _ _ _⟩ | exact ⟨rfl, _, Eq.trans (World.drewN_drewN _ _ _) (congrArg (World.drewN _) (Nat.add_assoc _ _ _))⟩))))
  go_ret
  exact ⟨by first | rfl | (simp; done) | (simp [*]; done), by repeat (first | exact Below.refl _ _ | apply below_alloc | apply pw_below_drewN | apply below_drew1)⟩
set_option maxHeartbeats 8000000 in
set_option maxRecDepth 100000 in
theorem impl_target.wl1000 (s : ByteArray) (i j1 j2 m : Int) (w : World) (hm : wrap64 ((s.size : Int) - 1) = m) (p0 : 0 ≤ i) (q0 : i < (s.size : Int)) (e46 : (bt s i == 46) = false) (e108 : (bt s i == 108) = true) (h0 : wrap64 (i + -1) = j1) (h1 : wrap64 (i + -2) = j2) (h2 : wrap64 (i - 1) = j1) (h3 : wrap64 (i - 2) = j2) (A1 : impl_within.f j1 0 m = some true) (p1 : 0 ≤ j1) (q1 : j1 < (s.size : Int)) (ea : (bt s j1 == 46) = false) (A2 : impl_within.f j2 0 m = some false) :
    Calls Tryd.prog 77 #[.string s, .int .i64 i] w fun e w' => e = .returned (.int .i64 (-1)) ∧ Below w.heap.size w w' := by
  have HM := Aside0.mk hm
  clear hm
  have HW := Aside0.mk (fun nd => impl_target.cellN w s nd)
  have HW0 := Aside0.mk (impl_target.cell0 w s)
  have hmf : ∀ (fn : Fn) (first cap : Array Value) (w : World), (Instr.makeFunc fn first cap).run Tryd.prog w = .ok (.func fn first cap) w := fun _ _ _ _ => rfl
  have x0 := bt_at s i
  replace p0 := eq_true p0
  replace q0 := eq_true q0
  have n46 : (bt s i != 46) = true := by unfold bne; rw [e46]; rfl
  have n108 : (bt s i != 108) = false := by unfold bne; rw [e108]; rfl
  have h0w : IntKind.i64.wrap (i + -1) = j1 := (i64_w _).trans h0
  have h1w : IntKind.i64.wrap (i + -2) = j2 := (i64_w _).trans h1
  have h2w : IntKind.i64.wrap (i - 1) = j1 := (i64_w _).trans h2
  have h3w : IntKind.i64.wrap (i - 2) = j2 := (i64_w _).trans h3
  have B1 := Aside0.mk A1
  clear A1
  have x1 := bt_at s j1
  replace p1 := eq_true p1
  replace q1 := eq_true q1
  have na : (bt s j1 != 46) = true := by unfold bne; rw [ea]; rfl
  have B2 := Aside0.mk A2
  clear A2
  go_enter Tryd.func77, Tryd.ntmps77
  go_wp2_with (first | (go_at_call 103; (with_reducible refine (impl_target.cl s j1 m true w.heap.size _ HM.out HW0.out B1.out).mono ?_); rintro e w' ⟨rfl, ⟨nd, rfl⟩⟩; (try first | exact ⟨rfl, _, World.drewN_drewN _ _ _⟩ | exact ⟨rfl, _, Eq.trans (World.drewN_drewN _ _ _) (congrArg (World.drewN _) (Nat.add_assoc _ _ _))⟩)) | (go_at_call 103; (with_reducible refine (impl_target.cl s j1 m true w.heap.size _ HM.out (HW.out _) B1.out).mono ?_); rintro e w' ⟨rfl, ⟨nd, rfl⟩⟩; (try first | exact ⟨rfl, _, World.drewN_drewN _ _ _⟩ | exact ⟨rfl, _, Eq.trans (World.drewN_drewN _ _ _) (congrArg (World.drewN _) (Nat.add_assoc _ _ _))⟩)) | (go_at_call 103; (with_reducible refine (impl_target.cl s j2 m false w.heap.size _ HM.out HW0.out B2.out).mono ?_); rintro e w' ⟨rfl, ⟨nd, rfl⟩⟩; (try first | exact ⟨rfl, _, World.drewN_drewN _ _ _⟩ | exact ⟨rfl, _, Eq.trans (World.drewN_drewN _ _ _) (congrArg (World.drewN _) (Nat.add_assoc _ _ _))⟩)) | (go_at_call 103; (with_reducible refine (impl_target.cl s j2 m false w.heap.size _ HM.out (HW.out _) B2.out).mono ?_); rintro e w' ⟨rfl, ⟨nd, rfl⟩⟩; (try first | exact ⟨rfl, _, World.drewN_drewN _ _ _⟩ | exact ⟨rfl, _, Eq.trans (World.drewN_drewN _ _ _) (congrArg (World.drewN _) (Nat.add_assoc _ _ _))⟩)))
  repeat (go_quiet (first | (go_at_call 103; (with_reducible refine (impl_target.cl s j1 m true w.heap.size _ HM.out HW0.out B1.out).mono ?_); rintro e w' ⟨rfl, ⟨nd, rfl⟩⟩; (try first | exact ⟨rfl, _, World.drewN_drewN _ _ _⟩ | exact ⟨rfl, _, Eq.trans (World.drewN_drewN _ _ _) (congrArg (World.drewN _) (Nat.add_assoc _ _ _))⟩)) | (go_at_call 103; (with_reducible refine (impl_target.cl s j1 m true w.heap.size _ HM.out (HW.out _) B1.out).mono ?_); rintro e w' ⟨rfl, ⟨nd, rfl⟩⟩; (try first | exact ⟨rfl, _, World.drewN_drewN _ _ _⟩ | exact ⟨rfl, _, Eq.trans (World.drewN_drewN _ _ _) (congrArg (World.drewN _) (Nat.add_assoc _ _ _))⟩)) | (go_at_call 103; (with_reducible refine (impl_target.cl s j2 m false w.heap.size _ HM.out HW0.out B2.out).mono ?_); rintro e w' ⟨rfl, ⟨nd, rfl⟩⟩; (try first | exact ⟨rfl, _, World.drewN_drewN _ _ _⟩ | exact ⟨rfl, _, Eq.trans (World.drewN_drewN _ _ _) (congrArg (World.drewN _) (Nat.add_assoc _ _ _))⟩)) | (go_at_call 103; (with_reducible refine (impl_target.cl s j2 m false w.heap.size _ HM.out (HW.out _) B2.out).mono ?_); rintro e w' ⟨rfl, ⟨nd, rfl⟩⟩; (try first | exact ⟨rfl, _, World.drewN_drewN _ _ _⟩ | exact ⟨rfl, _, Eq.trans (World.drewN_drewN _ _ _) (congrArg (World.drewN _) (Nat.add_assoc _ _ _))⟩))); try go_wp2_with (first | (go_at_call 103; (with_reducible refine (impl_target.cl s j1 m true w.heap.size _ HM.out HW0.out B1.out).mono ?_); rintro e w' ⟨rfl, ⟨nd, rfl⟩⟩; (try first | exact ⟨rfl, _, World.drewN_drewN _ _ _⟩ | exact ⟨rfl, _, Eq.trans (World.drewN_drewN _ _ _) (congrArg (World.drewN _) (Nat.add_assoc _ _ _))⟩)) | (go_at_call 103; (with_reducible refine (impl_target.cl s j1 m true w.heap.size _ HM.out (HW.out _) B1.out).mono ?_); rintro e w' ⟨rfl, ⟨nd, rfl⟩⟩; (try first | exact ⟨rfl, _, World.drewN_drewN _ _ _⟩ | exact ⟨rfl, _, Eq.trans (World.drewN_drewN _ _ _) (congrArg (World.drewN _) (Nat.add_assoc _ _ _))⟩)) | (go_at_call 103; (with_reducible refine (impl_target.cl s j2 m false w.heap.size _ HM.out HW0.out B2.out).mono ?_); rintro e w' ⟨rfl, ⟨nd, rfl⟩⟩; (try first | exact ⟨rfl, _, World.drewN_drewN _ _ _⟩ | exact ⟨rfl, _, Eq.trans (World.drewN_drewN _ _ _) (congrArg (World.drewN _) (Nat.add_assoc _ _ _))⟩)) | (go_at_call 103; (with_reducible refine (impl_target.cl s j2 m false w.heap.size _ HM.out (HW.out _) B2.out).mono ?_); rintro e w' ⟨rfl, ⟨nd, rfl⟩⟩; (try first | exact ⟨rfl, _, World.drewN_drewN _ _ _⟩ | exact ⟨rfl, _, Eq.trans (World.drewN_drewN _ _ _) (congrArg (World.drewN _) (Nat.add_assoc _ _ _))⟩))))
  go_ret
  exact ⟨by first | rfl | (simp; done) | (simp [*]; done), by repeat (first | exact Below.refl _ _ | apply below_alloc | apply pw_below_drewN | apply below_drew1)⟩
set_option maxHeartbeats 8000000 in
set_option maxRecDepth 100000 in
theorem impl_target.wl1100 (s : ByteArray) (i j1 j2 m : Int) (w : World) (hm : wrap64 ((s.size : Int) - 1) = m) (p0 : 0 ≤ i) (q0 : i < (s.size : Int)) (e46 : (bt s i == 46) = false) (e108 : (bt s i == 108) = true) (h0 : wrap64 (i + -1) = j1) (h1 : wrap64 (i + -2) = j2) (h2 : wrap64 (i - 1) = j1) (h3 : wrap64 (i - 2) = j2) (A1 : impl_within.f j1 0 m = some true) (p1 : 0 ≤ j1) (q1 : j1 < (s.size : Int)) (ea : (bt s j1 == 46) = false) (A2 : impl_within.f j2 0 m = some true) (p2 : 0 ≤ j2) (q2 : j2 < (s.size : Int)) (eb : (bt s j2 == 46) = false) :
    Calls Tryd.prog 77 #[.string s, .int .i64 i] w fun e w' => e = .returned (.int .i64 (-1)) ∧ Below w.heap.size w w' := by
  have HM := Aside0.mk hm
  clear hm
  have HW := Aside0.mk (fun nd => impl_target.cellN w s nd)
  have HW0 := Aside0.mk (impl_target.cell0 w s)
  have hmf : ∀ (fn : Fn) (first cap : Array Value) (w : World), (Instr.makeFunc fn first cap).run Tryd.prog w = .ok (.func fn first cap) w := fun _ _ _ _ => rfl
  have x0 := bt_at s i
  replace p0 := eq_true p0
  replace q0 := eq_true q0
  have n46 : (bt s i != 46) = true := by unfold bne; rw [e46]; rfl
  have n108 : (bt s i != 108) = false := by unfold bne; rw [e108]; rfl
  have h0w : IntKind.i64.wrap (i + -1) = j1 := (i64_w _).trans h0
  have h1w : IntKind.i64.wrap (i + -2) = j2 := (i64_w _).trans h1
  have h2w : IntKind.i64.wrap (i - 1) = j1 := (i64_w _).trans h2
  have h3w : IntKind.i64.wrap (i - 2) = j2 := (i64_w _).trans h3
  have B1 := Aside0.mk A1
  clear A1
  have x1 := bt_at s j1
  replace p1 := eq_true p1
  replace q1 := eq_true q1
  have na : (bt s j1 != 46) = true := by unfold bne; rw [ea]; rfl
  have B2 := Aside0.mk A2
  clear A2
  have x2 := bt_at s j2
  replace p2 := eq_true p2
  replace q2 := eq_true q2
  have nb : (bt s j2 != 46) = true := by unfold bne; rw [eb]; rfl
  go_enter Tryd.func77, Tryd.ntmps77
  go_wp2_with (first | (go_at_call 103; (with_reducible refine (impl_target.cl s j1 m true w.heap.size _ HM.out HW0.out B1.out).mono ?_); rintro e w' ⟨rfl, ⟨nd, rfl⟩⟩; (try first | exact ⟨rfl, _, World.drewN_drewN _ _ _⟩ | exact ⟨rfl, _, Eq.trans (World.drewN_drewN _ _ _) (congrArg (World.drewN _) (Nat.add_assoc _ _ _))⟩)) | (go_at_call 103; (with_reducible refine (impl_target.cl s j1 m true w.heap.size _ HM.out (HW.out _) B1.out).mono ?_); rintro e w' ⟨rfl, ⟨nd, rfl⟩⟩; (try first | exact ⟨rfl, _, World.drewN_drewN _ _ _⟩ | exact ⟨rfl, _, Eq.trans (World.drewN_drewN _ _ _) (congrArg (World.drewN _) (Nat.add_assoc _ _ _))⟩)) | (go_at_call 103; (with_reducible refine (impl_target.cl s j2 m true w.heap.size _ HM.out HW0.out B2.out).mono ?_); rintro e w' ⟨rfl, ⟨nd, rfl⟩⟩; (try first | exact ⟨rfl, _, World.drewN_drewN _ _ _⟩ | exact ⟨rfl, _, Eq.trans (World.drewN_drewN _ _ _) (congrArg (World.drewN _) (Nat.add_assoc _ _ _))⟩)) | (go_at_call 103; (with_reducible refine (impl_target.cl s j2 m true w.heap.size _ HM.out (HW.out _) B2.out).mono ?_); rintro e w' ⟨rfl, ⟨nd, rfl⟩⟩; (try first | exact ⟨rfl, _, World.drewN_drewN _ _ _⟩ | exact ⟨rfl, _, Eq.trans (World.drewN_drewN _ _ _) (congrArg (World.drewN _) (Nat.add_assoc _ _ _))⟩)))
  repeat (go_quiet (first | (go_at_call 103; (with_reducible refine (impl_target.cl s j1 m true w.heap.size _ HM.out HW0.out B1.out).mono ?_); rintro e w' ⟨rfl, ⟨nd, rfl⟩⟩; (try first | exact ⟨rfl, _, World.drewN_drewN _ _ _⟩ | exact ⟨rfl, _, Eq.trans (World.drewN_drewN _ _ _) (congrArg (World.drewN _) (Nat.add_assoc _ _ _))⟩)) | (go_at_call 103; (with_reducible refine (impl_target.cl s j1 m true w.heap.size _ HM.out (HW.out _) B1.out).mono ?_); rintro e w' ⟨rfl, ⟨nd, rfl⟩⟩; (try first | exact ⟨rfl, _, World.drewN_drewN _ _ _⟩ | exact ⟨rfl, _, Eq.trans (World.drewN_drewN _ _ _) (congrArg (World.drewN _) (Nat.add_assoc _ _ _))⟩)) | (go_at_call 103; (with_reducible refine (impl_target.cl s j2 m true w.heap.size _ HM.out HW0.out B2.out).mono ?_); rintro e w' ⟨rfl, ⟨nd, rfl⟩⟩; (try first | exact ⟨rfl, _, World.drewN_drewN _ _ _⟩ | exact ⟨rfl, _, Eq.trans (World.drewN_drewN _ _ _) (congrArg (World.drewN _) (Nat.add_assoc _ _ _))⟩)) | (go_at_call 103; (with_reducible refine (impl_target.cl s j2 m true w.heap.size _ HM.out (HW.out _) B2.out).mono ?_); rintro e w' ⟨rfl, ⟨nd, rfl⟩⟩; (try first | exact ⟨rfl, _, World.drewN_drewN _ _ _⟩ | exact ⟨rfl, _, Eq.trans (World.drewN_drewN _ _ _) (congrArg (World.drewN _) (Nat.add_assoc _ _ _))⟩))); try go_wp2_with (first | (go_at_call 103; (with_reducible refine (impl_target.cl s j1 m true w.heap.size _ HM.out HW0.out B1.out).mono ?_); rintro e w' ⟨rfl, ⟨nd, rfl⟩⟩; (try first | exact ⟨rfl, _, World.drewN_drewN _ _ _⟩ | exact ⟨rfl, _, Eq.trans (World.drewN_drewN _ _ _) (congrArg (World.drewN _) (Nat.add_assoc _ _ _))⟩)) | (go_at_call 103; (with_reducible refine (impl_target.cl s j1 m true w.heap.size _ HM.out (HW.out _) B1.out).mono ?_); rintro e w' ⟨rfl, ⟨nd, rfl⟩⟩; (try first | exact ⟨rfl, _, World.drewN_drewN _ _ _⟩ | exact ⟨rfl, _, Eq.trans (World.drewN_drewN _ _ _) (congrArg (World.drewN _) (Nat.add_assoc _ _ _))⟩)) | (go_at_call 103; (with_reducible refine (impl_target.cl s j2 m true w.heap.size _ HM.out HW0.out B2.out).mono ?_); rintro e w' ⟨rfl, ⟨nd, rfl⟩⟩; (try first | exact ⟨rfl, _, World.drewN_drewN _ _ _⟩ | exact ⟨rfl, _, Eq.trans (World.drewN_drewN _ _ _) (congrArg (World.drewN _) (Nat.add_assoc _ _ _))⟩)) | (go_at_call 103; (with_reducible refine (impl_target.cl s j2 m true w.heap.size _ HM.out (HW.out _) B2.out).mono ?_); rintro e w' ⟨rfl, ⟨nd, rfl⟩⟩; (try first | exact ⟨rfl, _, World.drewN_drewN _ _ _⟩ | exact ⟨rfl, _, Eq.trans (World.drewN_drewN _ _ _) (congrArg (World.drewN _) (Nat.add_assoc _ _ _))⟩))))
  go_ret
  exact ⟨by first | rfl | (simp; done) | (simp [*]; done), by repeat (first | exact Below.refl _ _ | apply below_alloc | apply pw_below_drewN | apply below_drew1)⟩
set_option maxHeartbeats 8000000 in
set_option maxRecDepth 100000 in
theorem impl_target.wl1110 (s : ByteArray) (i j1 j2 m : Int) (w : World) (hm : wrap64 ((s.size : Int) - 1) = m) (p0 : 0 ≤ i) (q0 : i < (s.size : Int)) (e46 : (bt s i == 46) = false) (e108 : (bt s i == 108) = true) (h0 : wrap64 (i + -1) = j1) (h1 : wrap64 (i + -2) = j2) (h2 : wrap64 (i - 1) = j1) (h3 : wrap64 (i - 2) = j2) (A1 : impl_within.f j1 0 m = some true) (p1 : 0 ≤ j1) (q1 : j1 < (s.size : Int)) (ea : (bt s j1 == 46) = false) (A2 : impl_within.f j2 0 m = some true) (p2 : 0 ≤ j2) (q2 : j2 < (s.size : Int)) (eb : (bt s j2 == 46) = true) (ec : (bt s j1 == bt s i) = true) :
    Calls Tryd.prog 77 #[.string s, .int .i64 i] w fun e w' => e = .returned (.int .i64 (-1)) ∧ Below w.heap.size w w' := by
  have HM := Aside0.mk hm
  clear hm
  have HW := Aside0.mk (fun nd => impl_target.cellN w s nd)
  have HW0 := Aside0.mk (impl_target.cell0 w s)
  have hmf : ∀ (fn : Fn) (first cap : Array Value) (w : World), (Instr.makeFunc fn first cap).run Tryd.prog w = .ok (.func fn first cap) w := fun _ _ _ _ => rfl
  have x0 := bt_at s i
  replace p0 := eq_true p0
  replace q0 := eq_true q0
  have n46 : (bt s i != 46) = true := by unfold bne; rw [e46]; rfl
  have n108 : (bt s i != 108) = false := by unfold bne; rw [e108]; rfl
  have h0w : IntKind.i64.wrap (i + -1) = j1 := (i64_w _).trans h0
  have h1w : IntKind.i64.wrap (i + -2) = j2 := (i64_w _).trans h1
  have h2w : IntKind.i64.wrap (i - 1) = j1 := (i64_w _).trans h2
  have h3w : IntKind.i64.wrap (i - 2) = j2 := (i64_w _).trans h3
  have B1 := Aside0.mk A1
  clear A1
  have x1 := bt_at s j1
  replace p1 := eq_true p1
  replace q1 := eq_true q1
  have na : (bt s j1 != 46) = true := by unfold bne; rw [ea]; rfl
  have B2 := Aside0.mk A2
  clear A2
  have x2 := bt_at s j2
  replace p2 := eq_true p2
  replace q2 := eq_true q2
  have nb : (bt s j2 != 46) = false := by unfold bne; rw [eb]; rfl
  have nc : (bt s j1 != bt s i) = false := by unfold bne; rw [ec]; rfl
  go_enter Tryd.func77, Tryd.ntmps77
  go_wp2_with (first | (go_at_call 103; (with_reducible refine (impl_target.cl s j1 m true w.heap.size _ HM.out HW0.out B1.out).mono ?_); rintro e w' ⟨rfl, ⟨nd, rfl⟩⟩; (try first | exact ⟨rfl, _, World.drewN_drewN _ _ _⟩ | exact ⟨rfl, _, Eq.trans (World.drewN_drewN _ _ _) (congrArg (World.drewN _) (Nat.add_assoc _ _ _))⟩)) | (go_at_call 103; (with_reducible refine (impl_target.cl s j1 m true w.heap.size _ HM.out (HW.out _) B1.out).mono ?_); rintro e w' ⟨rfl, ⟨nd, rfl⟩⟩; (try first | exact ⟨rfl, _, World.drewN_drewN _ _ _⟩ | exact ⟨rfl, _, Eq.trans (World.drewN_drewN _ _ _) (congrArg (World.drewN _) (Nat.add_assoc _ _ _))⟩)) | (go_at_call 103; (with_reducible refine (impl_target.cl s j2 m true w.heap.size _ HM.out HW0.out B2.out).mono ?_); rintro e w' ⟨rfl, ⟨nd, rfl⟩⟩; (try first | exact ⟨rfl, _, World.drewN_drewN _ _ _⟩ | exact ⟨rfl, _, Eq.trans (World.drewN_drewN _ _ _) (congrArg (World.drewN _) (Nat.add_assoc _ _ _))⟩)) | (go_at_call 103; (with_reducible refine (impl_target.cl s j2 m true w.heap.size _ HM.out (HW.out _) B2.out).mono ?_); rintro e w' ⟨rfl, ⟨nd, rfl⟩⟩; (try first | exact ⟨rfl, _, World.drewN_drewN _ _ _⟩ | exact ⟨rfl, _, Eq.trans (World.drewN_drewN _ _ _) (congrArg (World.drewN _) (Nat.add_assoc _ _ _))⟩)))
  repeat (go_quiet (first | (go_at_call 103; (with_reducible refine (impl_target.cl s j1 m true w.heap.size _ HM.out HW0.out B1.out).mono ?_); rintro e w' ⟨rfl, ⟨nd, rfl⟩⟩; (try first | exact ⟨rfl, _, World.drewN_drewN _ _ _⟩ | exact ⟨rfl, _, Eq.trans (World.drewN_drewN _ _ _) (congrArg (World.drewN _) (Nat.add_assoc _ _ _))⟩)) | (go_at_call 103; (with_reducible refine (impl_target.cl s j1 m true w.heap.size _ HM.out (HW.out _) B1.out).mono ?_); rintro e w' ⟨rfl, ⟨nd, rfl⟩⟩; (try first | exact ⟨rfl, _, World.drewN_drewN _ _ _⟩ | exact ⟨rfl, _, Eq.trans (World.drewN_drewN _ _ _) (congrArg (World.drewN _) (Nat.add_assoc _ _ _))⟩)) | (go_at_call 103; (with_reducible refine (impl_target.cl s j2 m true w.heap.size _ HM.out HW0.out B2.out).mono ?_); rintro e w' ⟨rfl, ⟨nd, rfl⟩⟩; (try first | exact ⟨rfl, _, World.drewN_drewN _ _ _⟩ | exact ⟨rfl, _, Eq.trans (World.drewN_drewN _ _ _) (congrArg (World.drewN _) (Nat.add_assoc _ _ _))⟩)) | (go_at_call 103; (with_reducible refine (impl_target.cl s j2 m true w.heap.size _ HM.out (HW.out _) B2.out).mono ?_); rintro e w' ⟨rfl, ⟨nd, rfl⟩⟩; (try first | exact ⟨rfl, _, World.drewN_drewN _ _ _⟩ | exact ⟨rfl, _, Eq.trans (World.drewN_drewN _ _ _) (congrArg (World.drewN _) (Nat.add_assoc _ _ _))⟩))); try go_wp2_with (first | (go_at_call 103; (with_reducible refine (impl_target.cl s j1 m true w.heap.size _ HM.out HW0.out B1.out).mono ?_); rintro e w' ⟨rfl, ⟨nd, rfl⟩⟩; (try first | exact ⟨rfl, _, World.drewN_drewN _ _ _⟩ | exact ⟨rfl, _, Eq.trans (World.drewN_drewN _ _ _) (congrArg (World.drewN _) (Nat.add_assoc _ _ _))⟩)) | (go_at_call 103; (with_reducible refine (impl_target.cl s j1 m true w.heap.size _ HM.out (HW.out _) B1.out).mono ?_); rintro e w' ⟨rfl, ⟨nd, rfl⟩⟩; (try first | exact ⟨rfl, _, World.drewN_drewN _ _ _⟩ | exact ⟨rfl, _, Eq.trans (World.drewN_drewN _ _ _) (congrArg (World.drewN _) (Nat.add_assoc _ _ _))⟩)) | (go_at_call 103; (with_reducible refine (impl_target.cl s j2 m true w.heap.size _ HM.out HW0.out B2.out).mono ?_); rintro e w' ⟨rfl, ⟨nd, rfl⟩⟩; (try first | exact ⟨rfl, _, World.drewN_drewN _ _ _⟩ | exact ⟨rfl, _, Eq.trans (World.drewN_drewN _ _ _) (congrArg (World.drewN _) (Nat.add_assoc _ _ _))⟩)) | (go_at_call 103; (with_reducible refine (impl_target.cl s j2 m true w.heap.size _ HM.out (HW.out _) B2.out).mono ?_); rintro e w' ⟨rfl, ⟨nd, rfl⟩⟩; (try first | exact ⟨rfl, _, World.drewN_drewN _ _ _⟩ | exact ⟨rfl, _, Eq.trans (World.drewN_drewN _ _ _) (congrArg (World.drewN _) (Nat.add_assoc _ _ _))⟩))))
  go_ret
  exact ⟨by first | rfl | (simp; done) | (simp [*]; done), by repeat (first | exact Below.refl _ _ | apply below_alloc | apply pw_below_drewN | apply below_drew1)⟩
set_option maxHeartbeats 8000000 in
set_option maxRecDepth 100000 in
theorem impl_target.wl1111 (s : ByteArray) (i j1 j2 m : Int) (w : World) (hm : wrap64 ((s.size : Int) - 1) = m) (p0 : 0 ≤ i) (q0 : i < (s.size : Int)) (e46 : (bt s i == 46) = false) (e108 : (bt s i == 108) = true) (h0 : wrap64 (i + -1) = j1) (h1 : wrap64 (i + -2) = j2) (h2 : wrap64 (i - 1) = j1) (h3 : wrap64 (i - 2) = j2) (A1 : impl_within.f j1 0 m = some true) (p1 : 0 ≤ j1) (q1 : j1 < (s.size : Int)) (ea : (bt s j1 == 46) = false) (A2 : impl_within.f j2 0 m = some true) (p2 : 0 ≤ j2) (q2 : j2 < (s.size : Int)) (eb : (bt s j2 == 46) = true) (ec : (bt s j1 == bt s i) = false) :
    Calls Tryd.prog 77 #[.string s, .int .i64 i] w fun e w' => e = .returned (.int .i64 j2) ∧ Below w.heap.size w w' := by
  have HM := Aside0.mk hm
  clear hm
  have HW := Aside0.mk (fun nd => impl_target.cellN w s nd)
  have HW0 := Aside0.mk (impl_target.cell0 w s)
  have hmf : ∀ (fn : Fn) (first cap : Array Value) (w : World), (Instr.makeFunc fn first cap).run Tryd.prog w = .ok (.func fn first cap) w := fun _ _ _ _ => rfl
  have x0 := bt_at s i
  replace p0 := eq_true p0
  replace q0 := eq_true q0
  have n46 : (bt s i != 46) = true := by unfold bne; rw [e46]; rfl
  have n108 : (bt s i != 108) = false := by unfold bne; rw [e108]; rfl
  have h0w : IntKind.i64.wrap (i + -1) = j1 := (i64_w _).trans h0
  have h1w : IntKind.i64.wrap (i + -2) = j2 := (i64_w _).trans h1
  have h2w : IntKind.i64.wrap (i - 1) = j1 := (i64_w _).trans h2
  have h3w : IntKind.i64.wrap (i - 2) = j2 := (i64_w _).trans h3
  have B1 := Aside0.mk A1
  clear A1
  have x1 := bt_at s j1
  replace p1 := eq_true p1
  replace q1 := eq_true q1
  have na : (bt s j1 != 46) = true := by unfold bne; rw [ea]; rfl
  have B2 := Aside0.mk A2
  clear A2
  have x2 := bt_at s j2
  replace p2 := eq_true p2
  replace q2 := eq_true q2
  have nb : (bt s j2 != 46) = false := by unfold bne; rw [eb]; rfl
  have nc : (bt s j1 != bt s i) = true := by unfold bne; rw [ec]; rfl
  go_enter Tryd.func77, Tryd.ntmps77
  go_wp2_with (first | (go_at_call 103; (with_reducible refine (impl_target.cl s j1 m true w.heap.size _ HM.out HW0.out B1.out).mono ?_); rintro e w' ⟨rfl, ⟨nd, rfl⟩⟩; (try first | exact ⟨rfl, _, World.drewN_drewN _ _ _⟩ | exact ⟨rfl, _, Eq.trans (World.drewN_drewN _ _ _) (congrArg (World.drewN _) (Nat.add_assoc _ _ _))⟩)) | (go_at_call 103; (with_reducible refine (impl_target.cl s j1 m true w.heap.size _ HM.out (HW.out _) B1.out).mono ?_); rintro e w' ⟨rfl, ⟨nd, rfl⟩⟩; (try first | exact ⟨rfl, _, World.drewN_drewN _ _ _⟩ | exact ⟨rfl, _, Eq.trans (World.drewN_drewN _ _ _) (congrArg (World.drewN _) (Nat.add_assoc _ _ _))⟩)) | (go_at_call 103; (with_reducible refine (impl_target.cl s j2 m true w.heap.size _ HM.out HW0.out B2.out).mono ?_); rintro e w' ⟨rfl, ⟨nd, rfl⟩⟩; (try first | exact ⟨rfl, _, World.drewN_drewN _ _ _⟩ | exact ⟨rfl, _, Eq.trans (World.drewN_drewN _ _ _) (congrArg (World.drewN _) (Nat.add_assoc _ _ _))⟩)) | (go_at_call 103; (with_reducible refine (impl_target.cl s j2 m true w.heap.size _ HM.out (HW.out _) B2.out).mono ?_); rintro e w' ⟨rfl, ⟨nd, rfl⟩⟩; (try first | exact ⟨rfl, _, World.drewN_drewN _ _ _⟩ | exact ⟨rfl, _, Eq.trans (World.drewN_drewN _ _ _) (congrArg (World.drewN _) (Nat.add_assoc _ _ _))⟩)))
  repeat (go_quiet (first | (go_at_call 103; (with_reducible refine (impl_target.cl s j1 m true w.heap.size _ HM.out HW0.out B1.out).mono ?_); rintro e w' ⟨rfl, ⟨nd, rfl⟩⟩; (try first | exact ⟨rfl, _, World.drewN_drewN _ _ _⟩ | exact ⟨rfl, _, Eq.trans (World.drewN_drewN _ _ _) (congrArg (World.drewN _) (Nat.add_assoc _ _ _))⟩)) | (go_at_call 103; (with_reducible refine (impl_target.cl s j1 m true w.heap.size _ HM.out (HW.out _) B1.out).mono ?_); rintro e w' ⟨rfl, ⟨nd, rfl⟩⟩; (try first | exact ⟨rfl, _, World.drewN_drewN _ _ _⟩ | exact ⟨rfl, _, Eq.trans (World.drewN_drewN _ _ _) (congrArg (World.drewN _) (Nat.add_assoc _ _ _))⟩)) | (go_at_call 103; (with_reducible refine (impl_target.cl s j2 m true w.heap.size _ HM.out HW0.out B2.out).mono ?_); rintro e w' ⟨rfl, ⟨nd, rfl⟩⟩; (try first | exact ⟨rfl, _, World.drewN_drewN _ _ _⟩ | exact ⟨rfl, _, Eq.trans (World.drewN_drewN _ _ _) (congrArg (World.drewN _) (Nat.add_assoc _ _ _))⟩)) | (go_at_call 103; (with_reducible refine (impl_target.cl s j2 m true w.heap.size _ HM.out (HW.out _) B2.out).mono ?_); rintro e w' ⟨rfl, ⟨nd, rfl⟩⟩; (try first | exact ⟨rfl, _, World.drewN_drewN _ _ _⟩ | exact ⟨rfl, _, Eq.trans (World.drewN_drewN _ _ _) (congrArg (World.drewN _) (Nat.add_assoc _ _ _))⟩))); try go_wp2_with (first | (go_at_call 103; (with_reducible refine (impl_target.cl s j1 m true w.heap.size _ HM.out HW0.out B1.out).mono ?_); rintro e w' ⟨rfl, ⟨nd, rfl⟩⟩; (try first | exact ⟨rfl, _, World.drewN_drewN _ _ _⟩ | exact ⟨rfl, _, Eq.trans (World.drewN_drewN _ _ _) (congrArg (World.drewN _) (Nat.add_assoc _ _ _))⟩)) | (go_at_call 103; (with_reducible refine (impl_target.cl s j1 m true w.heap.size _ HM.out (HW.out _) B1.out).mono ?_); rintro e w' ⟨rfl, ⟨nd, rfl⟩⟩; (try first | exact ⟨rfl, _, World.drewN_drewN _ _ _⟩ | exact ⟨rfl, _, Eq.trans (World.drewN_drewN _ _ _) (congrArg (World.drewN _) (Nat.add_assoc _ _ _))⟩)) | (go_at_call 103; (with_reducible refine (impl_target.cl s j2 m true w.heap.size _ HM.out HW0.out B2.out).mono ?_); rintro e w' ⟨rfl, ⟨nd, rfl⟩⟩; (try first | exact ⟨rfl, _, World.drewN_drewN _ _ _⟩ | exact ⟨rfl, _, Eq.trans (World.drewN_drewN _ _ _) (congrArg (World.drewN _) (Nat.add_assoc _ _ _))⟩)) | (go_at_call 103; (with_reducible refine (impl_target.cl s j2 m true w.heap.size _ HM.out (HW.out _) B2.out).mono ?_); rintro e w' ⟨rfl, ⟨nd, rfl⟩⟩; (try first | exact ⟨rfl, _, World.drewN_drewN _ _ _⟩ | exact ⟨rfl, _, Eq.trans (World.drewN_drewN _ _ _) (congrArg (World.drewN _) (Nat.add_assoc _ _ _))⟩))))
  go_ret
  exact ⟨by first | rfl | (simp; done) | (simp [*]; done), by repeat (first | exact Below.refl _ _ | apply below_alloc | apply pw_below_drewN | apply below_drew1)⟩
set_option maxHeartbeats 8000000 in
set_option maxRecDepth 100000 in
theorem impl_target.wl0000 (s : ByteArray) (i j1 j2 m : Int) (w : World) (hm : wrap64 ((s.size : Int) - 1) = m) (p0 : 0 ≤ i) (q0 : i < (s.size : Int)) (e46 : (bt s i == 46) = false) (e108 : (bt s i == 108) = true) (h0 : wrap64 (i + -1) = j1) (h1 : wrap64 (i + -2) = j2) (h2 : wrap64 (i - 1) = j1) (h3 : wrap64 (i - 2) = j2) (A1 : impl_within.f j1 0 m = some false) (A2 : impl_within.f j2 0 m = some false) :
    Calls Tryd.prog 77 #[.string s, .int .i64 i] w fun e w' => e = .returned (.int .i64 (-1)) ∧ Below w.heap.size w w' := by
  have HM := Aside0.mk hm
  clear hm
  have HW := Aside0.mk (fun nd => impl_target.cellN w s nd)
  have HW0 := Aside0.mk (impl_target.cell0 w s)
  have hmf : ∀ (fn : Fn) (first cap : Array Value) (w : World), (Instr.makeFunc fn first cap).run Tryd.prog w = .ok (.func fn first cap) w := fun _ _ _ _ => rfl
  have x0 := bt_at s i
  replace p0 := eq_true p0
  replace q0 := eq_true q0
  have n46 : (bt s i != 46) = true := by unfold bne; rw [e46]; rfl
  have n108 : (bt s i != 108) = false := by unfold bne; rw [e108]; rfl
  have h0w : IntKind.i64.wrap (i + -1) = j1 := (i64_w _).trans h0
  have h1w : IntKind.i64.wrap (i + -2) = j2 := (i64_w _).trans h1
  have h2w : IntKind.i64.wrap (i - 1) = j1 := (i64_w _).trans h2
  have h3w : IntKind.i64.wrap (i - 2) = j2 := (i64_w _).trans h3
  have B1 := Aside0.mk A1
  clear A1
  have B2 := Aside0.mk A2
  clear A2
  go_enter Tryd.func77, Tryd.ntmps77
  go_wp2_with (first | (go_at_call 103; (with_reducible refine (impl_target.cl s j1 m false w.heap.size _ HM.out HW0.out B1.out).mono ?_); rintro e w' ⟨rfl, ⟨nd, rfl⟩⟩; (try first | exact ⟨rfl, _, World.drewN_drewN _ _ _⟩ | exact ⟨rfl, _, Eq.trans (World.drewN_drewN _ _ _) (congrArg (World.drewN _) (Nat.add_assoc _ _ _))⟩)) | (go_at_call 103; (with_reducible refine (impl_target.cl s j1 m false w.heap.size _ HM.out (HW.out _) B1.out).mono ?_); rintro e w' ⟨rfl, ⟨nd, rfl⟩⟩; (try first | exact ⟨rfl, _, World.drewN_drewN _ _ _⟩ | exact ⟨rfl, _, Eq.trans (World.drewN_drewN _ _ _) (congrArg (World.drewN _) (Nat.add_assoc _ _ _))⟩)) | (go_at_call 103; (with_reducible refine (impl_target.cl s j2 m false w.heap.size _ HM.out HW0.out B2.out).mono ?_); rintro e w' ⟨rfl, ⟨nd, rfl⟩⟩; (try first | exact ⟨rfl, _, World.drewN_drewN _ _ _⟩ | exact ⟨rfl, _, Eq.trans (World.drewN_drewN _ _ _) (congrArg (World.drewN _) (Nat.add_assoc _ _ _))⟩)) | (go_at_call 103; (with_reducible refine (impl_target.cl s j2 m false w.heap.size _ HM.out (HW.out _) B2.out).mono ?_); rintro e w' ⟨rfl, ⟨nd, rfl⟩⟩; (try first | exact ⟨rfl, _, World.drewN_drewN _ _ _⟩ | exact ⟨rfl, _, Eq.trans (World.drewN_drewN _ _ _) (congrArg (World.drewN _) (Nat.add_assoc _ _ _))⟩)))
  repeat (go_quiet (first | (go_at_call 103; (with_reducible refine (impl_target.cl s j1 m false w.heap.size _ HM.out HW0.out B1.out).mono ?_); rintro e w' ⟨rfl, ⟨nd, rfl⟩⟩; (try first | exact ⟨rfl, _, World.drewN_drewN _ _ _⟩ | exact ⟨rfl, _, Eq.trans (World.drewN_drewN _ _ _) (congrArg (World.drewN _) (Nat.add_assoc _ _ _))⟩)) | (go_at_call 103; (with_reducible refine (impl_target.cl s j1 m false w.heap.size _ HM.out (HW.out _) B1.out).mono ?_); rintro e w' ⟨rfl, ⟨nd, rfl⟩⟩; (try first | exact ⟨rfl, _, World.drewN_drewN _ _ _⟩ | exact ⟨rfl, _, Eq.trans (World.drewN_drewN _ _ _) (congrArg (World.drewN _) (Nat.add_assoc _ _ _))⟩)) | (go_at_call 103; (with_reducible refine (impl_target.cl s j2 m false w.heap.size _ HM.out HW0.out B2.out).mono ?_); rintro e w' ⟨rfl, ⟨nd, rfl⟩⟩; (try first | exact ⟨rfl, _, World.drewN_drewN _ _ _⟩ | exact ⟨rfl, _, Eq.trans (World.drewN_drewN _ _ _) (congrArg (World.drewN _) (Nat.add_assoc _ _ _))⟩)) | (go_at_call 103; (with_reducible refine (impl_target.cl s j2 m false w.heap.size _ HM.out (HW.out _) B2.out).mono ?_); rintro e w' ⟨rfl, ⟨nd, rfl⟩⟩; (try first | exact ⟨rfl, _, World.drewN_drewN _ _ _⟩ | exact ⟨rfl, _, Eq.trans (World.drewN_drewN _ _ _) (congrArg (World.drewN _) (Nat.add_assoc _ _ _))⟩))); try go_wp2_with (first | (go_at_call 103; (with_reducible refine (impl_target.cl s j1 m false w.heap.size _ HM.out HW0.out B1.out).mono ?_); rintro e w' ⟨rfl, ⟨nd, rfl⟩⟩; (try first | exact ⟨rfl, _, World.drewN_drewN _ _ _⟩ | exact ⟨rfl, _, Eq.trans (World.drewN_drewN _ _ _) (congrArg (World.drewN _) (Nat.add_assoc _ _ _))⟩)) | (go_at_call 103; (with_reducible refine (impl_target.cl s j1 m false w.heap.size _ HM.out (HW.out _) B1.out).mono ?_); rintro e w' ⟨rfl, ⟨nd, rfl⟩⟩; (try first | exact ⟨rfl, _, World.drewN_drewN _ _ _⟩ | exact ⟨rfl, _, Eq.trans (World.drewN_drewN _ _ _) (congrArg (World.drewN _) (Nat.add_assoc _ _ _))⟩)) | (go_at_call 103; (with_reducible refine (impl_target.cl s j2 m false w.heap.size _ HM.out HW0.out B2.out).mono ?_); rintro e w' ⟨rfl, ⟨nd, rfl⟩⟩; (try first | exact ⟨rfl, _, World.drewN_drewN _ _ _⟩ | exact ⟨rfl, _, Eq.trans (World.drewN_drewN _ _ _) (congrArg (World.drewN _) (Nat.add_assoc _ _ _))⟩)) | (go_at_call 103; (with_reducible refine (impl_target.cl s j2 m false w.heap.size _ HM.out (HW.out _) B2.out).mono ?_); rintro e w' ⟨rfl, ⟨nd, rfl⟩⟩; (try first | exact ⟨rfl, _, World.drewN_drewN _ _ _⟩ | exact ⟨rfl, _, Eq.trans (World.drewN_drewN _ _ _) (congrArg (World.drewN _) (Nat.add_assoc _ _ _))⟩))))
  go_ret
  exact ⟨by first | rfl | (simp; done) | (simp [*]; done), by repeat (first | exact Below.refl _ _ | apply below_alloc | apply pw_below_drewN | apply below_drew1)⟩
def impl_target.f (a0 : ByteArray) (a1 : Int) : Option (Int) := if a0.size ≤ 1000 ∧ 0 ≤ a1 ∧ a1 < (a0.size : Int) then (some (frogTo a0 a1)) else none
theorem impl_target.in1 {x m : Int} (h : 0 ≤ x ∧ x ≤ m) : impl_within.f x 0 m = some true := by
  unfold impl_within.f; rw [if_pos h.1]; congr 1; exact decide_eq_true h.2
theorem impl_target.in0 {x m : Int} (h : ¬ (0 ≤ x ∧ x ≤ m)) : impl_within.f x 0 m = some false := by
  unfold impl_within.f
  by_cases c : 0 ≤ x
  · rw [if_pos c]; congr 1; exact decide_eq_false (by omega)
  · rw [if_neg c]
theorem impl_target.bq {x y : Int} (h : x = y) : (x == y) = true := beq_iff_eq.mpr h
theorem impl_target.bn {x y : Int} (h : ¬ x = y) : (x == y) = false := beq_eq_false_iff_ne.mpr h
theorem impl_target.wr {x y : Int} (h : x = y) (h0 : -9223372036854775808 ≤ x) (h1 : x < 9223372036854775808) : wrap64 x = y := by unfold wrap64; omega
theorem impl_target.calls (a0 : ByteArray) (a1 : Int) (r : Int) (w : World) (h : impl_target.f a0 a1 = some r) :
    Calls Tryd.prog 77 #[.string a0, .int .i64 a1] w fun e w' => e = .returned (.int .i64 r) ∧ Below w.heap.size w w' := by
  unfold impl_target.f at h
  by_cases hd : a0.size ≤ 1000 ∧ 0 ≤ a1 ∧ a1 < (a0.size : Int)
  case neg => rw [if_neg hd] at h; cases h
  rw [if_pos hd] at h
  have hr := Option.some.inj h
  clear h
  subst hr
  have hm : wrap64 ((a0.size : Int) - 1) = (a0.size : Int) - 1 := by unfold wrap64; omega
  have h0 : 0 ≤ a1 ∧ a1 < (a0.size : Int) := hd.2
  by_cases h46 : bt a0 a1 = 46
  case pos =>
    have e : frogTo a0 a1 = -1 := by unfold frogTo; rw [if_neg (fun c => c.2 h46)]
    rw [e]
    exact impl_target.wdot a0 a1 0 0 _ w hm h0.1 h0.2 (impl_target.bq h46)
  by_cases h108 : bt a0 a1 = 108
  case pos =>
    have e : frogTo a0 a1 = if (0 ≤ a1 + -1 ∧ a1 + -1 < (a0.size : Int)) ∧ bt a0 (a1 + -1) = 46 then a1 + -1 else if ((0 ≤ a1 + -2 ∧ a1 + -2 < (a0.size : Int)) ∧ bt a0 (a1 + -2) = 46) ∧ ¬ bt a0 (a1 + -1) = bt a0 a1 then a1 + -2 else -1 := by
      unfold frogTo; rw [if_pos ⟨h0, h46⟩]; simp only [if_pos h108]; rfl
    rw [e]
    by_cases c1 : 0 ≤ a1 + -1 ∧ a1 + -1 < (a0.size : Int)
    · by_cases c2 : bt a0 (a1 + -1) = 46
      · rw [if_pos ⟨c1, c2⟩]
        exact impl_target.wl1 a0 a1 (a1 + -1) (a1 + -2) _ w hm h0.1 h0.2 (impl_target.bn h46) (impl_target.bq h108) (impl_target.wr (by omega) (by omega) (by omega)) (impl_target.wr (by omega) (by omega) (by omega)) (impl_target.wr (by omega) (by omega) (by omega)) (impl_target.wr (by omega) (by omega) (by omega)) (impl_target.in1 (by omega)) c1.1 c1.2 (impl_target.bq c2)
      · rw [if_neg (fun c => c2 c.2)]
        by_cases c3 : 0 ≤ a1 + -2 ∧ a1 + -2 < (a0.size : Int)
        · by_cases c4 : bt a0 (a1 + -2) = 46
          · by_cases c5 : bt a0 (a1 + -1) = bt a0 a1
            · rw [if_neg (fun c => c.2 c5)]
              exact impl_target.wl1110 a0 a1 (a1 + -1) (a1 + -2) _ w hm h0.1 h0.2 (impl_target.bn h46) (impl_target.bq h108) (impl_target.wr (by omega) (by omega) (by omega)) (impl_target.wr (by omega) (by omega) (by omega)) (impl_target.wr (by omega) (by omega) (by omega)) (impl_target.wr (by omega) (by omega) (by omega)) (impl_target.in1 (by omega)) c1.1 c1.2 (impl_target.bn c2) (impl_target.in1 (by omega)) c3.1 c3.2 (impl_target.bq c4) (impl_target.bq c5)
            · rw [if_pos ⟨⟨c3, c4⟩, c5⟩]
              exact impl_target.wl1111 a0 a1 (a1 + -1) (a1 + -2) _ w hm h0.1 h0.2 (impl_target.bn h46) (impl_target.bq h108) (impl_target.wr (by omega) (by omega) (by omega)) (impl_target.wr (by omega) (by omega) (by omega)) (impl_target.wr (by omega) (by omega) (by omega)) (impl_target.wr (by omega) (by omega) (by omega)) (impl_target.in1 (by omega)) c1.1 c1.2 (impl_target.bn c2) (impl_target.in1 (by omega)) c3.1 c3.2 (impl_target.bq c4) (impl_target.bn c5)
          · rw [if_neg (fun c => c4 c.1.2)]
            exact impl_target.wl1100 a0 a1 (a1 + -1) (a1 + -2) _ w hm h0.1 h0.2 (impl_target.bn h46) (impl_target.bq h108) (impl_target.wr (by omega) (by omega) (by omega)) (impl_target.wr (by omega) (by omega) (by omega)) (impl_target.wr (by omega) (by omega) (by omega)) (impl_target.wr (by omega) (by omega) (by omega)) (impl_target.in1 (by omega)) c1.1 c1.2 (impl_target.bn c2) (impl_target.in1 (by omega)) c3.1 c3.2 (impl_target.bn c4)
        · rw [if_neg (fun c => c3 c.1.1)]
          exact impl_target.wl1000 a0 a1 (a1 + -1) (a1 + -2) _ w hm h0.1 h0.2 (impl_target.bn h46) (impl_target.bq h108) (impl_target.wr (by omega) (by omega) (by omega)) (impl_target.wr (by omega) (by omega) (by omega)) (impl_target.wr (by omega) (by omega) (by omega)) (impl_target.wr (by omega) (by omega) (by omega)) (impl_target.in1 (by omega)) c1.1 c1.2 (impl_target.bn c2) (impl_target.in0 (by omega))
    · rw [if_neg (fun c => c1 c.1), if_neg (fun c => c1 (by omega))]
      exact impl_target.wl0000 a0 a1 (a1 + -1) (a1 + -2) _ w hm h0.1 h0.2 (impl_target.bn h46) (impl_target.bq h108) (impl_target.wr (by omega) (by omega) (by omega)) (impl_target.wr (by omega) (by omega) (by omega)) (impl_target.wr (by omega) (by omega) (by omega)) (impl_target.wr (by omega) (by omega) (by omega)) (impl_target.in0 (by omega)) (impl_target.in0 (by omega))
  case neg =>
    have e : frogTo a0 a1 = if (0 ≤ a1 + 1 ∧ a1 + 1 < (a0.size : Int)) ∧ bt a0 (a1 + 1) = 46 then a1 + 1 else if ((0 ≤ a1 + 2 ∧ a1 + 2 < (a0.size : Int)) ∧ bt a0 (a1 + 2) = 46) ∧ ¬ bt a0 (a1 + 1) = bt a0 a1 then a1 + 2 else -1 := by
      unfold frogTo; rw [if_pos ⟨h0, h46⟩]; simp only [if_neg h108]; rfl
    rw [e]
    by_cases c1 : 0 ≤ a1 + 1 ∧ a1 + 1 < (a0.size : Int)
    · by_cases c2 : bt a0 (a1 + 1) = 46
      · rw [if_pos ⟨c1, c2⟩]
        exact impl_target.wr1 a0 a1 (a1 + 1) (a1 + 2) _ w hm h0.1 h0.2 (impl_target.bn h46) (impl_target.bn h108) (impl_target.wr (by omega) (by omega) (by omega)) (impl_target.wr (by omega) (by omega) (by omega)) (impl_target.in1 (by omega)) c1.1 c1.2 (impl_target.bq c2)
      · rw [if_neg (fun c => c2 c.2)]
        by_cases c3 : 0 ≤ a1 + 2 ∧ a1 + 2 < (a0.size : Int)
        · by_cases c4 : bt a0 (a1 + 2) = 46
          · by_cases c5 : bt a0 (a1 + 1) = bt a0 a1
            · rw [if_neg (fun c => c.2 c5)]
              exact impl_target.wr1110 a0 a1 (a1 + 1) (a1 + 2) _ w hm h0.1 h0.2 (impl_target.bn h46) (impl_target.bn h108) (impl_target.wr (by omega) (by omega) (by omega)) (impl_target.wr (by omega) (by omega) (by omega)) (impl_target.in1 (by omega)) c1.1 c1.2 (impl_target.bn c2) (impl_target.in1 (by omega)) c3.1 c3.2 (impl_target.bq c4) (impl_target.bq c5)
            · rw [if_pos ⟨⟨c3, c4⟩, c5⟩]
              exact impl_target.wr1111 a0 a1 (a1 + 1) (a1 + 2) _ w hm h0.1 h0.2 (impl_target.bn h46) (impl_target.bn h108) (impl_target.wr (by omega) (by omega) (by omega)) (impl_target.wr (by omega) (by omega) (by omega)) (impl_target.in1 (by omega)) c1.1 c1.2 (impl_target.bn c2) (impl_target.in1 (by omega)) c3.1 c3.2 (impl_target.bq c4) (impl_target.bn c5)
          · rw [if_neg (fun c => c4 c.1.2)]
            exact impl_target.wr1100 a0 a1 (a1 + 1) (a1 + 2) _ w hm h0.1 h0.2 (impl_target.bn h46) (impl_target.bn h108) (impl_target.wr (by omega) (by omega) (by omega)) (impl_target.wr (by omega) (by omega) (by omega)) (impl_target.in1 (by omega)) c1.1 c1.2 (impl_target.bn c2) (impl_target.in1 (by omega)) c3.1 c3.2 (impl_target.bn c4)
        · rw [if_neg (fun c => c3 c.1.1)]
          exact impl_target.wr1000 a0 a1 (a1 + 1) (a1 + 2) _ w hm h0.1 h0.2 (impl_target.bn h46) (impl_target.bn h108) (impl_target.wr (by omega) (by omega) (by omega)) (impl_target.wr (by omega) (by omega) (by omega)) (impl_target.in1 (by omega)) c1.1 c1.2 (impl_target.bn c2) (impl_target.in0 (by omega))
    · rw [if_neg (fun c => c1 c.1), if_neg (fun c => c1 (by omega))]
      exact impl_target.wr0000 a0 a1 (a1 + 1) (a1 + 2) _ w hm h0.1 h0.2 (impl_target.bn h46) (impl_target.bn h108) (impl_target.wr (by omega) (by omega) (by omega)) (impl_target.wr (by omega) (by omega) (by omega)) (impl_target.in0 (by omega)) (impl_target.in0 (by omega))

end Go.Proofs.YtkikpfeipejnlaaDoor.PFnExactFirstFrogMoves
