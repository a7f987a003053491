-- Printed by this session's eprint.py over the kit's print (with this session's own texts for some functions)
import Derived.Test.YtkikpfeipejnlaaDoorPFnExactStuckPondsx0
import Derived.Test.YtkikpfeipejnlaaDoorPFnExactStuckPondsx3
import Derived.Test.YtkikpfeipejnlaaDoorPFnExactStuckPondsx4
namespace Go.Proofs.YtkikpfeipejnlaaDoor.PFnExactStuckPonds
open Go.RowKit Go.Proofs.YtkikpfeipejnlaaDoorW.PrintWords Go.Proofs.YtkikpfeipejnlaaDoorW.PrintLast Go.Proofs.YtkikpfeipejnlaaDoorW.PrintMore
attribute [local go_sem] max2_int min2_int max_two min_two max_three min_three max_four min_four   -- for this text's walks alone
set_option linter.unusedVariables false
set_option linter.unusedSimpArgs false

/-! ### impl_reached: function 38 -/
mutual
def impl_reached.l0 : Nat → List ByteArray → Int → Option (List ByteArray)
  | 0, _, _ => none
  | k + 1, x3, x4 => if x4 < (x3.length : Int) then (if 0 ≤ x4 then ((impl_hops.f k (rdOf ByteArray.empty x3 x4)).bind fun t214 => (impl_reached.l1 k x3 x4 t214 (t214.length : Int) 0)) else (none)) else (some x3)
def impl_reached.l1 : Nat → List ByteArray → Int → List Int → Int → Int → Option (List ByteArray)
  | 0, _, _, _, _, _ => none
  | k + 1, x3, x4, x20, x21, x22 => if x22 < x21 then (if 0 ≤ x22 then (if x22 < (x20.length : Int) then (if 0 ≤ x4 then (if x4 < (x3.length : Int) then ((impl_hopped.f (rdOf ByteArray.empty x3 x4) (rd x20 x22)).bind fun t219 => ((slices_Contains_string_string.f k x3 t219).bind fun t220 => (if t220 = true then (impl_reached.l1 k x3 x4 x20 x21 (wrap64 (x22 + 1))) else (if x3.length < 8796093022208 then (impl_reached.l1 k (x3 ++ [t219]) x4 x20 x21 (wrap64 (x22 + 1))) else (none))))) else (none)) else (none)) else (none)) else (none)) else (impl_reached.l0 k x3 (wrap64 (x4 + 1)))
end
def impl_reached.f (k : Nat) (a0 : ByteArray) : Option (List ByteArray) := impl_reached.l0 k (([a0] : List ByteArray)) 0
theorem impl_reached.mono_l : ∀ k, (∀ y0 y1, LeO (impl_reached.l0 k y0 y1) (impl_reached.l0 (k + 1) y0 y1)) ∧ (∀ y0 y1 y2 y3 y4, LeO (impl_reached.l1 k y0 y1 y2 y3 y4) (impl_reached.l1 (k + 1) y0 y1 y2 y3 y4))
  | 0 => ⟨fun _ _ r h => by simp [impl_reached.l0] at h, fun _ _ _ _ _ r h => by simp [impl_reached.l1] at h⟩
  | k + 1 => by
    obtain ⟨ih0, ih1⟩ := impl_reached.mono_l k
    refine ⟨?_, ?_⟩
    · intro y0 y1
      unfold impl_reached.l0
      repeat' first
      | (with_reducible exact ih0 _ _)
      | (with_reducible exact ih1 _ _ _ _ _)
      | (with_reducible exact impl_hops.mono _ _)
      | (with_reducible exact slices_Contains_string_string.mono _ _ _)
      | (with_reducible exact LeO.refl _)
      | (with_reducible exact LeO.none _)
      | (with_reducible refine LeO.ite ?_ ?_)
      | (with_reducible refine LeO.bind ?_ (fun _ => ?_))
      | exact ih0 _ _
      | exact ih1 _ _ _ _ _
      | exact impl_hops.mono _ _
      | exact slices_Contains_string_string.mono _ _ _
      | exact LeO.none _
      | refine LeO.ite ?_ ?_
      | refine LeO.bind ?_ (fun _ => ?_)
    · intro y0 y1 y2 y3 y4
      unfold impl_reached.l1
      repeat' first
      | (with_reducible exact ih0 _ _)
      | (with_reducible exact ih1 _ _ _ _ _)
      | (with_reducible exact impl_hops.mono _ _)
      | (with_reducible exact slices_Contains_string_string.mono _ _ _)
      | (with_reducible exact LeO.refl _)
      | (with_reducible exact LeO.none _)
      | (with_reducible refine LeO.ite ?_ ?_)
      | (with_reducible refine LeO.bind ?_ (fun _ => ?_))
      | exact ih0 _ _
      | exact ih1 _ _ _ _ _
      | exact impl_hops.mono _ _
      | exact slices_Contains_string_string.mono _ _ _
      | exact LeO.none _
      | refine LeO.ite ?_ ?_
      | refine LeO.bind ?_ (fun _ => ?_)
theorem impl_reached.mono : ∀ a0 k, LeO (impl_reached.f k a0) (impl_reached.f (k + 1) a0) := by
  intro a0 k
  obtain ⟨ih0, ih1⟩ := impl_reached.mono_l k
  unfold impl_reached.f
  repeat' first
      | (with_reducible exact ih0 _ _)
      | (with_reducible exact ih1 _ _ _ _ _)
      | (with_reducible exact impl_hops.mono _ _)
      | (with_reducible exact slices_Contains_string_string.mono _ _ _)
      | (with_reducible exact LeO.refl _)
      | (with_reducible exact LeO.none _)
      | (with_reducible refine LeO.ite ?_ ?_)
      | (with_reducible refine LeO.bind ?_ (fun _ => ?_))
      | exact ih0 _ _
      | exact ih1 _ _ _ _ _
      | exact impl_hops.mono _ _
      | exact slices_Contains_string_string.mono _ _ _
      | exact LeO.none _
      | refine LeO.ite ?_ ?_
      | refine LeO.bind ?_ (fun _ => ?_)
set_option maxHeartbeats 8000000 in
set_option maxRecDepth 100000 in
theorem impl_reached.calls (k : Nat) (a0 : ByteArray) (r : List ByteArray) (w : World) (h : impl_reached.f k a0 = some r) :
    Calls Tryd.prog 38 #[.string a0] w fun e w' => ∃ v0_ : Value, e = .returned (v0_) ∧ Kd.R Kd.string 9 w' w.heap.size (fun _ => True) v0_ r ∧ Below w.heap.size w w' := by
  have HB := Aside0.mk (Below.refl w.heap.size w)
  have H : (impl_reached.l0 k (([a0] : List ByteArray)) 0) = some r := h
  clear h
  obtain ⟨y210, hy210⟩ : ∃ y_ : List ByteArray, y_ = (([a0] : List ByteArray)) := ⟨_, rfl⟩
  replace H : (impl_reached.l0 k y210 0) = some r := by first | (rw [hy210]; with_reducible exact H) | (have H2_ := (Option.bind_some _ _).symm.trans H; rw [hy210]; with_reducible exact H2_) | (have H2_ := (Option.bind_some _ _).symm.trans H; with_reducible exact H2_) | with_reducible exact H | (rw [hy210]; exact H) | exact H
  have Ny210 := Aside0.mk hy210
  clear hy210
  have H' := Aside0.mk H
  clear H
  go_enter Tryd.func38, Tryd.ntmps38
  go_wp2_with (first | ((with_reducible refine gate_dst (N := 9) rfl ?_); refine Kd.R_lit Kd.string _ 9 ?hg (N := 9) ?hd (xs := ([a0] : List ByteArray)) (inner := [.string a0]) (ok := fun _ => True) (okp := fun _ => True) ?hr ?hp (fun _ hk => hk) trivial (Below.refl _ _) (Nat.le_refl _) (by simp) ?_; (case hd => rfl); (case hg => rfl); (case hr => first | (go_simp; done) | (go_simp; rfl)); (case hp => exact (Reps.one (show Kd.M Kd.string _ _ _ a0 [.string a0] from rfl) (Reps.none _ _))); intro v211 w2 ho3 hb hg_ hnew_; clear hg_ hnew_; (first | rw [← Ny210.out] at ho3 | (simp only [Int.reduceToNat] at ho3; rw [← Ny210.out] at ho3)); have n0_ := Aside0.mk (Kd.R_lower ho3 (below_size (by repeat (first | (with_reducible first | exact HB.out | apply below_alloc | apply pw_below_drewN | apply below_drew1) | exact HB.out)))); have n1_ := Aside0.mk (below_step (by repeat (first | (with_reducible first | exact HB.out | apply below_alloc | apply pw_below_drewN | apply below_drew1) | exact HB.out)) hb); clear HB; have HO212 := n0_; have HB := n1_; clear n0_ n1_; clear hb ho3))
  go_loopg [3, 4] k (fun kq v3 v4 w' => ∃ (x3_1 : List ByteArray) (x4_1 : Int), v4 = .int .i64 x4_1 ∧ Aside0 (impl_reached.l0 kq x3_1 x4_1 = some r) ∧ Aside0 (kq ≤ k) ∧ Aside0 (Kd.R Kd.string 9 w' w.heap.size (fun _ => True) v3 x3_1) ∧ Aside0 (Below w.heap.size w w'))
  case atStart => exact ⟨(y210), (0), (by first | rfl | (simp; done) | (simp [*]; done)), H', ⟨Nat.le_refl _⟩, ⟨by (with_reducible repeat (first | apply Kd.R_alloc | apply Kd.R_drewN | apply Kd.R_drew)); exact HO212.out⟩, ⟨by repeat (first | (with_reducible first | exact HB.out | apply below_alloc | apply pw_below_drewN | apply below_drew1) | exact HB.out)⟩⟩
  case round =>
    clear H'
    try clear p2
    try clear c3
    obtain ⟨x3_1, x4_1, rfl, HA, HK1, HO_3, HB⟩ := hrel
    cases gk with
    | zero => exact absurd HA.out (by simp [impl_reached.l0])
    | succ k1 =>
      have H := HA.out
      clear HA
      simp only [impl_reached.l0] at H
      by_cases c4 : x4_1 < (x3_1.length : Int)
      · rw [if_pos c4] at H
        have c4b0 : decide (x4_1 < (x3_1.length : Int)) = true := decide_eq_true c4
        clear c4
        by_cases c5 : 0 ≤ x4_1
        · rw [if_pos c5] at H
          have c5b0 : decide (0 ≤ x4_1) = true := decide_eq_true c5
          clear c5
          replace H := Option.bind_eq_some_iff.mp H
          obtain ⟨t214, A60, H⟩ := H
          replace H : (impl_reached.l1 k1 x3_1 x4_1 t214 (t214.length : Int) 0) = some r := H
          have A6 := Aside0.mk A60
          clear A60
          have H' := Aside0.mk H
          clear H
          obtain ⟨Ao7, co7, eo7⟩ := Kd.R_slice HO_3.out
          subst eo7
          have p213 : 0 ≤ (x4_1 : Int) := of_decide_eq_true (by first | (with_reducible assumption) | assumption)
          have q213 : x4_1 < (x3_1.length : Int) := of_decide_eq_true (by first | (with_reducible assumption) | assumption)
          obtain ⟨ad213, e213, hx213_0⟩ := Kd.at_string (Kd.R_reads' HO_3.out).2.2 x4_1 p213 q213
          cases e213
          replace p213 := eq_true p213
          replace q213 := eq_true q213
          go_wp2_with (first | ((with_reducible refine gate_callee (f := 62) rfl ?_); refine goesL_ (some 20) rfl rfl Tryd.func62 (by kernel_rfl) rfl #[.string (rdOf ByteArray.empty x3_1 x4_1)] rfl (by (try simp only [List.map_toArray, List.map_cons, List.map_nil]); first | done | rfl | (simp only [List.length_drop, List.length_take]; rfl)) ?_; (with_reducible refine (impl_hops.calls k1 (rdOf ByteArray.empty x3_1 x4_1) t214 _ A6.out).mono ?_); rintro e w8 ⟨v215, rfl, ho0, hb⟩; refine ⟨_, rfl, ?_⟩; have n0_ := Aside0.mk (Kd.R_below (by (with_reducible repeat (first | apply Kd.R_alloc | apply Kd.R_drewN | apply Kd.R_drew)); exact HO_3.out) hb); have n1_ := Aside0.mk (Kd.R_lower ho0 (below_size (by repeat (first | (with_reducible first | exact HB.out | apply below_alloc | apply pw_below_drewN | apply below_drew1) | exact HB.out)))); have n2_ := Aside0.mk (below_step (by repeat (first | (with_reducible first | exact HB.out | apply below_alloc | apply pw_below_drewN | apply below_drew1) | exact HB.out)) hb); clear HO_3; clear HB; have HO_3 := n0_; have HO216 := n1_; have HB := n2_; clear n0_ n1_ n2_; (try clear hb); (try clear hb2); (try clear hk); (try clear hi); (try clear ho0); obtain ⟨Ao9, co9, eo9⟩ := Kd.R_slice HO216.out; subst eo9))
          go_loopg [3, 22] k1 (fun kq v3 v22 w' => ∃ (x3_2 : List ByteArray) (x22_2 : Int), v22 = .int .i64 x22_2 ∧ Aside0 (impl_reached.l1 kq x3_2 x4_1 t214 (t214.length : Int) x22_2 = some r) ∧ Aside0 (kq ≤ k1) ∧ Aside0 (Kd.R Kd.string 9 w' w.heap.size (fun _ => True) v3 x3_2) ∧ Aside0 (Kd.R (Kd.int .i64) 3 w' w.heap.size (fun _ => True) (.slice Ao9 t214.length co9) t214) ∧ Aside0 (Below w.heap.size w w'))
          case atStart => exact ⟨(x3_1), (0), (by first | rfl | (simp; done) | (simp [*]; done)), H', ⟨Nat.le_refl _⟩, ⟨by (with_reducible repeat (first | apply Kd.R_alloc | apply Kd.R_drewN | apply Kd.R_drew)); exact HO_3.out⟩, ⟨by (with_reducible repeat (first | apply Kd.R_alloc | apply Kd.R_drewN | apply Kd.R_drew)); exact HO216.out⟩, ⟨by repeat (first | (with_reducible first | exact HB.out | apply below_alloc | apply pw_below_drewN | apply below_drew1) | exact HB.out)⟩⟩
          case round =>
            clear H'
            try clear p2
            try clear q2
            try clear hx2
            try clear c3
            try clear c4
            try clear c4b0
            try clear c5
            try clear c5b0
            try clear c6
            try clear hx213_0
            try clear p2
            try clear p213
            try clear q213
            obtain ⟨x3_2, x22_2, rfl, HA, HK2, HO_3, HO_20, HB⟩ := hrel
            cases gk with
            | zero => exact absurd HA.out (by simp [impl_reached.l1])
            | succ k2 =>
              have H := HA.out
              clear HA
              simp only [impl_reached.l1] at H
              by_cases c10 : x22_2 < (t214.length : Int)
              · rw [if_pos c10] at H
                have c10b0 : decide (x22_2 < (t214.length : Int)) = true := decide_eq_true c10
                clear c10
                by_cases c11 : 0 ≤ x22_2
                · rw [if_pos c11] at H
                  have c11b0 : decide (0 ≤ x22_2) = true := decide_eq_true c11
                  clear c11
                  by_cases c12 : x22_2 < (t214.length : Int)
                  · rw [if_pos c12] at H
                    have c12b0 : decide (x22_2 < (t214.length : Int)) = true := decide_eq_true c12
                    clear c12
                    by_cases c13 : 0 ≤ x4_1
                    · rw [if_pos c13] at H
                      have c13b0 : decide (0 ≤ x4_1) = true := decide_eq_true c13
                      clear c13
                      by_cases c14 : x4_1 < (x3_2.length : Int)
                      · rw [if_pos c14] at H
                        have c14b0 : decide (x4_1 < (x3_2.length : Int)) = true := decide_eq_true c14
                        clear c14
                        replace H := Option.bind_eq_some_iff.mp H
                        obtain ⟨t219, A150, H⟩ := H
                        replace H : ((slices_Contains_string_string.f k2 x3_2 t219).bind fun t220 => (if t220 = true then (impl_reached.l1 k2 x3_2 x4_1 t214 (t214.length : Int) (wrap64 (x22_2 + 1))) else (if x3_2.length < 8796093022208 then (impl_reached.l1 k2 (x3_2 ++ [t219]) x4_1 t214 (t214.length : Int) (wrap64 (x22_2 + 1))) else (none)))) = some r := H
                        have A15 := Aside0.mk A150
                        clear A150
                        replace H := Option.bind_eq_some_iff.mp H
                        obtain ⟨t220, A160, H⟩ := H
                        replace H : (if t220 = true then (impl_reached.l1 k2 x3_2 x4_1 t214 (t214.length : Int) (wrap64 (x22_2 + 1))) else (if x3_2.length < 8796093022208 then (impl_reached.l1 k2 (x3_2 ++ [t219]) x4_1 t214 (t214.length : Int) (wrap64 (x22_2 + 1))) else (none))) = some r := H
                        have A16 := Aside0.mk A160
                        clear A160
                        by_cases c17 : t220 = true
                        · subst c17
                          have H1 : (impl_reached.l1 k2 x3_2 x4_1 t214 (t214.length : Int) (wrap64 (x22_2 + 1))) = some r := by rw [if_pos rfl] at H; exact H
                          clear H
                          have H := H1
                          clear H1
                          have H' := Aside0.mk H
                          clear H
                          have p217 : 0 ≤ (x22_2 : Int) := of_decide_eq_true (by first | (with_reducible assumption) | assumption)
                          have q217 : x22_2 < (t214.length : Int) := of_decide_eq_true (by first | (with_reducible assumption) | assumption)
                          obtain ⟨ad217, e217, hx217_0⟩ := Kd.at_int (Kd.R_reads' HO_20.out).2.2 x22_2 p217 q217
                          cases e217
                          replace p217 := eq_true p217
                          replace q217 := eq_true q217
                          obtain ⟨Ao18, co18, eo18⟩ := Kd.R_slice HO_3.out
                          subst eo18
                          have p218 : 0 ≤ (x4_1 : Int) := of_decide_eq_true (by first | (with_reducible assumption) | assumption)
                          have q218 : x4_1 < (x3_2.length : Int) := of_decide_eq_true (by first | (with_reducible assumption) | assumption)
                          obtain ⟨ad218, e218, hx218_0⟩ := Kd.at_string (Kd.R_reads' HO_3.out).2.2 x4_1 p218 q218
                          cases e218
                          replace p218 := eq_true p218
                          replace q218 := eq_true q218
                          go_wp2_with (first | ((with_reducible refine gate_callee (f := 63) rfl ?_); refine goesL_ (some 31) rfl rfl Tryd.func63 (by kernel_rfl) rfl #[.string (rdOf ByteArray.empty x3_2 x4_1), .int .i64 (rd t214 x22_2)] rfl (by (try simp only [List.map_toArray, List.map_cons, List.map_nil]); first | done | rfl | (simp only [List.length_drop, List.length_take]; rfl)) ?_; (with_reducible refine (impl_hopped.calls (rdOf ByteArray.empty x3_2 x4_1) (rd t214 x22_2) t219 _ A15.out).mono ?_); rintro e w19 ⟨rfl, hb⟩; refine ⟨_, rfl, ?_⟩; have n0_ := Aside0.mk (Kd.R_below (by (with_reducible repeat (first | apply Kd.R_alloc | apply Kd.R_drewN | apply Kd.R_drew)); exact HO_3.out) hb); have n1_ := Aside0.mk (Kd.R_below (by (with_reducible repeat (first | apply Kd.R_alloc | apply Kd.R_drewN | apply Kd.R_drew)); exact HO_20.out) hb); have n2_ := Aside0.mk (below_step (by repeat (first | (with_reducible first | exact HB.out | apply below_alloc | apply pw_below_drewN | apply below_drew1) | exact HB.out)) hb); clear HO_3; clear HO_20; clear HB; have HO_3 := n0_; have HO_20 := n1_; have HB := n2_; clear n0_ n1_ n2_; (try clear hb); (try clear hb2); (try clear hk); (try clear hi)) | ((with_reducible refine gate_callee (f := 64) rfl ?_); refine goesL_ (some 34) rfl rfl Tryd.func64 (by kernel_rfl) rfl #[.slice (some ad218) x3_2.length co18, .string t219] rfl (by (try simp only [List.map_toArray, List.map_cons, List.map_nil]); first | done | rfl | (simp only [List.length_drop, List.length_take]; rfl)) ?_; (with_reducible refine (slices_Contains_string_string.calls k2 _ _ x3_2 t219 true _ ?side1 ?side2 A16.out).mono ?_); (case side1 => repeat (first | exact (Kd.R_reads' HO_3.out).2.2 | (with_reducible refine Kd.C_alloc ?_ _) | (with_reducible refine Kd.C_drewN ?_ _) | (with_reducible refine Kd.C_drew ?_))); (case side2 => exact (Kd.R_reads' HO_3.out).2.1); rintro e w' ⟨rfl, ⟨nd, rfl⟩⟩; refine ⟨_, rfl, ?_⟩))
                          go_roundg k2
                          case measure => have := HK1.out; have := HK2.out; omega
                          case rel => exact ⟨(x3_2), (wrap64 (x22_2 + 1)), (by first | rfl | (simp; done) | (simp [*]; done)), H', ⟨by have := HK1.out; have := HK2.out; omega⟩, ⟨by (with_reducible repeat (first | apply Kd.R_alloc | apply Kd.R_drewN | apply Kd.R_drew)); exact HO_3.out⟩, ⟨by (with_reducible repeat (first | apply Kd.R_alloc | apply Kd.R_drewN | apply Kd.R_drew)); exact HO_20.out⟩, ⟨by repeat (first | (with_reducible first | exact HB.out | apply below_alloc | apply pw_below_drewN | apply below_drew1) | exact HB.out)⟩⟩
                        · replace c17 := Bool.eq_false_iff.mpr c17
                          subst c17
                          have H1 : (if x3_2.length < 8796093022208 then (impl_reached.l1 k2 (x3_2 ++ [t219]) x4_1 t214 (t214.length : Int) (wrap64 (x22_2 + 1))) else (none)) = some r := by rw [if_neg (show ¬ (false = true) by decide)] at H; exact H
                          clear H
                          have H := H1
                          clear H1
                          by_cases c20 : x3_2.length < 8796093022208
                          · rw [if_pos c20] at H
                            have LMc20 := Aside0.mk c20
                            clear c20
                            obtain ⟨y221, hy221⟩ : ∃ y_ : List ByteArray, y_ = (x3_2 ++ [t219]) := ⟨_, rfl⟩
                            replace H : (impl_reached.l1 k2 y221 x4_1 t214 (t214.length : Int) (wrap64 (x22_2 + 1))) = some r := by first | (rw [hy221]; with_reducible exact H) | (have H2_ := (Option.bind_some _ _).symm.trans H; rw [hy221]; with_reducible exact H2_) | (have H2_ := (Option.bind_some _ _).symm.trans H; with_reducible exact H2_) | with_reducible exact H | (rw [hy221]; exact H) | exact H
                            have Ny221 := Aside0.mk hy221
                            clear hy221
                            have H' := Aside0.mk H
                            clear H
                            have p217 : 0 ≤ (x22_2 : Int) := of_decide_eq_true (by first | (with_reducible assumption) | assumption)
                            have q217 : x22_2 < (t214.length : Int) := of_decide_eq_true (by first | (with_reducible assumption) | assumption)
                            obtain ⟨ad217, e217, hx217_0⟩ := Kd.at_int (Kd.R_reads' HO_20.out).2.2 x22_2 p217 q217
                            cases e217
                            replace p217 := eq_true p217
                            replace q217 := eq_true q217
                            obtain ⟨Ao21, co21, eo21⟩ := Kd.R_slice HO_3.out
                            subst eo21
                            have p218 : 0 ≤ (x4_1 : Int) := of_decide_eq_true (by first | (with_reducible assumption) | assumption)
                            have q218 : x4_1 < (x3_2.length : Int) := of_decide_eq_true (by first | (with_reducible assumption) | assumption)
                            obtain ⟨ad218, e218, hx218_0⟩ := Kd.at_string (Kd.R_reads' HO_3.out).2.2 x4_1 p218 q218
                            cases e218
                            replace p218 := eq_true p218
                            replace q218 := eq_true q218
                            go_wp2_with (first | ((with_reducible refine gate_callee (f := 63) rfl ?_); refine goesL_ (some 31) rfl rfl Tryd.func63 (by kernel_rfl) rfl #[.string (rdOf ByteArray.empty x3_2 x4_1), .int .i64 (rd t214 x22_2)] rfl (by (try simp only [List.map_toArray, List.map_cons, List.map_nil]); first | done | rfl | (simp only [List.length_drop, List.length_take]; rfl)) ?_; (with_reducible refine (impl_hopped.calls (rdOf ByteArray.empty x3_2 x4_1) (rd t214 x22_2) t219 _ A15.out).mono ?_); rintro e w22 ⟨rfl, hb⟩; refine ⟨_, rfl, ?_⟩; have n0_ := Aside0.mk (Kd.R_below (by (with_reducible repeat (first | apply Kd.R_alloc | apply Kd.R_drewN | apply Kd.R_drew)); exact HO_3.out) hb); have n1_ := Aside0.mk (Kd.R_below (by (with_reducible repeat (first | apply Kd.R_alloc | apply Kd.R_drewN | apply Kd.R_drew)); exact HO_20.out) hb); have n2_ := Aside0.mk (below_step (by repeat (first | (with_reducible first | exact HB.out | apply below_alloc | apply pw_below_drewN | apply below_drew1) | exact HB.out)) hb); clear HO_3; clear HO_20; clear HB; have HO_3 := n0_; have HO_20 := n1_; have HB := n2_; clear n0_ n1_ n2_; (try clear hb); (try clear hb2); (try clear hk); (try clear hi)) | ((with_reducible refine gate_callee (f := 64) rfl ?_); refine goesL_ (some 34) rfl rfl Tryd.func64 (by kernel_rfl) rfl #[.slice (some ad218) x3_2.length co21, .string t219] rfl (by (try simp only [List.map_toArray, List.map_cons, List.map_nil]); first | done | rfl | (simp only [List.length_drop, List.length_take]; rfl)) ?_; (with_reducible refine (slices_Contains_string_string.calls k2 _ _ x3_2 t219 false _ ?side1 ?side2 A16.out).mono ?_); (case side1 => repeat (first | exact (Kd.R_reads' HO_3.out).2.2 | (with_reducible refine Kd.C_alloc ?_ _) | (with_reducible refine Kd.C_drewN ?_ _) | (with_reducible refine Kd.C_drew ?_))); (case side2 => exact (Kd.R_reads' HO_3.out).2.1); rintro e w' ⟨rfl, ⟨nd, rfl⟩⟩; refine ⟨_, rfl, ?_⟩) | ((with_reducible refine gate_builtin (b := .append) (xs := #[.tmp 36, .tmp 38]) rfl ?_); at_builtin; refine Kd.R_append Kd.string (w0 := w) w.heap.size rfl (.tmp 36) (.tmp 38) 22 9 (.string ⟨#[]⟩) 16 rfl Tryd.underlying22 info9 rfl (by decide) (by omega) (.slice (some ad218) x3_2.length co21) x3_2 t219 [.string t219] (fun _ => True) (fun _ => False) rfl rfl ?aP (fun _ hk => hk.elim) ?aF ?aO ?aB ?aS ?aL ?_; (case aP => exact rfl); (case aB => exact (by repeat (first | (with_reducible first | exact HB.out | apply below_alloc | apply pw_below_drewN | apply below_drew1) | exact HB.out))); (case aF => exact (fun _ _ => trivial)); (case aO => exact (by (with_reducible repeat (first | apply Kd.R_alloc | apply Kd.R_drewN | apply Kd.R_drew)); exact HO_3.out)); (case aS => exact (below_size (by repeat (first | (with_reducible first | exact HB.out | apply below_alloc | apply pw_below_drewN | apply below_drew1) | exact HB.out)))); (case aL => have := LMc20.out; omega); intro v222 w23 ho hb hg hat; rw [← Ny221.out] at ho; have n0_ := Aside0.mk (Kd.R_over' (by (with_reducible repeat (first | apply Kd.R_alloc | apply Kd.R_drewN | apply Kd.R_drew)); exact HO_20.out) (Kd.R_typed (by (with_reducible repeat (first | apply Kd.R_alloc | apply Kd.R_drewN | apply Kd.R_drew)); exact HO_3.out)) (by decide) hg); have n1_ := Aside0.mk (hb); have n2_ := Aside0.mk (ho); clear HO_20; clear HB; clear HO_3; have HO_20 := n0_; have HB := n1_; have HO223 := n2_; clear n0_ n1_ n2_; clear ho hb hg hat))
                            go_roundg k2
                            case measure => have := HK1.out; have := HK2.out; omega
                            case rel => exact ⟨(y221), (wrap64 (x22_2 + 1)), (by first | rfl | (simp; done) | (simp [*]; done)), H', ⟨by have := HK1.out; have := HK2.out; omega⟩, ⟨by (with_reducible repeat (first | apply Kd.R_alloc | apply Kd.R_drewN | apply Kd.R_drew)); exact HO223.out⟩, ⟨by (with_reducible repeat (first | apply Kd.R_alloc | apply Kd.R_drewN | apply Kd.R_drew)); exact HO_20.out⟩, ⟨by repeat (first | (with_reducible first | exact HB.out | apply below_alloc | apply pw_below_drewN | apply below_drew1) | exact HB.out)⟩⟩
                          · rw [if_neg c20] at H
                            exact absurd H (by simp)
                      · rw [if_neg c14] at H
                        exact absurd H (by simp)
                    · rw [if_neg c13] at H
                      exact absurd H (by simp)
                  · rw [if_neg c12] at H
                    exact absurd H (by simp)
                · rw [if_neg c11] at H
                  exact absurd H (by simp)
              · rw [if_neg c10] at H
                have c10b0 : decide (x22_2 < (t214.length : Int)) = false := decide_eq_false c10
                clear c10
                have H' := Aside0.mk H
                clear H
                go_wp2
                go_roundg k2
                case measure => have := HK1.out; have := HK2.out; omega
                case rel => exact ⟨(x3_2), (wrap64 (x4_1 + 1)), (by first | rfl | (simp; done) | (simp [*]; done)), H', ⟨by have := HK1.out; have := HK2.out; omega⟩, ⟨by (with_reducible repeat (first | apply Kd.R_alloc | apply Kd.R_drewN | apply Kd.R_drew)); exact HO_3.out⟩, ⟨by repeat (first | (with_reducible first | exact HB.out | apply below_alloc | apply pw_below_drewN | apply below_drew1) | exact HB.out)⟩⟩
        · rw [if_neg c5] at H
          exact absurd H (by simp)
      · rw [if_neg c4] at H
        have c4b0 : decide (x4_1 < (x3_1.length : Int)) = false := decide_eq_false c4
        clear c4
        obtain rfl := Option.some.inj H
        obtain ⟨Ao24, co24, eo24⟩ := Kd.R_slice HO_3.out
        subst eo24
        go_wp2
        go_ret
        exact ⟨_, by first | rfl | (simp [errW_none, errW_some] <;> rfl) | (simp [*, errW_none, errW_some] <;> rfl), by (with_reducible repeat (first | apply Kd.R_alloc | apply Kd.R_drewN | apply Kd.R_drew)); exact HO_3.out, by repeat (first | (with_reducible first | exact HB.out | apply below_alloc | apply pw_below_drewN | apply below_drew1) | exact HB.out)⟩

/-! ### impl_isStuck: function 40 -/
def impl_isStuck.f (k : Nat) (a0 : ByteArray) : Option (Bool) := (impl_hops.f k a0).bind fun t224 => (some ((t224.length : Int) == 0))
theorem impl_isStuck.mono : ∀ a0 k, LeO (impl_isStuck.f k a0) (impl_isStuck.f (k + 1) a0) := by
  intro a0 k
  unfold impl_isStuck.f
  repeat' first
      | (with_reducible exact impl_hops.mono _ _)
      | (with_reducible exact LeO.refl _)
      | (with_reducible exact LeO.none _)
      | (with_reducible refine LeO.ite ?_ ?_)
      | (with_reducible refine LeO.bind ?_ (fun _ => ?_))
      | exact impl_hops.mono _ _
      | exact LeO.none _
      | refine LeO.ite ?_ ?_
      | refine LeO.bind ?_ (fun _ => ?_)
set_option maxHeartbeats 8000000 in
set_option maxRecDepth 100000 in
theorem impl_isStuck.calls (k : Nat) (a0 : ByteArray) (r : Bool) (w : World) (h : impl_isStuck.f k a0 = some r) :
    Calls Tryd.prog 40 #[.string a0] w fun e w' => e = .returned (.bool r) ∧ Below w.heap.size w w' := by
  have HB := Aside0.mk (Below.refl w.heap.size w)
  have H : ((impl_hops.f k a0).bind fun t224 => (some ((t224.length : Int) == 0))) = some r := h
  clear h
  replace H := Option.bind_eq_some_iff.mp H
  obtain ⟨t224, A20, H⟩ := H
  replace H : (some ((t224.length : Int) == 0)) = some r := H
  have A2 := Aside0.mk A20
  clear A20
  obtain rfl := Option.some.inj H
  go_enter Tryd.func40, Tryd.ntmps40
  go_wp2_with (first | ((with_reducible refine gate_callee (f := 62) rfl ?_); refine goesL_ (some 4) rfl rfl Tryd.func62 (by kernel_rfl) rfl #[.string a0] rfl (by (try simp only [List.map_toArray, List.map_cons, List.map_nil]); first | done | rfl | (simp only [List.length_drop, List.length_take]; rfl)) ?_; (with_reducible refine (impl_hops.calls k a0 t224 _ A2.out).mono ?_); rintro e w3 ⟨v225, rfl, ho0, hb⟩; refine ⟨_, rfl, ?_⟩; have n0_ := Aside0.mk (Kd.R_lower ho0 (below_size (by repeat (first | (with_reducible first | exact HB.out | apply below_alloc | apply pw_below_drewN | apply below_drew1) | exact HB.out)))); have n1_ := Aside0.mk (below_step (by repeat (first | (with_reducible first | exact HB.out | apply below_alloc | apply pw_below_drewN | apply below_drew1) | exact HB.out)) hb); clear HB; have HO226 := n0_; have HB := n1_; clear n0_ n1_; (try clear hb); (try clear hb2); (try clear hk); (try clear hi); (try clear ho0); obtain ⟨Ao4, co4, eo4⟩ := Kd.R_slice HO226.out; subst eo4))
  go_ret
  exact ⟨by first | rfl | (simp [errW_none, errW_some] <;> rfl) | (simp [*, errW_none, errW_some] <;> rfl), by repeat (first | (with_reducible first | exact HB.out | apply below_alloc | apply pw_below_drewN | apply below_drew1) | exact HB.out)⟩

/-! ### impl_StuckPonds: function 12 -/
/-- What is asked of each pond. -/
def impl_StuckPonds.At (k : Nat) (p : ByteArray → Bool) (xs : List ByteArray) : Prop := ∀ x ∈ xs, impl_isStuck.f k x = some (p x)
/-- A row's block: its first cells are these texts. -/
def impl_StuckPonds.X (xs : List ByteArray) (j : Nat) : ByteArray := xs.getD j ByteArray.empty
theorem impl_StuckPonds.X_mem {xs : List ByteArray} {j : Nat} (h : j < xs.length) : impl_StuckPonds.X xs j ∈ xs := by
  unfold impl_StuckPonds.X
  rw [List.getD_eq_getElem?_getD, List.getElem?_eq_getElem h]
  exact List.getElem_mem h
theorem impl_StuckPonds.X_take {xs : List ByteArray} {j : Nat} (h : j < xs.length) : xs.take (j + 1) = xs.take j ++ [impl_StuckPonds.X xs j] := by
  rw [List.take_add_one, List.getElem?_eq_getElem h]
  simp [impl_StuckPonds.X, List.getD_eq_getElem?_getD, List.getElem?_eq_getElem h]
theorem impl_StuckPonds.del (k : Nat) (x : ByteArray) (b : Bool) (W : World) (h : impl_isStuck.f k x = some b) : Calls Tryd.prog 39 #[.string x] W fun e w' => e = .returned (.bool (!b)) ∧ Below W.heap.size W w' := by
  have H := Aside0.mk h
  clear h
  go_enter Tryd.func39, Tryd.ntmps39
  go_wp2_with (go_at_call 40; (refine (impl_isStuck.calls k x b _ H.out).mono ?_); rintro e w3 ⟨rfl, hb⟩; have HB := Aside0.mk hb; clear hb)
  go_ret
  exact ⟨rfl, HB.out⟩
set_option maxHeartbeats 8000000 in
set_option maxRecDepth 100000 in
theorem impl_StuckPonds.index (k : Nat) (p : ByteArray → Bool) (xs : List ByteArray) (hP : impl_StuckPonds.At k p xs) (hl : xs.length ≤ 1000000) (g cap : Nat) (W : World) (hr : ∀ j, j < xs.length → W.cell? ⟨g, j, none⟩ = some (.string (impl_StuckPonds.X xs j))) :
    Calls Tryd.prog 61 #[.slice (some ⟨g, 0, none⟩) xs.length cap, .func (.func 39) #[] #[]] W fun e w' => ∃ r : Int, e = .returned (.int .i64 r) ∧ Below W.heap.size W w' ∧ ((r = -1 ∧ ∀ j, j < xs.length → p (impl_StuckPonds.X xs j) = true) ∨ ∃ i : Nat, r = (i : Int) ∧ i < xs.length ∧ (∀ j, j < i → p (impl_StuckPonds.X xs j) = true) ∧ p (impl_StuckPonds.X xs i) = false) := by
  have HP := Aside0.mk hP
  have HR := Aside0.mk hr
  clear hP hr
  go_enter Tryd.func61, Tryd.ntmps61
  go_wp2
  go_loopg [8] xs.length (fun kq v8 w' => ∃ j : Nat, v8 = .int .i64 (j : Int) ∧ Aside0 (j + kq = xs.length) ∧ Aside0 (∀ m, m < j → p (impl_StuckPonds.X xs m) = true) ∧ Aside0 (Below W.heap.size W w'))
  case atStart => exact ⟨0, rfl, ⟨by omega⟩, ⟨fun m hm => by omega⟩, ⟨Below.refl _ _⟩⟩
  case round =>
    obtain ⟨j, rfl, HJ, HA, HB⟩ := hrel
    cases gk with
    | zero =>
      have hj := HJ.out
      have hd1 : decide ((j : Int) < (xs.length : Int)) = false := decide_eq_false (by omega)
      go_wp2
      go_ret
      exact ⟨_, rfl, HB.out, .inl ⟨rfl, fun m hm => HA.out m (by omega)⟩⟩
    | succ k1 =>
      have hj := HJ.out
      have hd1 : decide ((j : Int) < (xs.length : Int)) = true := decide_eq_true (by omega)
      have p0 : decide (0 ≤ (j : Int)) = true := decide_eq_true (by omega)
      have hc := HR.out j (by omega)
      replace hc := (HB.out.cell (World.block_lt_of_cell? W _ hc)).trans hc
      have wj : wrap64 ((j : Int) + 1) = (j : Int) + 1 := by unfold wrap64; omega
      have wj' : IntKind.i64.wrap ((j : Int) + 1) = (j : Int) + 1 := (i64_w _).trans wj
      have HX := Aside0.mk (HP.out _ (impl_StuckPonds.X_mem (show j < xs.length by omega)))
      cases hb : p (impl_StuckPonds.X xs j) with
      | true =>
        rw [hb] at HX
        go_wp2_with (go_at_call 39; (refine (impl_StuckPonds.del k _ true _ HX.out).mono ?_); rintro e w3 ⟨rfl, hb3⟩; have HB3 := Aside0.mk (below_step HB.out hb3); clear hb3)
        go_roundg k1
        case measure => omega
        case rel => exact ⟨j + 1, rfl, ⟨by omega⟩, ⟨fun m hm => by rcases Nat.lt_or_ge m j with h | h; exact HA.out m h; rw [show m = j by omega]; exact hb⟩, HB3⟩
      | false =>
        rw [hb] at HX
        go_wp2_with (go_at_call 39; (refine (impl_StuckPonds.del k _ false _ HX.out).mono ?_); rintro e w3 ⟨rfl, hb3⟩; have HB3 := Aside0.mk (below_step HB.out hb3); clear hb3)
        go_ret
        exact ⟨_, rfl, HB3.out, .inr ⟨j, rfl, by omega, HA.out, hb⟩⟩
theorem impl_StuckPonds.idx_all {p : ByteArray → Bool} {xs : List ByteArray} {r : Int} (hall : ∀ j, j < xs.length → p (impl_StuckPonds.X xs j) = true) (h : (r = -1 ∧ ∀ j, j < xs.length → p (impl_StuckPonds.X xs j) = true) ∨ ∃ i : Nat, r = (i : Int) ∧ i < xs.length ∧ (∀ j, j < i → p (impl_StuckPonds.X xs j) = true) ∧ p (impl_StuckPonds.X xs i) = false) : r = -1 := by
  rcases h with h | ⟨i, _, h1, _, h2⟩
  · exact h.1
  · rw [hall i h1] at h2; cases h2
theorem impl_StuckPonds.idx_at {p : ByteArray → Bool} {xs : List ByteArray} {r : Int} {i0 : Nat} (hi : i0 < xs.length) (hb : ∀ j, j < i0 → p (impl_StuckPonds.X xs j) = true) (hf : p (impl_StuckPonds.X xs i0) = false) (h : (r = -1 ∧ ∀ j, j < xs.length → p (impl_StuckPonds.X xs j) = true) ∨ ∃ i : Nat, r = (i : Int) ∧ i < xs.length ∧ (∀ j, j < i → p (impl_StuckPonds.X xs j) = true) ∧ p (impl_StuckPonds.X xs i) = false) : r = (i0 : Int) := by
  rcases h with h | ⟨i, h0, h1, h2, h3⟩
  · rw [h.2 i0 hi] at hf; cases hf
  · rcases Nat.lt_trichotomy i i0 with c | c | c
    · rw [hb i c] at h3; cases h3
    · rw [h0, c]
    · rw [h2 i0 c] at hf; cases hf
theorem impl_StuckPonds.first_del (p : ByteArray → Bool) (xs : List ByteArray) : ∀ (n : Nat), n ≤ xs.length → (∀ j, j < n → p (impl_StuckPonds.X xs j) = true) ∨ ∃ i, i < n ∧ (∀ j, j < i → p (impl_StuckPonds.X xs j) = true) ∧ p (impl_StuckPonds.X xs i) = false
  | 0, _ => .inl (fun j h => by omega)
  | n + 1, h => by
    rcases impl_StuckPonds.first_del p xs n (by omega) with h1 | ⟨i, h1, h2⟩
    · cases hb : p (impl_StuckPonds.X xs n) with
      | true => exact .inl (fun j hj => by rcases Nat.lt_or_ge j n with h | h; exact h1 j h; rw [show j = n by omega]; exact hb)
      | false => exact .inr ⟨n, by omega, h1, hb⟩
    · exact .inr ⟨i, by omega, h2⟩
theorem impl_StuckPonds.filter_all {p : ByteArray → Bool} {xs : List ByteArray} : ∀ (n : Nat), n ≤ xs.length → (∀ j, j < n → p (impl_StuckPonds.X xs j) = true) → (xs.take n).filter p = xs.take n
  | 0, _, _ => by simp
  | n + 1, h, hp => by
    rw [impl_StuckPonds.X_take (by omega), List.filter_append, impl_StuckPonds.filter_all n (by omega) (fun j hj => hp j (by omega))]
    simp [hp n (by omega)]
theorem impl_StuckPonds.gset (w : World) (b i : Nat) (v : Value) : w.grownBy (w.setCell ⟨b, i, none⟩ v) (some b) := ⟨rfl, rfl, rfl, by simp [World.setCell], fun k _ hk => Below.heap_setCell _ _ _ k (fun e => hk (by rw [e]))⟩
/-- The row in the middle of the work: i texts kept of the first j. -/
structure impl_StuckPonds.Dl (W w' : World) (g cap : Nat) (p : ByteArray → Bool) (xs : List ByteArray) (i j : Nat) : Prop where
  ex : ∃ cur : Array Value, w'.heap[g]? = some (.cells cur 9 (0, 0)) ∧ cur.size = cap ∧ cur.toList.take i = ((xs.take j).filter p).map Value.string ∧ ∀ m, j ≤ m → m < xs.length → cur[m]? = some (.string (impl_StuckPonds.X xs m))
  len : i = ((xs.take j).filter p).length
  gr : W.grownBy w' (some g)
theorem impl_StuckPonds.Dl.cell {W w' : World} {g cap : Nat} {p : ByteArray → Bool} {xs : List ByteArray} {i j : Nat} (h : impl_StuckPonds.Dl W w' g cap p xs i j) (hj : j < xs.length) : w'.cell? ⟨g, j, none⟩ = some (.string (impl_StuckPonds.X xs j)) := by
  obtain ⟨cur, h1, _, _, h4⟩ := h.ex
  rw [blk_cell h1]; exact h4 j (Nat.le_refl _) hj
theorem impl_StuckPonds.Dl.slot {W w' : World} {g cap : Nat} {p : ByteArray → Bool} {xs : List ByteArray} {i j : Nat} (h : impl_StuckPonds.Dl W w' g cap p xs i j) (m : Nat) (hm : m < cap) : (∃ v, w'.cell? ⟨g, m, none⟩ = some v) ∧ w'.frozen? ⟨g, m, none⟩ = false := by
  obtain ⟨cur, h1, h2, _⟩ := h.ex
  exact ⟨⟨_, by rw [blk_cell h1, Array.getElem?_eq_getElem (by omega)]⟩, blk_frozen h1 m⟩
theorem impl_StuckPonds.Dl.same {W w' w2 : World} {g cap : Nat} {p : ByteArray → Bool} {xs : List ByteArray} {i j : Nat} (h : impl_StuckPonds.Dl W w' g cap p xs i j) (hb : Below w'.heap.size w' w2) : impl_StuckPonds.Dl W w2 g cap p xs i j := by
  obtain ⟨cur, h1, h2⟩ := h.ex
  exact ⟨⟨cur, (hb.block g (Array.getElem?_eq_some_iff.1 h1).1).trans h1, h2⟩, h.len, h.gr.trans ⟨hb.os, hb.tape, hb.output, hb.size, fun k hk _ => hb.block k hk⟩⟩
theorem impl_StuckPonds.Dl.skip {W w' : World} {g cap : Nat} {p : ByteArray → Bool} {xs : List ByteArray} {i j : Nat} (h : impl_StuckPonds.Dl W w' g cap p xs i j) (hj : j < xs.length) (hp : p (impl_StuckPonds.X xs j) = false) : impl_StuckPonds.Dl W w' g cap p xs i (j + 1) := by
  have e : (xs.take (j + 1)).filter p = (xs.take j).filter p := by rw [impl_StuckPonds.X_take hj, List.filter_append]; simp [hp]
  obtain ⟨cur, h1, h2, h3, h4⟩ := h.ex
  exact ⟨⟨cur, h1, h2, by rw [e]; exact h3, fun m hm => h4 m (by omega)⟩, by rw [e]; exact h.len, h.gr⟩
theorem impl_StuckPonds.Dl.keep {W w' : World} {g cap : Nat} {p : ByteArray → Bool} {xs : List ByteArray} {i j : Nat} (h : impl_StuckPonds.Dl W w' g cap p xs i j) (hij : i < j) (hj : j < xs.length) (hn : xs.length ≤ cap) (hp : p (impl_StuckPonds.X xs j) = true) : impl_StuckPonds.Dl W (w'.setCell ⟨g, i, none⟩ (.string (impl_StuckPonds.X xs j))) g cap p xs (i + 1) (j + 1) := by
  have e : (xs.take (j + 1)).filter p = (xs.take j).filter p ++ [impl_StuckPonds.X xs j] := by rw [impl_StuckPonds.X_take hj, List.filter_append]; simp [hp]
  obtain ⟨cur, h1, h2, h3, h4⟩ := h.ex
  refine ⟨⟨_, blk_set h1 i _, by simp [h2], ?_, fun m hm hm2 => ?_⟩, by rw [e, List.length_append, ← h.len]; rfl, h.gr.trans (impl_StuckPonds.gset w' g i _)⟩
  · rw [e, List.map_append, ← h3, Array.toList_setIfInBounds, List.take_add_one, List.getElem?_set_self (by rw [Array.length_toList]; omega), List.take_set_of_le (Nat.le_refl _)]
    rfl
  · rw [Array.getElem?_setIfInBounds_ne (by omega)]; exact h4 m (by omega) hm2
theorem impl_StuckPonds.Dl.start {W : World} {g cap : Nat} {p : ByteArray → Bool} {xs : List ByteArray} {i : Nat} {cur : Array Value} (hb : W.heap[g]? = some (.cells cur 9 (0, 0))) (hsz : cur.size = cap) (ht : cur.toList.take xs.length = xs.map Value.string) (hat : ∀ m, m < xs.length → cur[m]? = some (.string (impl_StuckPonds.X xs m))) (hi : i < xs.length) (hbef : ∀ j, j < i → p (impl_StuckPonds.X xs j) = true) : impl_StuckPonds.Dl W W g cap p xs i i := by
  have e := impl_StuckPonds.filter_all i (by omega) hbef
  refine ⟨⟨cur, hb, hsz, ?_, fun m _ hm => hat m hm⟩, by rw [e, List.length_take]; omega, World.grownBy.refl W _⟩
  rw [e, List.map_take, ← ht, List.take_take, Nat.min_eq_left (by omega)]
/-- The end: what is left over is cleared. -/
theorem impl_StuckPonds.Dl.clear {W w' : World} {g cap : Nat} {p : ByteArray → Bool} {xs : List ByteArray} {i : Nat} (h : impl_StuckPonds.Dl W w' g cap p xs i xs.length) (hn : xs.length ≤ cap) (hi : i < xs.length) (z : Value) : ∃ cur' : Array Value, (w'.setCells g i (List.replicate (xs.length - i) z)).heap[g]? = some (.cells cur' 9 (0, 0)) ∧ cur'.size = cap ∧ cur'.toList.take (xs.filter p).length = (xs.filter p).map Value.string ∧ W.grownBy (w'.setCells g i (List.replicate (xs.length - i) z)) (some g) := by
  obtain ⟨cur, h1, h2, h3, _⟩ := h.ex
  have hl := h.len
  rw [List.take_length] at h3 hl
  obtain ⟨cur', e1, e2, e3⟩ := setCells_row (List.replicate (xs.length - i) z) i w' cur h1 (by rw [List.length_replicate]; omega)
  obtain ⟨s1, s2, s3, s4⟩ := setCells_same g (List.replicate (xs.length - i) z) i w'
  refine ⟨cur', e1, by rw [e2, h2], ?_, ?_⟩
  · rw [← hl, e3, List.append_assoc, List.take_append_of_le_length (by rw [List.length_take, Array.length_toList]; omega), List.take_take, Nat.min_self, h3]
  · refine h.gr.trans ⟨s1, s2, s3, by rw [s4]; exact Nat.le_refl _, fun k _ hk => setCells_far _ _ k (fun e => hk (by rw [e]))⟩
set_option maxHeartbeats 8000000 in
set_option maxRecDepth 100000 in
theorem impl_StuckPonds.delete (k : Nat) (p : ByteArray → Bool) (xs : List ByteArray) (hP : impl_StuckPonds.At k p xs) (hl : xs.length ≤ 1000000) (g cap : Nat) (cur : Array Value) (W : World) (hb : W.heap[g]? = some (.cells cur 9 (0, 0))) (hsz : cur.size = cap) (hn : xs.length ≤ cap) (ht : cur.toList.take xs.length = xs.map Value.string) :
    Calls Tryd.prog 37 #[.slice (some ⟨g, 0, none⟩) xs.length cap, .func (.func 39) #[] #[]] W fun e w' => ∃ cur' : Array Value, e = .returned (.slice (some ⟨g, 0, none⟩) (xs.filter p).length cap) ∧ w'.heap[g]? = some (.cells cur' 9 (0, 0)) ∧ cur'.size = cap ∧ cur'.toList.take (xs.filter p).length = (xs.filter p).map Value.string ∧ W.grownBy w' (some g) := by
  have hat : ∀ m, m < xs.length → cur[m]? = some (.string (impl_StuckPonds.X xs m)) := fun m hm => by
    have h1 : (cur.toList.take xs.length)[m]? = (xs.map Value.string)[m]? := by rw [ht]
    rw [List.getElem?_take_of_lt hm, Array.getElem?_toList] at h1
    rw [h1]
    simp [impl_StuckPonds.X, List.getD_eq_getElem?_getD, List.getElem?_eq_getElem hm]
  have hr : ∀ j, j < xs.length → W.cell? ⟨g, j, none⟩ = some (.string (impl_StuckPonds.X xs j)) := fun j hj => by rw [blk_cell hb]; exact hat j hj
  have HR := Aside0.mk hr
  have HP := Aside0.mk hP
  have HB := Aside0.mk hb
  have HT := Aside0.mk ht
  have HAT := Aside0.mk hat
  clear hr hP hat ht
  rcases impl_StuckPonds.first_del p xs xs.length (Nat.le_refl _) with hall | ⟨i0, hi0, hbef, hf⟩
  · have HALL := Aside0.mk hall
    have hfl : xs.filter p = xs := by have := impl_StuckPonds.filter_all xs.length (Nat.le_refl _) hall; rwa [List.take_length] at this
    clear hall hb
    rw [hfl]
    go_enter Tryd.func37, Tryd.ntmps37
    go_wp2_with (go_at_call 61; (refine (impl_StuckPonds.index k p xs HP.out hl g cap _ HR.out).mono ?_); rintro e w3 ⟨r, rfl, hb3, hc⟩; obtain rfl := impl_StuckPonds.idx_all HALL.out hc; have HB3 := Aside0.mk hb3; clear hb3 hc)
    go_ret
    exact ⟨cur, rfl, (HB3.out.block g (Array.getElem?_eq_some_iff.1 HB.out).1).trans HB.out, hsz, HT.out, ⟨HB3.out.os, HB3.out.tape, HB3.out.output, HB3.out.size, fun k hk _ => HB3.out.block k hk⟩⟩
  · have HI := Aside0.mk hi0
    have HBEF := Aside0.mk hbef
    have HFF := Aside0.mk hf
    have wi : wrap64 ((i0 : Int) + 1) = (i0 : Int) + 1 := by unfold wrap64; omega
    have wi' : IntKind.i64.wrap ((i0 : Int) + 1) = (i0 : Int) + 1 := (i64_w _).trans wi
    have e1 : ((i0 : Int) == -1) = false := by simp
    clear hbef hf hb
    go_enter Tryd.func37, Tryd.ntmps37
    go_wp2_with (go_at_call 61; (refine (impl_StuckPonds.index k p xs HP.out hl g cap _ HR.out).mono ?_); rintro e w3 ⟨r, rfl, hb3, hc⟩; obtain rfl := impl_StuckPonds.idx_at HI.out HBEF.out HFF.out hc; have HB3 := Aside0.mk hb3; clear hb3 hc)
    have HD := Aside0.mk (((impl_StuckPonds.Dl.start HB.out hsz HT.out HAT.out hi0 HBEF.out).skip hi0 HFF.out).same HB3.out)
    go_loopg [5, 6] (xs.length - (i0 + 1)) (fun kq v5 v6 w' => ∃ i j : Nat, v5 = .int .i64 (i : Int) ∧ v6 = .int .i64 (j : Int) ∧ Aside0 (j + kq = xs.length) ∧ Aside0 (i < j) ∧ Aside0 (impl_StuckPonds.Dl W w' g cap p xs i j))
    case atStart => exact ⟨i0, i0 + 1, rfl, rfl, ⟨by omega⟩, ⟨by omega⟩, HD⟩
    case round =>
      obtain ⟨i, j, rfl, rfl, HJ, HIJ, HDi⟩ := hrel
      have hij := HIJ.out
      have hjk := HJ.out
      cases gk with
      | zero =>
        have hjn : j = xs.length := by omega
        subst hjn
        have hd1 : decide ((xs.length : Int) < (xs.length : Int)) = false := decide_eq_false (by omega)
        have hcl : ∀ ty, (Builtin.clear_ #[22] ty #[.slice (some ⟨g, i, none⟩) (xs.length - i) (cap - i)]).run Tryd.prog wr = .ok (.tuple #[]) (wr.setCells g i (List.replicate (xs.length - i) (.string ByteArray.empty))) := fun ty => Lib.run_clear_slice wr _ _ ty _ Tryd.underlying22 Tryd.zeroValue9 rfl rfl g i _ _ (by omega) (fun m hm => by obtain ⟨⟨v, hv⟩, _⟩ := HDi.out.slot (i + m) (by omega); rw [hv]; rfl) (fun m hm => (HDi.out.slot (i + m) (by omega)).2)
        go_wp2
        go_ret
        obtain ⟨cur', c1, c2, c3, c4⟩ := HDi.out.clear hn hij (.string ByteArray.empty)
        have hfin : (xs.filter p).length = i := by have := HDi.out.len; rw [List.take_length] at this; exact this.symm
        exact ⟨cur', by rw [hfin]; rfl, c1, c2, c3, c4⟩
      | succ k1 =>
        have hj : j < xs.length := by omega
        have hc := HDi.out.cell hj
        have HX := Aside0.mk (HP.out _ (impl_StuckPonds.X_mem hj))
        have hA := Aside0.mk (show j + 1 + k1 = xs.length by omega)
        have hB := Aside0.mk (show i + 1 < j + 1 by omega)
        have hC := Aside0.mk (show i < j + 1 by omega)
        obtain ⟨ii, hii⟩ : ∃ ii : Int, (i : Int) = ii := ⟨_, rfl⟩
        obtain ⟨jj, hjj⟩ : ∃ jj : Int, (j : Int) = jj := ⟨_, rfl⟩
        have hiN : ii.toNat = i := by omega
        have hjN : jj.toNat = j := by omega
        have hic : ii.toNat < cap := by omega
        have hI1 := Aside0.mk (show ii + 1 = ((i + 1 : Nat) : Int) by omega)
        have hJ1 := Aside0.mk (show jj + 1 = ((j + 1 : Nat) : Int) by omega)
        have HIJ2 := Aside0.mk (show i < j from hij)
        have HJ2 := Aside0.mk hj
        have hd1 : decide (jj < (xs.length : Int)) = true := decide_eq_true (by omega)
        have p0 : decide (0 ≤ jj) = true := decide_eq_true (by omega)
        have p1 : decide (0 ≤ ii) = true := decide_eq_true (by omega)
        have p2 : decide (ii < (xs.length : Int)) = true := decide_eq_true (by omega)
        have b1 := eq_true (show 0 ≤ jj by omega)
        have b2 := eq_true (show jj < (xs.length : Int) by omega)
        have b3 := eq_true (show 0 ≤ ii by omega)
        have b4 := eq_true (show ii < (xs.length : Int) by omega)
        have w2 : wrap64 (ii + 1) = ii + 1 := by unfold wrap64; omega
        have wj : wrap64 (jj + 1) = jj + 1 := by unfold wrap64; omega
        have hc2 : wr.cell? ⟨g, jj.toNat, none⟩ = some (.string (impl_StuckPonds.X xs j)) := by rw [hjN]; exact hc
        clear hc
        rw [hii, hjj]
        have HN := Aside0.mk hiN
        have HIC := Aside0.mk hic
        have HII := Aside0.mk hii
        clear hiN hjN hic hii hjj hij hjk hj
        have wj' : IntKind.i64.wrap (jj + 1) = jj + 1 := (i64_w _).trans wj
        have w2' : IntKind.i64.wrap (ii + 1) = ii + 1 := (i64_w _).trans w2
        cases hb : p (impl_StuckPonds.X xs j) with
        | true =>
          rw [hb] at HX
          go_wp2_with (go_at_call 39; (refine (impl_StuckPonds.del k _ true _ HX.out).mono ?_); rintro e w4 ⟨rfl, hb4⟩; have HD4 := Aside0.mk (HDi.out.same hb4); obtain ⟨⟨v4, s1⟩, s2⟩ := HD4.out.slot ii.toNat HIC.out; clear hb4)
          go_roundg k1
          case measure => exact Nat.lt_succ_self _
          case rel =>
            refine ⟨i + 1, j + 1, by rw [← hI1.out], by rw [← hJ1.out], hA, hB, ?_⟩
            rw [HN.out]
            exact ⟨HD4.out.keep HIJ2.out HJ2.out hn hb⟩
        | false =>
          rw [hb] at HX
          go_wp2_with (go_at_call 39; (refine (impl_StuckPonds.del k _ false _ HX.out).mono ?_); rintro e w4 ⟨rfl, hb4⟩; have HD4 := Aside0.mk (HDi.out.same hb4); clear hb4)
          go_roundg k1
          case measure => exact Nat.lt_succ_self _
          case rel => exact ⟨i, j + 1, by rw [HII.out], by rw [← hJ1.out], hA, hC, ⟨HD4.out.skip HJ2.out hb⟩⟩
/-- Those of a list that are stuck. -/
def impl_StuckPonds.flt (k : Nat) : List ByteArray → Option (List ByteArray)
  | [] => some []
  | x :: xs => (impl_isStuck.f k x).bind fun b => (impl_StuckPonds.flt k xs).bind fun r => some (if b = true then x :: r else r)
/-- Texts in order. -/
def impl_StuckPonds.srt (l : List ByteArray) : List ByteArray := ((l.map (fun s => s.data.toList)).mergeSort (fun x y => decide (x ≤ y))).map (fun b => ⟨b.toArray⟩)
theorem impl_StuckPonds.srt_length (l : List ByteArray) : (impl_StuckPonds.srt l).length = l.length := by simp [impl_StuckPonds.srt, List.length_mergeSort]
theorem impl_StuckPonds.flt_mono (k : Nat) : ∀ xs, LeO (impl_StuckPonds.flt k xs) (impl_StuckPonds.flt (k + 1) xs)
  | [] => LeO.refl _
  | x :: xs => LeO.bind (impl_isStuck.mono x k) (fun _ => LeO.bind (impl_StuckPonds.flt_mono k xs) (fun _ => LeO.refl _))
theorem impl_StuckPonds.flt_of {k : Nat} : ∀ {xs ys : List ByteArray}, impl_StuckPonds.flt k xs = some ys → impl_StuckPonds.At k (fun x => (impl_isStuck.f k x).getD false) xs ∧ ys = xs.filter (fun x => (impl_isStuck.f k x).getD false)
  | [], ys, h => by simp only [impl_StuckPonds.flt, Option.some.injEq] at h; subst h; exact ⟨fun x hx => by simp at hx, rfl⟩
  | x :: xs, ys, h => by
    simp only [impl_StuckPonds.flt] at h
    obtain ⟨b, hb, h⟩ := Option.bind_eq_some_iff.mp h
    obtain ⟨r, hr, h⟩ := Option.bind_eq_some_iff.mp h
    obtain ⟨h1, h2⟩ := impl_StuckPonds.flt_of hr
    simp only [Option.some.injEq] at h
    refine ⟨fun z hz => ?_, ?_⟩
    · rcases List.mem_cons.1 hz with rfl | hz
      · show impl_isStuck.f k z = some ((impl_isStuck.f k z).getD false); rw [hb]; rfl
      · exact h1 z hz
    · rw [List.filter_cons]
      simp only [hb, Option.getD_some]
      rw [← h, h2]
def impl_StuckPonds.f (k : Nat) (a0 : ByteArray) : Option (List ByteArray × Bool) := (impl_IsPond.f a0).bind fun t => if t = true then (impl_reached.f k a0).bind fun xs => if 0 < xs.length ∧ xs.length ≤ 1000000 then (impl_StuckPonds.flt k xs).bind fun ys => some (impl_StuckPonds.srt ys, true) else none else some ([], false)
theorem impl_StuckPonds.mono : ∀ a0 k, LeO (impl_StuckPonds.f k a0) (impl_StuckPonds.f (k + 1) a0) := fun a0 k =>
  LeO.bind (LeO.refl _) (fun _ => LeO.ite (LeO.bind (impl_reached.mono a0 k) (fun xs => LeO.ite (LeO.bind (impl_StuckPonds.flt_mono k xs) (fun _ => LeO.refl _)) (LeO.refl _))) (LeO.refl _))
theorem impl_StuckPonds.enc (s : ByteArray) : encStr s.data.toList = Value.string s := by cases s; simp [encStr]
theorem impl_StuckPonds.sort (ys : List ByteArray) (g cap base : Nat) (cur : Array Value) (W : World) (hb : W.heap[g]? = some (.cells cur 9 (0, 0))) (hsz : cur.size = cap) (hn : ys.length ≤ cap) (hcm : cap ≤ maxLen) (hl : ys.length ≤ 1000000) (ht : cur.toList.take ys.length = ys.map Value.string) (hbase : base ≤ g) :
    Calls Tryd.prog 41 #[.slice (some ⟨g, 0, none⟩) ys.length cap] W fun e w' => e = .returned (.tuple #[]) ∧ w'.ownsRow base 9 1 (.slice (some ⟨g, 0, none⟩) ys.length cap) (impl_StuckPonds.srt ys).length ((impl_StuckPonds.srt ys).map Value.string) ∧ W.grownBy w' (some g) := by
  have hm : (ys.map (fun s => s.data.toList)).map encStr = ys.map Value.string := by
    rw [List.map_map]
    exact List.map_congr_left (fun s _ => impl_StuckPonds.enc s)
  have hlen : (ys.map (fun s => s.data.toList)).length = ys.length := List.length_map _
  have h := Any.slices_Sort_string Tryd.laysSort g 0 cap (ys.map (fun s => s.data.toList)) W (holds_of_block hb (by rw [hlen, hm]; exact ht)) (Array.getElem?_eq_some_iff.1 hb).1 (by rw [hlen]; omega)
  rw [hlen] at h
  refine h.mono ?_
  rintro e w' ⟨rfl, n, os, rfl⟩
  refine ⟨rfl, ?_, grownBy_sorted _⟩
  have ho := ownsRow_sorted (n := n) (os := os) (cap := cap) (ss := ys.map (fun s => s.data.toList)) (ts := (ys.map (fun s => s.data.toList)).mergeSort (fun x y => decide (x ≤ y))) (by rw [List.length_mergeSort]) hbase hb (by rw [hlen]; exact hn) hcm (by rw [Nat.mul_one]; exact hsz)
  rw [hlen] at ho
  rw [impl_StuckPonds.srt_length]
  have e : (impl_StuckPonds.srt ys).map Value.string = ((ys.map (fun s => s.data.toList)).mergeSort (fun x y => decide (x ≤ y))).map encStr := by
    unfold impl_StuckPonds.srt; rw [List.map_map]; rfl
  rw [e]
  exact ho
theorem impl_StuckPonds.form {W : World} {b0 : Nat} {v : Value} {xs : List ByteArray} (h : W.ownsRow b0 9 1 v xs.length (xs.map Value.string)) (hpos : 0 < xs.length) : ∃ g cap cur, v = .slice (some ⟨g, 0, none⟩) xs.length cap ∧ b0 ≤ g ∧ W.heap[g]? = some (.cells cur 9 (0, 0)) ∧ xs.length ≤ cap ∧ cap ≤ maxLen ∧ cur.size = cap ∧ cur.toList.take xs.length = xs.map Value.string := by
  rcases h.2 with ⟨_, h2⟩ | ⟨g, c, cur, h1, h2, h3, h4, h5, h6, h7⟩
  · omega
  · exact ⟨g, c, cur, h1, h2, h3, h4, h5, by rw [h6, Nat.mul_one], by rw [Nat.mul_one] at h7; exact h7⟩
set_option maxHeartbeats 8000000 in
set_option maxRecDepth 100000 in
theorem impl_StuckPonds.calls (k : Nat) (a0 : ByteArray) (r1 : List ByteArray) (r2 : Bool) (w : World) (h : impl_StuckPonds.f k a0 = some (r1, r2)) :
    Calls Tryd.prog 12 #[.string a0] w fun e w' => ∃ v0_ : Value, e = .returned (.tuple #[v0_, .bool r2]) ∧ Kd.R Kd.string 9 w' w.heap.size (fun _ => True) v0_ r1 ∧ Below w.heap.size w w' := by
  obtain ⟨t, ht, h⟩ := Option.bind_eq_some_iff.mp h
  have HT := Aside0.mk ht
  clear ht
  cases t with
  | false =>
    simp only [Bool.false_eq_true, if_false, Option.some.injEq, Prod.mk.injEq] at h
    obtain ⟨rfl, rfl⟩ := h
    go_enter Tryd.func12, Tryd.ntmps12
    go_wp2_with (go_at_call 36; (refine (impl_IsPond.calls a0 false _ HT.out).mono ?_); rintro e w3 ⟨rfl, hb⟩; have HB := Aside0.mk hb; clear hb)
    go_ret2
    exact ⟨_, rfl, Kd.R_nil _ _ _ _ _, HB.out⟩
  | true =>
    simp only [if_true] at h
    obtain ⟨xs, hx, h⟩ := Option.bind_eq_some_iff.mp h
    by_cases hn : 0 < xs.length ∧ xs.length ≤ 1000000
    case neg => rw [if_neg hn] at h; cases h
    rw [if_pos hn] at h
    obtain ⟨ys, hy, h⟩ := Option.bind_eq_some_iff.mp h
    simp only [Option.some.injEq, Prod.mk.injEq] at h
    obtain ⟨h1, rfl⟩ := h
    obtain ⟨hP, rfl⟩ := impl_StuckPonds.flt_of hy
    obtain ⟨p, hp⟩ : ∃ p : ByteArray → Bool, (fun x => (impl_isStuck.f k x).getD false) = p := ⟨_, rfl⟩
    rw [hp] at hP h1
    have hfl : (xs.filter p).length ≤ xs.length := List.length_filter_le _ _
    have HX := Aside0.mk hx
    have HN := Aside0.mk hn
    have HP := Aside0.mk hP
    have HE := Aside0.mk h1
    have HFL := Aside0.mk hfl
    clear hx hn hP h1 hp hy hfl
    go_enter Tryd.func12, Tryd.ntmps12
    go_wp2_with (first | (go_at_call 36; (refine (impl_IsPond.calls a0 true _ HT.out).mono ?_); rintro e w3 ⟨rfl, hb⟩; have HB := Aside0.mk hb; clear hb) | (go_at_call 38; (refine (impl_reached.calls k a0 xs _ HX.out).mono ?_); rintro e w4 ⟨v4, rfl, hR, hb⟩; obtain ⟨g, cap, cur, e1, f1, f2, f3, f4, f5, f6⟩ := impl_StuckPonds.form (Kd.own_of_R hR) HN.out.1; subst e1; have HB4 := Aside0.mk (below_step HB.out hb); have F1 := Aside0.mk (Nat.le_trans HB.out.size f1); have F2 := Aside0.mk f2; have F3 := Aside0.mk f3; have F4 := Aside0.mk f4; have F5 := Aside0.mk f5; have F6 := Aside0.mk f6; clear hR hb f1 f2 f3 f4 f5 f6) | (go_at_call 37; (refine (impl_StuckPonds.delete k p xs HP.out HN.out.2 g cap cur _ F2.out F5.out F3.out F6.out).mono ?_); rintro e w5 ⟨cur', rfl, g1, g2, g3, g4⟩; have G1 := Aside0.mk g1; have G2 := Aside0.mk g2; have G3 := Aside0.mk g3; have G4 := Aside0.mk g4; clear g1 g2 g3 g4) | (go_at_call 41; (refine (impl_StuckPonds.sort (xs.filter p) g cap w.heap.size cur' _ G1.out G2.out (Nat.le_trans HFL.out F3.out) F4.out (Nat.le_trans HFL.out HN.out.2) G3.out F1.out).mono ?_); rintro e w6 ⟨rfl, ho, hg⟩; have HO6 := Aside0.mk ho; have HG6 := Aside0.mk (G4.out.trans hg); clear ho hg))
    go_ret2
    refine ⟨_, rfl, ?_, HB4.out.grown HG6.out HB4.out.size (fun k hk => by cases hk; exact F1.out)⟩
    rw [← HE.out]
    exact Kd.R_of_own HO6.out (fun _ _ => trivial)

/-! ### laws_eqStringS: function 13 -/
def laws_eqStringS.l0 : Nat → List ByteArray → List ByteArray → Int → Option (Bool)
  | 0, _, _, _ => none
  | k + 1, x0, x1, x5 => if x5 < (x0.length : Int) then (if 0 ≤ x5 then (if x5 < (x1.length : Int) then (if (rdOf ByteArray.empty x0 x5).toList = (rdOf ByteArray.empty x1 x5).toList then (laws_eqStringS.l0 k x0 x1 (wrap64 (x5 + 1))) else (some false)) else (none)) else (none)) else (some true)
def laws_eqStringS.f (k : Nat) (l0 : List ByteArray) (l1 : List ByteArray) : Option (Bool) := if (l0.length : Int) = (l1.length : Int) then (laws_eqStringS.l0 k l0 l1 0) else (some false)
theorem laws_eqStringS.mono_l : ∀ k, (∀ y0 y1 y2, LeO (laws_eqStringS.l0 k y0 y1 y2) (laws_eqStringS.l0 (k + 1) y0 y1 y2))
  | 0 => fun _ _ _ r h => by simp [laws_eqStringS.l0] at h
  | k + 1 => by
    have ih0 := laws_eqStringS.mono_l k
    · intro y0 y1 y2
      unfold laws_eqStringS.l0
      repeat' first
      | (with_reducible exact ih0 _ _ _)
      | (with_reducible exact LeO.refl _)
      | (with_reducible exact LeO.none _)
      | (with_reducible refine LeO.ite ?_ ?_)
      | (with_reducible refine LeO.bind ?_ (fun _ => ?_))
      | exact ih0 _ _ _
      | exact LeO.none _
      | refine LeO.ite ?_ ?_
      | refine LeO.bind ?_ (fun _ => ?_)
theorem laws_eqStringS.mono : ∀ a0 a1 k, LeO (laws_eqStringS.f k a0 a1) (laws_eqStringS.f (k + 1) a0 a1) := by
  intro a0 a1 k
  have ih0 := laws_eqStringS.mono_l k
  unfold laws_eqStringS.f
  repeat' first
      | (with_reducible exact ih0 _ _ _)
      | (with_reducible exact LeO.refl _)
      | (with_reducible exact LeO.none _)
      | (with_reducible refine LeO.ite ?_ ?_)
      | (with_reducible refine LeO.bind ?_ (fun _ => ?_))
      | exact ih0 _ _ _
      | exact LeO.none _
      | refine LeO.ite ?_ ?_
      | refine LeO.bind ?_ (fun _ => ?_)
set_option maxHeartbeats 8000000 in
set_option maxRecDepth 100000 in
theorem laws_eqStringS.calls (k : Nat) (A0 : Option Addr) (c0 : Nat) (l0 : List ByteArray) (A1 : Option Addr) (c1 : Nat) (l1 : List ByteArray) (r : Bool) (w : World) (hr0 : Kd.C Kd.string w A0 l0.length l0) (hc0 : l0.length ≤ c0) (hr1 : Kd.C Kd.string w A1 l1.length l1) (hc1 : l1.length ≤ c1) (h : laws_eqStringS.f k l0 l1 = some r) :
    Calls Tryd.prog 13 #[.slice A0 l0.length c0, .slice A1 l1.length c1] w fun e w' => e = .returned (.bool r) ∧ Drawn0 w w' := by
  have HR0 := Aside0.mk hr0
  have HC0 := Aside0.mk hc0
  clear hr0 hc0
  have HR1 := Aside0.mk hr1
  have HC1 := Aside0.mk hc1
  clear hr1 hc1
  have H : (if (l0.length : Int) = (l1.length : Int) then (laws_eqStringS.l0 k l0 l1 0) else (some false)) = some r := h
  clear h
  by_cases c3 : (l0.length : Int) = (l1.length : Int)
  · rw [if_pos c3] at H
    have c3b0 : ((l0.length : Int) == (l1.length : Int)) = true := beq_iff_eq.mpr c3
    have c3b1 : ((l0.length : Int) != (l1.length : Int)) = false := bne_eq_false_iff_eq.mpr c3
    have c3b2 : (l0.length == l1.length) = true := by first | simpa using c3 | (simp at c3 ⊢; omega)
    clear c3
    have H' := Aside0.mk H
    clear H
    go_enter Tryd.func13, Tryd.ntmps13
    go_wp2
    repeat (go_quiet (fail); try go_wp2)
    go_loopg [5] k (fun kq v5 w' => ∃ (x5_1 : Int), v5 = .int .i64 x5_1 ∧ Aside0 (laws_eqStringS.l0 kq l0 l1 x5_1 = some r) ∧ Aside0 (kq ≤ k) ∧ Drawn0 w w')
    case atStart => exact ⟨(0), (by first | rfl | (simp; done) | (simp [*]; done)), H', ⟨Nat.le_refl _⟩, by repeat (first | exact Drawn0.refl _ | apply Drawn0.step)⟩
    case round =>
      clear H'
      try clear c1
      try clear p2
      try clear c3
      try clear c3b0
      try clear c3b1
      try clear c3b2
      obtain ⟨x5_1, rfl, HA, HK1, ⟨m1, rfl⟩⟩ := hrel
      cases gk with
      | zero => exact absurd HA.out (by simp [laws_eqStringS.l0])
      | succ k1 =>
        have H := HA.out
        clear HA
        simp only [laws_eqStringS.l0] at H
        by_cases c4 : x5_1 < (l0.length : Int)
        · rw [if_pos c4] at H
          have c4b0 : decide (x5_1 < (l0.length : Int)) = true := decide_eq_true c4
          clear c4
          by_cases c5 : 0 ≤ x5_1
          · rw [if_pos c5] at H
            have c5b0 : decide (0 ≤ x5_1) = true := decide_eq_true c5
            clear c5
            by_cases c6 : x5_1 < (l1.length : Int)
            · rw [if_pos c6] at H
              have c6b0 : decide (x5_1 < (l1.length : Int)) = true := decide_eq_true c6
              clear c6
              by_cases c7 : (rdOf ByteArray.empty l0 x5_1).toList = (rdOf ByteArray.empty l1 x5_1).toList
              · rw [if_pos c7] at H
                have c7b0 : ((rdOf ByteArray.empty l0 x5_1).toList == (rdOf ByteArray.empty l1 x5_1).toList) = true := beq_iff_eq.mpr c7
                have c7b1 : ((rdOf ByteArray.empty l0 x5_1).toList != (rdOf ByteArray.empty l1 x5_1).toList) = false := bne_eq_false_iff_eq.mpr c7
                clear c7
                have H' := Aside0.mk H
                clear H
                have p227 : 0 ≤ (x5_1 : Int) := of_decide_eq_true (by first | (with_reducible assumption) | assumption)
                have q227 : x5_1 < (l0.length : Int) := of_decide_eq_true (by first | (with_reducible assumption) | assumption)
                obtain ⟨ad227, e227, hx227_0⟩ := Kd.at_string HR0.out x5_1 p227 q227
                cases e227
                replace p227 := eq_true p227
                replace q227 := eq_true q227
                have p228 : 0 ≤ (x5_1 : Int) := of_decide_eq_true (by first | (with_reducible assumption) | assumption)
                have q228 : x5_1 < (l1.length : Int) := of_decide_eq_true (by first | (with_reducible assumption) | assumption)
                obtain ⟨ad228, e228, hx228_0⟩ := Kd.at_string HR1.out x5_1 p228 q228
                cases e228
                replace p228 := eq_true p228
                replace q228 := eq_true q228
                go_wp2
                repeat (go_quiet (fail); try go_wp2)
                go_roundg k1
                case measure => have := HK1.out; omega
                case rel => exact ⟨(wrap64 (x5_1 + 1)), (by first | rfl | (simp; done) | (simp [*]; done)), H', ⟨by have := HK1.out; omega⟩, by repeat (first | exact Drawn0.refl _ | apply Drawn0.step)⟩
              · rw [if_neg c7] at H
                have c7b0 : ((rdOf ByteArray.empty l0 x5_1).toList == (rdOf ByteArray.empty l1 x5_1).toList) = false := beq_eq_false_iff_ne.mpr c7
                have c7b1 : ((rdOf ByteArray.empty l0 x5_1).toList != (rdOf ByteArray.empty l1 x5_1).toList) = true := bne_iff_ne.mpr c7
                obtain rfl := Option.some.inj H
                have p227 : 0 ≤ (x5_1 : Int) := of_decide_eq_true (by first | (with_reducible assumption) | assumption)
                have q227 : x5_1 < (l0.length : Int) := of_decide_eq_true (by first | (with_reducible assumption) | assumption)
                obtain ⟨ad227, e227, hx227_0⟩ := Kd.at_string HR0.out x5_1 p227 q227
                cases e227
                replace p227 := eq_true p227
                replace q227 := eq_true q227
                have p228 : 0 ≤ (x5_1 : Int) := of_decide_eq_true (by first | (with_reducible assumption) | assumption)
                have q228 : x5_1 < (l1.length : Int) := of_decide_eq_true (by first | (with_reducible assumption) | assumption)
                obtain ⟨ad228, e228, hx228_0⟩ := Kd.at_string HR1.out x5_1 p228 q228
                cases e228
                replace p228 := eq_true p228
                replace q228 := eq_true q228
                go_wp2
                repeat (go_quiet (fail); try go_wp2)
                go_ret
                exact ⟨by first | rfl | (simp; done) | (simp [*]; done), by repeat (first | exact Drawn0.refl _ | apply Drawn0.step)⟩
            · rw [if_neg c6] at H
              exact absurd H (by simp)
          · rw [if_neg c5] at H
            exact absurd H (by simp)
        · rw [if_neg c4] at H
          have c4b0 : decide (x5_1 < (l0.length : Int)) = false := decide_eq_false c4
          clear c4
          obtain rfl := Option.some.inj H
          go_wp2
          repeat (go_quiet (fail); try go_wp2)
          go_ret
          exact ⟨by first | rfl | (simp; done) | (simp [*]; done), by repeat (first | exact Drawn0.refl _ | apply Drawn0.step)⟩
  · rw [if_neg c3] at H
    have c3b0 : ((l0.length : Int) == (l1.length : Int)) = false := beq_eq_false_iff_ne.mpr c3
    have c3b1 : ((l0.length : Int) != (l1.length : Int)) = true := bne_iff_ne.mpr c3
    have c3b2 : (l0.length == l1.length) = false := by first | simpa using c3 | (simp at c3 ⊢; omega)
    obtain rfl := Option.some.inj H
    go_enter Tryd.func13, Tryd.ntmps13
    go_wp2
    repeat (go_quiet (fail); try go_wp2)
    go_ret
    exact ⟨by first | rfl | (simp; done) | (simp [*]; done), by repeat (first | exact Drawn0.refl _ | apply Drawn0.step)⟩

/-! ### laws_markText: function 42 -/
def laws_markText.l0 : Nat → Int → ByteArray → Option (ByteArray)
  | 0, _, _ => none
  | k + 1, x0, x3 => if x0 > 0 then ((some (([(wrap64 (48 + (Int.tmod x0 10))) % 256] : List Int) : List Int)).bind fun y229 => (if (strOfNums y229).size + x3.size ≤ 9223372036854775807 then (laws_markText.l0 k (wrap64 (Int.tdiv x0 10)) ((strOfNums y229) ++ x3)) else (none))) else (if 1 + x3.size ≤ 9223372036854775807 then (some ((⟨#[109]⟩ : ByteArray) ++ x3)) else (none))
def laws_markText.f (k : Nat) (a0 : Int) : Option (ByteArray) := if a0 ≤ 0 then (some (⟨#[109, 48]⟩ : ByteArray)) else (laws_markText.l0 k a0 (⟨#[]⟩ : ByteArray))
theorem laws_markText.mono_l : ∀ k, (∀ y0 y1, LeO (laws_markText.l0 k y0 y1) (laws_markText.l0 (k + 1) y0 y1))
  | 0 => fun _ _ r h => by simp [laws_markText.l0] at h
  | k + 1 => by
    have ih0 := laws_markText.mono_l k
    · intro y0 y1
      unfold laws_markText.l0
      repeat' first
      | (with_reducible exact ih0 _ _)
      | (with_reducible exact LeO.refl _)
      | (with_reducible exact LeO.none _)
      | (with_reducible refine LeO.ite ?_ ?_)
      | (with_reducible refine LeO.bind ?_ (fun _ => ?_))
      | exact ih0 _ _
      | exact LeO.none _
      | refine LeO.ite ?_ ?_
      | refine LeO.bind ?_ (fun _ => ?_)
theorem laws_markText.mono : ∀ a0 k, LeO (laws_markText.f k a0) (laws_markText.f (k + 1) a0) := by
  intro a0 k
  have ih0 := laws_markText.mono_l k
  unfold laws_markText.f
  repeat' first
      | (with_reducible exact ih0 _ _)
      | (with_reducible exact LeO.refl _)
      | (with_reducible exact LeO.none _)
      | (with_reducible refine LeO.ite ?_ ?_)
      | (with_reducible refine LeO.bind ?_ (fun _ => ?_))
      | exact ih0 _ _
      | exact LeO.none _
      | refine LeO.ite ?_ ?_
      | refine LeO.bind ?_ (fun _ => ?_)
set_option maxHeartbeats 8000000 in
set_option maxRecDepth 100000 in
theorem laws_markText.calls (k : Nat) (a0 : Int) (r : ByteArray) (w : World) (h : laws_markText.f k a0 = some r) :
    Calls Tryd.prog 42 #[.int .i64 a0] w fun e w' => e = .returned (.string r) ∧ Below w.heap.size w w' := by
  have HB := Aside0.mk (Below.refl w.heap.size w)
  have H : (if a0 ≤ 0 then (some (⟨#[109, 48]⟩ : ByteArray)) else (laws_markText.l0 k a0 (⟨#[]⟩ : ByteArray))) = some r := h
  clear h
  by_cases c2 : a0 ≤ 0
  · rw [if_pos c2] at H
    have c2b0 : decide (a0 ≤ 0) = true := decide_eq_true c2
    clear c2
    obtain rfl := Option.some.inj H
    go_enter Tryd.func42, Tryd.ntmps42
    go_wp2
    go_ret
    exact ⟨by first | rfl | (simp [errW_none, errW_some] <;> rfl) | (simp [*, errW_none, errW_some] <;> rfl), by repeat (first | (with_reducible first | exact HB.out | apply below_alloc | apply pw_below_drewN | apply below_drew1) | exact HB.out)⟩
  · rw [if_neg c2] at H
    have c2b0 : decide (a0 ≤ 0) = false := decide_eq_false c2
    clear c2
    have H' := Aside0.mk H
    clear H
    go_enter Tryd.func42, Tryd.ntmps42
    go_wp2
    go_loopg [0, 3] k (fun kq v0 v3 w' => ∃ (x0_1 : Int) (x3_1 : ByteArray), v0 = .int .i64 x0_1 ∧ v3 = .string x3_1 ∧ Aside0 (laws_markText.l0 kq x0_1 x3_1 = some r) ∧ Aside0 (kq ≤ k) ∧ Aside0 (Below w.heap.size w w'))
    case atStart => exact ⟨(a0), ((⟨#[]⟩ : ByteArray)), (by first | rfl | (simp; done) | (simp [*]; done)), (by first | rfl | (simp; done) | (simp [*]; done)), H', ⟨Nat.le_refl _⟩, ⟨by repeat (first | (with_reducible first | exact HB.out | apply below_alloc | apply pw_below_drewN | apply below_drew1) | exact HB.out)⟩⟩
    case round =>
      clear H'
      try clear c2
      try clear c2b0
      try clear p2
      obtain ⟨x0_1, x3_1, rfl, rfl, HA, HK1, HB⟩ := hrel
      cases gk with
      | zero => exact absurd HA.out (by simp [laws_markText.l0])
      | succ k1 =>
        have H := HA.out
        clear HA
        simp only [laws_markText.l0] at H
        by_cases c3 : x0_1 > 0
        · rw [if_pos c3] at H
          have c3b0 : decide (0 < x0_1) = true := decide_eq_true c3
          clear c3
          obtain ⟨y229, hy229⟩ : ∃ y_ : List Int, y_ = (([(wrap64 (48 + (Int.tmod x0_1 10))) % 256] : List Int)) := ⟨_, rfl⟩
          replace H : (if (strOfNums y229).size + x3_1.size ≤ 9223372036854775807 then (laws_markText.l0 k1 (wrap64 (Int.tdiv x0_1 10)) ((strOfNums y229) ++ x3_1)) else (none)) = some r := by first | (rw [hy229]; with_reducible exact H) | (have H2_ := (Option.bind_some _ _).symm.trans H; rw [hy229]; with_reducible exact H2_) | (have H2_ := (Option.bind_some _ _).symm.trans H; with_reducible exact H2_) | with_reducible exact H | (rw [hy229]; exact H) | exact H
          have Ny229 := Aside0.mk hy229
          clear hy229
          by_cases c4 : (strOfNums y229).size + x3_1.size ≤ 9223372036854775807
          · rw [if_pos c4] at H
            have c4b0 := eq_true c4
            have c4b1 : decide ((strOfNums y229).size + x3_1.size ≤ 9223372036854775807) = true := decide_eq_true c4
            try have c4b2 : (9223372036854775807 < (strOfNums y229).size + x3_1.size) = False := eq_false (Nat.not_lt.2 c4)
            have H' := Aside0.mk H
            clear H
            go_wp2_with (first | ((with_reducible refine gate_dst (N := 12) rfl ?_); refine Kd.R_lit (Kd.int .u8) _ 5 ?hg (N := 12) ?hd (xs := ([(wrap64 (48 + (Int.tmod x0_1 10))) % 256] : List Int)) (inner := [.int .u8 ((wrap64 (48 + (Int.tmod x0_1 10))) % 256)]) (ok := fun _ => True) (okp := fun _ => True) ?hr ?hp (fun _ hk => hk) trivial (Below.refl _ _) (Nat.le_refl _) (by simp) ?_; (case hd => rfl); (case hg => rfl); (case hr => first | (go_simp; done) | (go_simp; rfl)); (case hp => exact (Reps.one (show Kd.M (Kd.int .u8) _ _ _ ((wrap64 (48 + (Int.tmod x0_1 10))) % 256) [.int .u8 ((wrap64 (48 + (Int.tmod x0_1 10))) % 256)] from rfl) (Reps.none _ _))); intro v230 w5 ho6 hb hg_ hnew_; clear hg_ hnew_; (first | rw [← Ny229.out] at ho6 | (simp only [Int.reduceToNat] at ho6; rw [← Ny229.out] at ho6)); have n0_ := Aside0.mk (Kd.R_lower ho6 (below_size (by repeat (first | (with_reducible first | exact HB.out | apply below_alloc | apply pw_below_drewN | apply below_drew1) | exact HB.out)))); have n1_ := Aside0.mk (below_step (by repeat (first | (with_reducible first | exact HB.out | apply below_alloc | apply pw_below_drewN | apply below_drew1) | exact HB.out)) hb); clear HB; have HO231 := n0_; have HB := n1_; clear n0_ n1_; clear hb ho6; have hcv7 := own_string (P := Tryd.prog) Tryd.underlying70 Tryd.underlying5 Tryd.underlying9 (Kd.own_of_R HO231.out)))
            go_roundg k1
            case measure => have := HK1.out; omega
            case rel => exact ⟨(wrap64 (Int.tdiv x0_1 10)), ((strOfNums y229) ++ x3_1), (by first | rfl | (simp; done) | (simp [*]; done)), (by first | rfl | (simp; done) | (simp [*]; done)), H', ⟨by have := HK1.out; omega⟩, ⟨by repeat (first | (with_reducible first | exact HB.out | apply below_alloc | apply pw_below_drewN | apply below_drew1) | exact HB.out)⟩⟩
          · rw [if_neg c4] at H
            exact absurd H (by simp)
        · rw [if_neg c3] at H
          have c3b0 : decide (0 < x0_1) = false := decide_eq_false c3
          clear c3
          by_cases c8 : 1 + x3_1.size ≤ 9223372036854775807
          · rw [if_pos c8] at H
            have c8b0 := eq_true c8
            have c8b1 : decide (1 + x3_1.size ≤ 9223372036854775807) = true := decide_eq_true c8
            try have c8b2 : (9223372036854775807 < 1 + x3_1.size) = False := eq_false (Nat.not_lt.2 c8)
            obtain rfl := Option.some.inj H
            go_wp2
            go_ret
            exact ⟨by first | rfl | (simp [errW_none, errW_some] <;> rfl) | (simp [*, errW_none, errW_some] <;> rfl), by repeat (first | (with_reducible first | exact HB.out | apply below_alloc | apply pw_below_drewN | apply below_drew1) | exact HB.out)⟩
          · rw [if_neg c8] at H
            exact absurd H (by simp)

end Go.Proofs.YtkikpfeipejnlaaDoor.PFnExactStuckPonds
