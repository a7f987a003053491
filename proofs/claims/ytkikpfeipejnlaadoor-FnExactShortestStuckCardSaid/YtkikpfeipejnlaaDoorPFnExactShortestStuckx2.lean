-- Printed by this session's eprint.py over the kit's print (with this session's own texts for some functions)
import Derived.Test.YtkikpfeipejnlaaDoorPFnExactShortestStuckx0
import Derived.Test.YtkikpfeipejnlaaDoorPFnExactShortestStuckx1
namespace Go.Proofs.YtkikpfeipejnlaaDoor.PFnExactShortestStuck
open Go.RowKit Go.Proofs.YtkikpfeipejnlaaDoorW.PrintWords Go.Proofs.YtkikpfeipejnlaaDoorW.PrintLast Go.Proofs.YtkikpfeipejnlaaDoorW.PrintMore
attribute [local go_sem] max2_int min2_int max_two min_two max_three min_three max_four min_four   -- for this text's walks alone
set_option linter.unusedVariables false
set_option linter.unusedSimpArgs false

/-! ### spec_fgTo: function 58 -/
--USES helper_frog
set_option maxHeartbeats 8000000 in
set_option maxRecDepth 100000 in
theorem spec_fgTo.wout (s : ByteArray) (i j1 j2 m : Int) (w : World) (hm : wrap64 ((s.size : Int) - 1) = m) (A0 : spec_l1In.f i 0 m = some false) :
    Calls Tryd.prog 58 #[.string s, .int .i64 i] w fun e w' => e = .returned (.int .i64 (-1)) ∧ Drawn0 w w' := by
  have hmw : IntKind.i64.wrap ((s.size : Int) - 1) = m := (i64_w _).trans hm
  have B0 := Aside0.mk A0
  clear A0
  go_enter Tryd.func58, Tryd.ntmps58
  go_wp2_with (first | (go_at_call 56; (with_reducible refine (spec_l1In.calls i 0 m false _ B0.out).mono ?_); rintro e w' ⟨rfl, ⟨nd, rfl⟩⟩; (try first | exact ⟨rfl, _, World.drewN_drewN _ _ _⟩ | exact ⟨rfl, _, Eq.trans (World.drewN_drewN _ _ _) (congrArg (World.drewN _) (Nat.add_assoc _ _ _))⟩)))
  repeat (go_quiet (first | (go_at_call 56; (with_reducible refine (spec_l1In.calls i 0 m false _ B0.out).mono ?_); rintro e w' ⟨rfl, ⟨nd, rfl⟩⟩; (try first | exact ⟨rfl, _, World.drewN_drewN _ _ _⟩ | exact ⟨rfl, _, Eq.trans (World.drewN_drewN _ _ _) (congrArg (World.drewN _) (Nat.add_assoc _ _ _))⟩))); try go_wp2_with (first | (go_at_call 56; (with_reducible refine (spec_l1In.calls i 0 m false _ B0.out).mono ?_); rintro e w' ⟨rfl, ⟨nd, rfl⟩⟩; (try first | exact ⟨rfl, _, World.drewN_drewN _ _ _⟩ | exact ⟨rfl, _, Eq.trans (World.drewN_drewN _ _ _) (congrArg (World.drewN _) (Nat.add_assoc _ _ _))⟩))))
  go_ret
  exact ⟨by first | rfl | (simp; done) | (simp [*]; done), by repeat (first | exact Drawn0.refl _ | apply Drawn0.step)⟩
set_option maxHeartbeats 8000000 in
set_option maxRecDepth 100000 in
theorem spec_fgTo.wdot (s : ByteArray) (i j1 j2 m : Int) (w : World) (hm : wrap64 ((s.size : Int) - 1) = m) (A0 : spec_l1In.f i 0 m = some true) (p0 : 0 ≤ i) (q0 : i < (s.size : Int)) (e46 : (bt s i == 46) = true) :
    Calls Tryd.prog 58 #[.string s, .int .i64 i] w fun e w' => e = .returned (.int .i64 (-1)) ∧ Drawn0 w w' := by
  have hmw : IntKind.i64.wrap ((s.size : Int) - 1) = m := (i64_w _).trans hm
  have B0 := Aside0.mk A0
  clear A0
  have x0 := bt_at s i
  replace p0 := eq_true p0
  replace q0 := eq_true q0
  have n46 : (bt s i != 46) = false := by unfold bne; rw [e46]; rfl
  go_enter Tryd.func58, Tryd.ntmps58
  go_wp2_with (first | (go_at_call 56; (with_reducible refine (spec_l1In.calls i 0 m true _ B0.out).mono ?_); rintro e w' ⟨rfl, ⟨nd, rfl⟩⟩; (try first | exact ⟨rfl, _, World.drewN_drewN _ _ _⟩ | exact ⟨rfl, _, Eq.trans (World.drewN_drewN _ _ _) (congrArg (World.drewN _) (Nat.add_assoc _ _ _))⟩)))
  repeat (go_quiet (first | (go_at_call 56; (with_reducible refine (spec_l1In.calls i 0 m true _ B0.out).mono ?_); rintro e w' ⟨rfl, ⟨nd, rfl⟩⟩; (try first | exact ⟨rfl, _, World.drewN_drewN _ _ _⟩ | exact ⟨rfl, _, Eq.trans (World.drewN_drewN _ _ _) (congrArg (World.drewN _) (Nat.add_assoc _ _ _))⟩))); try go_wp2_with (first | (go_at_call 56; (with_reducible refine (spec_l1In.calls i 0 m true _ B0.out).mono ?_); rintro e w' ⟨rfl, ⟨nd, rfl⟩⟩; (try first | exact ⟨rfl, _, World.drewN_drewN _ _ _⟩ | exact ⟨rfl, _, Eq.trans (World.drewN_drewN _ _ _) (congrArg (World.drewN _) (Nat.add_assoc _ _ _))⟩))))
  go_ret
  exact ⟨by first | rfl | (simp; done) | (simp [*]; done), by repeat (first | exact Drawn0.refl _ | apply Drawn0.step)⟩
set_option maxHeartbeats 8000000 in
set_option maxRecDepth 100000 in
theorem spec_fgTo.wr1 (s : ByteArray) (i j1 j2 m : Int) (w : World) (hm : wrap64 ((s.size : Int) - 1) = m) (A0 : spec_l1In.f i 0 m = some true) (p0 : 0 ≤ i) (q0 : i < (s.size : Int)) (e46 : (bt s i == 46) = false) (e108 : (bt s i == 108) = false) (h0 : wrap64 (i + 1) = j1) (h1 : wrap64 (i + 2) = j2) (A1 : spec_l1In.f j1 0 m = some true) (p1 : 0 ≤ j1) (q1 : j1 < (s.size : Int)) (ea : (bt s j1 == 46) = true) :
    Calls Tryd.prog 58 #[.string s, .int .i64 i] w fun e w' => e = .returned (.int .i64 j1) ∧ Drawn0 w w' := by
  have hmw : IntKind.i64.wrap ((s.size : Int) - 1) = m := (i64_w _).trans hm
  have B0 := Aside0.mk A0
  clear A0
  have x0 := bt_at s i
  replace p0 := eq_true p0
  replace q0 := eq_true q0
  have n46 : (bt s i != 46) = true := by unfold bne; rw [e46]; rfl
  have n108 : (bt s i != 108) = true := by unfold bne; rw [e108]; rfl
  have h0w : IntKind.i64.wrap (i + 1) = j1 := (i64_w _).trans h0
  have h1w : IntKind.i64.wrap (i + 2) = j2 := (i64_w _).trans h1
  have B1 := Aside0.mk A1
  clear A1
  have x1 := bt_at s j1
  replace p1 := eq_true p1
  replace q1 := eq_true q1
  have na : (bt s j1 != 46) = false := by unfold bne; rw [ea]; rfl
  go_enter Tryd.func58, Tryd.ntmps58
  go_wp2_with (first | (go_at_call 56; (with_reducible refine (spec_l1In.calls i 0 m true _ B0.out).mono ?_); rintro e w' ⟨rfl, ⟨nd, rfl⟩⟩; (try first | exact ⟨rfl, _, World.drewN_drewN _ _ _⟩ | exact ⟨rfl, _, Eq.trans (World.drewN_drewN _ _ _) (congrArg (World.drewN _) (Nat.add_assoc _ _ _))⟩)) | (go_at_call 56; (with_reducible refine (spec_l1In.calls j1 0 m true _ B1.out).mono ?_); rintro e w' ⟨rfl, ⟨nd, rfl⟩⟩; (try first | exact ⟨rfl, _, World.drewN_drewN _ _ _⟩ | exact ⟨rfl, _, Eq.trans (World.drewN_drewN _ _ _) (congrArg (World.drewN _) (Nat.add_assoc _ _ _))⟩)))
  repeat (go_quiet (first | (go_at_call 56; (with_reducible refine (spec_l1In.calls i 0 m true _ B0.out).mono ?_); rintro e w' ⟨rfl, ⟨nd, rfl⟩⟩; (try first | exact ⟨rfl, _, World.drewN_drewN _ _ _⟩ | exact ⟨rfl, _, Eq.trans (World.drewN_drewN _ _ _) (congrArg (World.drewN _) (Nat.add_assoc _ _ _))⟩)) | (go_at_call 56; (with_reducible refine (spec_l1In.calls j1 0 m true _ B1.out).mono ?_); rintro e w' ⟨rfl, ⟨nd, rfl⟩⟩; (try first | exact ⟨rfl, _, World.drewN_drewN _ _ _⟩ | exact ⟨rfl, _, Eq.trans (World.drewN_drewN _ _ _) (congrArg (World.drewN _) (Nat.add_assoc _ _ _))⟩))); try go_wp2_with (first | (go_at_call 56; (with_reducible refine (spec_l1In.calls i 0 m true _ B0.out).mono ?_); rintro e w' ⟨rfl, ⟨nd, rfl⟩⟩; (try first | exact ⟨rfl, _, World.drewN_drewN _ _ _⟩ | exact ⟨rfl, _, Eq.trans (World.drewN_drewN _ _ _) (congrArg (World.drewN _) (Nat.add_assoc _ _ _))⟩)) | (go_at_call 56; (with_reducible refine (spec_l1In.calls j1 0 m true _ B1.out).mono ?_); rintro e w' ⟨rfl, ⟨nd, rfl⟩⟩; (try first | exact ⟨rfl, _, World.drewN_drewN _ _ _⟩ | exact ⟨rfl, _, Eq.trans (World.drewN_drewN _ _ _) (congrArg (World.drewN _) (Nat.add_assoc _ _ _))⟩))))
  go_ret
  exact ⟨by first | rfl | (simp; done) | (simp [*]; done), by repeat (first | exact Drawn0.refl _ | apply Drawn0.step)⟩
set_option maxHeartbeats 8000000 in
set_option maxRecDepth 100000 in
theorem spec_fgTo.wr1000 (s : ByteArray) (i j1 j2 m : Int) (w : World) (hm : wrap64 ((s.size : Int) - 1) = m) (A0 : spec_l1In.f i 0 m = some true) (p0 : 0 ≤ i) (q0 : i < (s.size : Int)) (e46 : (bt s i == 46) = false) (e108 : (bt s i == 108) = false) (h0 : wrap64 (i + 1) = j1) (h1 : wrap64 (i + 2) = j2) (A1 : spec_l1In.f j1 0 m = some true) (p1 : 0 ≤ j1) (q1 : j1 < (s.size : Int)) (ea : (bt s j1 == 46) = false) (A2 : spec_l1In.f j2 0 m = some false) :
    Calls Tryd.prog 58 #[.string s, .int .i64 i] w fun e w' => e = .returned (.int .i64 (-1)) ∧ Drawn0 w w' := by
  have hmw : IntKind.i64.wrap ((s.size : Int) - 1) = m := (i64_w _).trans hm
  have B0 := Aside0.mk A0
  clear A0
  have x0 := bt_at s i
  replace p0 := eq_true p0
  replace q0 := eq_true q0
  have n46 : (bt s i != 46) = true := by unfold bne; rw [e46]; rfl
  have n108 : (bt s i != 108) = true := by unfold bne; rw [e108]; rfl
  have h0w : IntKind.i64.wrap (i + 1) = j1 := (i64_w _).trans h0
  have h1w : IntKind.i64.wrap (i + 2) = j2 := (i64_w _).trans h1
  have B1 := Aside0.mk A1
  clear A1
  have x1 := bt_at s j1
  replace p1 := eq_true p1
  replace q1 := eq_true q1
  have na : (bt s j1 != 46) = true := by unfold bne; rw [ea]; rfl
  have B2 := Aside0.mk A2
  clear A2
  go_enter Tryd.func58, Tryd.ntmps58
  go_wp2_with (first | (go_at_call 56; (with_reducible refine (spec_l1In.calls i 0 m true _ B0.out).mono ?_); rintro e w' ⟨rfl, ⟨nd, rfl⟩⟩; (try first | exact ⟨rfl, _, World.drewN_drewN _ _ _⟩ | exact ⟨rfl, _, Eq.trans (World.drewN_drewN _ _ _) (congrArg (World.drewN _) (Nat.add_assoc _ _ _))⟩)) | (go_at_call 56; (with_reducible refine (spec_l1In.calls j1 0 m true _ B1.out).mono ?_); rintro e w' ⟨rfl, ⟨nd, rfl⟩⟩; (try first | exact ⟨rfl, _, World.drewN_drewN _ _ _⟩ | exact ⟨rfl, _, Eq.trans (World.drewN_drewN _ _ _) (congrArg (World.drewN _) (Nat.add_assoc _ _ _))⟩)) | (go_at_call 56; (with_reducible refine (spec_l1In.calls j2 0 m false _ B2.out).mono ?_); rintro e w' ⟨rfl, ⟨nd, rfl⟩⟩; (try first | exact ⟨rfl, _, World.drewN_drewN _ _ _⟩ | exact ⟨rfl, _, Eq.trans (World.drewN_drewN _ _ _) (congrArg (World.drewN _) (Nat.add_assoc _ _ _))⟩)))
  repeat (go_quiet (first | (go_at_call 56; (with_reducible refine (spec_l1In.calls i 0 m true _ B0.out).mono ?_); rintro e w' ⟨rfl, ⟨nd, rfl⟩⟩; (try first | exact ⟨rfl, _, World.drewN_drewN _ _ _⟩ | exact ⟨rfl, _, Eq.trans (World.drewN_drewN _ _ _) (congrArg (World.drewN _) (Nat.add_assoc _ _ _))⟩)) | (go_at_call 56; (with_reducible refine (spec_l1In.calls j1 0 m true _ B1.out).mono ?_); rintro e w' ⟨rfl, ⟨nd, rfl⟩⟩; (try first | exact ⟨rfl, _, World.drewN_drewN _ _ _⟩ | exact ⟨rfl, _, Eq.trans (World.drewN_drewN _ _ _) (congrArg (World.drewN _) (Nat.add_assoc _ _ _))⟩)) | (go_at_call 56; (with_reducible refine (spec_l1In.calls j2 0 m false _ B2.out).mono ?_); rintro e w' ⟨rfl, ⟨nd, rfl⟩⟩; (try first | exact ⟨rfl, _, World.drewN_drewN _ _ _⟩ | exact ⟨rfl, _, Eq.trans (World.drewN_drewN _ _ _) (congrArg (World.drewN _) (Nat.add_assoc _ _ _))⟩))); try go_wp2_with (first | (go_at_call 56; (with_reducible refine (spec_l1In.calls i 0 m true _ B0.out).mono ?_); rintro e w' ⟨rfl, ⟨nd, rfl⟩⟩; (try first | exact ⟨rfl, _, World.drewN_drewN _ _ _⟩ | exact ⟨rfl, _, Eq.trans (World.drewN_drewN _ _ _) (congrArg (World.drewN _) (Nat.add_assoc _ _ _))⟩)) | (go_at_call 56; (with_reducible refine (spec_l1In.calls j1 0 m true _ B1.out).mono ?_); rintro e w' ⟨rfl, ⟨nd, rfl⟩⟩; (try first | exact ⟨rfl, _, World.drewN_drewN _ _ _⟩ | exact ⟨rfl, _, Eq.trans (World.drewN_drewN _ _ _) (congrArg (World.drewN _) (Nat.add_assoc _ _ _))⟩)) | (go_at_call 56; (with_reducible refine (spec_l1In.calls j2 0 m false _ B2.out).mono ?_); rintro e w' ⟨rfl, ⟨nd, rfl⟩⟩; (try first | exact ⟨rfl, _, World.drewN_drewN _ _ _⟩ | exact ⟨rfl, _, Eq.trans (World.drewN_drewN _ _ _) (congrArg (World.drewN _) (Nat.add_assoc _ _ _))⟩))))
  go_ret
  exact ⟨by first | rfl | (simp; done) | (simp [*]; done), by repeat (first | exact Drawn0.refl _ | apply Drawn0.step)⟩
set_option maxHeartbeats 8000000 in
set_option maxRecDepth 100000 in
theorem spec_fgTo.wr1100 (s : ByteArray) (i j1 j2 m : Int) (w : World) (hm : wrap64 ((s.size : Int) - 1) = m) (A0 : spec_l1In.f i 0 m = some true) (p0 : 0 ≤ i) (q0 : i < (s.size : Int)) (e46 : (bt s i == 46) = false) (e108 : (bt s i == 108) = false) (h0 : wrap64 (i + 1) = j1) (h1 : wrap64 (i + 2) = j2) (A1 : spec_l1In.f j1 0 m = some true) (p1 : 0 ≤ j1) (q1 : j1 < (s.size : Int)) (ea : (bt s j1 == 46) = false) (A2 : spec_l1In.f j2 0 m = some true) (p2 : 0 ≤ j2) (q2 : j2 < (s.size : Int)) (eb : (bt s j2 == 46) = false) :
    Calls Tryd.prog 58 #[.string s, .int .i64 i] w fun e w' => e = .returned (.int .i64 (-1)) ∧ Drawn0 w w' := by
  have hmw : IntKind.i64.wrap ((s.size : Int) - 1) = m := (i64_w _).trans hm
  have B0 := Aside0.mk A0
  clear A0
  have x0 := bt_at s i
  replace p0 := eq_true p0
  replace q0 := eq_true q0
  have n46 : (bt s i != 46) = true := by unfold bne; rw [e46]; rfl
  have n108 : (bt s i != 108) = true := by unfold bne; rw [e108]; rfl
  have h0w : IntKind.i64.wrap (i + 1) = j1 := (i64_w _).trans h0
  have h1w : IntKind.i64.wrap (i + 2) = j2 := (i64_w _).trans h1
  have B1 := Aside0.mk A1
  clear A1
  have x1 := bt_at s j1
  replace p1 := eq_true p1
  replace q1 := eq_true q1
  have na : (bt s j1 != 46) = true := by unfold bne; rw [ea]; rfl
  have B2 := Aside0.mk A2
  clear A2
  have x2 := bt_at s j2
  replace p2 := eq_true p2
  replace q2 := eq_true q2
  have nb : (bt s j2 != 46) = true := by unfold bne; rw [eb]; rfl
  go_enter Tryd.func58, Tryd.ntmps58
  go_wp2_with (first | (go_at_call 56; (with_reducible refine (spec_l1In.calls i 0 m true _ B0.out).mono ?_); rintro e w' ⟨rfl, ⟨nd, rfl⟩⟩; (try first | exact ⟨rfl, _, World.drewN_drewN _ _ _⟩ | exact ⟨rfl, _, Eq.trans (World.drewN_drewN _ _ _) (congrArg (World.drewN _) (Nat.add_assoc _ _ _))⟩)) | (go_at_call 56; (with_reducible refine (spec_l1In.calls j1 0 m true _ B1.out).mono ?_); rintro e w' ⟨rfl, ⟨nd, rfl⟩⟩; (try first | exact ⟨rfl, _, World.drewN_drewN _ _ _⟩ | exact ⟨rfl, _, Eq.trans (World.drewN_drewN _ _ _) (congrArg (World.drewN _) (Nat.add_assoc _ _ _))⟩)) | (go_at_call 56; (with_reducible refine (spec_l1In.calls j2 0 m true _ B2.out).mono ?_); rintro e w' ⟨rfl, ⟨nd, rfl⟩⟩; (try first | exact ⟨rfl, _, World.drewN_drewN _ _ _⟩ | exact ⟨rfl, _, Eq.trans (World.drewN_drewN _ _ _) (congrArg (World.drewN _) (Nat.add_assoc _ _ _))⟩)))
  repeat (go_quiet (first | (go_at_call 56; (with_reducible refine (spec_l1In.calls i 0 m true _ B0.out).mono ?_); rintro e w' ⟨rfl, ⟨nd, rfl⟩⟩; (try first | exact ⟨rfl, _, World.drewN_drewN _ _ _⟩ | exact ⟨rfl, _, Eq.trans (World.drewN_drewN _ _ _) (congrArg (World.drewN _) (Nat.add_assoc _ _ _))⟩)) | (go_at_call 56; (with_reducible refine (spec_l1In.calls j1 0 m true _ B1.out).mono ?_); rintro e w' ⟨rfl, ⟨nd, rfl⟩⟩; (try first | exact ⟨rfl, _, World.drewN_drewN _ _ _⟩ | exact ⟨rfl, _, Eq.trans (World.drewN_drewN _ _ _) (congrArg (World.drewN _) (Nat.add_assoc _ _ _))⟩)) | (go_at_call 56; (with_reducible refine (spec_l1In.calls j2 0 m true _ B2.out).mono ?_); rintro e w' ⟨rfl, ⟨nd, rfl⟩⟩; (try first | exact ⟨rfl, _, World.drewN_drewN _ _ _⟩ | exact ⟨rfl, _, Eq.trans (World.drewN_drewN _ _ _) (congrArg (World.drewN _) (Nat.add_assoc _ _ _))⟩))); try go_wp2_with (first | (go_at_call 56; (with_reducible refine (spec_l1In.calls i 0 m true _ B0.out).mono ?_); rintro e w' ⟨rfl, ⟨nd, rfl⟩⟩; (try first | exact ⟨rfl, _, World.drewN_drewN _ _ _⟩ | exact ⟨rfl, _, Eq.trans (World.drewN_drewN _ _ _) (congrArg (World.drewN _) (Nat.add_assoc _ _ _))⟩)) | (go_at_call 56; (with_reducible refine (spec_l1In.calls j1 0 m true _ B1.out).mono ?_); rintro e w' ⟨rfl, ⟨nd, rfl⟩⟩; (try first | exact ⟨rfl, _, World.drewN_drewN _ _ _⟩ | exact ⟨rfl, _, Eq.trans (World.drewN_drewN _ _ _) (congrArg (World.drewN _) (Nat.add_assoc _ _ _))⟩)) | (go_at_call 56; (with_reducible refine (spec_l1In.calls j2 0 m true _ B2.out).mono ?_); rintro e w' ⟨rfl, ⟨nd, rfl⟩⟩; (try first | exact ⟨rfl, _, World.drewN_drewN _ _ _⟩ | exact ⟨rfl, _, Eq.trans (World.drewN_drewN _ _ _) (congrArg (World.drewN _) (Nat.add_assoc _ _ _))⟩))))
  go_ret
  exact ⟨by first | rfl | (simp; done) | (simp [*]; done), by repeat (first | exact Drawn0.refl _ | apply Drawn0.step)⟩
set_option maxHeartbeats 8000000 in
set_option maxRecDepth 100000 in
theorem spec_fgTo.wr1110 (s : ByteArray) (i j1 j2 m : Int) (w : World) (hm : wrap64 ((s.size : Int) - 1) = m) (A0 : spec_l1In.f i 0 m = some true) (p0 : 0 ≤ i) (q0 : i < (s.size : Int)) (e46 : (bt s i == 46) = false) (e108 : (bt s i == 108) = false) (h0 : wrap64 (i + 1) = j1) (h1 : wrap64 (i + 2) = j2) (A1 : spec_l1In.f j1 0 m = some true) (p1 : 0 ≤ j1) (q1 : j1 < (s.size : Int)) (ea : (bt s j1 == 46) = false) (A2 : spec_l1In.f j2 0 m = some true) (p2 : 0 ≤ j2) (q2 : j2 < (s.size : Int)) (eb : (bt s j2 == 46) = true) (ec : (bt s j1 == bt s i) = true) :
    Calls Tryd.prog 58 #[.string s, .int .i64 i] w fun e w' => e = .returned (.int .i64 (-1)) ∧ Drawn0 w w' := by
  have hmw : IntKind.i64.wrap ((s.size : Int) - 1) = m := (i64_w _).trans hm
  have B0 := Aside0.mk A0
  clear A0
  have x0 := bt_at s i
  replace p0 := eq_true p0
  replace q0 := eq_true q0
  have n46 : (bt s i != 46) = true := by unfold bne; rw [e46]; rfl
  have n108 : (bt s i != 108) = true := by unfold bne; rw [e108]; rfl
  have h0w : IntKind.i64.wrap (i + 1) = j1 := (i64_w _).trans h0
  have h1w : IntKind.i64.wrap (i + 2) = j2 := (i64_w _).trans h1
  have B1 := Aside0.mk A1
  clear A1
  have x1 := bt_at s j1
  replace p1 := eq_true p1
  replace q1 := eq_true q1
  have na : (bt s j1 != 46) = true := by unfold bne; rw [ea]; rfl
  have B2 := Aside0.mk A2
  clear A2
  have x2 := bt_at s j2
  replace p2 := eq_true p2
  replace q2 := eq_true q2
  have nb : (bt s j2 != 46) = false := by unfold bne; rw [eb]; rfl
  have nc : (bt s j1 != bt s i) = false := by unfold bne; rw [ec]; rfl
  go_enter Tryd.func58, Tryd.ntmps58
  go_wp2_with (first | (go_at_call 56; (with_reducible refine (spec_l1In.calls i 0 m true _ B0.out).mono ?_); rintro e w' ⟨rfl, ⟨nd, rfl⟩⟩; (try first | exact ⟨rfl, _, World.drewN_drewN _ _ _⟩ | exact ⟨rfl, _, Eq.trans (World.drewN_drewN _ _ _) (congrArg (World.drewN _) (Nat.add_assoc _ _ _))⟩)) | (go_at_call 56; (with_reducible refine (spec_l1In.calls j1 0 m true _ B1.out).mono ?_); rintro e w' ⟨rfl, ⟨nd, rfl⟩⟩; (try first | exact ⟨rfl, _, World.drewN_drewN _ _ _⟩ | exact ⟨rfl, _, Eq.trans (World.drewN_drewN _ _ _) (congrArg (World.drewN _) (Nat.add_assoc _ _ _))⟩)) | (go_at_call 56; (with_reducible refine (spec_l1In.calls j2 0 m true _ B2.out).mono ?_); rintro e w' ⟨rfl, ⟨nd, rfl⟩⟩; (try first | exact ⟨rfl, _, World.drewN_drewN _ _ _⟩ | exact ⟨rfl, _, Eq.trans (World.drewN_drewN _ _ _) (congrArg (World.drewN _) (Nat.add_assoc _ _ _))⟩)))
  repeat (go_quiet (first | (go_at_call 56; (with_reducible refine (spec_l1In.calls i 0 m true _ B0.out).mono ?_); rintro e w' ⟨rfl, ⟨nd, rfl⟩⟩; (try first | exact ⟨rfl, _, World.drewN_drewN _ _ _⟩ | exact ⟨rfl, _, Eq.trans (World.drewN_drewN _ _ _) (congrArg (World.drewN _) (Nat.add_assoc _ _ _))⟩)) | (go_at_call 56; (with_reducible refine (spec_l1In.calls j1 0 m true _ B1.out).mono ?_); rintro e w' ⟨rfl, ⟨nd, rfl⟩⟩; (try first | exact ⟨rfl, _, World.drewN_drewN _ _ _⟩ | exact ⟨rfl, _, Eq.trans (World.drewN_drewN _ _ _) (congrArg (World.drewN _) (Nat.add_assoc _ _ _))⟩)) | (go_at_call 56; (with_reducible refine (spec_l1In.calls j2 0 m true _ B2.out).mono ?_); rintro e w' ⟨rfl, ⟨nd, rfl⟩⟩; (try first | exact ⟨rfl, _, World.drewN_drewN _ _ _⟩ | exact ⟨rfl, _, Eq.trans (World.drewN_drewN _ _ _) (congrArg (World.drewN _) (Nat.add_assoc _ _ _))⟩))); try go_wp2_with (first | (go_at_call 56; (with_reducible refine (spec_l1In.calls i 0 m true _ B0.out).mono ?_); rintro e w' ⟨rfl, ⟨nd, rfl⟩⟩; (try first | exact ⟨rfl, _, World.drewN_drewN _ _ _⟩ | exact ⟨rfl, _, Eq.trans (World.drewN_drewN _ _ _) (congrArg (World.drewN _) (Nat.add_assoc _ _ _))⟩)) | (go_at_call 56; (with_reducible refine (spec_l1In.calls j1 0 m true _ B1.out).mono ?_); rintro e w' ⟨rfl, ⟨nd, rfl⟩⟩; (try first | exact ⟨rfl, _, World.drewN_drewN _ _ _⟩ | exact ⟨rfl, _, Eq.trans (World.drewN_drewN _ _ _) (congrArg (World.drewN _) (Nat.add_assoc _ _ _))⟩)) | (go_at_call 56; (with_reducible refine (spec_l1In.calls j2 0 m true _ B2.out).mono ?_); rintro e w' ⟨rfl, ⟨nd, rfl⟩⟩; (try first | exact ⟨rfl, _, World.drewN_drewN _ _ _⟩ | exact ⟨rfl, _, Eq.trans (World.drewN_drewN _ _ _) (congrArg (World.drewN _) (Nat.add_assoc _ _ _))⟩))))
  go_ret
  exact ⟨by first | rfl | (simp; done) | (simp [*]; done), by repeat (first | exact Drawn0.refl _ | apply Drawn0.step)⟩
set_option maxHeartbeats 8000000 in
set_option maxRecDepth 100000 in
theorem spec_fgTo.wr1111 (s : ByteArray) (i j1 j2 m : Int) (w : World) (hm : wrap64 ((s.size : Int) - 1) = m) (A0 : spec_l1In.f i 0 m = some true) (p0 : 0 ≤ i) (q0 : i < (s.size : Int)) (e46 : (bt s i == 46) = false) (e108 : (bt s i == 108) = false) (h0 : wrap64 (i + 1) = j1) (h1 : wrap64 (i + 2) = j2) (A1 : spec_l1In.f j1 0 m = some true) (p1 : 0 ≤ j1) (q1 : j1 < (s.size : Int)) (ea : (bt s j1 == 46) = false) (A2 : spec_l1In.f j2 0 m = some true) (p2 : 0 ≤ j2) (q2 : j2 < (s.size : Int)) (eb : (bt s j2 == 46) = true) (ec : (bt s j1 == bt s i) = false) :
    Calls Tryd.prog 58 #[.string s, .int .i64 i] w fun e w' => e = .returned (.int .i64 j2) ∧ Drawn0 w w' := by
  have hmw : IntKind.i64.wrap ((s.size : Int) - 1) = m := (i64_w _).trans hm
  have B0 := Aside0.mk A0
  clear A0
  have x0 := bt_at s i
  replace p0 := eq_true p0
  replace q0 := eq_true q0
  have n46 : (bt s i != 46) = true := by unfold bne; rw [e46]; rfl
  have n108 : (bt s i != 108) = true := by unfold bne; rw [e108]; rfl
  have h0w : IntKind.i64.wrap (i + 1) = j1 := (i64_w _).trans h0
  have h1w : IntKind.i64.wrap (i + 2) = j2 := (i64_w _).trans h1
  have B1 := Aside0.mk A1
  clear A1
  have x1 := bt_at s j1
  replace p1 := eq_true p1
  replace q1 := eq_true q1
  have na : (bt s j1 != 46) = true := by unfold bne; rw [ea]; rfl
  have B2 := Aside0.mk A2
  clear A2
  have x2 := bt_at s j2
  replace p2 := eq_true p2
  replace q2 := eq_true q2
  have nb : (bt s j2 != 46) = false := by unfold bne; rw [eb]; rfl
  have nc : (bt s j1 != bt s i) = true := by unfold bne; rw [ec]; rfl
  go_enter Tryd.func58, Tryd.ntmps58
  go_wp2_with (first | (go_at_call 56; (with_reducible refine (spec_l1In.calls i 0 m true _ B0.out).mono ?_); rintro e w' ⟨rfl, ⟨nd, rfl⟩⟩; (try first | exact ⟨rfl, _, World.drewN_drewN _ _ _⟩ | exact ⟨rfl, _, Eq.trans (World.drewN_drewN _ _ _) (congrArg (World.drewN _) (Nat.add_assoc _ _ _))⟩)) | (go_at_call 56; (with_reducible refine (spec_l1In.calls j1 0 m true _ B1.out).mono ?_); rintro e w' ⟨rfl, ⟨nd, rfl⟩⟩; (try first | exact ⟨rfl, _, World.drewN_drewN _ _ _⟩ | exact ⟨rfl, _, Eq.trans (World.drewN_drewN _ _ _) (congrArg (World.drewN _) (Nat.add_assoc _ _ _))⟩)) | (go_at_call 56; (with_reducible refine (spec_l1In.calls j2 0 m true _ B2.out).mono ?_); rintro e w' ⟨rfl, ⟨nd, rfl⟩⟩; (try first | exact ⟨rfl, _, World.drewN_drewN _ _ _⟩ | exact ⟨rfl, _, Eq.trans (World.drewN_drewN _ _ _) (congrArg (World.drewN _) (Nat.add_assoc _ _ _))⟩)))
  repeat (go_quiet (first | (go_at_call 56; (with_reducible refine (spec_l1In.calls i 0 m true _ B0.out).mono ?_); rintro e w' ⟨rfl, ⟨nd, rfl⟩⟩; (try first | exact ⟨rfl, _, World.drewN_drewN _ _ _⟩ | exact ⟨rfl, _, Eq.trans (World.drewN_drewN _ _ _) (congrArg (World.drewN _) (Nat.add_assoc _ _ _))⟩)) | (go_at_call 56; (with_reducible refine (spec_l1In.calls j1 0 m true _ B1.out).mono ?_); rintro e w' ⟨rfl, ⟨nd, rfl⟩⟩; (try first | exact ⟨rfl, _, World.drewN_drewN _ _ _⟩ | exact ⟨rfl, _, Eq.trans (World.drewN_drewN _ _ _) (congrArg (World.drewN _) (Nat.add_assoc _ _ _))⟩)) | (go_at_call 56; (with_reducible refine (spec_l1In.calls j2 0 m true _ B2.out).mono ?_); rintro e w' ⟨rfl, ⟨nd, rfl⟩⟩; (try first | exact ⟨rfl, _, World.drewN_drewN _ _ _⟩ | exact ⟨rfl, _, Eq.trans (World.drewN_drewN _ _ _) (congrArg (World.drewN _) (Nat.add_assoc _ _ _))⟩))); try go_wp2_with (first | (go_at_call 56; (with_reducible refine (spec_l1In.calls i 0 m true _ B0.out).mono ?_); rintro e w' ⟨rfl, ⟨nd, rfl⟩⟩; (try first | exact ⟨rfl, _, World.drewN_drewN _ _ _⟩ | exact ⟨rfl, _, Eq.trans (World.drewN_drewN _ _ _) (congrArg (World.drewN _) (Nat.add_assoc _ _ _))⟩)) | (go_at_call 56; (with_reducible refine (spec_l1In.calls j1 0 m true _ B1.out).mono ?_); rintro e w' ⟨rfl, ⟨nd, rfl⟩⟩; (try first | exact ⟨rfl, _, World.drewN_drewN _ _ _⟩ | exact ⟨rfl, _, Eq.trans (World.drewN_drewN _ _ _) (congrArg (World.drewN _) (Nat.add_assoc _ _ _))⟩)) | (go_at_call 56; (with_reducible refine (spec_l1In.calls j2 0 m true _ B2.out).mono ?_); rintro e w' ⟨rfl, ⟨nd, rfl⟩⟩; (try first | exact ⟨rfl, _, World.drewN_drewN _ _ _⟩ | exact ⟨rfl, _, Eq.trans (World.drewN_drewN _ _ _) (congrArg (World.drewN _) (Nat.add_assoc _ _ _))⟩))))
  go_ret
  exact ⟨by first | rfl | (simp; done) | (simp [*]; done), by repeat (first | exact Drawn0.refl _ | apply Drawn0.step)⟩
set_option maxHeartbeats 8000000 in
set_option maxRecDepth 100000 in
theorem spec_fgTo.wr0000 (s : ByteArray) (i j1 j2 m : Int) (w : World) (hm : wrap64 ((s.size : Int) - 1) = m) (A0 : spec_l1In.f i 0 m = some true) (p0 : 0 ≤ i) (q0 : i < (s.size : Int)) (e46 : (bt s i == 46) = false) (e108 : (bt s i == 108) = false) (h0 : wrap64 (i + 1) = j1) (h1 : wrap64 (i + 2) = j2) (A1 : spec_l1In.f j1 0 m = some false) (A2 : spec_l1In.f j2 0 m = some false) :
    Calls Tryd.prog 58 #[.string s, .int .i64 i] w fun e w' => e = .returned (.int .i64 (-1)) ∧ Drawn0 w w' := by
  have hmw : IntKind.i64.wrap ((s.size : Int) - 1) = m := (i64_w _).trans hm
  have B0 := Aside0.mk A0
  clear A0
  have x0 := bt_at s i
  replace p0 := eq_true p0
  replace q0 := eq_true q0
  have n46 : (bt s i != 46) = true := by unfold bne; rw [e46]; rfl
  have n108 : (bt s i != 108) = true := by unfold bne; rw [e108]; rfl
  have h0w : IntKind.i64.wrap (i + 1) = j1 := (i64_w _).trans h0
  have h1w : IntKind.i64.wrap (i + 2) = j2 := (i64_w _).trans h1
  have B1 := Aside0.mk A1
  clear A1
  have B2 := Aside0.mk A2
  clear A2
  go_enter Tryd.func58, Tryd.ntmps58
  go_wp2_with (first | (go_at_call 56; (with_reducible refine (spec_l1In.calls i 0 m true _ B0.out).mono ?_); rintro e w' ⟨rfl, ⟨nd, rfl⟩⟩; (try first | exact ⟨rfl, _, World.drewN_drewN _ _ _⟩ | exact ⟨rfl, _, Eq.trans (World.drewN_drewN _ _ _) (congrArg (World.drewN _) (Nat.add_assoc _ _ _))⟩)) | (go_at_call 56; (with_reducible refine (spec_l1In.calls j1 0 m false _ B1.out).mono ?_); rintro e w' ⟨rfl, ⟨nd, rfl⟩⟩; (try first | exact ⟨rfl, _, World.drewN_drewN _ _ _⟩ | exact ⟨rfl, _, Eq.trans (World.drewN_drewN _ _ _) (congrArg (World.drewN _) (Nat.add_assoc _ _ _))⟩)) | (go_at_call 56; (with_reducible refine (spec_l1In.calls j2 0 m false _ B2.out).mono ?_); rintro e w' ⟨rfl, ⟨nd, rfl⟩⟩; (try first | exact ⟨rfl, _, World.drewN_drewN _ _ _⟩ | exact ⟨rfl, _, Eq.trans (World.drewN_drewN _ _ _) (congrArg (World.drewN _) (Nat.add_assoc _ _ _))⟩)))
  repeat (go_quiet (first | (go_at_call 56; (with_reducible refine (spec_l1In.calls i 0 m true _ B0.out).mono ?_); rintro e w' ⟨rfl, ⟨nd, rfl⟩⟩; (try first | exact ⟨rfl, _, World.drewN_drewN _ _ _⟩ | exact ⟨rfl, _, Eq.trans (World.drewN_drewN _ _ _) (congrArg (World.drewN _) (Nat.add_assoc _ _ _))⟩)) | (go_at_call 56; (with_reducible refine (spec_l1In.calls j1 0 m false _ B1.out).mono ?_); rintro e w' ⟨rfl, ⟨nd, rfl⟩⟩; (try first | exact ⟨rfl, _, World.drewN_drewN _ _ _⟩ | exact ⟨rfl, _, Eq.trans (World.drewN_drewN _ _ _) (congrArg (World.drewN _) (Nat.add_assoc _ _ _))⟩)) | (go_at_call 56; (with_reducible refine (spec_l1In.calls j2 0 m false _ B2.out).mono ?_); rintro e w' ⟨rfl, ⟨nd, rfl⟩⟩; (try first | exact ⟨rfl, _, World.drewN_drewN _ _ _⟩ | exact ⟨rfl, _, Eq.trans (World.drewN_drewN _ _ _) (congrArg (World.drewN _) (Nat.add_assoc _ _ _))⟩))); try go_wp2_with (first | (go_at_call 56; (with_reducible refine (spec_l1In.calls i 0 m true _ B0.out).mono ?_); rintro e w' ⟨rfl, ⟨nd, rfl⟩⟩; (try first | exact ⟨rfl, _, World.drewN_drewN _ _ _⟩ | exact ⟨rfl, _, Eq.trans (World.drewN_drewN _ _ _) (congrArg (World.drewN _) (Nat.add_assoc _ _ _))⟩)) | (go_at_call 56; (with_reducible refine (spec_l1In.calls j1 0 m false _ B1.out).mono ?_); rintro e w' ⟨rfl, ⟨nd, rfl⟩⟩; (try first | exact ⟨rfl, _, World.drewN_drewN _ _ _⟩ | exact ⟨rfl, _, Eq.trans (World.drewN_drewN _ _ _) (congrArg (World.drewN _) (Nat.add_assoc _ _ _))⟩)) | (go_at_call 56; (with_reducible refine (spec_l1In.calls j2 0 m false _ B2.out).mono ?_); rintro e w' ⟨rfl, ⟨nd, rfl⟩⟩; (try first | exact ⟨rfl, _, World.drewN_drewN _ _ _⟩ | exact ⟨rfl, _, Eq.trans (World.drewN_drewN _ _ _) (congrArg (World.drewN _) (Nat.add_assoc _ _ _))⟩))))
  go_ret
  exact ⟨by first | rfl | (simp; done) | (simp [*]; done), by repeat (first | exact Drawn0.refl _ | apply Drawn0.step)⟩
set_option maxHeartbeats 8000000 in
set_option maxRecDepth 100000 in
theorem spec_fgTo.wl1 (s : ByteArray) (i j1 j2 m : Int) (w : World) (hm : wrap64 ((s.size : Int) - 1) = m) (A0 : spec_l1In.f i 0 m = some true) (p0 : 0 ≤ i) (q0 : i < (s.size : Int)) (e46 : (bt s i == 46) = false) (e108 : (bt s i == 108) = true) (h0 : wrap64 (i + -1) = j1) (h1 : wrap64 (i + -2) = j2) (h2 : wrap64 (i - 1) = j1) (h3 : wrap64 (i - 2) = j2) (A1 : spec_l1In.f j1 0 m = some true) (p1 : 0 ≤ j1) (q1 : j1 < (s.size : Int)) (ea : (bt s j1 == 46) = true) :
    Calls Tryd.prog 58 #[.string s, .int .i64 i] w fun e w' => e = .returned (.int .i64 j1) ∧ Drawn0 w w' := by
  have hmw : IntKind.i64.wrap ((s.size : Int) - 1) = m := (i64_w _).trans hm
  have B0 := Aside0.mk A0
  clear A0
  have x0 := bt_at s i
  replace p0 := eq_true p0
  replace q0 := eq_true q0
  have n46 : (bt s i != 46) = true := by unfold bne; rw [e46]; rfl
  have n108 : (bt s i != 108) = false := by unfold bne; rw [e108]; rfl
  have h0w : IntKind.i64.wrap (i + -1) = j1 := (i64_w _).trans h0
  have h1w : IntKind.i64.wrap (i + -2) = j2 := (i64_w _).trans h1
  have h2w : IntKind.i64.wrap (i - 1) = j1 := (i64_w _).trans h2
  have h3w : IntKind.i64.wrap (i - 2) = j2 := (i64_w _).trans h3
  have B1 := Aside0.mk A1
  clear A1
  have x1 := bt_at s j1
  replace p1 := eq_true p1
  replace q1 := eq_true q1
  have na : (bt s j1 != 46) = false := by unfold bne; rw [ea]; rfl
  go_enter Tryd.func58, Tryd.ntmps58
  go_wp2_with (first | (go_at_call 56; (with_reducible refine (spec_l1In.calls i 0 m true _ B0.out).mono ?_); rintro e w' ⟨rfl, ⟨nd, rfl⟩⟩; (try first | exact ⟨rfl, _, World.drewN_drewN _ _ _⟩ | exact ⟨rfl, _, Eq.trans (World.drewN_drewN _ _ _) (congrArg (World.drewN _) (Nat.add_assoc _ _ _))⟩)) | (go_at_call 56; (with_reducible refine (spec_l1In.calls j1 0 m true _ B1.out).mono ?_); rintro e w' ⟨rfl, ⟨nd, rfl⟩⟩; (try first | exact ⟨rfl, _, World.drewN_drewN _ _ _⟩ | exact ⟨rfl, _, Eq.trans (World.drewN_drewN _ _ _) (congrArg (World.drewN _) (Nat.add_assoc _ _ _))⟩)))
  repeat (go_quiet (first | (go_at_call 56; (with_reducible refine (spec_l1In.calls i 0 m true _ B0.out).mono ?_); rintro e w' ⟨rfl, ⟨nd, rfl⟩⟩; (try first | exact ⟨rfl, _, World.drewN_drewN _ _ _⟩ | exact ⟨rfl, _, Eq.trans (World.drewN_drewN _ _ _) (congrArg (World.drewN _) (Nat.add_assoc _ _ _))⟩)) | (go_at_call 56; (with_reducible refine (spec_l1In.calls j1 0 m true _ B1.out).mono ?_); rintro e w' ⟨rfl, ⟨nd, rfl⟩⟩; (try first | exact ⟨rfl, _, World.drewN_drewN _ _ _⟩ | exact ⟨rfl, _, Eq.trans (World.drewN_drewN _ _ _) (congrArg (World.drewN _) (Nat.add_assoc _ _ _))⟩))); try go_wp2_with (first | (go_at_call 56; (with_reducible refine (spec_l1In.calls i 0 m true _ B0.out).mono ?_); rintro e w' ⟨rfl, ⟨nd, rfl⟩⟩; (try first | exact ⟨rfl, _, World.drewN_drewN _ _ _⟩ | exact ⟨rfl, _, Eq.trans (World.drewN_drewN _ _ _) (congrArg (World.drewN _) (Nat.add_assoc _ _ _))⟩)) | (go_at_call 56; (with_reducible refine (spec_l1In.calls j1 0 m true _ B1.out).mono ?_); rintro e w' ⟨rfl, ⟨nd, rfl⟩⟩; (try first | exact ⟨rfl, _, World.drewN_drewN _ _ _⟩ | exact ⟨rfl, _, Eq.trans (World.drewN_drewN _ _ _) (congrArg (World.drewN _) (Nat.add_assoc _ _ _))⟩))))
  go_ret
  exact ⟨by first | rfl | (simp; done) | (simp [*]; done), by repeat (first | exact Drawn0.refl _ | apply Drawn0.step)⟩
set_option maxHeartbeats 8000000 in
set_option maxRecDepth 100000 in
theorem spec_fgTo.wl1000 (s : ByteArray) (i j1 j2 m : Int) (w : World) (hm : wrap64 ((s.size : Int) - 1) = m) (A0 : spec_l1In.f i 0 m = some true) (p0 : 0 ≤ i) (q0 : i < (s.size : Int)) (e46 : (bt s i == 46) = false) (e108 : (bt s i == 108) = true) (h0 : wrap64 (i + -1) = j1) (h1 : wrap64 (i + -2) = j2) (h2 : wrap64 (i - 1) = j1) (h3 : wrap64 (i - 2) = j2) (A1 : spec_l1In.f j1 0 m = some true) (p1 : 0 ≤ j1) (q1 : j1 < (s.size : Int)) (ea : (bt s j1 == 46) = false) (A2 : spec_l1In.f j2 0 m = some false) :
    Calls Tryd.prog 58 #[.string s, .int .i64 i] w fun e w' => e = .returned (.int .i64 (-1)) ∧ Drawn0 w w' := by
  have hmw : IntKind.i64.wrap ((s.size : Int) - 1) = m := (i64_w _).trans hm
  have B0 := Aside0.mk A0
  clear A0
  have x0 := bt_at s i
  replace p0 := eq_true p0
  replace q0 := eq_true q0
  have n46 : (bt s i != 46) = true := by unfold bne; rw [e46]; rfl
  have n108 : (bt s i != 108) = false := by unfold bne; rw [e108]; rfl
  have h0w : IntKind.i64.wrap (i + -1) = j1 := (i64_w _).trans h0
  have h1w : IntKind.i64.wrap (i + -2) = j2 := (i64_w _).trans h1
  have h2w : IntKind.i64.wrap (i - 1) = j1 := (i64_w _).trans h2
  have h3w : IntKind.i64.wrap (i - 2) = j2 := (i64_w _).trans h3
  have B1 := Aside0.mk A1
  clear A1
  have x1 := bt_at s j1
  replace p1 := eq_true p1
  replace q1 := eq_true q1
  have na : (bt s j1 != 46) = true := by unfold bne; rw [ea]; rfl
  have B2 := Aside0.mk A2
  clear A2
  go_enter Tryd.func58, Tryd.ntmps58
  go_wp2_with (first | (go_at_call 56; (with_reducible refine (spec_l1In.calls i 0 m true _ B0.out).mono ?_); rintro e w' ⟨rfl, ⟨nd, rfl⟩⟩; (try first | exact ⟨rfl, _, World.drewN_drewN _ _ _⟩ | exact ⟨rfl, _, Eq.trans (World.drewN_drewN _ _ _) (congrArg (World.drewN _) (Nat.add_assoc _ _ _))⟩)) | (go_at_call 56; (with_reducible refine (spec_l1In.calls j1 0 m true _ B1.out).mono ?_); rintro e w' ⟨rfl, ⟨nd, rfl⟩⟩; (try first | exact ⟨rfl, _, World.drewN_drewN _ _ _⟩ | exact ⟨rfl, _, Eq.trans (World.drewN_drewN _ _ _) (congrArg (World.drewN _) (Nat.add_assoc _ _ _))⟩)) | (go_at_call 56; (with_reducible refine (spec_l1In.calls j2 0 m false _ B2.out).mono ?_); rintro e w' ⟨rfl, ⟨nd, rfl⟩⟩; (try first | exact ⟨rfl, _, World.drewN_drewN _ _ _⟩ | exact ⟨rfl, _, Eq.trans (World.drewN_drewN _ _ _) (congrArg (World.drewN _) (Nat.add_assoc _ _ _))⟩)))
  repeat (go_quiet (first | (go_at_call 56; (with_reducible refine (spec_l1In.calls i 0 m true _ B0.out).mono ?_); rintro e w' ⟨rfl, ⟨nd, rfl⟩⟩; (try first | exact ⟨rfl, _, World.drewN_drewN _ _ _⟩ | exact ⟨rfl, _, Eq.trans (World.drewN_drewN _ _ _) (congrArg (World.drewN _) (Nat.add_assoc _ _ _))⟩)) | (go_at_call 56; (with_reducible refine (spec_l1In.calls j1 0 m true _ B1.out).mono ?_); rintro e w' ⟨rfl, ⟨nd, rfl⟩⟩; (try first | exact ⟨rfl, _, World.drewN_drewN _ _ _⟩ | exact ⟨rfl, _, Eq.trans (World.drewN_drewN _ _ _) (congrArg (World.drewN _) (Nat.add_assoc _ _ _))⟩)) | (go_at_call 56; (with_reducible refine (spec_l1In.calls j2 0 m false _ B2.out).mono ?_); rintro e w' ⟨rfl, ⟨nd, rfl⟩⟩; (try first | exact ⟨rfl, _, World.drewN_drewN _ _ _⟩ | exact ⟨rfl, _, Eq.trans (World.drewN_drewN _ _ _) (congrArg (World.drewN _) (Nat.add_assoc _ _ _))⟩))); try go_wp2_with (first | (go_at_call 56; (with_reducible refine (spec_l1In.calls i 0 m true _ B0.out).mono ?_); rintro e w' ⟨rfl, ⟨nd, rfl⟩⟩; (try first | exact ⟨rfl, _, World.drewN_drewN _ _ _⟩ | exact ⟨rfl, _, Eq.trans (World.drewN_drewN _ _ _) (congrArg (World.drewN _) (Nat.add_assoc _ _ _))⟩)) | (go_at_call 56; (with_reducible refine (spec_l1In.calls j1 0 m true _ B1.out).mono ?_); rintro e w' ⟨rfl, ⟨nd, rfl⟩⟩; (try first | exact ⟨rfl, _, World.drewN_drewN _ _ _⟩ | exact ⟨rfl, _, Eq.trans (World.drewN_drewN _ _ _) (congrArg (World.drewN _) (Nat.add_assoc _ _ _))⟩)) | (go_at_call 56; (with_reducible refine (spec_l1In.calls j2 0 m false _ B2.out).mono ?_); rintro e w' ⟨rfl, ⟨nd, rfl⟩⟩; (try first | exact ⟨rfl, _, World.drewN_drewN _ _ _⟩ | exact ⟨rfl, _, Eq.trans (World.drewN_drewN _ _ _) (congrArg (World.drewN _) (Nat.add_assoc _ _ _))⟩))))
  go_ret
  exact ⟨by first | rfl | (simp; done) | (simp [*]; done), by repeat (first | exact Drawn0.refl _ | apply Drawn0.step)⟩
set_option maxHeartbeats 8000000 in
set_option maxRecDepth 100000 in
theorem spec_fgTo.wl1100 (s : ByteArray) (i j1 j2 m : Int) (w : World) (hm : wrap64 ((s.size : Int) - 1) = m) (A0 : spec_l1In.f i 0 m = some true) (p0 : 0 ≤ i) (q0 : i < (s.size : Int)) (e46 : (bt s i == 46) = false) (e108 : (bt s i == 108) = true) (h0 : wrap64 (i + -1) = j1) (h1 : wrap64 (i + -2) = j2) (h2 : wrap64 (i - 1) = j1) (h3 : wrap64 (i - 2) = j2) (A1 : spec_l1In.f j1 0 m = some true) (p1 : 0 ≤ j1) (q1 : j1 < (s.size : Int)) (ea : (bt s j1 == 46) = false) (A2 : spec_l1In.f j2 0 m = some true) (p2 : 0 ≤ j2) (q2 : j2 < (s.size : Int)) (eb : (bt s j2 == 46) = false) :
    Calls Tryd.prog 58 #[.string s, .int .i64 i] w fun e w' => e = .returned (.int .i64 (-1)) ∧ Drawn0 w w' := by
  have hmw : IntKind.i64.wrap ((s.size : Int) - 1) = m := (i64_w _).trans hm
  have B0 := Aside0.mk A0
  clear A0
  have x0 := bt_at s i
  replace p0 := eq_true p0
  replace q0 := eq_true q0
  have n46 : (bt s i != 46) = true := by unfold bne; rw [e46]; rfl
  have n108 : (bt s i != 108) = false := by unfold bne; rw [e108]; rfl
  have h0w : IntKind.i64.wrap (i + -1) = j1 := (i64_w _).trans h0
  have h1w : IntKind.i64.wrap (i + -2) = j2 := (i64_w _).trans h1
  have h2w : IntKind.i64.wrap (i - 1) = j1 := (i64_w _).trans h2
  have h3w : IntKind.i64.wrap (i - 2) = j2 := (i64_w _).trans h3
  have B1 := Aside0.mk A1
  clear A1
  have x1 := bt_at s j1
  replace p1 := eq_true p1
  replace q1 := eq_true q1
  have na : (bt s j1 != 46) = true := by unfold bne; rw [ea]; rfl
  have B2 := Aside0.mk A2
  clear A2
  have x2 := bt_at s j2
  replace p2 := eq_true p2
  replace q2 := eq_true q2
  have nb : (bt s j2 != 46) = true := by unfold bne; rw [eb]; rfl
  go_enter Tryd.func58, Tryd.ntmps58
  go_wp2_with (first | (go_at_call 56; (with_reducible refine (spec_l1In.calls i 0 m true _ B0.out).mono ?_); rintro e w' ⟨rfl, ⟨nd, rfl⟩⟩; (try first | exact ⟨rfl, _, World.drewN_drewN _ _ _⟩ | exact ⟨rfl, _, Eq.trans (World.drewN_drewN _ _ _) (congrArg (World.drewN _) (Nat.add_assoc _ _ _))⟩)) | (go_at_call 56; (with_reducible refine (spec_l1In.calls j1 0 m true _ B1.out).mono ?_); rintro e w' ⟨rfl, ⟨nd, rfl⟩⟩; (try first | exact ⟨rfl, _, World.drewN_drewN _ _ _⟩ | exact ⟨rfl, _, Eq.trans (World.drewN_drewN _ _ _) (congrArg (World.drewN _) (Nat.add_assoc _ _ _))⟩)) | (go_at_call 56; (with_reducible refine (spec_l1In.calls j2 0 m true _ B2.out).mono ?_); rintro e w' ⟨rfl, ⟨nd, rfl⟩⟩; (try first | exact ⟨rfl, _, World.drewN_drewN _ _ _⟩ | exact ⟨rfl, _, Eq.trans (World.drewN_drewN _ _ _) (congrArg (World.drewN _) (Nat.add_assoc _ _ _))⟩)))
  repeat (go_quiet (first | (go_at_call 56; (with_reducible refine (spec_l1In.calls i 0 m true _ B0.out).mono ?_); rintro e w' ⟨rfl, ⟨nd, rfl⟩⟩; (try first | exact ⟨rfl, _, World.drewN_drewN _ _ _⟩ | exact ⟨rfl, _, Eq.trans (World.drewN_drewN _ _ _) (congrArg (World.drewN _) (Nat.add_assoc _ _ _))⟩)) | (go_at_call 56; (with_reducible refine (spec_l1In.calls j1 0 m true _ B1.out).mono ?_); rintro e w' ⟨rfl, ⟨nd, rfl⟩⟩; (try first | exact ⟨rfl, _, World.drewN_drewN _ _ _⟩ | exact ⟨rfl, _, Eq.trans (World.drewN_drewN _ _ _) (congrArg (World.drewN _) (Nat.add_assoc _ _ _))⟩)) | (go_at_call 56; (with_reducible refine (spec_l1In.calls j2 0 m true _ B2.out).mono ?_); rintro e w' ⟨rfl, ⟨nd, rfl⟩⟩; (try first | exact ⟨rfl, _, World.drewN_drewN _ _ _⟩ | exact ⟨rfl, _, Eq.trans (World.drewN_drewN _ _ _) (congrArg (World.drewN _) (Nat.add_assoc _ _ _))⟩))); try go_wp2_with (first | (go_at_call 56; (with_reducible refine (spec_l1In.calls i 0 m true _ B0.out).mono ?_); rintro e w' ⟨rfl, ⟨nd, rfl⟩⟩; (try first | exact ⟨rfl, _, World.drewN_drewN _ _ _⟩ | exact ⟨rfl, _, Eq.trans (World.drewN_drewN _ _ _) (congrArg (World.drewN _) (Nat.add_assoc _ _ _))⟩)) | (go_at_call 56; (with_reducible refine (spec_l1In.calls j1 0 m true _ B1.out).mono ?_); rintro e w' ⟨rfl, ⟨nd, rfl⟩⟩; (try first | exact ⟨rfl, _, World.drewN_drewN _ _ _⟩ | exact ⟨rfl, _, Eq.trans (World.drewN_drewN _ _ _) (congrArg (World.drewN _) (Nat.add_assoc _ _ _))⟩)) | (go_at_call 56; (with_reducible refine (spec_l1In.calls j2 0 m true _ B2.out).mono ?_); rintro e w' ⟨rfl, ⟨nd, rfl⟩⟩; (try first | exact ⟨rfl, _, World.drewN_drewN _ _ _⟩ | exact ⟨rfl, _, Eq.trans (World.drewN_drewN _ _ _) (congrArg (World.drewN _) (Nat.add_assoc _ _ _))⟩))))
  go_ret
  exact ⟨by first | rfl | (simp; done) | (simp [*]; done), by repeat (first | exact Drawn0.refl _ | apply Drawn0.step)⟩
set_option maxHeartbeats 8000000 in
set_option maxRecDepth 100000 in
theorem spec_fgTo.wl1110 (s : ByteArray) (i j1 j2 m : Int) (w : World) (hm : wrap64 ((s.size : Int) - 1) = m) (A0 : spec_l1In.f i 0 m = some true) (p0 : 0 ≤ i) (q0 : i < (s.size : Int)) (e46 : (bt s i == 46) = false) (e108 : (bt s i == 108) = true) (h0 : wrap64 (i + -1) = j1) (h1 : wrap64 (i + -2) = j2) (h2 : wrap64 (i - 1) = j1) (h3 : wrap64 (i - 2) = j2) (A1 : spec_l1In.f j1 0 m = some true) (p1 : 0 ≤ j1) (q1 : j1 < (s.size : Int)) (ea : (bt s j1 == 46) = false) (A2 : spec_l1In.f j2 0 m = some true) (p2 : 0 ≤ j2) (q2 : j2 < (s.size : Int)) (eb : (bt s j2 == 46) = true) (ec : (bt s j1 == bt s i) = true) :
    Calls Tryd.prog 58 #[.string s, .int .i64 i] w fun e w' => e = .returned (.int .i64 (-1)) ∧ Drawn0 w w' := by
  have hmw : IntKind.i64.wrap ((s.size : Int) - 1) = m := (i64_w _).trans hm
  have B0 := Aside0.mk A0
  clear A0
  have x0 := bt_at s i
  replace p0 := eq_true p0
  replace q0 := eq_true q0
  have n46 : (bt s i != 46) = true := by unfold bne; rw [e46]; rfl
  have n108 : (bt s i != 108) = false := by unfold bne; rw [e108]; rfl
  have h0w : IntKind.i64.wrap (i + -1) = j1 := (i64_w _).trans h0
  have h1w : IntKind.i64.wrap (i + -2) = j2 := (i64_w _).trans h1
  have h2w : IntKind.i64.wrap (i - 1) = j1 := (i64_w _).trans h2
  have h3w : IntKind.i64.wrap (i - 2) = j2 := (i64_w _).trans h3
  have B1 := Aside0.mk A1
  clear A1
  have x1 := bt_at s j1
  replace p1 := eq_true p1
  replace q1 := eq_true q1
  have na : (bt s j1 != 46) = true := by unfold bne; rw [ea]; rfl
  have B2 := Aside0.mk A2
  clear A2
  have x2 := bt_at s j2
  replace p2 := eq_true p2
  replace q2 := eq_true q2
  have nb : (bt s j2 != 46) = false := by unfold bne; rw [eb]; rfl
  have nc : (bt s j1 != bt s i) = false := by unfold bne; rw [ec]; rfl
  go_enter Tryd.func58, Tryd.ntmps58
  go_wp2_with (first | (go_at_call 56; (with_reducible refine (spec_l1In.calls i 0 m true _ B0.out).mono ?_); rintro e w' ⟨rfl, ⟨nd, rfl⟩⟩; (try first | exact ⟨rfl, _, World.drewN_drewN _ _ _⟩ | exact ⟨rfl, _, Eq.trans (World.drewN_drewN _ _ _) (congrArg (World.drewN _) (Nat.add_assoc _ _ _))⟩)) | (go_at_call 56; (with_reducible refine (spec_l1In.calls j1 0 m true _ B1.out).mono ?_); rintro e w' ⟨rfl, ⟨nd, rfl⟩⟩; (try first | exact ⟨rfl, _, World.drewN_drewN _ _ _⟩ | exact ⟨rfl, _, Eq.trans (World.drewN_drewN _ _ _) (congrArg (World.drewN _) (Nat.add_assoc _ _ _))⟩)) | (go_at_call 56; (with_reducible refine (spec_l1In.calls j2 0 m true _ B2.out).mono ?_); rintro e w' ⟨rfl, ⟨nd, rfl⟩⟩; (try first | exact ⟨rfl, _, World.drewN_drewN _ _ _⟩ | exact ⟨rfl, _, Eq.trans (World.drewN_drewN _ _ _) (congrArg (World.drewN _) (Nat.add_assoc _ _ _))⟩)))
  repeat (go_quiet (first | (go_at_call 56; (with_reducible refine (spec_l1In.calls i 0 m true _ B0.out).mono ?_); rintro e w' ⟨rfl, ⟨nd, rfl⟩⟩; (try first | exact ⟨rfl, _, World.drewN_drewN _ _ _⟩ | exact ⟨rfl, _, Eq.trans (World.drewN_drewN _ _ _) (congrArg (World.drewN _) (Nat.add_assoc _ _ _))⟩)) | (go_at_call 56; (with_reducible refine (spec_l1In.calls j1 0 m true _ B1.out).mono ?_); rintro e w' ⟨rfl, ⟨nd, rfl⟩⟩; (try first | exact ⟨rfl, _, World.drewN_drewN _ _ _⟩ | exact ⟨rfl, _, Eq.trans (World.drewN_drewN _ _ _) (congrArg (World.drewN _) (Nat.add_assoc _ _ _))⟩)) | (go_at_call 56; (with_reducible refine (spec_l1In.calls j2 0 m true _ B2.out).mono ?_); rintro e w' ⟨rfl, ⟨nd, rfl⟩⟩; (try first | exact ⟨rfl, _, World.drewN_drewN _ _ _⟩ | exact ⟨rfl, _, Eq.trans (World.drewN_drewN _ _ _) (congrArg (World.drewN _) (Nat.add_assoc _ _ _))⟩))); try go_wp2_with (first | (go_at_call 56; (with_reducible refine (spec_l1In.calls i 0 m true _ B0.out).mono ?_); rintro e w' ⟨rfl, ⟨nd, rfl⟩⟩; (try first | exact ⟨rfl, _, World.drewN_drewN _ _ _⟩ | exact ⟨rfl, _, Eq.trans (World.drewN_drewN _ _ _) (congrArg (World.drewN _) (Nat.add_assoc _ _ _))⟩)) | (go_at_call 56; (with_reducible refine (spec_l1In.calls j1 0 m true _ B1.out).mono ?_); rintro e w' ⟨rfl, ⟨nd, rfl⟩⟩; (try first | exact ⟨rfl, _, World.drewN_drewN _ _ _⟩ | exact ⟨rfl, _, Eq.trans (World.drewN_drewN _ _ _) (congrArg (World.drewN _) (Nat.add_assoc _ _ _))⟩)) | (go_at_call 56; (with_reducible refine (spec_l1In.calls j2 0 m true _ B2.out).mono ?_); rintro e w' ⟨rfl, ⟨nd, rfl⟩⟩; (try first | exact ⟨rfl, _, World.drewN_drewN _ _ _⟩ | exact ⟨rfl, _, Eq.trans (World.drewN_drewN _ _ _) (congrArg (World.drewN _) (Nat.add_assoc _ _ _))⟩))))
  go_ret
  exact ⟨by first | rfl | (simp; done) | (simp [*]; done), by repeat (first | exact Drawn0.refl _ | apply Drawn0.step)⟩
set_option maxHeartbeats 8000000 in
set_option maxRecDepth 100000 in
theorem spec_fgTo.wl1111 (s : ByteArray) (i j1 j2 m : Int) (w : World) (hm : wrap64 ((s.size : Int) - 1) = m) (A0 : spec_l1In.f i 0 m = some true) (p0 : 0 ≤ i) (q0 : i < (s.size : Int)) (e46 : (bt s i == 46) = false) (e108 : (bt s i == 108) = true) (h0 : wrap64 (i + -1) = j1) (h1 : wrap64 (i + -2) = j2) (h2 : wrap64 (i - 1) = j1) (h3 : wrap64 (i - 2) = j2) (A1 : spec_l1In.f j1 0 m = some true) (p1 : 0 ≤ j1) (q1 : j1 < (s.size : Int)) (ea : (bt s j1 == 46) = false) (A2 : spec_l1In.f j2 0 m = some true) (p2 : 0 ≤ j2) (q2 : j2 < (s.size : Int)) (eb : (bt s j2 == 46) = true) (ec : (bt s j1 == bt s i) = false) :
    Calls Tryd.prog 58 #[.string s, .int .i64 i] w fun e w' => e = .returned (.int .i64 j2) ∧ Drawn0 w w' := by
  have hmw : IntKind.i64.wrap ((s.size : Int) - 1) = m := (i64_w _).trans hm
  have B0 := Aside0.mk A0
  clear A0
  have x0 := bt_at s i
  replace p0 := eq_true p0
  replace q0 := eq_true q0
  have n46 : (bt s i != 46) = true := by unfold bne; rw [e46]; rfl
  have n108 : (bt s i != 108) = false := by unfold bne; rw [e108]; rfl
  have h0w : IntKind.i64.wrap (i + -1) = j1 := (i64_w _).trans h0
  have h1w : IntKind.i64.wrap (i + -2) = j2 := (i64_w _).trans h1
  have h2w : IntKind.i64.wrap (i - 1) = j1 := (i64_w _).trans h2
  have h3w : IntKind.i64.wrap (i - 2) = j2 := (i64_w _).trans h3
  have B1 := Aside0.mk A1
  clear A1
  have x1 := bt_at s j1
  replace p1 := eq_true p1
  replace q1 := eq_true q1
  have na : (bt s j1 != 46) = true := by unfold bne; rw [ea]; rfl
  have B2 := Aside0.mk A2
  clear A2
  have x2 := bt_at s j2
  replace p2 := eq_true p2
  replace q2 := eq_true q2
  have nb : (bt s j2 != 46) = false := by unfold bne; rw [eb]; rfl
  have nc : (bt s j1 != bt s i) = true := by unfold bne; rw [ec]; rfl
  go_enter Tryd.func58, Tryd.ntmps58
  go_wp2_with (first | (go_at_call 56; (with_reducible refine (spec_l1In.calls i 0 m true _ B0.out).mono ?_); rintro e w' ⟨rfl, ⟨nd, rfl⟩⟩; (try first | exact ⟨rfl, _, World.drewN_drewN _ _ _⟩ | exact ⟨rfl, _, Eq.trans (World.drewN_drewN _ _ _) (congrArg (World.drewN _) (Nat.add_assoc _ _ _))⟩)) | (go_at_call 56; (with_reducible refine (spec_l1In.calls j1 0 m true _ B1.out).mono ?_); rintro e w' ⟨rfl, ⟨nd, rfl⟩⟩; (try first | exact ⟨rfl, _, World.drewN_drewN _ _ _⟩ | exact ⟨rfl, _, Eq.trans (World.drewN_drewN _ _ _) (congrArg (World.drewN _) (Nat.add_assoc _ _ _))⟩)) | (go_at_call 56; (with_reducible refine (spec_l1In.calls j2 0 m true _ B2.out).mono ?_); rintro e w' ⟨rfl, ⟨nd, rfl⟩⟩; (try first | exact ⟨rfl, _, World.drewN_drewN _ _ _⟩ | exact ⟨rfl, _, Eq.trans (World.drewN_drewN _ _ _) (congrArg (World.drewN _) (Nat.add_assoc _ _ _))⟩)))
  repeat (go_quiet (first | (go_at_call 56; (with_reducible refine (spec_l1In.calls i 0 m true _ B0.out).mono ?_); rintro e w' ⟨rfl, ⟨nd, rfl⟩⟩; (try first | exact ⟨rfl, _, World.drewN_drewN _ _ _⟩ | exact ⟨rfl, _, Eq.trans (World.drewN_drewN _ _ _) (congrArg (World.drewN _) (Nat.add_assoc _ _ _))⟩)) | (go_at_call 56; (with_reducible refine (spec_l1In.calls j1 0 m true _ B1.out).mono ?_); rintro e w' ⟨rfl, ⟨nd, rfl⟩⟩; (try first | exact ⟨rfl, _, World.drewN_drewN _ _ _⟩ | exact ⟨rfl, _, Eq.trans (World.drewN_drewN _ _ _) (congrArg (World.drewN _) (Nat.add_assoc _ _ _))⟩)) | (go_at_call 56; (with_reducible refine (spec_l1In.calls j2 0 m true _ B2.out).mono ?_); rintro e w' ⟨rfl, ⟨nd, rfl⟩⟩; (try first | exact ⟨rfl, _, World.drewN_drewN _ _ _⟩ | exact ⟨rfl, _, Eq.trans (World.drewN_drewN _ _ _) (congrArg (World.drewN _) (Nat.add_assoc _ _ _))⟩))); try go_wp2_with (first | (go_at_call 56; (with_reducible refine (spec_l1In.calls i 0 m true _ B0.out).mono ?_); rintro e w' ⟨rfl, ⟨nd, rfl⟩⟩; (try first | exact ⟨rfl, _, World.drewN_drewN _ _ _⟩ | exact ⟨rfl, _, Eq.trans (World.drewN_drewN _ _ _) (congrArg (World.drewN _) (Nat.add_assoc _ _ _))⟩)) | (go_at_call 56; (with_reducible refine (spec_l1In.calls j1 0 m true _ B1.out).mono ?_); rintro e w' ⟨rfl, ⟨nd, rfl⟩⟩; (try first | exact ⟨rfl, _, World.drewN_drewN _ _ _⟩ | exact ⟨rfl, _, Eq.trans (World.drewN_drewN _ _ _) (congrArg (World.drewN _) (Nat.add_assoc _ _ _))⟩)) | (go_at_call 56; (with_reducible refine (spec_l1In.calls j2 0 m true _ B2.out).mono ?_); rintro e w' ⟨rfl, ⟨nd, rfl⟩⟩; (try first | exact ⟨rfl, _, World.drewN_drewN _ _ _⟩ | exact ⟨rfl, _, Eq.trans (World.drewN_drewN _ _ _) (congrArg (World.drewN _) (Nat.add_assoc _ _ _))⟩))))
  go_ret
  exact ⟨by first | rfl | (simp; done) | (simp [*]; done), by repeat (first | exact Drawn0.refl _ | apply Drawn0.step)⟩
set_option maxHeartbeats 8000000 in
set_option maxRecDepth 100000 in
theorem spec_fgTo.wl0000 (s : ByteArray) (i j1 j2 m : Int) (w : World) (hm : wrap64 ((s.size : Int) - 1) = m) (A0 : spec_l1In.f i 0 m = some true) (p0 : 0 ≤ i) (q0 : i < (s.size : Int)) (e46 : (bt s i == 46) = false) (e108 : (bt s i == 108) = true) (h0 : wrap64 (i + -1) = j1) (h1 : wrap64 (i + -2) = j2) (h2 : wrap64 (i - 1) = j1) (h3 : wrap64 (i - 2) = j2) (A1 : spec_l1In.f j1 0 m = some false) (A2 : spec_l1In.f j2 0 m = some false) :
    Calls Tryd.prog 58 #[.string s, .int .i64 i] w fun e w' => e = .returned (.int .i64 (-1)) ∧ Drawn0 w w' := by
  have hmw : IntKind.i64.wrap ((s.size : Int) - 1) = m := (i64_w _).trans hm
  have B0 := Aside0.mk A0
  clear A0
  have x0 := bt_at s i
  replace p0 := eq_true p0
  replace q0 := eq_true q0
  have n46 : (bt s i != 46) = true := by unfold bne; rw [e46]; rfl
  have n108 : (bt s i != 108) = false := by unfold bne; rw [e108]; rfl
  have h0w : IntKind.i64.wrap (i + -1) = j1 := (i64_w _).trans h0
  have h1w : IntKind.i64.wrap (i + -2) = j2 := (i64_w _).trans h1
  have h2w : IntKind.i64.wrap (i - 1) = j1 := (i64_w _).trans h2
  have h3w : IntKind.i64.wrap (i - 2) = j2 := (i64_w _).trans h3
  have B1 := Aside0.mk A1
  clear A1
  have B2 := Aside0.mk A2
  clear A2
  go_enter Tryd.func58, Tryd.ntmps58
  go_wp2_with (first | (go_at_call 56; (with_reducible refine (spec_l1In.calls i 0 m true _ B0.out).mono ?_); rintro e w' ⟨rfl, ⟨nd, rfl⟩⟩; (try first | exact ⟨rfl, _, World.drewN_drewN _ _ _⟩ | exact ⟨rfl, _, Eq.trans (World.drewN_drewN _ _ _) (congrArg (World.drewN _) (Nat.add_assoc _ _ _))⟩)) | (go_at_call 56; (with_reducible refine (spec_l1In.calls j1 0 m false _ B1.out).mono ?_); rintro e w' ⟨rfl, ⟨nd, rfl⟩⟩; (try first | exact ⟨rfl, _, World.drewN_drewN _ _ _⟩ | exact ⟨rfl, _, Eq.trans (World.drewN_drewN _ _ _) (congrArg (World.drewN _) (Nat.add_assoc _ _ _))⟩)) | (go_at_call 56; (with_reducible refine (spec_l1In.calls j2 0 m false _ B2.out).mono ?_); rintro e w' ⟨rfl, ⟨nd, rfl⟩⟩; (try first | exact ⟨rfl, _, World.drewN_drewN _ _ _⟩ | exact ⟨rfl, _, Eq.trans (World.drewN_drewN _ _ _) (congrArg (World.drewN _) (Nat.add_assoc _ _ _))⟩)))
  repeat (go_quiet (first | (go_at_call 56; (with_reducible refine (spec_l1In.calls i 0 m true _ B0.out).mono ?_); rintro e w' ⟨rfl, ⟨nd, rfl⟩⟩; (try first | exact ⟨rfl, _, World.drewN_drewN _ _ _⟩ | exact ⟨rfl, _, Eq.trans (World.drewN_drewN _ _ _) (congrArg (World.drewN _) (Nat.add_assoc _ _ _))⟩)) | (go_at_call 56; (with_reducible refine (spec_l1In.calls j1 0 m false _ B1.out).mono ?_); rintro e w' ⟨rfl, ⟨nd, rfl⟩⟩; (try first | exact ⟨rfl, _, World.drewN_drewN _ _ _⟩ | exact ⟨rfl, _, Eq.trans (World.drewN_drewN _ _ _) (congrArg (World.drewN _) (Nat.add_assoc _ _ _))⟩)) | (go_at_call 56; (with_reducible refine (spec_l1In.calls j2 0 m false _ B2.out).mono ?_); rintro e w' ⟨rfl, ⟨nd, rfl⟩⟩; (try first | exact ⟨rfl, _, World.drewN_drewN _ _ _⟩ | exact ⟨rfl, _, Eq.trans (World.drewN_drewN _ _ _) (congrArg (World.drewN _) (Nat.add_assoc _ _ _))⟩))); try go_wp2_with (first | (go_at_call 56; (with_reducible refine (spec_l1In.calls i 0 m true _ B0.out).mono ?_); rintro e w' ⟨rfl, ⟨nd, rfl⟩⟩; (try first | exact ⟨rfl, _, World.drewN_drewN _ _ _⟩ | exact ⟨rfl, _, Eq.trans (World.drewN_drewN _ _ _) (congrArg (World.drewN _) (Nat.add_assoc _ _ _))⟩)) | (go_at_call 56; (with_reducible refine (spec_l1In.calls j1 0 m false _ B1.out).mono ?_); rintro e w' ⟨rfl, ⟨nd, rfl⟩⟩; (try first | exact ⟨rfl, _, World.drewN_drewN _ _ _⟩ | exact ⟨rfl, _, Eq.trans (World.drewN_drewN _ _ _) (congrArg (World.drewN _) (Nat.add_assoc _ _ _))⟩)) | (go_at_call 56; (with_reducible refine (spec_l1In.calls j2 0 m false _ B2.out).mono ?_); rintro e w' ⟨rfl, ⟨nd, rfl⟩⟩; (try first | exact ⟨rfl, _, World.drewN_drewN _ _ _⟩ | exact ⟨rfl, _, Eq.trans (World.drewN_drewN _ _ _) (congrArg (World.drewN _) (Nat.add_assoc _ _ _))⟩))))
  go_ret
  exact ⟨by first | rfl | (simp; done) | (simp [*]; done), by repeat (first | exact Drawn0.refl _ | apply Drawn0.step)⟩
def spec_fgTo.f (a0 : ByteArray) (a1 : Int) : Option (Int) := if a0.size ≤ 1000 then (some (frogTo a0 a1)) else none
theorem spec_fgTo.in1 {x m : Int} (h : 0 ≤ x ∧ x ≤ m) : spec_l1In.f x 0 m = some true := by
  unfold spec_l1In.f; rw [if_pos (by omega)]; congr 1; exact decide_eq_true h.2
theorem spec_fgTo.in0 {x m : Int} (h : ¬ (0 ≤ x ∧ x ≤ m)) : spec_l1In.f x 0 m = some false := by
  unfold spec_l1In.f
  by_cases c : x ≥ 0
  · rw [if_pos c]; congr 1; exact decide_eq_false (by omega)
  · rw [if_neg c]
theorem spec_fgTo.bq {x y : Int} (h : x = y) : (x == y) = true := beq_iff_eq.mpr h
theorem spec_fgTo.bn {x y : Int} (h : ¬ x = y) : (x == y) = false := beq_eq_false_iff_ne.mpr h
theorem spec_fgTo.wr {x y : Int} (h : x = y) (h0 : -9223372036854775808 ≤ x) (h1 : x < 9223372036854775808) : wrap64 x = y := by unfold wrap64; omega
theorem spec_fgTo.calls (a0 : ByteArray) (a1 : Int) (r : Int) (w : World) (h : spec_fgTo.f a0 a1 = some r) :
    Calls Tryd.prog 58 #[.string a0, .int .i64 a1] w fun e w' => e = .returned (.int .i64 r) ∧ Drawn0 w w' := by
  unfold spec_fgTo.f at h
  by_cases hd : a0.size ≤ 1000
  case neg => rw [if_neg hd] at h; cases h
  rw [if_pos hd] at h
  have hr := Option.some.inj h
  clear h
  subst hr
  have hm : wrap64 ((a0.size : Int) - 1) = (a0.size : Int) - 1 := by unfold wrap64; omega
  by_cases h0 : 0 ≤ a1 ∧ a1 < (a0.size : Int)
  case neg =>
    have e : frogTo a0 a1 = -1 := by unfold frogTo; rw [if_neg (fun c => h0 c.1)]
    rw [e]
    exact spec_fgTo.wout a0 a1 0 0 _ w hm (spec_fgTo.in0 (by omega))
  have A0 : spec_l1In.f a1 0 ((a0.size : Int) - 1) = some true := spec_fgTo.in1 (by omega)
  by_cases h46 : bt a0 a1 = 46
  case pos =>
    have e : frogTo a0 a1 = -1 := by unfold frogTo; rw [if_neg (fun c => c.2 h46)]
    rw [e]
    exact spec_fgTo.wdot a0 a1 0 0 _ w hm A0 h0.1 h0.2 (spec_fgTo.bq h46)
  by_cases h108 : bt a0 a1 = 108
  case pos =>
    have e : frogTo a0 a1 = if (0 ≤ a1 + -1 ∧ a1 + -1 < (a0.size : Int)) ∧ bt a0 (a1 + -1) = 46 then a1 + -1 else if ((0 ≤ a1 + -2 ∧ a1 + -2 < (a0.size : Int)) ∧ bt a0 (a1 + -2) = 46) ∧ ¬ bt a0 (a1 + -1) = bt a0 a1 then a1 + -2 else -1 := by
      unfold frogTo; rw [if_pos ⟨h0, h46⟩]; simp only [if_pos h108]; rfl
    rw [e]
    by_cases c1 : 0 ≤ a1 + -1 ∧ a1 + -1 < (a0.size : Int)
    · by_cases c2 : bt a0 (a1 + -1) = 46
      · rw [if_pos ⟨c1, c2⟩]
        exact spec_fgTo.wl1 a0 a1 (a1 + -1) (a1 + -2) _ w hm A0 h0.1 h0.2 (spec_fgTo.bn h46) (spec_fgTo.bq h108) (spec_fgTo.wr (by omega) (by omega) (by omega)) (spec_fgTo.wr (by omega) (by omega) (by omega)) (spec_fgTo.wr (by omega) (by omega) (by omega)) (spec_fgTo.wr (by omega) (by omega) (by omega)) (spec_fgTo.in1 (by omega)) c1.1 c1.2 (spec_fgTo.bq c2)
      · rw [if_neg (fun c => c2 c.2)]
        by_cases c3 : 0 ≤ a1 + -2 ∧ a1 + -2 < (a0.size : Int)
        · by_cases c4 : bt a0 (a1 + -2) = 46
          · by_cases c5 : bt a0 (a1 + -1) = bt a0 a1
            · rw [if_neg (fun c => c.2 c5)]
              exact spec_fgTo.wl1110 a0 a1 (a1 + -1) (a1 + -2) _ w hm A0 h0.1 h0.2 (spec_fgTo.bn h46) (spec_fgTo.bq h108) (spec_fgTo.wr (by omega) (by omega) (by omega)) (spec_fgTo.wr (by omega) (by omega) (by omega)) (spec_fgTo.wr (by omega) (by omega) (by omega)) (spec_fgTo.wr (by omega) (by omega) (by omega)) (spec_fgTo.in1 (by omega)) c1.1 c1.2 (spec_fgTo.bn c2) (spec_fgTo.in1 (by omega)) c3.1 c3.2 (spec_fgTo.bq c4) (spec_fgTo.bq c5)
            · rw [if_pos ⟨⟨c3, c4⟩, c5⟩]
              exact spec_fgTo.wl1111 a0 a1 (a1 + -1) (a1 + -2) _ w hm A0 h0.1 h0.2 (spec_fgTo.bn h46) (spec_fgTo.bq h108) (spec_fgTo.wr (by omega) (by omega) (by omega)) (spec_fgTo.wr (by omega) (by omega) (by omega)) (spec_fgTo.wr (by omega) (by omega) (by omega)) (spec_fgTo.wr (by omega) (by omega) (by omega)) (spec_fgTo.in1 (by omega)) c1.1 c1.2 (spec_fgTo.bn c2) (spec_fgTo.in1 (by omega)) c3.1 c3.2 (spec_fgTo.bq c4) (spec_fgTo.bn c5)
          · rw [if_neg (fun c => c4 c.1.2)]
            exact spec_fgTo.wl1100 a0 a1 (a1 + -1) (a1 + -2) _ w hm A0 h0.1 h0.2 (spec_fgTo.bn h46) (spec_fgTo.bq h108) (spec_fgTo.wr (by omega) (by omega) (by omega)) (spec_fgTo.wr (by omega) (by omega) (by omega)) (spec_fgTo.wr (by omega) (by omega) (by omega)) (spec_fgTo.wr (by omega) (by omega) (by omega)) (spec_fgTo.in1 (by omega)) c1.1 c1.2 (spec_fgTo.bn c2) (spec_fgTo.in1 (by omega)) c3.1 c3.2 (spec_fgTo.bn c4)
        · rw [if_neg (fun c => c3 c.1.1)]
          exact spec_fgTo.wl1000 a0 a1 (a1 + -1) (a1 + -2) _ w hm A0 h0.1 h0.2 (spec_fgTo.bn h46) (spec_fgTo.bq h108) (spec_fgTo.wr (by omega) (by omega) (by omega)) (spec_fgTo.wr (by omega) (by omega) (by omega)) (spec_fgTo.wr (by omega) (by omega) (by omega)) (spec_fgTo.wr (by omega) (by omega) (by omega)) (spec_fgTo.in1 (by omega)) c1.1 c1.2 (spec_fgTo.bn c2) (spec_fgTo.in0 (by omega))
    · rw [if_neg (fun c => c1 c.1), if_neg (fun c => c1 (by omega))]
      exact spec_fgTo.wl0000 a0 a1 (a1 + -1) (a1 + -2) _ w hm A0 h0.1 h0.2 (spec_fgTo.bn h46) (spec_fgTo.bq h108) (spec_fgTo.wr (by omega) (by omega) (by omega)) (spec_fgTo.wr (by omega) (by omega) (by omega)) (spec_fgTo.wr (by omega) (by omega) (by omega)) (spec_fgTo.wr (by omega) (by omega) (by omega)) (spec_fgTo.in0 (by omega)) (spec_fgTo.in0 (by omega))
  case neg =>
    have e : frogTo a0 a1 = if (0 ≤ a1 + 1 ∧ a1 + 1 < (a0.size : Int)) ∧ bt a0 (a1 + 1) = 46 then a1 + 1 else if ((0 ≤ a1 + 2 ∧ a1 + 2 < (a0.size : Int)) ∧ bt a0 (a1 + 2) = 46) ∧ ¬ bt a0 (a1 + 1) = bt a0 a1 then a1 + 2 else -1 := by
      unfold frogTo; rw [if_pos ⟨h0, h46⟩]; simp only [if_neg h108]; rfl
    rw [e]
    by_cases c1 : 0 ≤ a1 + 1 ∧ a1 + 1 < (a0.size : Int)
    · by_cases c2 : bt a0 (a1 + 1) = 46
      · rw [if_pos ⟨c1, c2⟩]
        exact spec_fgTo.wr1 a0 a1 (a1 + 1) (a1 + 2) _ w hm A0 h0.1 h0.2 (spec_fgTo.bn h46) (spec_fgTo.bn h108) (spec_fgTo.wr (by omega) (by omega) (by omega)) (spec_fgTo.wr (by omega) (by omega) (by omega)) (spec_fgTo.in1 (by omega)) c1.1 c1.2 (spec_fgTo.bq c2)
      · rw [if_neg (fun c => c2 c.2)]
        by_cases c3 : 0 ≤ a1 + 2 ∧ a1 + 2 < (a0.size : Int)
        · by_cases c4 : bt a0 (a1 + 2) = 46
          · by_cases c5 : bt a0 (a1 + 1) = bt a0 a1
            · rw [if_neg (fun c => c.2 c5)]
              exact spec_fgTo.wr1110 a0 a1 (a1 + 1) (a1 + 2) _ w hm A0 h0.1 h0.2 (spec_fgTo.bn h46) (spec_fgTo.bn h108) (spec_fgTo.wr (by omega) (by omega) (by omega)) (spec_fgTo.wr (by omega) (by omega) (by omega)) (spec_fgTo.in1 (by omega)) c1.1 c1.2 (spec_fgTo.bn c2) (spec_fgTo.in1 (by omega)) c3.1 c3.2 (spec_fgTo.bq c4) (spec_fgTo.bq c5)
            · rw [if_pos ⟨⟨c3, c4⟩, c5⟩]
              exact spec_fgTo.wr1111 a0 a1 (a1 + 1) (a1 + 2) _ w hm A0 h0.1 h0.2 (spec_fgTo.bn h46) (spec_fgTo.bn h108) (spec_fgTo.wr (by omega) (by omega) (by omega)) (spec_fgTo.wr (by omega) (by omega) (by omega)) (spec_fgTo.in1 (by omega)) c1.1 c1.2 (spec_fgTo.bn c2) (spec_fgTo.in1 (by omega)) c3.1 c3.2 (spec_fgTo.bq c4) (spec_fgTo.bn c5)
          · rw [if_neg (fun c => c4 c.1.2)]
            exact spec_fgTo.wr1100 a0 a1 (a1 + 1) (a1 + 2) _ w hm A0 h0.1 h0.2 (spec_fgTo.bn h46) (spec_fgTo.bn h108) (spec_fgTo.wr (by omega) (by omega) (by omega)) (spec_fgTo.wr (by omega) (by omega) (by omega)) (spec_fgTo.in1 (by omega)) c1.1 c1.2 (spec_fgTo.bn c2) (spec_fgTo.in1 (by omega)) c3.1 c3.2 (spec_fgTo.bn c4)
        · rw [if_neg (fun c => c3 c.1.1)]
          exact spec_fgTo.wr1000 a0 a1 (a1 + 1) (a1 + 2) _ w hm A0 h0.1 h0.2 (spec_fgTo.bn h46) (spec_fgTo.bn h108) (spec_fgTo.wr (by omega) (by omega) (by omega)) (spec_fgTo.wr (by omega) (by omega) (by omega)) (spec_fgTo.in1 (by omega)) c1.1 c1.2 (spec_fgTo.bn c2) (spec_fgTo.in0 (by omega))
    · rw [if_neg (fun c => c1 c.1), if_neg (fun c => c1 (by omega))]
      exact spec_fgTo.wr0000 a0 a1 (a1 + 1) (a1 + 2) _ w hm A0 h0.1 h0.2 (spec_fgTo.bn h46) (spec_fgTo.bn h108) (spec_fgTo.wr (by omega) (by omega) (by omega)) (spec_fgTo.wr (by omega) (by omega) (by omega)) (spec_fgTo.in0 (by omega)) (spec_fgTo.in0 (by omega))

/-! ### spec_fgMoves: function 35 -/
--USES helper_iter
def spec_fgMoves.l0 : Nat → ByteArray → List Int → Nat → Option (List Int)
  | 0, _, _, _ => none
  | k + 1, s, acc, i => if i < s.size then ((spec_fgTo.f s (i : Int)).bind fun t => (if t ≥ 0 then (if acc.length < 1000 then (spec_fgMoves.l0 k s (acc ++ [(i : Int)]) (i + 1)) else (none)) else (spec_fgMoves.l0 k s acc (i + 1)))) else (some acc)
def spec_fgMoves.f (a0 : ByteArray) : Option (List Int) := if a0.size ≤ 1000 ∧ asciiB a0 = true then (spec_fgMoves.l0 (a0.size + 1) a0 [] 0) else none
theorem spec_fgMoves.kept {W w1 : World} {nd : Nat} {row : Option Nat} {g : Nat} {o : Obj} (hg : (W.drewN nd).grownBy w1 row) (h1 : g < W.heap.size) (h2 : ¬ row = some g) (h : W.heap[g]? = some o) : w1.heap[g]? = some o := by
  have h3 := hg.block g (by simpa using h1) (fun e => h2 e.symm)
  rw [h3]; simpa using h
theorem info_int : (Tryd.prog.info? 3).map (fun i => (i.zero, i.size, i.bytes)) = some (some (.int .i64 0), 1, 8) := by kernel_rfl
set_option maxHeartbeats 8000000 in
set_option maxRecDepth 100000 in
theorem spec_fgMoves.calls (a0 : ByteArray) (r : List Int) (w : World) (h : spec_fgMoves.f a0 = some r) :
    Calls Tryd.prog 35 #[.string a0] w fun e w' => ∃ v0_ : Value, e = .returned (v0_) ∧ Kd.R (Kd.int .i64) 3 w' w.heap.size (fun _ => True) v0_ r ∧ Below w.heap.size w w' := by
  unfold spec_fgMoves.f at h
  by_cases c : a0.size ≤ 1000 ∧ asciiB a0 = true
  case neg => rw [if_neg c] at h; cases h
  rw [if_pos c] at h
  have H' := Aside0.mk h
  have HC := Aside0.mk c
  clear h c
  obtain ⟨K, hK⟩ : ∃ K, K = a0.size + 1 := ⟨_, rfl⟩
  rw [← hK] at H'
  have HK := Aside0.mk hK
  clear hK
  go_enter Tryd.func35, Tryd.ntmps35
  go_wp2
  go_loopg [3] K (fun kq v3 w' => ∃ (acc : List Int) (pos : Nat), Aside0 (spec_fgMoves.l0 kq a0 acc pos = some r) ∧ Aside0 (kq ≤ K) ∧ Aside0 (Kd.R (Kd.int .i64) 3 w' w.heap.size (fun k => k ≠ w.heap.size) v3 acc) ∧ Aside0 (Below w.heap.size w w') ∧ Aside0 (w'.heap[w.heap.size]? = some (.stringIter a0 pos)))
  case atStart => exact ⟨[], 0, H', ⟨Nat.le_refl _⟩, ⟨Kd.R_nil _ _ _ _ _⟩, ⟨below_alloc (Below.refl _ _) _⟩, ⟨World.iter_heap w a0 0⟩⟩
  case round =>
    clear H'
    obtain ⟨acc, pos, HA, HK1, HO, HB, HI⟩ := hrel
    cases gk with
    | zero => exact absurd HA.out (by simp [spec_fgMoves.l0])
    | succ k1 =>
      have H := HA.out
      clear HA
      simp only [spec_fgMoves.l0] at H
      by_cases c2 : pos < a0.size
      · rw [if_pos c2] at H
        obtain ⟨t, ht, H⟩ := Option.bind_eq_some_iff.mp H
        replace H : (if t ≥ 0 then (if acc.length < 1000 then (spec_fgMoves.l0 k1 a0 (acc ++ [(pos : Int)]) (pos + 1)) else (none)) else (spec_fgMoves.l0 k1 a0 acc (pos + 1))) = some r := H
        have A5 := Aside0.mk ht
        clear ht
        obtain ⟨W2, hnx0, hI2, hoth, hsz, hos, htp, hout⟩ := iter_next (P := Tryd.prog) wr w.heap.size a0 pos HI.out c2 (asciiB_at HC.out.2 pos c2)
        have hB2 : Below w.heap.size w W2 := by
          have hb := HB.out
          exact ⟨hos.trans hb.os, htp.trans hb.tape, hout.trans hb.output, by rw [hsz]; exact hb.size, fun k hk => (hoth k (by omega)).trans (hb.block k hk)⟩
        have hO2 := Kd.R_move HO.out (fun k hk => hoth k hk)
        have hg2 : w.heap.size < W2.heap.size := (Array.getElem?_eq_some_iff.1 hI2).1
        clear HI HO HB hoth hsz hos htp hout
        have hnx := fun ty => hnx0 ty
        clear hnx0
        have HO := Aside0.mk hO2
        have HB := Aside0.mk hB2
        have HI := Aside0.mk hI2
        have HG := Aside0.mk hg2
        clear hO2 hB2 hI2 hg2
        by_cases ct : t ≥ 0
        · rw [if_pos ct] at H
          by_cases cl : acc.length < 1000
          · rw [if_pos cl] at H
            have LM := Aside0.mk cl
            have H' := Aside0.mk H
            have ctb : decide (0 ≤ t) = true := decide_eq_true ct
            clear cl H ct
            go_wp2_with (first | (go_at_call 58; (with_reducible refine (spec_fgTo.calls a0 (pos : Int) t _ A5.out).mono ?_); rintro e w' ⟨rfl, ⟨nd, rfl⟩⟩) | (at_builtin; (refine Kd.R_append (Kd.int .i64) (w0 := w) w.heap.size rfl (.tmp 14) (.tmp 16) 34 3 (.int .i64 0) 8 rfl Tryd.underlying34 info_int rfl (by decide) (by omega) u3 acc (pos : Int) [.int .i64 (pos : Int)] (fun k => k ≠ w.heap.size) (fun _ => False) rfl rfl ?aP (fun _ hk => hk.elim) ?aF ?aO ?aB ?aS ?aL ?_; (case aP => exact rfl); (case aB => exact pw_below_drewN HB.out _); (case aF => exact (fun k hk e => by have h1 := HG.out; have h2 : W2.heap.size ≤ k := (by simpa using hk); omega)); (case aO => exact Kd.R_drewN HO.out _); (case aS => exact (by have h1 := HG.out; simp; omega)); (case aL => have := LM.out; omega); intro v105 w8 ho hb hg hat; have HOn := Aside0.mk ho; have HBn := Aside0.mk hb; have HIn := Aside0.mk (show w8.heap[w.heap.size]? = some (.stringIter a0 (pos + 1)) from spec_fgMoves.kept hg HG.out (fun e => HO.out.1 w.heap.size e rfl) HI.out); clear HB HO HI ho hb hg hat)))
            go_roundg k1
            case measure => have := HK1.out; omega
            case rel => exact ⟨acc ++ [(pos : Int)], pos + 1, H', ⟨by have := HK1.out; omega⟩, HOn, HBn, HIn⟩
          · rw [if_neg cl] at H
            cases H
        · rw [if_neg ct] at H
          have H' := Aside0.mk H
          have ctb : decide (0 ≤ t) = false := decide_eq_false ct
          clear H ct
          go_wp2_with (go_at_call 58; (with_reducible refine (spec_fgTo.calls a0 (pos : Int) t _ A5.out).mono ?_); rintro e w' ⟨rfl, ⟨nd, rfl⟩⟩)
          go_roundg k1
          case measure => have := HK1.out; omega
          case rel => exact ⟨acc, pos + 1, H', ⟨by have := HK1.out; omega⟩, ⟨Kd.R_drewN HO.out _⟩, ⟨pw_below_drewN HB.out _⟩, HI⟩
      · rw [if_neg c2] at H
        obtain rfl := Option.some.inj H
        have hnx : ∀ ty, (Instr.next (.pointer (some ⟨w.heap.size, 0, none⟩)) true ty).run Tryd.prog wr = .ok (.tuple #[.bool false]) wr := fun ty => iter_end wr w.heap.size a0 pos ty HI.out c2
        clear H
        go_wp2
        go_ret
        exact ⟨_, rfl, Kd.R_mono HO.out (fun _ _ => trivial), HB.out⟩


/-! ### spec_fgMove: function 57 -/
--USES helper_moved
def spec_fgMove.f (a0 : ByteArray) (a1 : Int) : Option (ByteArray) := if (a0.size ≤ 1000 ∧ asciiB a0 = true) ∧ 0 ≤ a1 ∧ a1 < (a0.size : Int) then (some (movedB a0 a1)) else none
def spec_fgMove.pre (s : ByteArray) (a1 tgt : Int) (n : Nat) : List UInt8 := (List.range n).map (movedAt s a1 tgt)
theorem spec_fgMove.one (s : ByteArray) (i : Nat) (h : i < s.size) : (s.extract i (i + 1)).data.toList = [s.data.toList.getD i 0] := by
  have hl : i < s.data.toList.length := by simpa using h
  have e : (s.extract i (i + 1)).data.toList = (s.data.toList.drop i).take 1 := by
    simp [ByteArray.data_extract, List.extract_eq_take_drop]
  rw [e, List.drop_eq_getElem_cons hl, List.getD_eq_getElem?_getD, List.getElem?_eq_getElem hl]; rfl
theorem spec_fgMove.step (s acc x : ByteArray) (a1 tgt : Int) (n : Nat) (h : acc.data.toList = spec_fgMove.pre s a1 tgt n) (hx : x.data.toList = [movedAt s a1 tgt n]) : (acc ++ x).data.toList = spec_fgMove.pre s a1 tgt (n + 1) := by
  have e : (acc ++ x).data.toList = acc.data.toList ++ x.data.toList := by simp
  rw [e, h, hx]
  unfold spec_fgMove.pre
  rw [List.range_succ, List.map_append]; rfl
theorem spec_fgMove.sz {s acc : ByteArray} {a1 tgt : Int} {n : Nat} (h : acc.data.toList = spec_fgMove.pre s a1 tgt n) : acc.size = n := by
  have h1 : acc.data.toList.length = acc.size := by simp
  rw [← h1, h]; simp [spec_fgMove.pre]
theorem spec_fgMove.fact {a b : Nat} (h : b ≤ a) : (a < b) = False := eq_false (by omega)
set_option maxHeartbeats 8000000 in
set_option maxRecDepth 100000 in
theorem spec_fgMove.calls (a0 : ByteArray) (a1 : Int) (r : ByteArray) (w : World) (h : spec_fgMove.f a0 a1 = some r) :
    Calls Tryd.prog 57 #[.string a0, .int .i64 a1] w fun e w' => e = .returned (.string r) ∧ Below w.heap.size w w' := by
  unfold spec_fgMove.f at h
  by_cases c : (a0.size ≤ 1000 ∧ asciiB a0 = true) ∧ 0 ≤ a1 ∧ a1 < (a0.size : Int)
  case neg => rw [if_neg c] at h; cases h
  rw [if_pos c] at h
  have HR := Aside0.mk (Option.some.inj h)
  have HC := Aside0.mk c
  clear h
  obtain ⟨tgt, hto⟩ : ∃ tgt, frogTo a0 a1 = tgt := ⟨_, rfl⟩
  have HT := Aside0.mk (show spec_fgTo.f a0 a1 = some tgt by unfold spec_fgTo.f; rw [if_pos c.1.1, hto])
  have HTO := Aside0.mk hto
  clear hto
  obtain ⟨b1, hb1⟩ : ∃ b1, wrap64 (a1 + 1) = b1 := ⟨_, rfl⟩
  have hb1v : b1 = a1 + 1 := by rw [← hb1]; unfold wrap64; omega
  have hb1w : IntKind.i64.wrap (a1 + 1) = b1 := (i64_w _).trans hb1
  have HB1 := Aside0.mk hb1v
  have g1 : (0 ≤ a1) = True := eq_true c.2.1
  have g2 : (a1 ≤ b1) = True := eq_true (by omega)
  have g3 : (b1 ≤ (a0.size : Int)) = True := eq_true (by omega)
  clear c hb1v
  go_enter Tryd.func57, Tryd.ntmps57
  go_wp2_with (go_at_call 58; (with_reducible refine (spec_fgTo.calls a0 a1 tgt _ HT.out).mono ?_); rintro e w' ⟨rfl, ⟨nd, rfl⟩⟩)
  go_loopg [6] (a0.size) (fun kq v6 w' => ∃ (acc : ByteArray) (pos : Nat), v6 = .string acc ∧ Aside0 (kq + pos = a0.size) ∧ Aside0 (acc.data.toList = spec_fgMove.pre a0 a1 tgt pos) ∧ Aside0 (Below w.heap.size w w') ∧ Aside0 (w'.heap[w.heap.size]? = some (.stringIter a0 pos)))
  case atStart => exact ⟨⟨#[]⟩, 0, rfl, ⟨rfl⟩, ⟨rfl⟩, ⟨below_alloc (pw_below_drewN (Below.refl _ _) _) _⟩, ⟨World.iter_heap (w.drewN nd) a0 0⟩⟩
  case round =>
    obtain ⟨acc, pos, rfl, HK, HA, HB, HI⟩ := hrel
    by_cases c2 : pos < a0.size
    · have hk0 : gk ≠ 0 := by have := HK.out; omega
      obtain ⟨k1, rfl⟩ : ∃ k1, gk = k1 + 1 := ⟨gk - 1, by omega⟩
      clear hk0
      obtain ⟨W2, hnx0, hI2, hoth, hsz, hos, htp, hout⟩ := iter_next (P := Tryd.prog) wr w.heap.size a0 pos HI.out c2 (asciiB_at HC.out.1.2 pos c2)
      have hB2 : Below w.heap.size w W2 := by
        have hb := HB.out
        exact ⟨hos.trans hb.os, htp.trans hb.tape, hout.trans hb.output, by rw [hsz]; exact hb.size, fun k hk => (hoth k (by omega)).trans (hb.block k hk)⟩
      clear HI HB hoth hsz hos htp hout
      obtain ⟨p, hp⟩ : ∃ p : Int, (pos : Int) = p := ⟨_, rfl⟩
      obtain ⟨ch, hch⟩ : ∃ ch : Int, ((a0[pos]'c2).toNat : Int) = ch := ⟨_, rfl⟩
      have hnx : ∀ ty, (Instr.next (.pointer (some ⟨w.heap.size, 0, none⟩)) true ty).run Tryd.prog wr = .ok (.tuple #[.bool true, .int .i64 p, .int .i32 ch]) W2 := fun ty => by rw [hnx0 ty, hp, hch]
      clear hnx0 hch
      have HB := Aside0.mk hB2
      have HI := Aside0.mk hI2
      clear hB2 hI2
      have hacc := spec_fgMove.sz HA.out
      have s1000 := HC.out.1.1
      obtain ⟨q, hq⟩ : ∃ q, wrap64 (p + 1) = q := ⟨_, rfl⟩
      have hqv : q = p + 1 := by rw [← hq]; unfold wrap64; omega
      have hqw : IntKind.i64.wrap (p + 1) = q := (i64_w _).trans hq
      have k1' : (0 ≤ p) = True := eq_true (by omega)
      have k2' : (p ≤ q) = True := eq_true (by omega)
      have k3' : (q ≤ (a0.size : Int)) = True := eq_true (by omega)
      have hb1v := HB1.out
      have n1 := spec_fgMove.fact (a := 9223372036854775807) (b := acc.size + 1) (by omega)
      have n2 := spec_fgMove.fact (a := 9223372036854775807) (b := acc.size + (a0.extract a1.toNat b1.toNat).size) (by simp only [ByteArray.size_extract]; omega)
      have n3 := spec_fgMove.fact (a := 9223372036854775807) (b := acc.size + (b1.toNat - a1.toNat)) (by have := of_eq_true g1; omega)
      have n4 := spec_fgMove.fact (a := 9223372036854775807) (b := acc.size + (min b1.toNat a0.size - a1.toNat)) (by omega)
      have n5 := spec_fgMove.fact (a := 9223372036854775807) (b := acc.size + (a0.extract p.toNat q.toNat).size) (by simp only [ByteArray.size_extract]; omega)
      have n6 := spec_fgMove.fact (a := 9223372036854775807) (b := acc.size + (q.toNat - p.toNat)) (by omega)
      have n7 := spec_fgMove.fact (a := 9223372036854775807) (b := acc.size + (min q.toNat a0.size - p.toNat)) (by omega)
      have X1 := Aside0.mk (show (a0.extract p.toNat q.toNat).data.toList = [a0.data.toList.getD pos 0] from by
        rw [show p.toNat = pos by omega, show q.toNat = pos + 1 by omega]; exact spec_fgMove.one a0 pos c2)
      have X2 := Aside0.mk (show (a0.extract a1.toNat b1.toNat).data.toList = [a0.data.toList.getD a1.toNat 0] from by
        have h3 := HC.out.2
        rw [show b1.toNat = a1.toNat + 1 by omega]; exact spec_fgMove.one a0 a1.toNat (by omega))
      have HP := Aside0.mk hp
      clear hqv hacc s1000 hb1v hp
      by_cases d1 : p = a1
      · have d1b : (p == a1) = true := beq_iff_eq.mpr d1
        have D1 := Aside0.mk d1
        clear d1
        go_wp2
        go_roundg k1
        case measure => have := HK.out; omega
        case rel => exact ⟨acc ++ ⟨#[46]⟩, pos + 1, rfl, ⟨by have := HK.out; omega⟩, ⟨spec_fgMove.step a0 acc _ a1 tgt pos HA.out (by unfold movedAt; rw [if_pos (HP.out.trans D1.out)])⟩, HB, HI⟩
      · have d1b : (p == a1) = false := beq_eq_false_iff_ne.mpr d1
        have D1 := Aside0.mk d1
        clear d1
        by_cases d2 : p = tgt
        · have d2b : (p == tgt) = true := beq_iff_eq.mpr d2
          have D2 := Aside0.mk d2
          clear d2
          go_wp2
          go_roundg k1
          case measure => have := HK.out; omega
          case rel => exact ⟨acc ++ a0.extract a1.toNat b1.toNat, pos + 1, rfl, ⟨by have := HK.out; omega⟩, ⟨spec_fgMove.step a0 acc _ a1 tgt pos HA.out (by rw [X2.out]; unfold movedAt; rw [if_neg (fun e => D1.out (HP.out.symm.trans e)), if_pos (HP.out.trans D2.out)])⟩, HB, HI⟩
        · have d2b : (p == tgt) = false := beq_eq_false_iff_ne.mpr d2
          have D2 := Aside0.mk d2
          clear d2
          go_wp2
          go_roundg k1
          case measure => have := HK.out; omega
          case rel => exact ⟨acc ++ a0.extract p.toNat q.toNat, pos + 1, rfl, ⟨by have := HK.out; omega⟩, ⟨spec_fgMove.step a0 acc _ a1 tgt pos HA.out (by rw [X1.out]; unfold movedAt; rw [if_neg (fun e => D1.out (HP.out.symm.trans e)), if_neg (fun e => D2.out (HP.out.symm.trans e))])⟩, HB, HI⟩
    · have hnx : ∀ ty, (Instr.next (.pointer (some ⟨w.heap.size, 0, none⟩)) true ty).run Tryd.prog wr = .ok (.tuple #[.bool false]) wr := fun ty => iter_end wr w.heap.size a0 pos ty HI.out c2
      have HE := Aside0.mk (show acc = r from by
        have hk := HK.out
        have hI := HI.out
        have h1 := spec_fgMove.sz HA.out
        have h2 : pos = a0.size := by
          by_cases h3 : gk = 0
          · omega
          · omega
        rw [← HR.out]
        have e : acc.data.toList = (movedB a0 a1).data.toList := by
          rw [HA.out, h2]
          unfold movedB spec_fgMove.pre
          rw [HTO.out]
        cases acc
        congr 1
        exact Array.toList_inj.1 e)
      clear c2
      go_wp2
      go_ret
      exact ⟨by rw [HE.out]; rfl, HB.out⟩


/-! ### spec_fgStuck: function 54 -/
mutual
def spec_fgStuck.l0 : Nat → ByteArray → List Int → List Int → Int → Int → Option (List Int)
  | 0, _, _, _, _, _ => none
  | k + 1, x0, x4, x10, x11, x12 => if x12 < x11 then (if 0 ≤ x12 then (if x12 < (x10.length : Int) then ((spec_fgMove.f x0 (rd x10 x12)).bind fun t110 => ((spec_fgStuck.f k t110).bind fun t111 => (if x12 = 0 then ((some (([rd x10 x12] : List Int) : List Int)).bind fun y114 => (if y114.length + t111.length < 17592186044416 then (spec_fgStuck.l0 k x0 (y114 ++ t111) x10 x11 (wrap64 (x12 + 1))) else (none))) else (if (wrap64 ((t111.length : Int) + 1)) < (x4.length : Int) then ((some (([rd x10 x12] : List Int) : List Int)).bind fun y120 => (if y120.length + t111.length < 17592186044416 then (spec_fgStuck.l0 k x0 (y120 ++ t111) x10 x11 (wrap64 (x12 + 1))) else (none))) else (spec_fgStuck.l0 k x0 x4 x10 x11 (wrap64 (x12 + 1))))))) else (none)) else (none)) else (some x4)
def spec_fgStuck.f : Nat → ByteArray → Option (List Int)
  | 0, _ => none
  | k + 1, a0 => (spec_fgMoves.f a0).bind fun t106 => (spec_fgStuck.l0 k a0 ([] : List Int) t106 (t106.length : Int) 0)
end
theorem spec_fgStuck.mono_l : ∀ k, (∀ y0, LeO (spec_fgStuck.f k y0) (spec_fgStuck.f (k + 1) y0)) ∧ (∀ y0 y1 y2 y3 y4, LeO (spec_fgStuck.l0 k y0 y1 y2 y3 y4) (spec_fgStuck.l0 (k + 1) y0 y1 y2 y3 y4))
  | 0 => ⟨fun _ r h => by simp [spec_fgStuck.f] at h, fun _ _ _ _ _ r h => by simp [spec_fgStuck.l0] at h⟩
  | k + 1 => by
    obtain ⟨ih0, ih1⟩ := spec_fgStuck.mono_l k
    refine ⟨?_, ?_⟩
    · intro y0
      unfold spec_fgStuck.f
      repeat' first
      | (with_reducible exact ih0 _)
      | (with_reducible exact ih1 _ _ _ _ _)
      | (with_reducible exact LeO.refl _)
      | (with_reducible exact LeO.none _)
      | (with_reducible refine LeO.ite ?_ ?_)
      | (with_reducible refine LeO.bind ?_ (fun _ => ?_))
      | exact ih0 _
      | exact ih1 _ _ _ _ _
      | exact LeO.none _
      | refine LeO.ite ?_ ?_
      | refine LeO.bind ?_ (fun _ => ?_)
    · intro y0 y1 y2 y3 y4
      unfold spec_fgStuck.l0
      repeat' first
      | (with_reducible exact ih0 _)
      | (with_reducible exact ih1 _ _ _ _ _)
      | (with_reducible exact LeO.refl _)
      | (with_reducible exact LeO.none _)
      | (with_reducible refine LeO.ite ?_ ?_)
      | (with_reducible refine LeO.bind ?_ (fun _ => ?_))
      | exact ih0 _
      | exact ih1 _ _ _ _ _
      | exact LeO.none _
      | refine LeO.ite ?_ ?_
      | refine LeO.bind ?_ (fun _ => ?_)
theorem spec_fgStuck.mono : ∀ a0 k, LeO (spec_fgStuck.f k a0) (spec_fgStuck.f (k + 1) a0) := by
  intro a0 k
  obtain ⟨ih0, ih1⟩ := spec_fgStuck.mono_l k
  exact ih0 a0
set_option maxHeartbeats 8000000 in
set_option maxRecDepth 100000 in
theorem spec_fgStuck.calls (k : Nat) : ∀ (a0 : ByteArray) (r : List Int) (w : World) (h : spec_fgStuck.f k a0 = some r),
    Calls Tryd.prog 54 #[.string a0] w fun e w' => ∃ v0_ : Value, e = .returned (v0_) ∧ Kd.R (Kd.int .i64) 3 w' w.heap.size (fun _ => True) v0_ r ∧ Below w.heap.size w w' := by
  induction k using Nat.strongRecOn with
  | _ k ih =>
  intro a0 r w h
  cases k with
  | zero => exact absurd h (by simp [spec_fgStuck.f])
  | succ k =>
  simp only [spec_fgStuck.f] at h
  have HB := Aside0.mk (Below.refl w.heap.size w)
  have H : ((spec_fgMoves.f a0).bind fun t106 => (spec_fgStuck.l0 k a0 ([] : List Int) t106 (t106.length : Int) 0)) = some r := h
  clear h
  replace H := Option.bind_eq_some_iff.mp H
  obtain ⟨t106, A20, H⟩ := H
  replace H : (spec_fgStuck.l0 k a0 ([] : List Int) t106 (t106.length : Int) 0) = some r := H
  have A2 := Aside0.mk A20
  clear A20
  have H' := Aside0.mk H
  clear H
  go_enter Tryd.func54, Tryd.ntmps54
  go_wp2_with (first | ((with_reducible refine gate_callee (f := 35) rfl ?_); refine goesL_ (some 9) rfl rfl Tryd.func35 (by kernel_rfl) rfl #[.string a0] rfl (by (try simp only [List.map_toArray, List.map_cons, List.map_nil]); first | done | rfl | (simp only [List.length_drop, List.length_take]; rfl)) ?_; (with_reducible refine (spec_fgMoves.calls a0 t106 _ A2.out).mono ?_); rintro e w3 ⟨v107, rfl, ho0, hb⟩; refine ⟨_, rfl, ?_⟩; have n0_ := Aside0.mk (Kd.R_lower ho0 (below_size (by repeat (first | (with_reducible first | exact HB.out | apply below_alloc | apply pw_below_drewN | apply below_drew1) | exact HB.out)))); have n1_ := Aside0.mk (below_step (by repeat (first | (with_reducible first | exact HB.out | apply below_alloc | apply pw_below_drewN | apply below_drew1) | exact HB.out)) hb); clear HB; have HO108 := n0_; have HB := n1_; clear n0_ n1_; (try clear hb); (try clear hb2); (try clear hk); (try clear hi); (try clear ho0); obtain ⟨Ao4, co4, eo4⟩ := Kd.R_slice HO108.out; subst eo4))
  go_loopg [4, 12] k (fun kq v4 v12 w' => ∃ (x4_1 : List Int) (x12_1 : Int), v12 = .int .i64 x12_1 ∧ Aside0 (spec_fgStuck.l0 kq a0 x4_1 t106 (t106.length : Int) x12_1 = some r) ∧ Aside0 (kq ≤ k) ∧ Aside0 (Kd.R (Kd.int .i64) 3 w' w.heap.size (fun k_ => some k_ ≠ ((.slice Ao4 t106.length co4) : Value).ownBlock) v4 x4_1) ∧ Aside0 (Kd.R (Kd.int .i64) 3 w' w.heap.size (fun k_ => some k_ ≠ (v4 : Value).ownBlock) (.slice Ao4 t106.length co4) t106) ∧ Aside0 (Below w.heap.size w w'))
  case atStart => exact ⟨(([] : List Int)), (0), (by first | rfl | (simp; done) | (simp [*]; done)), H', ⟨Nat.le_refl _⟩, ⟨by first | exact Kd.R_nil _ _ _ _ _ | exact Kd.N_nil _ _ _ _ _ | exact Kd.V_nil _ _ _ _ _ | exact Kd.Q_nil _ _ _ _ _ | exact Kd.S_nil _ _ _ _ _⟩, ⟨by (with_reducible repeat (first | apply Kd.R_alloc | apply Kd.R_drewN | apply Kd.R_drew)); exact Kd.R_mono HO108.out (fun _ hk => (by simp [Value.ownBlock]))⟩, ⟨by repeat (first | (with_reducible first | exact HB.out | apply below_alloc | apply pw_below_drewN | apply below_drew1) | exact HB.out)⟩⟩
  case round =>
    clear H'
    try clear p2
    try clear c3
    obtain ⟨x4_1, x12_1, rfl, HA, HK1, HO_4, HO_10, HB⟩ := hrel
    cases gk with
    | zero => exact absurd HA.out (by simp [spec_fgStuck.l0])
    | succ k1 =>
      have H := HA.out
      clear HA
      simp only [spec_fgStuck.l0] at H
      by_cases c5 : x12_1 < (t106.length : Int)
      · rw [if_pos c5] at H
        have c5b0 : decide (x12_1 < (t106.length : Int)) = true := decide_eq_true c5
        clear c5
        by_cases c6 : 0 ≤ x12_1
        · rw [if_pos c6] at H
          have c6b0 : decide (0 ≤ x12_1) = true := decide_eq_true c6
          clear c6
          by_cases c7 : x12_1 < (t106.length : Int)
          · rw [if_pos c7] at H
            have c7b0 : decide (x12_1 < (t106.length : Int)) = true := decide_eq_true c7
            clear c7
            replace H := Option.bind_eq_some_iff.mp H
            obtain ⟨t110, A80, H⟩ := H
            replace H : ((spec_fgStuck.f k1 t110).bind fun t111 => (if x12_1 = 0 then ((some (([rd t106 x12_1] : List Int) : List Int)).bind fun y114 => (if y114.length + t111.length < 17592186044416 then (spec_fgStuck.l0 k1 a0 (y114 ++ t111) t106 (t106.length : Int) (wrap64 (x12_1 + 1))) else (none))) else (if (wrap64 ((t111.length : Int) + 1)) < (x4_1.length : Int) then ((some (([rd t106 x12_1] : List Int) : List Int)).bind fun y120 => (if y120.length + t111.length < 17592186044416 then (spec_fgStuck.l0 k1 a0 (y120 ++ t111) t106 (t106.length : Int) (wrap64 (x12_1 + 1))) else (none))) else (spec_fgStuck.l0 k1 a0 x4_1 t106 (t106.length : Int) (wrap64 (x12_1 + 1)))))) = some r := H
            have A8 := Aside0.mk A80
            clear A80
            replace H := Option.bind_eq_some_iff.mp H
            obtain ⟨t111, A90, H⟩ := H
            replace H : (if x12_1 = 0 then ((some (([rd t106 x12_1] : List Int) : List Int)).bind fun y114 => (if y114.length + t111.length < 17592186044416 then (spec_fgStuck.l0 k1 a0 (y114 ++ t111) t106 (t106.length : Int) (wrap64 (x12_1 + 1))) else (none))) else (if (wrap64 ((t111.length : Int) + 1)) < (x4_1.length : Int) then ((some (([rd t106 x12_1] : List Int) : List Int)).bind fun y120 => (if y120.length + t111.length < 17592186044416 then (spec_fgStuck.l0 k1 a0 (y120 ++ t111) t106 (t106.length : Int) (wrap64 (x12_1 + 1))) else (none))) else (spec_fgStuck.l0 k1 a0 x4_1 t106 (t106.length : Int) (wrap64 (x12_1 + 1))))) = some r := H
            have A9 := Aside0.mk A90
            clear A90
            by_cases c10 : x12_1 = 0
            · rw [if_pos c10] at H
              have c10b0 : (x12_1 == 0) = true := beq_iff_eq.mpr c10
              have c10b1 : (x12_1 != 0) = false := bne_eq_false_iff_eq.mpr c10
              clear c10
              obtain ⟨y114, hy114⟩ : ∃ y_ : List Int, y_ = (([rd t106 x12_1] : List Int)) := ⟨_, rfl⟩
              replace H : (if y114.length + t111.length < 17592186044416 then (spec_fgStuck.l0 k1 a0 (y114 ++ t111) t106 (t106.length : Int) (wrap64 (x12_1 + 1))) else (none)) = some r := by first | (rw [hy114]; with_reducible exact H) | (have H2_ := (Option.bind_some _ _).symm.trans H; rw [hy114]; with_reducible exact H2_) | (have H2_ := (Option.bind_some _ _).symm.trans H; with_reducible exact H2_) | with_reducible exact H | (rw [hy114]; exact H) | exact H
              have Ny114 := Aside0.mk hy114
              clear hy114
              by_cases c11 : y114.length + t111.length < 17592186044416
              · rw [if_pos c11] at H
                have LMc11 := Aside0.mk c11
                clear c11
                obtain ⟨y117, hy117⟩ : ∃ y_ : List Int, y_ = (y114 ++ t111) := ⟨_, rfl⟩
                replace H : (spec_fgStuck.l0 k1 a0 y117 t106 (t106.length : Int) (wrap64 (x12_1 + 1))) = some r := by first | (rw [hy117]; with_reducible exact H) | (have H2_ := (Option.bind_some _ _).symm.trans H; rw [hy117]; with_reducible exact H2_) | (have H2_ := (Option.bind_some _ _).symm.trans H; with_reducible exact H2_) | with_reducible exact H | (rw [hy117]; exact H) | exact H
                have Ny117 := Aside0.mk hy117
                clear hy117
                have H' := Aside0.mk H
                clear H
                have p109 : 0 ≤ (x12_1 : Int) := of_decide_eq_true (by first | (with_reducible assumption) | assumption)
                have q109 : x12_1 < (t106.length : Int) := of_decide_eq_true (by first | (with_reducible assumption) | assumption)
                obtain ⟨ad109, e109, hx109_0⟩ := Kd.at_int (Kd.R_reads' HO_10.out).2.2 x12_1 p109 q109
                cases e109
                replace p109 := eq_true p109
                replace q109 := eq_true q109
                go_wp2_with (first | ((with_reducible refine gate_callee (f := 57) rfl ?_); refine goesL_ (some 19) rfl rfl Tryd.func57 (by kernel_rfl) rfl #[.string a0, .int .i64 (rd t106 x12_1)] rfl (by (try simp only [List.map_toArray, List.map_cons, List.map_nil]); first | done | rfl | (simp only [List.length_drop, List.length_take]; rfl)) ?_; (with_reducible refine (spec_fgMove.calls a0 (rd t106 x12_1) t110 _ A8.out).mono ?_); rintro e w12 ⟨rfl, hb⟩; refine ⟨_, rfl, ?_⟩; have n0_ := Aside0.mk (Kd.R_below (by (with_reducible repeat (first | apply Kd.R_alloc | apply Kd.R_drewN | apply Kd.R_drew)); exact HO_4.out) hb); have n1_ := Aside0.mk (Kd.R_below (by (with_reducible repeat (first | apply Kd.R_alloc | apply Kd.R_drewN | apply Kd.R_drew)); exact HO_10.out) hb); have n2_ := Aside0.mk (below_step (by repeat (first | (with_reducible first | exact HB.out | apply below_alloc | apply pw_below_drewN | apply below_drew1) | exact HB.out)) hb); clear HO_4; clear HO_10; clear HB; have HO_4 := n0_; have HO_10 := n1_; have HB := n2_; clear n0_ n1_ n2_; (try clear hb); (try clear hb2); (try clear hk); (try clear hi)) | ((with_reducible refine gate_callee (f := 54) rfl ?_); refine goesL_ (some 20) rfl rfl Tryd.func54 (by kernel_rfl) rfl #[.string t110] rfl (by (try simp only [List.map_toArray, List.map_cons, List.map_nil]); first | done | rfl | (simp only [List.length_drop, List.length_take]; rfl)) ?_; (with_reducible refine (ih k1 (by have := HK1.out; omega) t110 t111 _ A9.out).mono ?_); rintro e w13 ⟨v112, rfl, ho0, hb⟩; refine ⟨_, rfl, ?_⟩; have n0_ := Aside0.mk (Kd.R_elder' (by (with_reducible repeat (first | apply Kd.R_alloc | apply Kd.R_drewN | apply Kd.R_drew)); exact HO_4.out) (Kd.R_base ho0) hb); have n1_ := Aside0.mk (Kd.R_elder' (by (with_reducible repeat (first | apply Kd.R_alloc | apply Kd.R_drewN | apply Kd.R_drew)); exact HO_10.out) (Kd.R_base ho0) hb); have n2_ := Aside0.mk (Kd.R_lower (Kd.R_new' (Kd.R_new' ho0 (Kd.R_lt (by (with_reducible repeat (first | apply Kd.R_alloc | apply Kd.R_drewN | apply Kd.R_drew)); exact HO_4.out))) (Kd.R_lt (by (with_reducible repeat (first | apply Kd.R_alloc | apply Kd.R_drewN | apply Kd.R_drew)); exact HO_10.out))) (below_size (by repeat (first | (with_reducible first | exact HB.out | apply below_alloc | apply pw_below_drewN | apply below_drew1) | exact HB.out)))); have n3_ := Aside0.mk (below_step (by repeat (first | (with_reducible first | exact HB.out | apply below_alloc | apply pw_below_drewN | apply below_drew1) | exact HB.out)) hb); clear HO_4; clear HO_10; clear HB; have HO_4 := n0_; have HO_10 := n1_; have HO113 := n2_; have HB := n3_; clear n0_ n1_ n2_ n3_; (try clear hb); (try clear hb2); (try clear hk); (try clear hi); (try clear ho0)) | ((with_reducible refine gate_dst (N := 32) rfl ?_); (try (refine gate_guard (by rfl) ?_; dsimp only)); refine Kd.R_lit (Kd.int .i64) _ 3 ?hg (N := 32) ?hd (xs := ([rd t106 x12_1] : List Int)) (inner := [.int .i64 (rd t106 x12_1)]) (ok := fun _ => True) (okp := fun _ => True) ?hr ?hp (fun _ hk => hk) trivial (Below.refl _ _) (Nat.le_refl _) (by simp) ?_; (case hd => rfl); (case hg => rfl); (case hr => first | (go_simp; done) | (go_simp; rfl)); (case hp => exact (Reps.one (show Kd.M (Kd.int .i64) _ _ _ (rd t106 x12_1) [.int .i64 (rd t106 x12_1)] from rfl) (Reps.none _ _))); intro v115 w14 ho15 hb hg_ hnew_; clear hg_ hnew_; (first | rw [← Ny114.out] at ho15 | (simp only [Int.reduceToNat] at ho15; rw [← Ny114.out] at ho15)); have n0_ := Aside0.mk (Kd.R_elder' (by (with_reducible repeat (first | apply Kd.R_alloc | apply Kd.R_drewN | apply Kd.R_drew)); exact HO_4.out) (Kd.R_base ho15) hb); have n1_ := Aside0.mk (Kd.R_elder' (by (with_reducible repeat (first | apply Kd.R_alloc | apply Kd.R_drewN | apply Kd.R_drew)); exact HO_10.out) (Kd.R_base ho15) hb); have n2_ := Aside0.mk (Kd.R_elder' (by (with_reducible repeat (first | apply Kd.R_alloc | apply Kd.R_drewN | apply Kd.R_drew)); exact HO113.out) (Kd.R_base ho15) hb); have n3_ := Aside0.mk (Kd.R_lower (Kd.R_new' (Kd.R_new' (Kd.R_new' ho15 (Kd.R_lt (by (with_reducible repeat (first | apply Kd.R_alloc | apply Kd.R_drewN | apply Kd.R_drew)); exact HO_4.out))) (Kd.R_lt (by (with_reducible repeat (first | apply Kd.R_alloc | apply Kd.R_drewN | apply Kd.R_drew)); exact HO_10.out))) (Kd.R_lt (by (with_reducible repeat (first | apply Kd.R_alloc | apply Kd.R_drewN | apply Kd.R_drew)); exact HO113.out))) (below_size (by repeat (first | (with_reducible first | exact HB.out | apply below_alloc | apply pw_below_drewN | apply below_drew1) | exact HB.out)))); have n4_ := Aside0.mk (below_step (by repeat (first | (with_reducible first | exact HB.out | apply below_alloc | apply pw_below_drewN | apply below_drew1) | exact HB.out)) hb); clear HO_4; clear HO_10; clear HO113; clear HB; have HO_4 := n0_; have HO_10 := n1_; have HO113 := n2_; have HO116 := n3_; have HB := n4_; clear n0_ n1_ n2_ n3_ n4_; clear hb ho15; obtain ⟨Ao17, co17, eo17⟩ := Kd.R_slice HO113.out; subst eo17) | ((with_reducible refine gate_builtin (b := .append) (xs := #[.tmp 32, .tmp 33]) rfl ?_); (try (refine gate_guard (by rfl) ?_; dsimp only)); at_builtin; refine Kd.R_append_rows (Kd.int .i64) (w0 := w) w.heap.size rfl (.tmp 32) (.tmp 33) 34 3 (.int .i64 0) 8 rfl Tryd.underlying34 info3 rfl (by decide) (by omega) v115 y114 t111 _ _ _ (fun k_ => some k_ ≠ (u4 : Value).ownBlock ∧ some k_ ≠ (.slice (some ad109) t106.length co4 : Value).ownBlock ∧ some k_ ≠ (.slice Ao17 t111.length co17 : Value).ownBlock) (fun _ => False) rfl rfl ?aO ?aR (fun _ _ h => h) (fun _ h => h.elim) ?aF ?aB ?aS ?aL ?_; (case aR => repeat (first | exact (Kd.R_reads' HO113.out).2.2 | (with_reducible refine Kd.C_alloc ?_ _) | (with_reducible refine Kd.C_drewN ?_ _) | (with_reducible refine Kd.C_drew ?_))); (case aB => exact (by repeat (first | (with_reducible first | exact HB.out | apply below_alloc | apply pw_below_drewN | apply below_drew1) | exact HB.out))); (case aF => exact (fun k_ hk => ⟨Kd.fresh' (Kd.R_lt (by (with_reducible repeat (first | apply Kd.R_alloc | apply Kd.R_drewN | apply Kd.R_drew)); exact HO_4.out)) k_ hk, Kd.fresh' (Kd.R_lt (by (with_reducible repeat (first | apply Kd.R_alloc | apply Kd.R_drewN | apply Kd.R_drew)); exact HO_10.out)) k_ hk, Kd.fresh' (Kd.R_lt (by (with_reducible repeat (first | apply Kd.R_alloc | apply Kd.R_drewN | apply Kd.R_drew)); exact HO113.out)) k_ hk⟩)); (case aO => exact (by (with_reducible repeat (first | apply Kd.R_alloc | apply Kd.R_drewN | apply Kd.R_drew)); exact Kd.R_mono HO116.out (fun _ hk => ⟨hk.1.1.2, ⟨hk.1.2, hk.2⟩⟩))); (case aS => exact (below_size (by repeat (first | (with_reducible first | exact HB.out | apply below_alloc | apply pw_below_drewN | apply below_drew1) | exact HB.out)))); (case aL => have := LMc11.out; omega); intro v118 w16 ho hb hg hat; rw [← Ny117.out] at ho; have n0_ := Aside0.mk (Kd.R_after (ok := (fun k_ => some k_ ≠ (.slice (some ad109) t106.length co4 : Value).ownBlock ∧ some k_ ≠ (.slice Ao17 t111.length co17 : Value).ownBlock)) (by (with_reducible repeat (first | apply Kd.R_alloc | apply Kd.R_drewN | apply Kd.R_drew)); exact HO_4.out) hg hat); have n1_ := Aside0.mk (Kd.R_after (ok := (fun k_ => some k_ ≠ (u4 : Value).ownBlock ∧ some k_ ≠ (.slice Ao17 t111.length co17 : Value).ownBlock)) (by (with_reducible repeat (first | apply Kd.R_alloc | apply Kd.R_drewN | apply Kd.R_drew)); exact HO_10.out) hg hat); have n2_ := Aside0.mk (Kd.R_after (ok := (fun k_ => some k_ ≠ (u4 : Value).ownBlock ∧ some k_ ≠ (.slice (some ad109) t106.length co4 : Value).ownBlock)) (by (with_reducible repeat (first | apply Kd.R_alloc | apply Kd.R_drewN | apply Kd.R_drew)); exact Kd.R_mono HO113.out (fun _ hk => ⟨⟨hk.1.1.2, hk.1.2⟩, hk.2⟩)) hg hat); have n3_ := Aside0.mk (hb); have n4_ := Aside0.mk (ho); clear HO_4; clear HO_10; clear HO113; clear HB; clear HO116; have HO_4 := n0_; have HO_10 := n1_; have HO113 := n2_; have HB := n3_; have HO119 := n4_; clear n0_ n1_ n2_ n3_ n4_; clear ho hb hg hat))
                go_roundg k1
                case measure => have := HK1.out; omega
                case rel => exact ⟨(y117), (wrap64 (x12_1 + 1)), (by first | rfl | (simp; done) | (simp [*]; done)), H', ⟨by have := HK1.out; omega⟩, ⟨by (with_reducible repeat (first | apply Kd.R_alloc | apply Kd.R_drewN | apply Kd.R_drew)); exact Kd.R_mono HO119.out (fun _ hk => hk.2.1)⟩, ⟨by (with_reducible repeat (first | apply Kd.R_alloc | apply Kd.R_drewN | apply Kd.R_drew)); exact Kd.R_mono HO_10.out (fun _ hk => hk.2)⟩, ⟨by repeat (first | (with_reducible first | exact HB.out | apply below_alloc | apply pw_below_drewN | apply below_drew1) | exact HB.out)⟩⟩
              · rw [if_neg c11] at H
                exact absurd H (by simp)
            · rw [if_neg c10] at H
              have c10b0 : (x12_1 == 0) = false := beq_eq_false_iff_ne.mpr c10
              have c10b1 : (x12_1 != 0) = true := bne_iff_ne.mpr c10
              by_cases c18 : (wrap64 ((t111.length : Int) + 1)) < (x4_1.length : Int)
              · rw [if_pos c18] at H
                have c18b0 : decide ((wrap64 ((t111.length : Int) + 1)) < (x4_1.length : Int)) = true := decide_eq_true c18
                clear c18
                obtain ⟨y120, hy120⟩ : ∃ y_ : List Int, y_ = (([rd t106 x12_1] : List Int)) := ⟨_, rfl⟩
                replace H : (if y120.length + t111.length < 17592186044416 then (spec_fgStuck.l0 k1 a0 (y120 ++ t111) t106 (t106.length : Int) (wrap64 (x12_1 + 1))) else (none)) = some r := by first | (rw [hy120]; with_reducible exact H) | (have H2_ := (Option.bind_some _ _).symm.trans H; rw [hy120]; with_reducible exact H2_) | (have H2_ := (Option.bind_some _ _).symm.trans H; with_reducible exact H2_) | with_reducible exact H | (rw [hy120]; exact H) | exact H
                have Ny120 := Aside0.mk hy120
                clear hy120
                by_cases c19 : y120.length + t111.length < 17592186044416
                · rw [if_pos c19] at H
                  have LMc19 := Aside0.mk c19
                  clear c19
                  obtain ⟨y123, hy123⟩ : ∃ y_ : List Int, y_ = (y120 ++ t111) := ⟨_, rfl⟩
                  replace H : (spec_fgStuck.l0 k1 a0 y123 t106 (t106.length : Int) (wrap64 (x12_1 + 1))) = some r := by first | (rw [hy123]; with_reducible exact H) | (have H2_ := (Option.bind_some _ _).symm.trans H; rw [hy123]; with_reducible exact H2_) | (have H2_ := (Option.bind_some _ _).symm.trans H; with_reducible exact H2_) | with_reducible exact H | (rw [hy123]; exact H) | exact H
                  have Ny123 := Aside0.mk hy123
                  clear hy123
                  have H' := Aside0.mk H
                  clear H
                  have p109 : 0 ≤ (x12_1 : Int) := of_decide_eq_true (by first | (with_reducible assumption) | assumption)
                  have q109 : x12_1 < (t106.length : Int) := of_decide_eq_true (by first | (with_reducible assumption) | assumption)
                  obtain ⟨ad109, e109, hx109_0⟩ := Kd.at_int (Kd.R_reads' HO_10.out).2.2 x12_1 p109 q109
                  cases e109
                  replace p109 := eq_true p109
                  replace q109 := eq_true q109
                  go_wp2_with (first | ((with_reducible refine gate_callee (f := 57) rfl ?_); refine goesL_ (some 19) rfl rfl Tryd.func57 (by kernel_rfl) rfl #[.string a0, .int .i64 (rd t106 x12_1)] rfl (by (try simp only [List.map_toArray, List.map_cons, List.map_nil]); first | done | rfl | (simp only [List.length_drop, List.length_take]; rfl)) ?_; (with_reducible refine (spec_fgMove.calls a0 (rd t106 x12_1) t110 _ A8.out).mono ?_); rintro e w20 ⟨rfl, hb⟩; refine ⟨_, rfl, ?_⟩; have n0_ := Aside0.mk (Kd.R_below (by (with_reducible repeat (first | apply Kd.R_alloc | apply Kd.R_drewN | apply Kd.R_drew)); exact HO_4.out) hb); have n1_ := Aside0.mk (Kd.R_below (by (with_reducible repeat (first | apply Kd.R_alloc | apply Kd.R_drewN | apply Kd.R_drew)); exact HO_10.out) hb); have n2_ := Aside0.mk (below_step (by repeat (first | (with_reducible first | exact HB.out | apply below_alloc | apply pw_below_drewN | apply below_drew1) | exact HB.out)) hb); clear HO_4; clear HO_10; clear HB; have HO_4 := n0_; have HO_10 := n1_; have HB := n2_; clear n0_ n1_ n2_; (try clear hb); (try clear hb2); (try clear hk); (try clear hi)) | ((with_reducible refine gate_callee (f := 54) rfl ?_); refine goesL_ (some 20) rfl rfl Tryd.func54 (by kernel_rfl) rfl #[.string t110] rfl (by (try simp only [List.map_toArray, List.map_cons, List.map_nil]); first | done | rfl | (simp only [List.length_drop, List.length_take]; rfl)) ?_; (with_reducible refine (ih k1 (by have := HK1.out; omega) t110 t111 _ A9.out).mono ?_); rintro e w21 ⟨v112, rfl, ho0, hb⟩; refine ⟨_, rfl, ?_⟩; have n0_ := Aside0.mk (Kd.R_elder' (by (with_reducible repeat (first | apply Kd.R_alloc | apply Kd.R_drewN | apply Kd.R_drew)); exact HO_4.out) (Kd.R_base ho0) hb); have n1_ := Aside0.mk (Kd.R_elder' (by (with_reducible repeat (first | apply Kd.R_alloc | apply Kd.R_drewN | apply Kd.R_drew)); exact HO_10.out) (Kd.R_base ho0) hb); have n2_ := Aside0.mk (Kd.R_lower (Kd.R_new' (Kd.R_new' ho0 (Kd.R_lt (by (with_reducible repeat (first | apply Kd.R_alloc | apply Kd.R_drewN | apply Kd.R_drew)); exact HO_4.out))) (Kd.R_lt (by (with_reducible repeat (first | apply Kd.R_alloc | apply Kd.R_drewN | apply Kd.R_drew)); exact HO_10.out))) (below_size (by repeat (first | (with_reducible first | exact HB.out | apply below_alloc | apply pw_below_drewN | apply below_drew1) | exact HB.out)))); have n3_ := Aside0.mk (below_step (by repeat (first | (with_reducible first | exact HB.out | apply below_alloc | apply pw_below_drewN | apply below_drew1) | exact HB.out)) hb); clear HO_4; clear HO_10; clear HB; have HO_4 := n0_; have HO_10 := n1_; have HO113 := n2_; have HB := n3_; clear n0_ n1_ n2_ n3_; (try clear hb); (try clear hb2); (try clear hk); (try clear hi); (try clear ho0); obtain ⟨Ao22, co22, eo22⟩ := Kd.R_slice HO113.out; subst eo22; obtain ⟨Ao23, co23, eo23⟩ := Kd.R_slice HO_4.out; subst eo23) | ((with_reducible refine gate_dst (N := 32) rfl ?_); (try (refine gate_guard (by rfl) ?_; dsimp only)); refine Kd.R_lit (Kd.int .i64) _ 3 ?hg (N := 32) ?hd (xs := ([rd t106 x12_1] : List Int)) (inner := [.int .i64 (rd t106 x12_1)]) (ok := fun _ => True) (okp := fun _ => True) ?hr ?hp (fun _ hk => hk) trivial (Below.refl _ _) (Nat.le_refl _) (by simp) ?_; (case hd => rfl); (case hg => rfl); (case hr => first | (go_simp; done) | (go_simp; rfl)); (case hp => exact (Reps.one (show Kd.M (Kd.int .i64) _ _ _ (rd t106 x12_1) [.int .i64 (rd t106 x12_1)] from rfl) (Reps.none _ _))); intro v121 w24 ho25 hb hg_ hnew_; clear hg_ hnew_; (first | rw [← Ny120.out] at ho25 | (simp only [Int.reduceToNat] at ho25; rw [← Ny120.out] at ho25)); have n0_ := Aside0.mk (Kd.R_elder' (by (with_reducible repeat (first | apply Kd.R_alloc | apply Kd.R_drewN | apply Kd.R_drew)); exact HO_4.out) (Kd.R_base ho25) hb); have n1_ := Aside0.mk (Kd.R_elder' (by (with_reducible repeat (first | apply Kd.R_alloc | apply Kd.R_drewN | apply Kd.R_drew)); exact HO_10.out) (Kd.R_base ho25) hb); have n2_ := Aside0.mk (Kd.R_elder' (by (with_reducible repeat (first | apply Kd.R_alloc | apply Kd.R_drewN | apply Kd.R_drew)); exact HO113.out) (Kd.R_base ho25) hb); have n3_ := Aside0.mk (Kd.R_lower (Kd.R_new' (Kd.R_new' (Kd.R_new' ho25 (Kd.R_lt (by (with_reducible repeat (first | apply Kd.R_alloc | apply Kd.R_drewN | apply Kd.R_drew)); exact HO_4.out))) (Kd.R_lt (by (with_reducible repeat (first | apply Kd.R_alloc | apply Kd.R_drewN | apply Kd.R_drew)); exact HO_10.out))) (Kd.R_lt (by (with_reducible repeat (first | apply Kd.R_alloc | apply Kd.R_drewN | apply Kd.R_drew)); exact HO113.out))) (below_size (by repeat (first | (with_reducible first | exact HB.out | apply below_alloc | apply pw_below_drewN | apply below_drew1) | exact HB.out)))); have n4_ := Aside0.mk (below_step (by repeat (first | (with_reducible first | exact HB.out | apply below_alloc | apply pw_below_drewN | apply below_drew1) | exact HB.out)) hb); clear HO_4; clear HO_10; clear HO113; clear HB; have HO_4 := n0_; have HO_10 := n1_; have HO113 := n2_; have HO122 := n3_; have HB := n4_; clear n0_ n1_ n2_ n3_ n4_; clear hb ho25) | ((with_reducible refine gate_builtin (b := .append) (xs := #[.tmp 32, .tmp 33]) rfl ?_); (try (refine gate_guard (by rfl) ?_; dsimp only)); at_builtin; refine Kd.R_append_rows (Kd.int .i64) (w0 := w) w.heap.size rfl (.tmp 32) (.tmp 33) 34 3 (.int .i64 0) 8 rfl Tryd.underlying34 info3 rfl (by decide) (by omega) v121 y120 t111 _ _ _ (fun k_ => some k_ ≠ (.slice Ao23 x4_1.length co23 : Value).ownBlock ∧ some k_ ≠ (.slice (some ad109) t106.length co4 : Value).ownBlock ∧ some k_ ≠ (.slice Ao22 t111.length co22 : Value).ownBlock) (fun _ => False) rfl rfl ?aO ?aR (fun _ _ h => h) (fun _ h => h.elim) ?aF ?aB ?aS ?aL ?_; (case aR => repeat (first | exact (Kd.R_reads' HO113.out).2.2 | (with_reducible refine Kd.C_alloc ?_ _) | (with_reducible refine Kd.C_drewN ?_ _) | (with_reducible refine Kd.C_drew ?_))); (case aB => exact (by repeat (first | (with_reducible first | exact HB.out | apply below_alloc | apply pw_below_drewN | apply below_drew1) | exact HB.out))); (case aF => exact (fun k_ hk => ⟨Kd.fresh' (Kd.R_lt (by (with_reducible repeat (first | apply Kd.R_alloc | apply Kd.R_drewN | apply Kd.R_drew)); exact HO_4.out)) k_ hk, Kd.fresh' (Kd.R_lt (by (with_reducible repeat (first | apply Kd.R_alloc | apply Kd.R_drewN | apply Kd.R_drew)); exact HO_10.out)) k_ hk, Kd.fresh' (Kd.R_lt (by (with_reducible repeat (first | apply Kd.R_alloc | apply Kd.R_drewN | apply Kd.R_drew)); exact HO113.out)) k_ hk⟩)); (case aO => exact (by (with_reducible repeat (first | apply Kd.R_alloc | apply Kd.R_drewN | apply Kd.R_drew)); exact Kd.R_mono HO122.out (fun _ hk => ⟨hk.1.1.2, ⟨hk.1.2, hk.2⟩⟩))); (case aS => exact (below_size (by repeat (first | (with_reducible first | exact HB.out | apply below_alloc | apply pw_below_drewN | apply below_drew1) | exact HB.out)))); (case aL => have := LMc19.out; omega); intro v124 w26 ho hb hg hat; rw [← Ny123.out] at ho; have n0_ := Aside0.mk (Kd.R_after (ok := (fun k_ => some k_ ≠ (.slice (some ad109) t106.length co4 : Value).ownBlock ∧ some k_ ≠ (.slice Ao22 t111.length co22 : Value).ownBlock)) (by (with_reducible repeat (first | apply Kd.R_alloc | apply Kd.R_drewN | apply Kd.R_drew)); exact HO_4.out) hg hat); have n1_ := Aside0.mk (Kd.R_after (ok := (fun k_ => some k_ ≠ (.slice Ao23 x4_1.length co23 : Value).ownBlock ∧ some k_ ≠ (.slice Ao22 t111.length co22 : Value).ownBlock)) (by (with_reducible repeat (first | apply Kd.R_alloc | apply Kd.R_drewN | apply Kd.R_drew)); exact HO_10.out) hg hat); have n2_ := Aside0.mk (Kd.R_after (ok := (fun k_ => some k_ ≠ (.slice Ao23 x4_1.length co23 : Value).ownBlock ∧ some k_ ≠ (.slice (some ad109) t106.length co4 : Value).ownBlock)) (by (with_reducible repeat (first | apply Kd.R_alloc | apply Kd.R_drewN | apply Kd.R_drew)); exact Kd.R_mono HO113.out (fun _ hk => ⟨⟨hk.1.1.2, hk.1.2⟩, hk.2⟩)) hg hat); have n3_ := Aside0.mk (hb); have n4_ := Aside0.mk (ho); clear HO_4; clear HO_10; clear HO113; clear HB; clear HO122; have HO_4 := n0_; have HO_10 := n1_; have HO113 := n2_; have HB := n3_; have HO125 := n4_; clear n0_ n1_ n2_ n3_ n4_; clear ho hb hg hat))
                  go_roundg k1
                  case measure => have := HK1.out; omega
                  case rel => exact ⟨(y123), (wrap64 (x12_1 + 1)), (by first | rfl | (simp; done) | (simp [*]; done)), H', ⟨by have := HK1.out; omega⟩, ⟨by (with_reducible repeat (first | apply Kd.R_alloc | apply Kd.R_drewN | apply Kd.R_drew)); exact Kd.R_mono HO125.out (fun _ hk => hk.2.1)⟩, ⟨by (with_reducible repeat (first | apply Kd.R_alloc | apply Kd.R_drewN | apply Kd.R_drew)); exact Kd.R_mono HO_10.out (fun _ hk => hk.2)⟩, ⟨by repeat (first | (with_reducible first | exact HB.out | apply below_alloc | apply pw_below_drewN | apply below_drew1) | exact HB.out)⟩⟩
                · rw [if_neg c19] at H
                  exact absurd H (by simp)
              · rw [if_neg c18] at H
                have c18b0 : decide ((wrap64 ((t111.length : Int) + 1)) < (x4_1.length : Int)) = false := decide_eq_false c18
                clear c18
                have H' := Aside0.mk H
                clear H
                have p109 : 0 ≤ (x12_1 : Int) := of_decide_eq_true (by first | (with_reducible assumption) | assumption)
                have q109 : x12_1 < (t106.length : Int) := of_decide_eq_true (by first | (with_reducible assumption) | assumption)
                obtain ⟨ad109, e109, hx109_0⟩ := Kd.at_int (Kd.R_reads' HO_10.out).2.2 x12_1 p109 q109
                cases e109
                replace p109 := eq_true p109
                replace q109 := eq_true q109
                go_wp2_with (first | ((with_reducible refine gate_callee (f := 57) rfl ?_); refine goesL_ (some 19) rfl rfl Tryd.func57 (by kernel_rfl) rfl #[.string a0, .int .i64 (rd t106 x12_1)] rfl (by (try simp only [List.map_toArray, List.map_cons, List.map_nil]); first | done | rfl | (simp only [List.length_drop, List.length_take]; rfl)) ?_; (with_reducible refine (spec_fgMove.calls a0 (rd t106 x12_1) t110 _ A8.out).mono ?_); rintro e w27 ⟨rfl, hb⟩; refine ⟨_, rfl, ?_⟩; have n0_ := Aside0.mk (Kd.R_below (by (with_reducible repeat (first | apply Kd.R_alloc | apply Kd.R_drewN | apply Kd.R_drew)); exact HO_4.out) hb); have n1_ := Aside0.mk (Kd.R_below (by (with_reducible repeat (first | apply Kd.R_alloc | apply Kd.R_drewN | apply Kd.R_drew)); exact HO_10.out) hb); have n2_ := Aside0.mk (below_step (by repeat (first | (with_reducible first | exact HB.out | apply below_alloc | apply pw_below_drewN | apply below_drew1) | exact HB.out)) hb); clear HO_4; clear HO_10; clear HB; have HO_4 := n0_; have HO_10 := n1_; have HB := n2_; clear n0_ n1_ n2_; (try clear hb); (try clear hb2); (try clear hk); (try clear hi)) | ((with_reducible refine gate_callee (f := 54) rfl ?_); refine goesL_ (some 20) rfl rfl Tryd.func54 (by kernel_rfl) rfl #[.string t110] rfl (by (try simp only [List.map_toArray, List.map_cons, List.map_nil]); first | done | rfl | (simp only [List.length_drop, List.length_take]; rfl)) ?_; (with_reducible refine (ih k1 (by have := HK1.out; omega) t110 t111 _ A9.out).mono ?_); rintro e w28 ⟨v112, rfl, ho0, hb⟩; refine ⟨_, rfl, ?_⟩; have n0_ := Aside0.mk (Kd.R_elder' (by (with_reducible repeat (first | apply Kd.R_alloc | apply Kd.R_drewN | apply Kd.R_drew)); exact HO_4.out) (Kd.R_base ho0) hb); have n1_ := Aside0.mk (Kd.R_elder' (by (with_reducible repeat (first | apply Kd.R_alloc | apply Kd.R_drewN | apply Kd.R_drew)); exact HO_10.out) (Kd.R_base ho0) hb); have n2_ := Aside0.mk (Kd.R_lower (Kd.R_new' (Kd.R_new' ho0 (Kd.R_lt (by (with_reducible repeat (first | apply Kd.R_alloc | apply Kd.R_drewN | apply Kd.R_drew)); exact HO_4.out))) (Kd.R_lt (by (with_reducible repeat (first | apply Kd.R_alloc | apply Kd.R_drewN | apply Kd.R_drew)); exact HO_10.out))) (below_size (by repeat (first | (with_reducible first | exact HB.out | apply below_alloc | apply pw_below_drewN | apply below_drew1) | exact HB.out)))); have n3_ := Aside0.mk (below_step (by repeat (first | (with_reducible first | exact HB.out | apply below_alloc | apply pw_below_drewN | apply below_drew1) | exact HB.out)) hb); clear HO_4; clear HO_10; clear HB; have HO_4 := n0_; have HO_10 := n1_; have HO113 := n2_; have HB := n3_; clear n0_ n1_ n2_ n3_; (try clear hb); (try clear hb2); (try clear hk); (try clear hi); (try clear ho0); obtain ⟨Ao29, co29, eo29⟩ := Kd.R_slice HO113.out; subst eo29; obtain ⟨Ao30, co30, eo30⟩ := Kd.R_slice HO_4.out; subst eo30))
                go_roundg k1
                case measure => have := HK1.out; omega
                case rel => exact ⟨(x4_1), (wrap64 (x12_1 + 1)), (by first | rfl | (simp; done) | (simp [*]; done)), H', ⟨by have := HK1.out; omega⟩, ⟨by (with_reducible repeat (first | apply Kd.R_alloc | apply Kd.R_drewN | apply Kd.R_drew)); exact Kd.R_mono HO_4.out (fun _ hk => hk.1)⟩, ⟨by (with_reducible repeat (first | apply Kd.R_alloc | apply Kd.R_drewN | apply Kd.R_drew)); exact Kd.R_mono HO_10.out (fun _ hk => hk.1)⟩, ⟨by repeat (first | (with_reducible first | exact HB.out | apply below_alloc | apply pw_below_drewN | apply below_drew1) | exact HB.out)⟩⟩
          · rw [if_neg c7] at H
            exact absurd H (by simp)
        · rw [if_neg c6] at H
          exact absurd H (by simp)
      · rw [if_neg c5] at H
        have c5b0 : decide (x12_1 < (t106.length : Int)) = false := decide_eq_false c5
        clear c5
        obtain rfl := Option.some.inj H
        go_wp2
        go_ret
        exact ⟨_, by first | rfl | (simp [errW_none, errW_some] <;> rfl) | (simp [*, errW_none, errW_some] <;> rfl), by (with_reducible repeat (first | apply Kd.R_alloc | apply Kd.R_drewN | apply Kd.R_drew)); exact Kd.R_mono HO_4.out (fun _ hk => trivial), by repeat (first | (with_reducible first | exact HB.out | apply below_alloc | apply pw_below_drewN | apply below_drew1) | exact HB.out)⟩

end Go.Proofs.YtkikpfeipejnlaaDoor.PFnExactShortestStuck
